/- Wheel: Each's closure: the iterator's contract. No condition. -/
import Derived.RangeFuncNested
import Derived.RangeFuncBound
import Derived.RangeFuncCalls
import Derived.RangeFuncLeaves
import Derived.RangeFuncBox
import Derived.Shelf.Abstract
import Derived.Shelf.RegionOpen
import Derived.WalkKit
import Derived.OwnWalkIn
import Derived.TacticsInMore
import Derived.LoopNIn
import Derived.LoopIn
import Derived.Maps.AppendAt
import Derived.Test.YtaefbibkkkglnaaWhEa
namespace Go.Proofs.Ytaefbibkkkglnaa.Wh
open Go Go.RowKit Go.Shelf Go.Proofs.YtaefbibkkkglnaaW.PrintWords Go.Proofs.Ytaefbibkkkglnaa.Fr
set_option linter.unusedVariables false
set_option linter.unusedSimpArgs false
attribute [local go_sem] Oper.semAt_some
theorem add_next (a : Addr) (n : Nat) : a.add (n + 1) = ⟨(a.add n).block, (a.add n).off + 1, none⟩ := by
  unfold Addr.add
  rw [if_neg (by omega)]
  split
  · subst n; rfl
  · simp [Nat.add_assoc]
theorem add_blk2 (a : Addr) (n : Nat) : (a.add n).block = a.block := by unfold Addr.add; split <;> rfl
theorem at_E {w : World} {A : Option Addr} {xs : List E} (h : kE.C w A xs.length xs) (i : Nat) (hi : i < xs.length) : ∃ ad, A = some ad ∧ w.cell? (ad.add (i * 2)) = some (.string xs[i].1) ∧ w.cell? ⟨(ad.add (i * 2)).block, (ad.add (i * 2)).off + 1, none⟩ = some (.int .i64 xs[i].2) := by
  obtain ⟨ad, e, hc⟩ := h.2.2 (by omega)
  obtain ⟨c, hs, hr, hcell⟩ := hc i _ (List.getElem?_eq_getElem hi)
  obtain rfl := kE_K.1 hr
  exact ⟨ad, e, hcell 0 _ rfl, add_next ad (i * 2) ▸ hcell 1 _ rfl⟩
theorem C_ne {w : World} {ad : Addr} {xs : List E} (h : kE.C w (some ad) xs.length xs) (hx : xs ≠ []) {B : Nat} {t : TypeId} {x : Option Addr} {n c : Nat} (hb : Boxed w B t (.slice x n c)) : ad.block ≠ B ∧ ad.block < w.heap.size := by
  have hl : 0 < xs.length := List.length_pos_iff.2 hx
  obtain ⟨ad', e, h1, _⟩ := at_E h 0 hl
  injection e with e
  subst e
  have hlt := World.block_lt_of_cell? _ _ h1
  rw [add_blk2] at hlt
  refine ⟨fun q => ?_, hlt⟩
  rw [show ad.add (0 * 2) = ad from by simp [Addr.add]] at h1
  unfold World.cell? at h1
  rw [q, show w.heap[B]? = _ from hb] at h1
  have h2 : (#[Value.slice x n c] : Array Value)[ad.off]? = some (.string xs[0].1) := by
    cases hs : ad.spot.isSome
    · simpa [hs] using h1
    · simp [hs] at h1
  rcases Nat.eq_zero_or_pos ad.off with h0 | h0
  · rw [h0] at h2
    simp at h2
  · rw [Array.getElem?_eq_none (by simp; omega)] at h2
    cases h2
def encsE (x : E) : Array Value := #[.string x.1, .int .i64 x.2]
set_option maxRecDepth 100000 in
set_option maxHeartbeats 2000000 in
theorem each2_in (F : Fence) (n : Nat) (h39 : F.fn 39) (hro : F.round = none) (hn : 1 ≤ n) (l Bs : Nat) (A : Option Addr) (c : Nat) (L : List E) (w0 : World) (hc : w0.cell? ⟨Bs, 0, none⟩ = some (.slice A L.length c)) (hC : kE.C w0 A L.length L) (hl : L.length ≤ 4096) (S : Nat → Prop) (hSb : ¬ S Bs) (hSA : L ≠ [] → ∀ ad, A = some ad → ¬ S ad.block) (J Jx : List E → World → Prop)
    (W : World) (hW : Below w0.heap.size w0 W) (hJ : AbidesFrom W.heap.size J)
    (hY : ∀ pre x W1, J pre W1 → pre.length < L.length → YieldAt F (n - 1) Try.prog l #[.string x.1, .int .i64 x.2] W1 fun e W' =>
      (e = .returned (.bool true) ∧ J (pre ++ [x]) W' ∧ Only S W1 W') ∨ (e = .returned (.bool false) ∧ Jx (pre ++ [x]) W')) (h0 : J [] W) :
    CallsIn F n Try.prog 39 #[.func (.yield l) #[] #[], .pointer (some ⟨Bs, 0, none⟩)] W fun e W' => (∃ v, e = .returned v) ∧
      ((∃ ys, ys = L ∧ J ys W') ∨ (∃ pre, (∃ k, k < L.length ∧ pre = L.take (k + 1)) ∧ Jx pre W')) := by
  have hcW : W.cell? ⟨Bs, 0, none⟩ = some (.slice A L.length c) := pw_cell_below hW hc
  refine callsIn_of_wp Try.func39 rfl h39 ?_ hro
  simp only [Try.ntmps39, List.size_toArray, List.length_cons, List.length_nil, Nat.reduceAdd, Nat.reduceSub, Array.replicate_succ, Array.replicate_zero, List.push_toArray, List.append_toArray, List.nil_append, List.cons_append]
  gi_wp2
  gi_loopw [4, 7] (fun p4 i wr => ∃ k : Nat, k ≤ L.length ∧ i = .int .i64 k ∧ J (L.take k) wr ∧ Only S w0 wr ∧ W.heap.size ≤ wr.heap.size)
    (fun _ i _ => L.length - (intOf i).toNat)
  case atStart => exact ⟨0, Nat.zero_le _, rfl, h0, Only.of_below hW, Nat.le_refl _⟩
  case round =>
    obtain ⟨k, hk, rfl, hJs, hnx, hsz⟩ := hrel
    by_cases hlt : k < L.length
    · obtain ⟨ad, rfl, x1', x2'⟩ := at_E hC k hlt
      have hna : ¬ S ad.block := hSA (fun e => by rw [e] at hlt; simp at hlt) ad rfl
      have x1 := hnx.cell x1' (by rw [add_blk2]; exact hna)
      have x2 := hnx.cell x2' (by show ¬ S (ad.add (k * 2)).block; rw [add_blk2]; exact hna)
      clear x1' x2'
      have hJ1 : J (L.take k) (wr.alloc (.cells #[.string L[k].1, .int .i64 L[k].2] 84 (0, 0))) := hJ _ _ _ none hJs (World.grownBy_alloc _ _ none) (fun r e => by cases e)
      have hB1 : Only S wr (wr.alloc (.cells #[.string L[k].1, .int .i64 L[k].2] 84 (0, 0))) := (Only.refl S wr).alloc _
      obtain ⟨fn, tmps, assign, body, hy, hR⟩ := hY _ L[k] _ hJ1 (by rw [List.length_take]; omega)
      have e1 : IntKind.i64.wrap ((k : Int) + 1) = ((k + 1 : Nat) : Int) := by rw [IntWalk.i64_in _ (by omega)]; omega
      gi_wp2
      refine hR.mono ?_
      rintro e W3 (⟨rfl, hJ3, hk3⟩ | ⟨rfl, hJx3⟩)
      · gi_wp2
        go_roundw
        case rel => exact ⟨k + 1, by omega, by simp, by rw [List.take_succ_eq_append_getElem hlt]; exact hJ3, (hnx.trans hB1).trans hk3, Nat.le_trans hsz (Nat.le_trans hB1.size hk3.size)⟩
        case measure => simp [intOf]; omega
      · gi_wp2
        refine bodyPost_ret (results_none rfl _ _ _) rfl ?_
        exact ⟨⟨_, rfl⟩, .inr ⟨_, ⟨k, hlt, (List.take_succ_eq_append_getElem hlt).symm⟩, hJx3⟩⟩
    · obtain rfl : k = L.length := by omega
      gi_wp2
      go_end0
      exact ⟨⟨_, rfl⟩, .inl ⟨_, List.take_length, hJs⟩⟩
theorem each2_stops (F : Fence) (n : Nat) (h39 : F.fn 39) (hro : F.round = none) (hn : 1 ≤ n) (Bs : Nat) (A : Option Addr) (c : Nat) (L : List E) (w0 : World) (hc : w0.cell? ⟨Bs, 0, none⟩ = some (.slice A L.length c)) (hC : kE.C w0 A L.length L) (hl : L.length ≤ 4096) (S : Nat → Prop) (hSb : ¬ S Bs) (hSA : L ≠ [] → ∀ ad, A = some ad → ¬ S ad.block) :
    SeqStopsK F n Try.prog 39 #[.pointer (some ⟨Bs, 0, none⟩)] (fun x : E => #[Value.string x.1, Value.int .i64 x.2]) (Only S) (fun ys => ys = L) (fun pre => ∃ k, k < L.length ∧ pre = L.take (k + 1)) L.length w0 := fun l J Jx W hW hJ _ hY h0 =>
  each2_in F n h39 hro hn l Bs A c L w0 hc hC hl S hSb hSA J Jx W hW hJ hY h0
end Go.Proofs.Ytaefbibkkkglnaa.Wh
