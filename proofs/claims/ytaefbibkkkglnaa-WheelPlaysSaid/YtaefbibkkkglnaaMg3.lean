/- Wheel: Each's closure: the iterator's contract. No condition. -/
import Derived.Test.YtaefbibkkkglnaaMg2
import Derived.RangeFuncNested
import Derived.RangeFuncBound
import Derived.RangeFuncCalls
import Derived.RangeFuncLeaves
import Derived.RangeFuncBox
import Derived.Shelf.Abstract
import Derived.Shelf.RegionOpen
import Derived.WalkKit
import Derived.OwnWalkIn
import Derived.TacticsInMore
import Derived.LoopNIn
import Derived.LoopIn
import Derived.Maps.AppendAt
import Derived.Test.YtaefbibkkkglnaaWLast
import Derived.Laws.Slices
import Derived.Laws.Concat
import Derived.Laws.BytesArg
import Derived.WideLaws
import Derived.Laws.StructEq
namespace Go.Proofs.Ytaefbibkkkglnaa.Wh
open Go Go.RowKit Go.Shelf Go.Proofs.YtaefbibkkkglnaaW.PrintWords Go.Proofs.Ytaefbibkkkglnaa.Fr
set_option linter.unusedVariables false
set_option linter.unusedSimpArgs false
attribute [local go_sem] Oper.semAt_some
theorem add_next (a : Addr) (n : Nat) : a.add (n + 1) = ⟨(a.add n).block, (a.add n).off + 1, none⟩ := by
  unfold Addr.add
  rw [if_neg (by omega)]
  split
  · subst n; rfl
  · simp [Nat.add_assoc]
theorem add_blk2 (a : Addr) (n : Nat) : (a.add n).block = a.block := by unfold Addr.add; split <;> rfl
theorem at_E {w : World} {A : Option Addr} {xs : List E} (h : kE.C w A xs.length xs) (i : Nat) (hi : i < xs.length) : ∃ ad, A = some ad ∧ w.cell? (ad.add (i * 2)) = some (.string xs[i].1) ∧ w.cell? ⟨(ad.add (i * 2)).block, (ad.add (i * 2)).off + 1, none⟩ = some (.int .i64 xs[i].2) := by
  obtain ⟨ad, e, hc⟩ := h.2.2 (by omega)
  obtain ⟨c, hs, hr, hcell⟩ := hc i _ (List.getElem?_eq_getElem hi)
  obtain rfl := kE_K.1 hr
  exact ⟨ad, e, hcell 0 _ rfl, add_next ad (i * 2) ▸ hcell 1 _ rfl⟩
theorem C_ne {w : World} {ad : Addr} {xs : List E} (h : kE.C w (some ad) xs.length xs) (hx : xs ≠ []) {B : Nat} {t : TypeId} {x : Option Addr} {n c : Nat} (hb : Boxed w B t (.slice x n c)) : ad.block ≠ B ∧ ad.block < w.heap.size := by
  have hl : 0 < xs.length := List.length_pos_iff.2 hx
  obtain ⟨ad', e, h1, _⟩ := at_E h 0 hl
  injection e with e
  subst e
  have hlt := World.block_lt_of_cell? _ _ h1
  rw [add_blk2] at hlt
  refine ⟨fun q => ?_, hlt⟩
  rw [show ad.add (0 * 2) = ad from by simp [Addr.add]] at h1
  unfold World.cell? at h1
  rw [q, show w.heap[B]? = _ from hb] at h1
  have h2 : (#[Value.slice x n c] : Array Value)[ad.off]? = some (.string xs[0].1) := by
    cases hs : ad.spot.isSome
    · simpa [hs] using h1
    · simp [hs] at h1
  rcases Nat.eq_zero_or_pos ad.off with h0 | h0
  · rw [h0] at h2
    simp at h2
  · rw [Array.getElem?_eq_none (by simp; omega)] at h2
    cases h2
def encsE (x : E) : Array Value := #[.string x.1, .int .i64 x.2]
set_option maxRecDepth 100000 in
set_option maxHeartbeats 2000000 in
theorem each2_in (F : Fence) (n : Nat) (h39 : F.fn 39) (hro : F.round = none) (hn : 1 ≤ n) (l Bs : Nat) (A : Option Addr) (c : Nat) (L : List E) (w0 : World) (hc : w0.cell? ⟨Bs, 0, none⟩ = some (.slice A L.length c)) (hC : kE.C w0 A L.length L) (hl : L.length ≤ 4096) (S : Nat → Prop) (hSb : ¬ S Bs) (hSA : L ≠ [] → ∀ ad, A = some ad → ¬ S ad.block) (J Jx : List E → World → Prop)
    (W : World) (hW : Below w0.heap.size w0 W) (hJ : AbidesFrom W.heap.size J)
    (hY : ∀ pre x W1, J pre W1 → pre.length < L.length → YieldAt F (n - 1) Try.prog l #[.string x.1, .int .i64 x.2] W1 fun e W' =>
      (e = .returned (.bool true) ∧ J (pre ++ [x]) W' ∧ Only S W1 W') ∨ (e = .returned (.bool false) ∧ Jx (pre ++ [x]) W')) (h0 : J [] W) :
    CallsIn F n Try.prog 39 #[.func (.yield l) #[] #[], .pointer (some ⟨Bs, 0, none⟩)] W fun e W' => (∃ v, e = .returned v) ∧
      ((∃ ys, ys = L ∧ J ys W') ∨ (∃ pre, (∃ k, k < L.length ∧ pre = L.take (k + 1)) ∧ Jx pre W')) := by
  have hcW : W.cell? ⟨Bs, 0, none⟩ = some (.slice A L.length c) := pw_cell_below hW hc
  refine callsIn_of_wp Try.func39 rfl h39 ?_ hro
  simp only [Try.ntmps39, List.size_toArray, List.length_cons, List.length_nil, Nat.reduceAdd, Nat.reduceSub, Array.replicate_succ, Array.replicate_zero, List.push_toArray, List.append_toArray, List.nil_append, List.cons_append]
  gi_wp2
  gi_loopw [4, 7] (fun p4 i wr => ∃ k : Nat, k ≤ L.length ∧ i = .int .i64 k ∧ J (L.take k) wr ∧ Only S w0 wr ∧ W.heap.size ≤ wr.heap.size)
    (fun _ i _ => L.length - (intOf i).toNat)
  case atStart => exact ⟨0, Nat.zero_le _, rfl, h0, Only.of_below hW, Nat.le_refl _⟩
  case round =>
    obtain ⟨k, hk, rfl, hJs, hnx, hsz⟩ := hrel
    by_cases hlt : k < L.length
    · obtain ⟨ad, rfl, x1', x2'⟩ := at_E hC k hlt
      have hna : ¬ S ad.block := hSA (fun e => by rw [e] at hlt; simp at hlt) ad rfl
      have x1 := hnx.cell x1' (by rw [add_blk2]; exact hna)
      have x2 := hnx.cell x2' (by show ¬ S (ad.add (k * 2)).block; rw [add_blk2]; exact hna)
      clear x1' x2'
      have hJ1 : J (L.take k) (wr.alloc (.cells #[.string L[k].1, .int .i64 L[k].2] 84 (0, 0))) := hJ _ _ _ none hJs (World.grownBy_alloc _ _ none) (fun r e => by cases e)
      have hB1 : Only S wr (wr.alloc (.cells #[.string L[k].1, .int .i64 L[k].2] 84 (0, 0))) := (Only.refl S wr).alloc _
      obtain ⟨fn, tmps, assign, body, hy, hR⟩ := hY _ L[k] _ hJ1 (by rw [List.length_take]; omega)
      have e1 : IntKind.i64.wrap ((k : Int) + 1) = ((k + 1 : Nat) : Int) := by rw [IntWalk.i64_in _ (by omega)]; omega
      gi_wp2
      refine hR.mono ?_
      rintro e W3 (⟨rfl, hJ3, hk3⟩ | ⟨rfl, hJx3⟩)
      · gi_wp2
        go_roundw
        case rel => exact ⟨k + 1, by omega, by simp, by rw [List.take_succ_eq_append_getElem hlt]; exact hJ3, (hnx.trans hB1).trans hk3, Nat.le_trans hsz (Nat.le_trans hB1.size hk3.size)⟩
        case measure => simp [intOf]; omega
      · gi_wp2
        refine bodyPost_ret (results_none rfl _ _ _) rfl ?_
        exact ⟨⟨_, rfl⟩, .inr ⟨_, ⟨k, hlt, (List.take_succ_eq_append_getElem hlt).symm⟩, hJx3⟩⟩
    · obtain rfl : k = L.length := by omega
      gi_wp2
      go_end0
      exact ⟨⟨_, rfl⟩, .inl ⟨_, List.take_length, hJs⟩⟩
theorem each2_stops (F : Fence) (n : Nat) (h39 : F.fn 39) (hro : F.round = none) (hn : 1 ≤ n) (Bs : Nat) (A : Option Addr) (c : Nat) (L : List E) (w0 : World) (hc : w0.cell? ⟨Bs, 0, none⟩ = some (.slice A L.length c)) (hC : kE.C w0 A L.length L) (hl : L.length ≤ 4096) (S : Nat → Prop) (hSb : ¬ S Bs) (hSA : L ≠ [] → ∀ ad, A = some ad → ¬ S ad.block) :
    SeqStopsK F n Try.prog 39 #[.pointer (some ⟨Bs, 0, none⟩)] (fun x : E => #[Value.string x.1, Value.int .i64 x.2]) (Only S) (fun ys => ys = L) (fun pre => ∃ k, k < L.length ∧ pre = L.take (k + 1)) L.length w0 := fun l J Jx W hW hJ _ hY h0 =>
  each2_in F n h39 hro hn l Bs A c L w0 hc hC hl S hSb hSA J Jx W hW hJ hY h0
end Go.Proofs.Ytaefbibkkkglnaa.Wh
/- Wheel: what Advance's loops keep. No condition. -/
namespace Go.Proofs.Ytaefbibkkkglnaa.Wh
open Go Go.RowKit Go.Proofs.YtaefbibkkkglnaaW.PrintWords Go.Proofs.Ytaefbibkkkglnaa.Mp Go.Proofs.Ytaefbibkkkglnaa.Fr
set_option linter.unusedVariables false
set_option linter.unusedSimpArgs false

section
variable {w w' w0 : World} {O : Nat → Prop} {p m : Nat} {now td : Int} {S S' : Slots} {F : List Node} {B : Nat}
theorem Rep.setNow (h : Rep w O p m now S F) (x : Int) : Rep (w.setCell ⟨p, 0, none⟩ (.int .i64 x)) O p m x S F := by
  have hbk : ∀ n ∈ F ++ nodes S, (w.setCell ⟨p, 0, none⟩ (.int .i64 x)).heap[n.b]? = w.heap[n.b]? := fun n hn => Below.heap_setCell _ _ _ _ (h.pne hn).symm
  obtain ⟨es, he, hp⟩ := h.names
  refine ⟨⟨?_⟩, fun r k hr hk' => (h.seg r k hr hk').move (fun n hn => hbk n (List.mem_append_right _ (mem_nodes.2 ⟨r, k, hr, hk', hn⟩))), fun n hn => ?_, ⟨es, he.move (Below.heap_setCell _ _ _ _ h.pm), hp⟩, h.nodup, h.own⟩
  · obtain ⟨cs, h1, h2, h3, h4, h5, h6⟩ := h.head.cs
    refine ⟨_, blk_set h1 0 _, by simp [h2], ?_, fun r k hr hk => ?_, fun r hr => ?_, ?_⟩
    · rw [Array.getElem?_setIfInBounds_self_of_lt (by omega)]
    · rw [Array.getElem?_setIfInBounds_ne (by omega), h4 r k hr hk]
    · rw [Array.getElem?_setIfInBounds_ne (by omega), h5 r hr]
    · rw [Array.getElem?_setIfInBounds_ne (by omega), h6]
  · obtain ⟨r, a, b, hc⟩ := h.loose n hn
    exact ⟨r, a, b, (hbk n (List.mem_append_left _ hn)).trans hc⟩
/-- The wheel's own blocks and no others. -/
def Blk (p m : Nat) (L : List Node) (b : Nat) : Prop := b = p ∨ b = m ∨ ∃ n ∈ L, n.b = b
theorem Rep.tight (h : Rep w O p m now S F) : Rep w (Blk p m (F ++ nodes S)) p m now S F :=
  ⟨h.head, h.seg, h.loose, h.names, h.nodup, .inl rfl, .inr (.inl rfl), fun n hn => .inr (.inr ⟨n, hn, rfl⟩)⟩
theorem Rep.grown {row : Option Nat} (h : Rep w O p m now S F) (hg : w.grownBy w' row) (hr : ∀ k, row = some k → ¬ O k) : Rep w' O p m now S F :=
  h.move (fun b hb hl => hg.block b hl (fun e => hr b e.symm hb))
theorem R_keep {α : Type} {d : Kd α} {e : Nat} {ok : Nat → Prop} {v : Value} {xs : List α} (h : d.R e w B ok v xs) (k : Only O w w') (hO : ∀ b, O b → b < w.heap.size → b < B) : d.R e w' B ok v xs :=
  Kd.R_mono (Kd.R_step (Kd.R_bound h) (fun b ho hl => k.block b hl (fun hb => by
    have h1 := hO b hb hl
    have h2 := ho.2.1
    omega))) (fun _ hk => hk.1)
theorem Only.of_grown2 {row : Option Nat} (h : Only O w0 w) (hg : w.grownBy w' row) (hr : ∀ k, row = some k → w0.heap.size ≤ k) : Only O w0 w' :=
  ⟨hg.os.trans h.os, hg.tape.trans h.tape, hg.output.trans h.output, Nat.le_trans h.size hg.size, fun k hk hn => (hg.block k (Nat.lt_of_lt_of_le hk h.size) (fun e => by have := hr k e.symm; omega)).trans (h.block k hk hn)⟩
theorem own_ge {α : Type} {d : Kd α} {e : Nat} {ok : Nat → Prop} {v : Value} {xs : List α} (h : d.R e w B ok v xs) : ∀ k, v.ownBlock = some k → B ≤ k := fun k hk => ((Kd.R_bound h).1 k hk).2.1

/-! ### the fall -/
structure InvA (w0 w : World) (O : Nat → Prop) (p m : Nat) (now : Int) (S : Slots) (v : Value) (S' : Slots) (F : List Node) : Prop where
  rep : Rep w O p m now S' F
  row : kN.R 65 w w0.heap.size (fun _ => True) v F
  perm : (F ++ nodes S').Perm (nodes S)
  good : Good now S'
  only : Only O w0 w
/-- One timer has been taken out; then the list of those that have fallen is grown by it (in w2). -/
theorem InvA.step {v v' : Value} {t : Node} {r k : Nat} {ys : List Node} {w1 w2 : World} (h : InvA w0 w O p m now S v S' F) (hr : r < 7) (hk : k < 64) (hS : S' r k = t :: ys)
    (h1 : Rep w1 O p m now (upd S' r k ys) (t :: F)) (ho : Only O w w1) (hlt : ∀ b, O b → b < w0.heap.size)
    (hR : kN.R 65 w2 w0.heap.size (fun _ => True) v' (F ++ [t])) (hg : w1.grownBy w2 v.ownBlock) : InvA w0 w2 O p m now S v' (upd S' r k ys) (F ++ [t]) := by
  have hv := own_ge h.row
  have hpm : ((F ++ [t]) ++ nodes (upd S' r k ys)).Perm ((t :: F) ++ nodes (upd S' r k ys)) := (List.perm_append_comm (l₁ := F) (l₂ := [t])).append_right _
  have hr2 : Rep w2 O p m now (upd S' r k ys) (t :: F) := h1.grown hg (fun k' hk' hO => by have := hv k' hk'; have := hlt k' hO; omega)
  refine ⟨⟨hr2.head, hr2.seg, fun n hn => hr2.loose n ?_, ?_, ?_, hr2.own.1, hr2.own.2.1, fun n hn => hr2.own.2.2 n (hpm.mem_iff.1 hn)⟩, hR, ?_, ?_, ?_⟩
  · rcases List.mem_append.1 hn with hn | hn
    · exact List.mem_cons_of_mem _ hn
    · rw [List.mem_singleton.1 hn]; simp
  · obtain ⟨es, he, hp⟩ := hr2.names
    exact ⟨es, he, hp.trans (hpm.map _).symm⟩
  · exact (hpm.map Node.b).nodup_iff.2 hr2.nodup
  · refine hpm.trans (List.Perm.trans ?_ h.perm)
    rw [List.cons_append]
    refine List.perm_middle.symm.trans ?_
    exact (nodes_out (xs := []) hr hk hS).append_left F
  · have := good_out (xs := []) (t := t) h.good hS
    exact this
  · exact Wh.Only.of_grown2 (h.only.trans ho) hg (fun k' hk' => hv k' hk')
def fall (mv ld r k : Nat) : Prop := r < mv ∨ (r = mv ∧ k ≤ ld)
instance (mv ld r k : Nat) : Decidable (fall mv ld r k) := by unfold fall; infer_instance
def OutA (mv ld : Nat) (S S' : Slots) (r : Nat) : Prop := ∀ r' k', r' < 7 → k' < 64 → S' r' k' = if r' < r ∧ fall mv ld r' k' then [] else S r' k'
def InA (mv ld : Nat) (S S' : Slots) (r k : Nat) : Prop := ∀ r' k', r' < 7 → k' < 64 → S' r' k' = if (r' < r ∧ fall mv ld r' k') ∨ (r' = r ∧ k' < k) then [] else S r' k'
def ChA (mv ld : Nat) (S S' : Slots) (r k : Nat) : Prop := ∀ r' k', r' < 7 → k' < 64 → ¬ (r' = r ∧ k' = k) → S' r' k' = if (r' < r ∧ fall mv ld r' k') ∨ (r' = r ∧ k' < k) then [] else S r' k'
theorem outA_zero (mv ld : Nat) (S : Slots) : OutA mv ld S S 0 := fun r' k' _ _ => by rw [if_neg (by omega)]
theorem outA_in {mv ld r : Nat} (h : OutA mv ld S S' r) : InA mv ld S S' r 0 := fun r' k' hr hk => by
  rw [h r' k' hr hk]
  by_cases c : r' < r ∧ fall mv ld r' k'
  · rw [if_pos c, if_pos (.inl c)]
  · rw [if_neg c, if_neg (by rintro (q | q); exact c q; omega)]
theorem inA_ch {mv ld r k : Nat} (h : InA mv ld S S' r k) : ChA mv ld S S' r k := fun r' k' hr hk _ => h r' k' hr hk
theorem chA_upd {mv ld r k : Nat} (h : ChA mv ld S S' r k) (L : List Node) : ChA mv ld S (upd S' r k L) r k := fun r' k' hr hk hne => by rw [upd_other hne]; exact h r' k' hr hk hne
theorem chA_in {mv ld r k : Nat} (h : ChA mv ld S S' r k) (h0 : S' r k = []) : InA mv ld S S' r (k + 1) := fun r' k' hr hk => by
  by_cases e : r' = r ∧ k' = k
  · obtain ⟨rfl, rfl⟩ := e
    rw [h0, if_pos (.inr ⟨rfl, by omega⟩)]
  · rw [h r' k' hr hk e]
    by_cases c : (r' < r ∧ fall mv ld r' k') ∨ (r' = r ∧ k' < k)
    · rw [if_pos c, if_pos (by rcases c with c | c; exact .inl c; exact .inr ⟨c.1, by omega⟩)]
    · rw [if_neg c, if_neg (by rintro (q | q); exact c (.inl q); exact c (.inr ⟨q.1, by omega⟩))]
theorem inA_out {mv ld r k : Nat} (h : InA mv ld S S' r k) (hk : ∀ k', k' < 64 → (k' < k ↔ fall mv ld r k')) : OutA mv ld S S' (r + 1) := fun r' k' hr hk' => by
  rw [h r' k' hr hk']
  by_cases e : r' = r
  · subst e
    by_cases c : k' < k
    · rw [if_pos (.inr ⟨rfl, c⟩), if_pos ⟨by omega, (hk k' hk').1 c⟩]
    · rw [if_neg (by rintro (q | q); omega; exact c q.2), if_neg (fun q => c ((hk k' hk').2 q.2))]
  · by_cases c : r' < r ∧ fall mv ld r' k'
    · rw [if_pos (.inl c), if_pos ⟨by omega, c.2⟩]
    · rw [if_neg (by rintro (q | q); exact c q; exact e q.1), if_neg (fun q => c ⟨by omega, q.2⟩)]
theorem outA_skip {mv ld r : Nat} (h : OutA mv ld S S' r) (h0 : cnt S' r = 0) : OutA mv ld S S' (r + 1) := fun r' k' hr hk => by
  by_cases e : r' = r
  · subst e
    have h1 := cnt_zero h0 k' hk
    have h2 := h r' k' hr hk
    rw [if_neg (by omega)] at h2
    rw [h1]
    split
    · rfl
    · rw [← h2, h1]
  · rw [h r' k' hr hk]
    by_cases c : r' < r ∧ fall mv ld r' k'
    · rw [if_pos c, if_pos ⟨by omega, c.2⟩]
    · rw [if_neg c, if_neg (fun q => c ⟨by omega, q.2⟩)]
/-- Those that still hang are as they should be at the new time. -/
theorem outA_good {mv ld : Nat} (h : OutA mv ld S S' (mv + 1)) (hg : Good now S) (h0 : 0 ≤ now) (hto : now ≤ td) (hmv : mv = rg td now) (hld : ld = dg mv td) : Good td S' := fun r k hr hk n hn => by
  rw [h r k hr hk] at hn
  split at hn
  · simp at hn
  · rename_i hc
    obtain ⟨g1, g2, g3, g4⟩ := hg r k hr hk n hn
    have hnf : ¬ fall mv ld r k := fun q => hc ⟨by unfold fall at q; omega, q⟩
    unfold fall at hnf
    have hst := @stays now.toNat td.toNat n.tm.toNat (by omega) (by omega) (by
      unfold rg at g3 hmv
      unfold dg at g4 hld
      rcases Nat.lt_trichotomy r mv with q | q | q
      · exact absurd (.inl q) hnf
      · right
        refine ⟨by omega, ?_⟩
        rw [g3]
        subst q
        have : ¬ k ≤ ld := fun q => hnf (.inr ⟨rfl, q⟩)
        omega
      · left; omega)
    refine ⟨by omega, g2, ?_, g4⟩
    unfold rg at g3 ⊢
    omega
end
end Go.Proofs.Ytaefbibkkkglnaa.Wh
/- Wheel: what Advance's second loop keeps. No condition. -/
namespace Go.Proofs.Ytaefbibkkkglnaa.Wh
open Go Go.RowKit Go.Proofs.YtaefbibkkkglnaaW.PrintWords Go.Proofs.Ytaefbibkkkglnaa.Mp Go.Proofs.Ytaefbibkkkglnaa.Fr
set_option linter.unusedVariables false
set_option linter.unusedSimpArgs false

def gone (t : Int) (F : List Node) : List Node := F.filter fun n => decide (n.tm ≤ t)
def kept (t : Int) (F : List Node) : List Node := F.filter fun n => decide (t < n.tm)
theorem take_succ {F : List Node} {i : Nat} (h : i < F.length) : F.take (i + 1) = F.take i ++ [F[i]] := by
  rw [List.take_succ_eq_append_getElem h]
theorem drop_cons {F : List Node} {i : Nat} (h : i < F.length) : F.drop i = F[i] :: F.drop (i + 1) := List.drop_eq_getElem_cons h
structure InvB (w0 w : World) (O : Nat → Prop) (p m : Nat) (t : Int) (S1 : Slots) (F : List Node) (v7 v12 : Value) (i : Nat) (S' : Slots) : Prop where
  rep : Rep w O p m t S' (F.drop i)
  good : Good t S'
  row : kN.R 65 w w0.heap.size (fun _ => True) v7 F
  drow : kN.R 65 w w0.heap.size (fun _ => True) v12 (gone t (F.take i))
  perm : (nodes S').Perm (kept t (F.take i) ++ nodes S1)
  cells : ∀ n ∈ gone t (F.take i), (∃ r a b, Tcell w n r a b) ∧ O n.b
  nodup : ((gone t (F.take i) ++ (F.drop i ++ nodes S')).map Node.b).Nodup
  only : Only O w0 w
  apart : ∀ k, v12.ownBlock = some k → v7.ownBlock ≠ some k
section
variable {w w' w0 : World} {O : Nat → Prop} {p m : Nat} {t : Int} {S1 S' : Slots} {F : List Node} {v7 v12 : Value} {i : Nat}
theorem InvB.start (h1 : Rep w O p m t S1 F) (hg : Good t S1) (hr : kN.R 65 w w0.heap.size (fun _ => True) v7 F) (ho : Only O w0 w) : InvB w0 w O p m t S1 F v7 (.slice none 0 0) 0 S1 :=
  ⟨h1, hg, hr, Kd.R_nil _ _ _ _ _, List.Perm.refl _, fun n hn => by simp [gone] at hn, h1.nodup, ho, fun k hk => by simp [Value.ownBlock] at hk⟩
/-- A timer that hangs on. -/
theorem InvB.hung (h : InvB w0 w O p m t S1 F v7 v12 i S') (hi : i < F.length) (ht : t < F[i].tm) (ht1 : F[i].tm ≤ 1099511627776) (h0 : 0 ≤ t) (hlt : ∀ b, O b → b < w0.heap.size) {r k : Nat} (hrr : r = rg F[i].tm t) (hkk : k = dg r F[i].tm)
    (hrep : Rep w' (Blk p m (F.drop i ++ nodes S')) p m t (upd S' r k (F[i] :: S' r k)) (F.drop (i + 1))) (ho : Only (Blk p m (F.drop i ++ nodes S')) w w') : InvB w0 w' O p m t S1 F v7 v12 (i + 1) (upd S' r k (F[i] :: S' r k)) := by
  have hr : r < 7 := by rw [hrr]; exact ring_lt (by omega) (by omega)
  have hk : k < 64 := by rw [hkk]; exact dig_lt _ _
  have hBO : ∀ b, Blk p m (F.drop i ++ nodes S') b → O b := fun b hb => by
    obtain ⟨o1, o2, o3⟩ := h.rep.own
    rcases hb with rfl | rfl | ⟨n, hn, rfl⟩
    · exact o1
    · exact o2
    · exact o3 n hn
  have hg1 : gone t (F.take (i + 1)) = gone t (F.take i) := by
    rw [take_succ hi]
    unfold gone
    rw [List.filter_append, List.filter_cons_of_neg (by simpa using ht)]
    simp
  have hk1 : kept t (F.take (i + 1)) = kept t (F.take i) ++ [F[i]] := by
    rw [take_succ hi]
    unfold kept
    rw [List.filter_append, List.filter_cons_of_pos (by simpa using ht)]
    rfl
  have hin := nodes_in (S := S') (t := F[i]) hr hk
  have hnn : ((F.drop (i + 1) ++ nodes (upd S' r k (F[i] :: S' r k)))).Perm (F.drop i ++ nodes S') := by
    rw [drop_cons hi]
    refine (hin.append_left _).trans ?_
    exact List.perm_middle
  refine ⟨hrep.weaken hBO, ?_, R_keep h.row ho (fun b hb _ => hlt b (hBO b hb)), by rw [hg1]; exact R_keep h.drow ho (fun b hb _ => hlt b (hBO b hb)), ?_, ?_, ?_, h.only.step ho (fun b _ hb => hBO b hb), h.apart⟩
  · subst hkk hrr
    exact good_in h.good ht ht1
  · rw [hk1]
    refine hin.trans ?_
    refine (h.perm.cons _).trans ?_
    rw [List.append_assoc]
    exact List.perm_middle.symm
  · rw [hg1]
    intro n hn
    obtain ⟨⟨r0, a, b, hc⟩, hOn⟩ := h.cells n hn
    refine ⟨⟨r0, a, b, (ho.block _ (blk_lt hc) (fun hb => ?_)).trans hc⟩, hOn⟩
    rcases hb with e | e | ⟨q, hq, e⟩
    · exact tcell_ne h.rep.head hc e.symm
    · obtain ⟨es, he, _⟩ := h.rep.names
      exact tcell_map he hc e.symm
    · have h1 := h.nodup
      rw [List.map_append] at h1
      exact (List.nodup_append.1 h1).2.2 _ (List.mem_map.2 ⟨n, hn, rfl⟩) _ (List.mem_map.2 ⟨q, hq, rfl⟩) e.symm
  · rw [hg1]
    exact (((hnn.append_left (gone t (F.take i))).map Node.b)).nodup_iff.2 h.nodup
/-- A timer that is done: grown onto the list (w1), struck from the names (w2). -/
theorem InvB.done {v' : Value} {w1 w2 : World} {es : List Ent} (h : InvB w0 w O p m t S1 F v7 v12 i S') (hi : i < F.length) (ht : F[i].tm ≤ t) (hlt : ∀ b, O b → b < w0.heap.size)
    (hR : kN.R 65 w1 w0.heap.size (fun _ => True) v' (gone t (F.take i) ++ [F[i]])) (hg : w.grownBy w1 v12.ownBlock) (hat : v'.ownBlock = v12.ownBlock ∨ ∃ b, v'.ownBlock = some b ∧ w.heap.size ≤ b)
    (he : IsM w1 m es) (hp : es.Perm ((F.drop i ++ nodes S').map fun n => (n.id, ptr (some n.b)))) (hm : IsM w2 m (drop F[i].id es)) (hg2 : w1.grownBy w2 (some m)) : InvB w0 w2 O p m t S1 F v7 v' (i + 1) S' := by
  have hg1 : gone t (F.take (i + 1)) = gone t (F.take i) ++ [F[i]] := by
    rw [take_succ hi]
    unfold gone
    rw [List.filter_append, List.filter_cons_of_pos (by simpa using ht)]
    rfl
  have hk1 : kept t (F.take (i + 1)) = kept t (F.take i) := by
    rw [take_succ hi]
    unfold kept
    rw [List.filter_append, List.filter_cons_of_neg (by simp; omega)]
    simp
  have hv := own_ge h.drow
  have hOm := h.rep.own.2.1
  have hr1 : Rep w1 O p m t S' (F.drop i) := h.rep.grown hg (fun k hk hO => by have := hv k hk; have := hlt k hO; omega)
  rw [drop_cons hi] at hr1 hp
  have hr2 := hr1.del he hp hm (fun b hb hbm => hg2.block b hb (fun e => hbm (by injection e)))
  have hml := hlt m hOm
  have hrow1 : kN.R 65 w1 w0.heap.size (fun _ => True) v7 F := by
    refine Kd.R_mono (Kd.R_step (ok := fun b => True ∧ some b ≠ v12.ownBlock) ?_ (fun b hb hl => hg.block b hl hb.2)) (fun _ _ => trivial)
    obtain ⟨h0, hr⟩ := h.row
    refine ⟨fun k hk => ⟨trivial, fun e => h.apart k e.symm hk⟩, hr.imp_ (fun x cs hx => hx)⟩
  have keep2 : ∀ {v : Value} {xs : List Node}, kN.R 65 w1 w0.heap.size (fun _ => True) v xs → kN.R 65 w2 w0.heap.size (fun _ => True) v xs := fun hx =>
    R_keep hx (Only.of_grown hg2) (fun b hb _ => by injection hb with hb; rw [hb]; exact hml)
  have hsz : w.heap.size ≤ w1.heap.size := hg.size
  refine ⟨hr2, h.good, keep2 hrow1, by rw [hg1]; exact keep2 hR, by rw [hk1]; exact h.perm, ?_, ?_, ?_, ?_⟩
  · rw [hg1]
    have keepc : ∀ {n : Node}, (∃ r a b, Tcell w n r a b) → O n.b → (∃ r a b, Tcell w2 n r a b) := fun {n} hc hOn => by
      obtain ⟨r0, a, b, hc⟩ := hc
      have hnm : n.b ≠ m := by
        obtain ⟨es', he', _⟩ := h.rep.names
        exact fun e => tcell_map he' hc e.symm
      refine ⟨r0, a, b, (hg2.block _ (Nat.lt_of_lt_of_le (blk_lt hc) hsz) (fun e => hnm (by injection e))).trans ((hg.block _ (blk_lt hc) (fun e => ?_)).trans hc)⟩
      have := hv _ e.symm
      have := hlt _ hOn
      omega
    intro n hn
    rcases List.mem_append.1 hn with hn | hn
    · exact ⟨keepc (h.cells n hn).1 (h.cells n hn).2, (h.cells n hn).2⟩
    · rw [List.mem_singleton.1 hn]
      have hmem : F[i] ∈ F.drop i := by rw [drop_cons hi]; exact List.mem_cons_self
      have hOf : O F[i].b := h.rep.own.2.2 _ (List.mem_append_left _ hmem)
      exact ⟨keepc (h.rep.loose _ hmem) hOf, hOf⟩
  · rw [hg1]
    have := h.nodup
    rw [drop_cons hi] at this
    have hpm : ((gone t (F.take i) ++ [F[i]]) ++ (F.drop (i + 1) ++ nodes S')).Perm (gone t (F.take i) ++ (F[i] :: F.drop (i + 1) ++ nodes S')) := by
      rw [List.append_assoc]
      exact List.Perm.refl _
    exact (hpm.map Node.b).nodup_iff.2 this
  · have o1 := Wh.Only.of_grown2 h.only hg (fun k hk => hv k hk)
    exact o1.trans ((Only.of_grown hg2).mono (fun b _ hb => by injection hb with hb; rw [hb]; exact hOm))
  · intro k hk h7
    rcases hat with e | ⟨b, e, hb⟩
    · exact h.apart k (e ▸ hk) h7
    · rw [e] at hk
      injection hk with hk
      have := (Kd.R_bound h.row).1 k h7
      have := this.2.2.1
      omega
end
theorem at_N {w : World} {A : Option Addr} {xs : List Node} (h : Kd.C kN w A xs.length xs) (i : Nat) (hi : i < xs.length) : ∃ ad, A = some ad ∧ w.cell? (ad.add i) = some (.pointer (some ⟨xs[i].b, 0, none⟩)) := by
  obtain ⟨ad, c, e, hc, hK, hcell⟩ := Kd.C_get h xs[i] (i : Int) (by omega) (by omega)
  refine ⟨ad, e, ?_⟩
  have hg : xs.getD (i : Int).toNat xs[i] = xs[i] := by
    rw [Int.toNat_natCast, List.getD_eq_getElem?_getD, List.getElem?_eq_getElem hi]
    rfl
  rw [hg] at hK
  have hK' : c = [.pointer (some ⟨xs[i].b, 0, none⟩)] := hK
  have := hcell 0 _ (by rw [hK']; rfl)
  rw [Int.toNat_natCast] at this
  simpa [kN, Kd.scalar] using this
end Go.Proofs.Ytaefbibkkkglnaa.Wh
/- Wheel: Advance. No condition. -/
namespace Go.Proofs.Ytaefbibkkkglnaa.Wh
open Go Go.RowKit Go.Proofs.YtaefbibkkkglnaaW.PrintWords Go.Proofs.Ytaefbibkkkglnaa.Mp Go.Proofs.Ytaefbibkkkglnaa.Fr
set_option linter.unusedVariables false
set_option linter.unusedSimpArgs false
attribute [local go_sem] bits_and63

theorem infoTP : (Try.prog.info? 65).map (fun i => (i.zero, i.size, i.bytes)) = some (some (.pointer none), 1, 8) := by kernel_rfl
theorem infoS : (Try.prog.info? 9).map (fun i => (i.zero, i.size, i.bytes)) = some (some (.string ⟨#[]⟩), 1, 16) := by kernel_rfl
theorem shift_dig {t : Int} {r : Nat} (h : 0 ≤ t) : t / 2 ^ (6 * r) % 64 = ((dg r t : Nat) : Int) := by
  obtain ⟨T, rfl⟩ := Int.eq_ofNat_of_zero_le h
  unfold dg dig
  have e2 : ((2 : Int) ^ (6 * r)) = ((64 ^ r : Nat) : Int) := by
    rw [show (64 : Nat) ^ r = 2 ^ (6 * r) from by rw [Nat.pow_mul]]
    rw [Int.natCast_pow]
    rfl
  rw [e2]
  simp
section
variable {w w' : World} {O : Nat → Prop} {p : Nat} {now : Int} {l : List E}
set_option maxRecDepth 100000 in
theorem nil_advance (t : Int) (w : World) : Calls Try.prog 14 #[.pointer none, .int .i64 t] w fun e w' => e = .returned (.tuple #[.slice none 0 0, .int .i64 0]) ∧ w = w' := by
  go_enter Try.func14, Try.ntmps14
  go_wp2_with fail
  go_step3
  go_wp2_with fail
  rw [Exit.noGoto_ret]
  go_ret2
  exact ⟨rfl, rfl⟩
set_option maxRecDepth 100000 in
theorem adv_bad (t : Int) (a : Nat) (w : World) (h : ¬ (0 ≤ t ∧ t ≤ 1099511627776)) : Calls Try.prog 14 #[.pointer (some ⟨a, 0, none⟩), .int .i64 t] w fun e w' => e = .returned (.tuple #[.slice none 0 0, .int .i64 2]) ∧ ∃ n, w' = w.drewN n := by
  have HT := Aside0.mk (decide_eq_false h)
  clear h
  go_enter Try.func14, Try.ntmps14
  go_wp2_with fail
  go_step3
  go_wp2_with fail
  refine (isTime_calls t _).mono ?_
  rintro e w' ⟨rfl, n, rfl⟩
  rw [HT.out]
  go_wp2_with fail
  rw [Exit.noGoto_ret]
  go_ret2
  exact ⟨rfl, n, rfl⟩
set_option maxRecDepth 100000 in
theorem adv_past (t : Int) (w : World) (h : 0 ≤ t ∧ t ≤ 1099511627776) (hc : w.cell? ⟨p, 0, none⟩ = some (.int .i64 now)) (h2 : t < now) : Calls Try.prog 14 #[.pointer (some ⟨p, 0, none⟩), .int .i64 t] w fun e w' => e = .returned (.tuple #[.slice none 0 0, .int .i64 110]) ∧ ∃ n, w' = w.drewN n := by
  have HT := Aside0.mk (decide_eq_true h)
  have hd : decide (t < now) = true := by simpa using h2
  clear h h2
  go_enter Try.func14, Try.ntmps14
  go_wp2_with fail
  go_step3
  go_wp2_with fail
  refine (isTime_calls t _).mono ?_
  rintro e w' ⟨rfl, n, rfl⟩
  rw [HT.out]
  go_wp2_with fail
  rw [Exit.noGoto_ret]
  go_ret2
  exact ⟨rfl, n, rfl⟩

def AdvPost (w : World) (O : Nat → Prop) (p m : Nat) (t : Int) (S : Slots) (e : Ending) (w' : World) : Prop :=
  ∃ (v : Value) (D' : List Node), e = .returned (.tuple #[v, .int .i64 0]) ∧ Kd.string.R 9 w' w.heap.size (fun _ => True) v (D'.map Node.id) ∧ D'.Perm (gone t (nodes S)) ∧ Sorted (D'.map ent) ∧ (∃ S', Rep w' O p m t S' [] ∧ Good t S' ∧ (nodes S').Perm (kept t (nodes S))) ∧ Only O w w'
set_option maxRecDepth 100000 in
set_option maxHeartbeats 8000000 in
theorem adv_main {m : Nat} {S : Slots} (t : Int) (hrep : Rep w O p m now S []) (hgood : Good now S) (hlt : ∀ b, O b → b < w.heap.size) (hn0 : 0 ≤ now) (hn1 : now ≤ 1099511627776) (ht0 : 0 ≤ t) (ht1 : t ≤ 1099511627776) (hnt : now ≤ t) (hfew : (nodes S).length ≤ 4096) :
    Calls Try.prog 14 #[.pointer (some ⟨p, 0, none⟩), .int .i64 t] w (AdvPost w O p m t S) := by
  have HT := Aside0.mk (decide_eq_true (And.intro ht0 ht1))
  have hdt : decide (t < now) = false := by simp; omega
  have c0 := hrep.head.c0
  have hmv : rg t now < 7 := ring_lt (by omega) (by omega)
  have HL : Aside0 (∀ w : World, Calls Try.prog 30 #[.int .i64 t, .int .i64 now] w fun e w' => e = .returned (.int .i64 (rg t now)) ∧ w = w') := ⟨fun w => level_calls t now w ht0 ht1 hn0 hn1⟩
  generalize hmvv : rg t now = mv at hmv HL
  have HMW := Aside0.mk hmvv
  clear hmvv
  have HREP := Aside0.mk hrep
  have HG := Aside0.mk hgood
  have HO := Aside0.mk hlt
  have hB := hrep.head.lt
  clear hrep hgood hlt
  go_enter Try.func14, Try.ntmps14
  go_wp2_with fail
  go_step3
  go_wp2_with fail
  refine (isTime_calls t _).mono ?_
  rintro e w' ⟨rfl, n, rfl⟩
  rw [HT.out]
  go_wp2_with fail
  refine (HL.out _).mono ?_
  rintro e w' ⟨rfl, rfl⟩
  go_wp2_with fail
  go_step3
  go_wp2_with fail
  have I0 : Aside0 (InvA w (w.drewN n) O p m now S (.slice none 0 0) S []) := ⟨⟨HREP.out.drewN n, Kd.R_nil _ _ _ _ _, List.Perm.refl _, HG.out, (Only.refl O w).drewN n⟩⟩
  have hsz0 : Aside0 (w.heap.size ≤ (w.drewN n).heap.size) := ⟨Nat.le_refl _⟩
  clear c0
  go_loopg [7, 8] 8 (fun g v7 v8 wx => ∃ (r : Nat) (S' : Slots) (F : List Node), g = 8 - r ∧ r ≤ mv + 1 ∧ v8 = .int .i64 r ∧ Aside0 (OutA mv (dg mv t) S S' r) ∧ Aside0 (InvA w wx O p m now S v7 S' F))
  case atStart => exact ⟨0, S, [], rfl, by omega, rfl, ⟨outA_zero _ _ _⟩, I0⟩
  case round =>
    clear I0 hsz0
    obtain ⟨r, S', F, rfl, hr, rfl, HOA, HI⟩ := hrel
    by_cases hrm : r ≤ mv
    · have i0 : (0 : Int) ≤ (r : Int) := by omega
      have i1 : (r : Int) < 7 := by omega
      have k1 := HI.out.rep.head.count (r := r) (by omega)
      by_cases hcz : cnt S' r = 0
      · rw [hcz] at k1
        have H2 := Aside0.mk (outA_skip HOA.out hcz)
        clear hcz
        go_wp2_with fail
        go_roundg (8 - (r + 1))
        case measure => omega
        case rel => exact ⟨r + 1, S', F, rfl, by omega, by go_num, H2, HI⟩
      · have hcz' : ((cnt S' r : Int) == 0) = false := beq_eq_false_iff_ne.2 (by omega)
        have HC := Aside0.mk hcz
        clear hcz
        -- how far the ring falls
        obtain ⟨la, hla, hfl, hla2⟩ : ∃ la : Nat, la < 64 ∧ (∀ k', k' < 64 → (k' < la + 1 ↔ fall mv (dg mv t) r k')) ∧ ((r = mv ∧ la = dg r t) ∨ (r ≠ mv ∧ la = 63)) := by
          by_cases e : r = mv
          · exact ⟨dg mv t, dig_lt _ _, fun k' hk' => by unfold fall; omega, .inl ⟨e, by rw [e]⟩⟩
          · exact ⟨63, by omega, fun k' hk' => by unfold fall; omega, .inr ⟨e, rfl⟩⟩
        have HFL := Aside0.mk hfl
        clear hfl
        have H0 := Aside0.mk (outA_in HOA.out)
        obtain ⟨wo, hwo⟩ : ∃ wo : World, wr = wo := ⟨_, rfl⟩
        subst hwo
        go_upto_if 52 with fail
        go_cut [9] (fun s9 wx => wr = wx ∧ ∃ lv : Int, s9 = .int .i64 lv ∧ Aside0 (lv = la) ∧ 0 ≤ lv ∧ lv < 64)
        case first =>
          rcases hla2 with ⟨hrm2, hla2⟩ | ⟨hrm2, hla2⟩
          · have hsh : t / 2 ^ (6 * r) % 64 = ((dg r t : Nat) : Int) := shift_dig ht0
            have d1 : ((r : Int) == (mv : Int)) = true := by simp [hrm2]
            have HLA := Aside0.mk hla2
            clear hla2 hrm2
            go_wp2_with fail
            go_meet
            exact ⟨rfl, _, rfl, ⟨by rw [HLA.out]⟩, by omega, by have := dig_lt r t.toNat; unfold dg; omega⟩
          · have d1 : ((r : Int) == (mv : Int)) = false := by rw [beq_eq_false_iff_ne]; omega
            have HLA := Aside0.mk hla2
            clear hla2 hrm2
            go_wp2_with fail
            go_meet
            exact ⟨rfl, _, rfl, ⟨by rw [HLA.out]; rfl⟩, by omega, by omega⟩
        case rest =>
          obtain ⟨rfl, lv, rfl, HLV, l0, l1⟩ := hcut
          go_wp2_with fail
          clear HOA HC k1 hcz'
          go_loopg [7, 10, 11] 65 (fun g v7 v10 v11 wx => ∃ (k : Nat) (S' : Slots) (F : List Node), g = 65 - k ∧ k ≤ la + 1 ∧ v10 = .int .i64 k ∧ Aside0 (InA mv (dg mv t) S S' r k) ∧ Aside0 (InvA w wx O p m now S v7 S' F))
          case atStart => exact ⟨0, S', F, rfl, by omega, rfl, H0, HI⟩
          case round =>
            clear HI H0
            obtain ⟨k, S1, F1, rfl, hk, rfl, HIA, HI⟩ := hrel
            by_cases hkl : k ≤ la
            · have hkl' : (k : Int) ≤ lv := by have := HLV.out; omega
              have j0 : (0 : Int) ≤ (k : Int) := by omega
              have j1 : (k : Int) < 64 := by omega
              have k2 := HI.out.rep.head.slot (r := r) (k := k) (by omega) (by omega)
              rw [show 1 + 64 * r + k = 1 + r * 64 + k from by omega] at k2
              obtain ⟨x1, hx1⟩ : ∃ x1, ptr (hd none (S1 r k)) = .pointer x1 := ⟨_, rfl⟩
              rw [hx1] at k2
              have HX := Aside0.mk hx1
              have HCA := Aside0.mk (inA_ch HIA.out)
              clear hx1 HIA
              go_wp2_with fail
              go_loopg [7, 11] (S1 r k).length (fun g v7 v11 wx => ∃ (S' : Slots) (F : List Node), g = (S' r k).length ∧ v11 = ptr (hd none (S' r k)) ∧ Aside0 (ChA mv (dg mv t) S S' r k) ∧ Aside0 (InvA w wx O p m now S v7 S' F))
              case atStart => exact ⟨S1, F1, rfl, HX.out.symm, HCA, HI⟩
              case round =>
                clear HI HCA HX k2
                obtain ⟨S2, F, rfl, e11, HCA, HI⟩ := hrel
                cases hS : S2 r k with
                | nil =>
                  rw [hS] at e11
                  obtain rfl : _ = Value.pointer none := e11
                  have HN := Aside0.mk (chA_in HCA.out hS)
                  clear hS
                  go_wp2_with fail
                  go_roundg (65 - (k + 1))
                  case measure => omega
                  case rel => exact ⟨k + 1, S2, F, rfl, by omega, by go_num, HN, HI⟩
                | cons y ys =>
                  rw [hS] at e11
                  obtain rfl : _ = Value.pointer (some ⟨y.b, 0, none⟩) := e11
                  have HS := Aside0.mk hS
                  clear hS
                  have hgy := HI.out.good r k (by omega) (by omega) y (by rw [HS.out]; simp)
                  have hlen : (nodes S2).length ≤ 4096 ∧ F.length ≤ 4096 := by
                    have := HI.out.perm.length_eq
                    simp at this
                    omega
                  have HU := unhang_calls (t := y) (r := r) (xs := []) (ys := ys) HI.out.rep (by omega) (by omega) hgy.2.1 (by rw [hgy.2.2.2]; exact HS.out) (by omega)
                  rw [hgy.2.2.2] at HU
                  have HU := Aside0.mk HU
                  obtain ⟨_, hFl⟩ := hlen
                  clear hgy
                  go_wp2_with fail
                  refine (HU.out).mono ?_
                  rintro e w1 ⟨rfl, hR1, hO1⟩
                  have HR1 := Aside0.mk (R_keep HI.out.row hO1 (fun b hb _ => HO.out b hb))
                  have HS1 := Aside0.mk (Nat.le_trans HI.out.only.size hO1.size)
                  have HQ1 := Aside0.mk (And.intro hR1 hO1)
                  clear hR1 hO1 HU
                  go_upto_region 21 with (first | ((with_reducible refine gate_builtin (b := .append) (xs := #[.tmp 86, .tmp 88]) rfl ?_); at_builtin; refine Kd.R_append kN (w0 := w1) w.heap.size rfl (.tmp 86) (.tmp 88) 76 65 (.pointer none) 8 rfl Try.underlying76 infoTP rfl (by decide) (by omega) (u7) (F) (y) ([.pointer (some ⟨y.b, 0, none⟩)]) (fun _ => True) (fun _ => False) ?aV ?aX ?aP (fun _ hk => hk.elim) (fun _ _ => trivial) ?aO ?aB ?aS ?aL ?_; (case aV => rfl); (case aX => rfl); (case aP => exact rfl); (case aO => exact HR1.out); (case aB => exact ⟨rfl, rfl, rfl, Nat.le_refl _, fun _ _ => rfl⟩); (case aS => exact HS1.out); (case aL => (first | omega | (simp; omega))); intro v2 w2 hR2 hB2 hg2 hat2) | fail)
                  have hst := HI.out.step (by omega) (by omega) HS.out HQ1.out.1 HQ1.out.2 HO.out hR2 hg2
                  have k3 := hst.rep.head.slot (r := r) (k := k) (by omega) (by omega)
                  rw [show 1 + 64 * r + k = 1 + r * 64 + k from by omega, upd_same] at k3
                  obtain ⟨x2, hx2⟩ : ∃ x2, ptr (hd none ys) = .pointer x2 := ⟨_, rfl⟩
                  rw [hx2] at k3
                  have HX2 := Aside0.mk hx2
                  have HST := Aside0.mk hst
                  clear hx2 hst hR2 hB2 hg2 hat2 HR1 HS1 HQ1
                  go_wp2_with fail
                  go_roundg ys.length
                  case measure => rw [HS.out]; simp
                  case rel => exact ⟨upd S2 r k ys, F ++ [y], by rw [upd_same], by rw [upd_same]; exact HX2.out.symm, ⟨chA_upd HCA.out ys⟩, HST⟩
            · obtain rfl : k = la + 1 := by omega
              have hkl' : ¬ ((la + 1 : Nat) : Int) ≤ lv := by have := HLV.out; omega
              have HN := Aside0.mk (inA_out HIA.out HFL.out)
              go_wp2_with fail
              go_roundg (8 - (r + 1))
              case measure => omega
              case rel => exact ⟨r + 1, S1, F1, rfl, by omega, by go_num, HN, HI⟩
    · obtain rfl : r = mv + 1 := by omega
      have c0 := HI.out.rep.head.c0
      have f0 := HI.out.rep.head.fz 0
      have HG1 := Aside0.mk (outA_good HOA.out HG.out hn0 hnt HMW.out.symm rfl)
      obtain ⟨A, c, hv7, hle, hC⟩ := Kd.R_reads HI.out.row
      subst hv7
      have hlF : F.length ≤ 4096 := by
        have := HI.out.perm.length_eq
        simp at this
        omega
      have hp0 : O p := HI.out.rep.own.1
      have HB1 := Aside0.mk (InvB.start (HI.out.rep.setNow t) HG1.out (R_keep HI.out.row ((Only.refl O wr).set (fun _ => hp0) _) (fun b hb _ => HO.out b hb)) (HI.out.only.set (fun _ => hp0) _))
      have HC := Aside0.mk hC
      clear hC HG1
      go_wp2_with fail
      go_loopg [12, 96] (F.length) (fun g v12 v96 wx => ∃ (i : Nat) (S2 : Slots), g = F.length - i ∧ i ≤ F.length ∧ v96 = .int .i64 i ∧ Aside0 (InvB w wx O p m t S' F (.slice A F.length c) v12 i S2))
      case atStart => exact ⟨0, S', rfl, by omega, rfl, HB1⟩
      case round =>
        clear HB1 HC
        obtain ⟨i, S2, rfl, hi, rfl, HB⟩ := hrel
        by_cases hiF : i < F.length
        · have j0 : (0 : Int) ≤ (i : Int) := by omega
          have j1 : (i : Int) < (F.length : Int) := by omega
          obtain ⟨hn7, hc7, hC7⟩ := Kd.R_reads' HB.out.row
          obtain ⟨ad, hA, hcell⟩ := at_N hC7 i hiF
          subst hA
          have hmem : F[i] ∈ F.drop i := by rw [drop_cons hiF]; exact List.mem_cons_self
          obtain ⟨r0, a0, b0, hc⟩ := HB.out.rep.loose _ hmem
          obtain ⟨q0, q1, q2, q3, q4, q5⟩ := hc.c
          have HF := Aside0.mk (rfl : F[i] = F[i])
          generalize hy : F[i] = y at hcell hc q0 q1 q2 q3 q4 q5 HF
          have HY := Aside0.mk hy
          clear hy HF hC7 hn7 hc7 hc hmem q2 q3 q4
          by_cases hty : y.tm ≤ t
          · have d1 : decide (y.tm ≤ t) = true := by simpa using hty
            have hlg : (gone t (F.take i)).length ≤ 4096 := by
              have := List.length_filter_le (fun n : Node => decide (n.tm ≤ t)) (F.take i)
              have h2 := List.length_take_le i F
              unfold gone
              omega
            have HBR := Aside0.mk HB.out.drow
            have HBS := Aside0.mk HB.out.only.size
            go_upto_region 31 with (first | ((with_reducible refine gate_builtin (b := .append) (xs := #[.tmp 106, .tmp 108]) rfl ?_); at_builtin; refine Kd.R_append kN (w0 := wr) w.heap.size rfl (.tmp 106) (.tmp 108) 76 65 (.pointer none) 8 rfl Try.underlying76 infoTP rfl (by decide) (by omega) (u12) (gone t (F.take i)) (y) ([.pointer (some ⟨y.b, 0, none⟩)]) (fun _ => True) (fun _ => False) ?aV ?aX ?aP (fun _ hk => hk.elim) (fun _ _ => trivial) ?aO ?aB ?aS ?aL ?_; (case aV => rfl); (case aX => rfl); (case aP => exact rfl); (case aO => exact HBR.out); (case aB => exact ⟨rfl, rfl, rfl, Nat.le_refl _, fun _ _ => rfl⟩); (case aS => exact HBS.out); (case aL => (first | omega | (simp; omega))); intro v2 w2 hR2 hB2 hg2 hat2) | fail)
            have hrg := HB.out.rep.grown hg2 (fun k hk hO => by have := own_ge HB.out.drow k hk; have := HO.out k hO; omega)
            have k456 := hrg.head.map
            have q0' : w2.cell? ⟨y.b, 0, none⟩ = some (.string y.id) := by
              have hym : y ∈ F.drop i := by rw [← HY.out, drop_cons hiF]; exact List.mem_cons_self
              obtain ⟨r1, a1, b1, hc1⟩ := hrg.loose y hym
              exact hc1.c.1
            obtain ⟨es, he, hpe⟩ := hrg.names
            have HE := Aside0.mk (And.intro he hpe)
            have HQ := Aside0.mk (And.intro hR2 (And.intro hg2 hat2))
            clear hrg he hpe hR2 hB2 hg2 hat2 q0 q1 q5 HBR HBS
            go_still_tail 8, (by kernel_rfl)
            go_wp2_with (first | (at_delete; refine wpList_del _ rfl _ _ 71 9 rfl Try.underlying71 Try.underlying9 rfl (HE.out.1.move rfl) y.id rfl ?_; intro w3 hm3 hg3 hz3) | fail)
            go_roundg (F.length - (i + 1))
            case measure => omega
            case rel =>
              refine ⟨i + 1, S2, rfl, by omega, by go_num, ⟨?_⟩⟩
              have hdn := HB.out.done (es := es) (w1 := w2) (w2 := w3) hiF (by rw [HY.out]; exact hty) HO.out (by rw [HY.out]; exact HQ.out.1) HQ.out.2.1 HQ.out.2.2 HE.out.1 HE.out.2 (by rw [HY.out]; exact hm3) ⟨hg3.os, hg3.tape, hg3.output, hg3.size, fun k hk hne => hg3.block k hk hne⟩
              exact hdn
          · have d1 : decide (y.tm ≤ t) = false := by simpa using hty
            have hym : y ∈ F.drop i := by rw [← HY.out, drop_cons hiF]; exact List.mem_cons_self
            have hlen2 : (nodes S2).length ≤ 1000000 := by
              have h1 := HB.out.perm.length_eq
              have h2 := HI.out.perm.length_eq
              have h3 := List.length_filter_le (fun n : Node => decide (t < n.tm)) (F.take i)
              have h4 := List.length_take_le i F
              unfold kept at h1
              simp at h1 h2
              omega
            have hy1 : y.tm ≤ 1099511627776 := by
              have h1 : y ∈ F ++ nodes S' := List.mem_append_left _ (List.mem_of_mem_drop hym)
              have h2 := HI.out.perm.mem_iff.1 h1
              obtain ⟨r3, k3, h3, h4, h5⟩ := mem_nodes.1 h2
              exact (HG.out r3 k3 h3 h4 y h5).2.1
            have hrt := HB.out.rep.tight
            rw [drop_cons hiF, HY.out] at hrt
            have HH := Aside0.mk (hang_calls hrt (by omega) hy1 ht0 ht1 hlen2)
            clear hrt q0 q5
            go_wp2_with fail
            refine (HH.out).mono ?_
            rintro e w3 ⟨rfl, hR3, hO3⟩
            have HQ := Aside0.mk (And.intro hR3 hO3)
            clear hR3 hO3 HH
            go_wp2_with fail
            go_roundg (F.length - (i + 1))
            case measure => omega
            case rel =>
              refine ⟨i + 1, _, rfl, by omega, by go_num, ⟨HB.out.hung hiF (by rw [HY.out]; omega) (by rw [HY.out]; exact hy1) ht0 HO.out rfl rfl ?_ ?_⟩⟩
              · have h := HQ.out.1
                rw [drop_cons hiF, HY.out]
                exact h
              · have h := HQ.out.2
                rw [drop_cons hiF, HY.out]
                exact h
        · obtain rfl : i = F.length := by omega
          have hgl : (gone t F).length ≤ 4096 := by
            have := List.length_filter_le (fun n : Node => decide (n.tm ≤ t)) F
            unfold gone
            omega
          have hB2 := HB.out
          have hdr := hB2.drow
          have hce := hB2.cells
          rw [List.take_length] at hdr hce
          have hnd : ((gone t F).map ent).Nodup := by
            obtain ⟨es, he, hpe⟩ := HREP.out.names
            have h1 := (hpe.map Prod.fst).nodup_iff.1 he.nodup
            have h2 : ((F ++ nodes S').map Node.id).Nodup := by
              refine ((HI.out.perm.map Node.id)).nodup_iff.2 ?_
              rw [List.map_map] at h1
              exact h1
            rw [List.map_append] at h2
            have h3 := (List.nodup_append.1 h2).1
            have h4 : ((gone t F).map Node.id).Nodup := (List.filter_sublist.map _).nodup h3
            have h5 : ((gone t F).map Node.id) = ((gone t F).map ent).map Prod.fst := by rw [List.map_map]; rfl
            rw [h5] at h4
            exact (List.pairwise_map.1 h4).imp (fun h e => h (by rw [e]))
          have hsz := HB.out.only.size
          have HS := Aside0.mk (sort_calls hdr (by omega) hsz (fun n hn => by
            obtain ⟨⟨r0, a0, b0, hc⟩, hOn⟩ := hce n hn
            exact ⟨HO.out _ hOn, hc.c.1, hc.c.2.1⟩) hnd)
          have HCE := Aside0.mk hce
          have HND := Aside0.mk hnd
          clear hB2 hdr hce hnd hsz
          obtain ⟨wo, rfl⟩ : ∃ wo : World, wo = wr := ⟨_, rfl⟩
          go_wp2_with fail
          refine (HS.out).mono ?_
          rintro e w3 ⟨rfl, hR3, hO3⟩
          obtain ⟨A2, c2, hv12, hle2, hC2⟩ := Kd.R_reads hR3
          subst hv12
          have hsl : (sortN (gone t F)).length ≤ 4096 := by rw [(sortN_perm _).length_eq]; exact hgl
          have HR3 := Aside0.mk hR3
          have HO3 := Aside0.mk hO3
          have HCC := Aside0.mk (show ∀ n ∈ sortN (gone t F), n.b < w.heap.size ∧ w3.cell? ⟨n.b, 0, none⟩ = some (.string n.id) from fun n hn => by
            obtain ⟨⟨r0, a0, b0, hc⟩, hOn⟩ := HCE.out n ((sortN_perm _).mem_iff.1 hn)
            have hb := HO.out _ hOn
            refine ⟨hb, ?_⟩
            have : Tcell w3 n r0 a0 b0 := (hO3.block _ hb).trans hc
            exact this.c.1)
          have HW3 := Aside0.mk (Nat.le_trans HB.out.only.size hO3.size)
          clear hR3 hO3 hC2 HS
          generalize hDD : sortN (gone t F) = D at *
          have HDD := Aside0.mk hDD
          clear hDD
          go_wp2_with fail
          go_loopg [15, 126] D.length (fun g v15 v126 wx => ∃ (j : Nat), g = D.length - j ∧ j ≤ D.length ∧ v126 = .int .i64 j ∧ Aside0 (Kd.string.R 9 wx w.heap.size (fun _ => True) v15 ((D.take j).map Node.id)) ∧ Aside0 (kN.R 65 wx w.heap.size (fun _ => True) (.slice A2 D.length c2) D) ∧ Aside0 (Below w.heap.size w3 wx) ∧ Aside0 (∀ k, v15.ownBlock = some k → (Value.slice A2 D.length c2).ownBlock ≠ some k))
          case atStart => exact ⟨0, rfl, by omega, rfl, ⟨Kd.R_nil _ _ _ _ _⟩, HR3, ⟨Below.refl _ _⟩, ⟨fun k hk => by simp [Value.ownBlock] at hk⟩⟩
          case round =>
            obtain ⟨j, rfl, hj, rfl, HR15, HR12, HB3, HAP⟩ := hrel
            by_cases hjD : j < D.length
            · have m0 : (0 : Int) ≤ (j : Int) := by omega
              have m1 : (j : Int) < (D.length : Int) := by omega
              obtain ⟨hn7, hc7, hC7⟩ := Kd.R_reads' HR12.out
              obtain ⟨ad2, hA2, hcell⟩ := at_N hC7 j hjD
              subst hA2
              have hmem : D[j] ∈ D := List.getElem_mem hjD
              have q0 : wr.cell? ⟨D[j].b, 0, none⟩ = some (.string D[j].id) := by
                obtain ⟨h1, h2⟩ := HCC.out _ hmem
                exact (HB3.out.cell (p := ⟨D[j].b, 0, none⟩) h1).trans h2
              have hlj : ((D.take j).map Node.id).length ≤ 4096 := by
                rw [List.length_map]
                have := List.length_take_le j D
                omega
              have HBS := Aside0.mk (Nat.le_trans HW3.out HB3.out.size)
              generalize hy : D[j] = y at hcell q0
              have HY := Aside0.mk hy
              clear hy hC7 hn7 hc7 hmem
              go_wp2_with (first | ((with_reducible refine gate_builtin (b := .append) (xs := #[.tmp 130, .tmp 135]) rfl ?_); at_builtin; refine Kd.R_append Kd.string (w0 := wr) w.heap.size rfl (.tmp 130) (.tmp 135) 29 9 (.string ⟨#[]⟩) 16 rfl Try.underlying29 infoS rfl (by decide) (by omega) (u15) ((D.take j).map Node.id) (y.id) ([.string y.id]) (fun _ => True) (fun _ => False) ?aV ?aX ?aP (fun _ hk => hk.elim) (fun _ _ => trivial) ?aO ?aB ?aS ?aL ?_; (case aV => rfl); (case aX => rfl); (case aP => exact rfl); (case aO => exact HR15.out); (case aB => exact ⟨rfl, rfl, rfl, Nat.le_refl _, fun _ _ => rfl⟩); (case aS => exact HBS.out); (case aL => (first | omega | (simp; omega))); intro v2 w2 hR2 hB2 hg2 hat2) | fail)
              go_roundg (D.length - (j + 1))
              case measure => omega
              case rel =>
                have hv := own_ge HR15.out
                have hap : ∀ k, v2.ownBlock = some k → (Value.slice (some ad2) D.length c2).ownBlock ≠ some k := fun k hk h7 => by
                  rcases hat2 with e | ⟨b, e, hb⟩
                  · exact HAP.out k (e ▸ hk) h7
                  · rw [e] at hk
                    injection hk with hk
                    have := ((Kd.R_bound HR12.out).1 k h7).2.2.1
                    omega
                refine ⟨j + 1, rfl, by omega, by go_num, ⟨?_⟩, ⟨?_⟩, ⟨?_⟩, ⟨hap⟩⟩
                · rw [take_succ hjD, List.map_append]
                  rw [HY.out]
                  exact hR2
                · refine Kd.R_mono (Kd.R_step (ok := fun b => True ∧ some b ≠ u15.ownBlock) ?_ (fun b hb hl => hg2.block b hl hb.2)) (fun _ _ => trivial)
                  obtain ⟨h0, hr⟩ := HR12.out
                  exact ⟨fun k hk => ⟨trivial, fun e => HAP.out k e.symm hk⟩, hr.imp_ (fun x cs hx => hx)⟩
                · exact HB3.out.grown hg2 HBS.out (fun k hk => hv k hk)
            · obtain rfl : j = D.length := by omega
              go_wp2_with fail
              go_ret2
              have hfin := HB.out
              refine ⟨_, D, rfl, ?_, ?_, ?_, ⟨S2, ?_, hfin.good, ?_⟩, ?_⟩
              · have := HR15.out
                rw [List.take_length] at this
                exact this
              · rw [← HDD.out]
                refine (sortN_perm _).trans ?_
                have h1 := HI.out.perm.filter (fun n : Node => decide (n.tm ≤ t))
                rw [List.filter_append] at h1
                have h2 : (nodes S').filter (fun n : Node => decide (n.tm ≤ t)) = [] := by
                  rw [List.filter_eq_nil_iff]
                  intro n hn
                  obtain ⟨r3, k3, h3, h4, h5⟩ := mem_nodes.1 hn
                  have := (outA_good HOA.out HG.out hn0 hnt HMW.out.symm rfl r3 k3 h3 h4 n h5).1
                  simp
                  omega
                rw [h2, List.append_nil] at h1
                exact h1
              · rw [← HDD.out]
                exact sortN_sorted HND.out
              · have h1 := hfin.rep
                rw [List.drop_length] at h1
                refine h1.move (fun b hb hl => ?_)
                have := HO.out b hb
                exact (HB3.out.block b this).trans (HO3.out.block b this)
              · have h1 := hfin.perm
                rw [List.take_length] at h1
                refine h1.trans ?_
                have h2 := HI.out.perm.filter (fun n : Node => decide (t < n.tm))
                rw [List.filter_append] at h2
                have h3 : (nodes S').filter (fun n : Node => decide (t < n.tm)) = nodes S' := by
                  rw [List.filter_eq_self]
                  intro n hn
                  obtain ⟨r3, k3, h3, h4, h5⟩ := mem_nodes.1 hn
                  have := (outA_good HOA.out HG.out hn0 hnt HMW.out.symm rfl r3 k3 h3 h4 n h5).1
                  simpa using this
                rw [h3] at h2
                exact h2
              · have o1 := hfin.only
                have o3 := HO3.out
                have o4 := HB3.out
                exact ⟨o4.os.trans (o3.os.trans o1.os), o4.tape.trans (o3.tape.trans o1.tape), o4.output.trans (o3.output.trans o1.output), Nat.le_trans o1.size (Nat.le_trans o3.size o4.size), fun k hk hn => (o4.block k hk).trans ((o3.block k hk).trans (o1.block k hk hn))⟩
end
end Go.Proofs.Ytaefbibkkkglnaa.Wh
/- Wheel's laws: within, name, few, texts. No condition. -/
namespace Go.Proofs.Ytaefbibkkkglnaa.Wh
open Go Go.RowKit Go.Proofs.YtaefbibkkkglnaaW.PrintWords Go.Proofs.Ytaefbibkkkglnaa.Mp Go.Proofs.Ytaefbibkkkglnaa.Fr
set_option linter.unusedVariables false
set_option linter.unusedSimpArgs false

/-! ### within -/
def nn (x : Int) : Int := if x < 0 then -(x + 1) else x
def winF (x lo hi : Int) : Int := lo + nn x % (hi - lo + 1)
theorem nn_bd {x : Int} (h0 : -9223372036854775808 ≤ x) (h1 : x ≤ 9223372036854775807) : 0 ≤ nn x ∧ nn x ≤ 9223372036854775807 := by
  unfold nn
  split <;> omega
theorem winF_bd {x lo hi : Int} (h0 : -9223372036854775808 ≤ x) (h1 : x ≤ 9223372036854775807) (h : lo ≤ hi) : lo ≤ winF x lo hi ∧ winF x lo hi ≤ hi := by
  have h2 := (nn_bd h0 h1).1
  unfold winF
  have h3 := Int.emod_nonneg (nn x) (b := hi - lo + 1) (by omega)
  have h4 := Int.emod_lt_of_pos (nn x) (b := hi - lo + 1) (by omega)
  omega
theorem ret_i {a b : Int} (h : a = b) : Ending.returned (.int .i64 a) = .returned (.int .i64 b) := by rw [h]
theorem within_calls (x lo hi : Int) (w : World) (h0 : -9223372036854775808 ≤ x) (h1 : x ≤ 9223372036854775807) (hl : 0 ≤ lo) (hlh : lo ≤ hi) (hh : hi ≤ 4611686018427387904) :
    Calls Try.prog 10 #[.int .i64 x, .int .i64 lo, .int .i64 hi] w fun e w' => e = .returned (.int .i64 (winF x lo hi)) ∧ w = w' := by
  have e1 : IntKind.i64.wrap (hi - lo) = hi - lo := IntWalk.i64_in _ (by omega)
  have e2 : IntKind.i64.wrap (hi - lo + 1) = hi - lo + 1 := IntWalk.i64_in _ (by omega)
  have hne : ((hi - lo + 1) == 0) = false := by rw [beq_eq_false_iff_ne]; omega
  have hbd := winF_bd (x := x) h0 h1 hlh
  by_cases hx : x < 0
  · have hd : decide (x < 0) = true := by simpa using hx
    have hq : winF x lo hi = lo + (-(x + 1)) % (hi - lo + 1) := by unfold winF nn; rw [if_pos hx]
    have hn0 : 0 ≤ -(x + 1) := by omega
    have e3 : IntKind.i64.wrap (lo + (-(x + 1)) % (hi - lo + 1)) = lo + (-(x + 1)) % (hi - lo + 1) := IntWalk.i64_in _ (by rw [← hq]; omega)
    have e5 : wrap64 (-(x + 1)) = -(x + 1) := by unfold wrap64; omega
    have HQ := Aside0.mk hq
    clear hq hbd
    go_enter Try.func10, Try.ntmps10
    go_wp2
    go_ret
    refine ⟨ret_i ?_, rfl⟩
    have hb := winF_bd (x := x) h0 h1 hlh
    rw [HQ.out] at hb ⊢
    rw [← Int.neg_tmod, Int.tmod_eq_emod_of_nonneg hn0]
    unfold wrap64
    omega
  · have hd : decide (x < 0) = false := by simpa using hx
    have hq : winF x lo hi = lo + x % (hi - lo + 1) := by unfold winF nn; rw [if_neg hx]
    have hn0 : 0 ≤ x := by omega
    have e3 : IntKind.i64.wrap (lo + x % (hi - lo + 1)) = lo + x % (hi - lo + 1) := IntWalk.i64_in _ (by rw [← hq]; omega)
    have HQ := Aside0.mk hq
    clear hq hbd
    go_enter Try.func10, Try.ntmps10
    go_wp2
    go_ret
    exact ⟨ret_i HQ.out.symm, rfl⟩

/-! ### name -/
def letters : ByteArray := ⟨#[97, 98, 99, 100, 101, 102, 103, 104, 105, 106, 107, 108, 109, 110, 111, 112, 113, 114, 115, 116, 117, 118, 119, 120, 121, 122]⟩
def nm (n : Nat) : ByteArray := (letters.extract (n / 676 % 26) (n / 676 % 26 + 1) ++ letters.extract (n / 26 % 26) (n / 26 % 26 + 1)) ++ letters.extract (n % 26) (n % 26 + 1)
def dn (s : ByteArray) : Nat := match s.data.toList with
  | [a, b, c] => (a.toNat - 97) * 676 + (b.toNat - 97) * 26 + (c.toNat - 97)
  | _ => 0
def nmOk (n : Nat) : Bool := (nm n).size == 3 && dn (nm n) == n
theorem nm_all : (List.range 401).all nmOk = true := by kernel_rfl
theorem nm_ok {n : Nat} (h : n ≤ 400) : (nm n).size = 3 ∧ dn (nm n) = n := by
  have := List.all_eq_true.1 nm_all n (by simp; omega)
  unfold nmOk at this
  simpa using this
theorem nm_inj {a b : Nat} (ha : a ≤ 400) (hb : b ≤ 400) (h : nm a = nm b) : a = b := by
  rw [← (nm_ok ha).2, h, (nm_ok hb).2]
theorem nm_good {n : Nat} (h : n ≤ 400) : nameB (nm n) = true := by
  unfold nameB
  rw [(nm_ok h).1]
  decide
theorem name_walk (a0 ji2 ji6 ji11 : Int) (w : World) (hji2 : Int.tmod (IntKind.i64.wrap (Int.tdiv a0 676)) 26 = ji2) (hji6 : Int.tmod (IntKind.i64.wrap (Int.tdiv a0 26)) 26 = ji6) (hji11 : Int.tmod a0 26 = ji11)
    (c3 : 0 ≤ ji2) (c4 : ji2 ≤ IntKind.i64.wrap (ji2 + 1)) (c5 : IntKind.i64.wrap (ji2 + 1) ≤ 26) (c7 : 0 ≤ ji6) (c8 : ji6 ≤ IntKind.i64.wrap (ji6 + 1)) (c9 : IntKind.i64.wrap (ji6 + 1) ≤ 26) (c12 : 0 ≤ ji11) (c13 : ji11 ≤ IntKind.i64.wrap (ji11 + 1)) (c14 : IntKind.i64.wrap (ji11 + 1) ≤ 26)
    (c10 : ((⟨#[97, 98, 99, 100, 101, 102, 103, 104, 105, 106, 107, 108, 109, 110, 111, 112, 113, 114, 115, 116, 117, 118, 119, 120, 121, 122]⟩ : ByteArray).extract (ji2 : Int).toNat (IntKind.i64.wrap (ji2 + 1)).toNat).size + ((⟨#[97, 98, 99, 100, 101, 102, 103, 104, 105, 106, 107, 108, 109, 110, 111, 112, 113, 114, 115, 116, 117, 118, 119, 120, 121, 122]⟩ : ByteArray).extract (ji6 : Int).toNat (IntKind.i64.wrap (ji6 + 1)).toNat).size ≤ 9223372036854775807) (c15 : (((⟨#[97, 98, 99, 100, 101, 102, 103, 104, 105, 106, 107, 108, 109, 110, 111, 112, 113, 114, 115, 116, 117, 118, 119, 120, 121, 122]⟩ : ByteArray).extract (ji2 : Int).toNat (IntKind.i64.wrap (ji2 + 1)).toNat) ++ ((⟨#[97, 98, 99, 100, 101, 102, 103, 104, 105, 106, 107, 108, 109, 110, 111, 112, 113, 114, 115, 116, 117, 118, 119, 120, 121, 122]⟩ : ByteArray).extract (ji6 : Int).toNat (IntKind.i64.wrap (ji6 + 1)).toNat)).size + ((⟨#[97, 98, 99, 100, 101, 102, 103, 104, 105, 106, 107, 108, 109, 110, 111, 112, 113, 114, 115, 116, 117, 118, 119, 120, 121, 122]⟩ : ByteArray).extract (ji11 : Int).toNat (IntKind.i64.wrap (ji11 + 1)).toNat).size ≤ 9223372036854775807) :
    Calls Try.prog 15 #[.int .i64 a0] w fun e w' => e = .returned (.string ((((⟨#[97, 98, 99, 100, 101, 102, 103, 104, 105, 106, 107, 108, 109, 110, 111, 112, 113, 114, 115, 116, 117, 118, 119, 120, 121, 122]⟩ : ByteArray).extract (ji2 : Int).toNat (IntKind.i64.wrap (ji2 + 1)).toNat) ++ ((⟨#[97, 98, 99, 100, 101, 102, 103, 104, 105, 106, 107, 108, 109, 110, 111, 112, 113, 114, 115, 116, 117, 118, 119, 120, 121, 122]⟩ : ByteArray).extract (ji6 : Int).toNat (IntKind.i64.wrap (ji6 + 1)).toNat)) ++ ((⟨#[97, 98, 99, 100, 101, 102, 103, 104, 105, 106, 107, 108, 109, 110, 111, 112, 113, 114, 115, 116, 117, 118, 119, 120, 121, 122]⟩ : ByteArray).extract (ji11 : Int).toNat (IntKind.i64.wrap (ji11 + 1)).toNat))) ∧ Drawn0 w w' := by
  have c3b0 := eq_true c3
  have c3b1 : decide (0 ≤ (ji2)) = true := decide_eq_true c3
  have c4b0 := eq_true c4
  have c4b1 : decide ((ji2) ≤ (IntKind.i64.wrap ((ji2) + 1))) = true := decide_eq_true c4
  have c5b0 := eq_true c5
  have c5b1 : decide ((IntKind.i64.wrap ((ji2) + 1)) ≤ 26) = true := decide_eq_true c5
  have c7b0 := eq_true c7
  have c7b1 : decide (0 ≤ (ji6)) = true := decide_eq_true c7
  have c8b0 := eq_true c8
  have c8b1 : decide ((ji6) ≤ (IntKind.i64.wrap ((ji6) + 1))) = true := decide_eq_true c8
  have c9b0 := eq_true c9
  have c9b1 : decide ((IntKind.i64.wrap ((ji6) + 1)) ≤ 26) = true := decide_eq_true c9
  have c12b0 := eq_true c12
  have c12b1 : decide (0 ≤ (ji11)) = true := decide_eq_true c12
  have c13b0 := eq_true c13
  have c13b1 : decide ((ji11) ≤ (IntKind.i64.wrap ((ji11) + 1))) = true := decide_eq_true c13
  have c14b0 := eq_true c14
  have c14b1 : decide ((IntKind.i64.wrap ((ji11) + 1)) ≤ 26) = true := decide_eq_true c14
  have c10b0 := eq_true c10
  have c10b1 : decide (((⟨#[97, 98, 99, 100, 101, 102, 103, 104, 105, 106, 107, 108, 109, 110, 111, 112, 113, 114, 115, 116, 117, 118, 119, 120, 121, 122]⟩ : ByteArray).extract (ji2 : Int).toNat (IntKind.i64.wrap (ji2 + 1)).toNat).size + ((⟨#[97, 98, 99, 100, 101, 102, 103, 104, 105, 106, 107, 108, 109, 110, 111, 112, 113, 114, 115, 116, 117, 118, 119, 120, 121, 122]⟩ : ByteArray).extract (ji6 : Int).toNat (IntKind.i64.wrap (ji6 + 1)).toNat).size ≤ 9223372036854775807) = true := decide_eq_true c10
  have c10b2 : (9223372036854775807 < ((⟨#[97, 98, 99, 100, 101, 102, 103, 104, 105, 106, 107, 108, 109, 110, 111, 112, 113, 114, 115, 116, 117, 118, 119, 120, 121, 122]⟩ : ByteArray).extract (ji2 : Int).toNat (IntKind.i64.wrap (ji2 + 1)).toNat).size + ((⟨#[97, 98, 99, 100, 101, 102, 103, 104, 105, 106, 107, 108, 109, 110, 111, 112, 113, 114, 115, 116, 117, 118, 119, 120, 121, 122]⟩ : ByteArray).extract (ji6 : Int).toNat (IntKind.i64.wrap (ji6 + 1)).toNat).size) = False := eq_false (Nat.not_lt.2 c10)
  have c15b0 := eq_true c15
  have c15b1 : decide ((((⟨#[97, 98, 99, 100, 101, 102, 103, 104, 105, 106, 107, 108, 109, 110, 111, 112, 113, 114, 115, 116, 117, 118, 119, 120, 121, 122]⟩ : ByteArray).extract (ji2 : Int).toNat (IntKind.i64.wrap (ji2 + 1)).toNat) ++ ((⟨#[97, 98, 99, 100, 101, 102, 103, 104, 105, 106, 107, 108, 109, 110, 111, 112, 113, 114, 115, 116, 117, 118, 119, 120, 121, 122]⟩ : ByteArray).extract (ji6 : Int).toNat (IntKind.i64.wrap (ji6 + 1)).toNat)).size + ((⟨#[97, 98, 99, 100, 101, 102, 103, 104, 105, 106, 107, 108, 109, 110, 111, 112, 113, 114, 115, 116, 117, 118, 119, 120, 121, 122]⟩ : ByteArray).extract (ji11 : Int).toNat (IntKind.i64.wrap (ji11 + 1)).toNat).size ≤ 9223372036854775807) = true := decide_eq_true c15
  have c15b2 : (9223372036854775807 < (((⟨#[97, 98, 99, 100, 101, 102, 103, 104, 105, 106, 107, 108, 109, 110, 111, 112, 113, 114, 115, 116, 117, 118, 119, 120, 121, 122]⟩ : ByteArray).extract (ji2 : Int).toNat (IntKind.i64.wrap (ji2 + 1)).toNat) ++ ((⟨#[97, 98, 99, 100, 101, 102, 103, 104, 105, 106, 107, 108, 109, 110, 111, 112, 113, 114, 115, 116, 117, 118, 119, 120, 121, 122]⟩ : ByteArray).extract (ji6 : Int).toNat (IntKind.i64.wrap (ji6 + 1)).toNat)).size + ((⟨#[97, 98, 99, 100, 101, 102, 103, 104, 105, 106, 107, 108, 109, 110, 111, 112, 113, 114, 115, 116, 117, 118, 119, 120, 121, 122]⟩ : ByteArray).extract (ji11 : Int).toNat (IntKind.i64.wrap (ji11 + 1)).toNat).size) = False := eq_false (Nat.not_lt.2 c15)
  have add1 : ∀ w, (Op.stringOp .add ((⟨#[97, 98, 99, 100, 101, 102, 103, 104, 105, 106, 107, 108, 109, 110, 111, 112, 113, 114, 115, 116, 117, 118, 119, 120, 121, 122]⟩ : ByteArray).extract (ji2 : Int).toNat (IntKind.i64.wrap (ji2 + 1)).toNat) ((⟨#[97, 98, 99, 100, 101, 102, 103, 104, 105, 106, 107, 108, 109, 110, 111, 112, 113, 114, 115, 116, 117, 118, 119, 120, 121, 122]⟩ : ByteArray).extract (ji6 : Int).toNat (IntKind.i64.wrap (ji6 + 1)).toNat)).run Try.prog w = .ok (.string (((⟨#[97, 98, 99, 100, 101, 102, 103, 104, 105, 106, 107, 108, 109, 110, 111, 112, 113, 114, 115, 116, 117, 118, 119, 120, 121, 122]⟩ : ByteArray).extract (ji2 : Int).toNat (IntKind.i64.wrap (ji2 + 1)).toNat) ++ ((⟨#[97, 98, 99, 100, 101, 102, 103, 104, 105, 106, 107, 108, 109, 110, 111, 112, 113, 114, 115, 116, 117, 118, 119, 120, 121, 122]⟩ : ByteArray).extract (ji6 : Int).toNat (IntKind.i64.wrap (ji6 + 1)).toNat))) w := fun w => run_string_add_sum _ _ _ c10
  have add2 : ∀ w, (Op.stringOp .add (((⟨#[97, 98, 99, 100, 101, 102, 103, 104, 105, 106, 107, 108, 109, 110, 111, 112, 113, 114, 115, 116, 117, 118, 119, 120, 121, 122]⟩ : ByteArray).extract (ji2 : Int).toNat (IntKind.i64.wrap (ji2 + 1)).toNat) ++ ((⟨#[97, 98, 99, 100, 101, 102, 103, 104, 105, 106, 107, 108, 109, 110, 111, 112, 113, 114, 115, 116, 117, 118, 119, 120, 121, 122]⟩ : ByteArray).extract (ji6 : Int).toNat (IntKind.i64.wrap (ji6 + 1)).toNat)) ((⟨#[97, 98, 99, 100, 101, 102, 103, 104, 105, 106, 107, 108, 109, 110, 111, 112, 113, 114, 115, 116, 117, 118, 119, 120, 121, 122]⟩ : ByteArray).extract (ji11 : Int).toNat (IntKind.i64.wrap (ji11 + 1)).toNat)).run Try.prog w = .ok (.string ((((⟨#[97, 98, 99, 100, 101, 102, 103, 104, 105, 106, 107, 108, 109, 110, 111, 112, 113, 114, 115, 116, 117, 118, 119, 120, 121, 122]⟩ : ByteArray).extract (ji2 : Int).toNat (IntKind.i64.wrap (ji2 + 1)).toNat) ++ ((⟨#[97, 98, 99, 100, 101, 102, 103, 104, 105, 106, 107, 108, 109, 110, 111, 112, 113, 114, 115, 116, 117, 118, 119, 120, 121, 122]⟩ : ByteArray).extract (ji6 : Int).toNat (IntKind.i64.wrap (ji6 + 1)).toNat)) ++ ((⟨#[97, 98, 99, 100, 101, 102, 103, 104, 105, 106, 107, 108, 109, 110, 111, 112, 113, 114, 115, 116, 117, 118, 119, 120, 121, 122]⟩ : ByteArray).extract (ji11 : Int).toNat (IntKind.i64.wrap (ji11 + 1)).toNat))) w := fun w => run_string_add_sum _ _ _ c15
  clear c10b0 c10b1 c10b2 c15b0 c15b1 c15b2 c10 c15
  go_enter Try.func15, Try.ntmps15
  go_wp2
  go_quiet (fail)
  go_wp2
  go_ret
  exact ⟨by first | rfl | (simp; done) | (simp only [← hji2, ← hji6, ← hji11] <;> (first | rfl | simp)) | (simp [*]; done), by repeat (first | exact Drawn0.refl _ | apply Drawn0.step)⟩
theorem wr1 {j : Nat} (h : j < 26) : IntKind.i64.wrap ((j : Int) + 1) = ((j + 1 : Nat) : Int) := by rw [IntWalk.i64_in _ (by omega)]; omega
theorem name_calls (n : Nat) (w : World) (h : n ≤ 400) : Calls Try.prog 15 #[.int .i64 n] w fun e w' => e = .returned (.string (nm n)) ∧ ∃ q, w' = w.drewN q := by
  have e2 : Int.tmod (IntKind.i64.wrap (Int.tdiv (n : Int) 676)) 26 = ((n / 676 % 26 : Nat) : Int) := by
    rw [Int.tdiv_eq_ediv_of_nonneg (by omega)]
    have : IntKind.i64.wrap ((n : Int) / 676) = ((n / 676 : Nat) : Int) := by rw [IntWalk.i64_in _ (by omega)]; omega
    rw [this, Int.tmod_eq_emod_of_nonneg (by omega)]
    omega
  have e6 : Int.tmod (IntKind.i64.wrap (Int.tdiv (n : Int) 26)) 26 = ((n / 26 % 26 : Nat) : Int) := by
    rw [Int.tdiv_eq_ediv_of_nonneg (by omega)]
    have : IntKind.i64.wrap ((n : Int) / 26) = ((n / 26 : Nat) : Int) := by rw [IntWalk.i64_in _ (by omega)]; omega
    rw [this, Int.tmod_eq_emod_of_nonneg (by omega)]
    omega
  have e11 : Int.tmod (n : Int) 26 = ((n % 26 : Nat) : Int) := by
    rw [Int.tmod_eq_emod_of_nonneg (by omega)]
    omega
  have l2 : n / 676 % 26 < 26 := Nat.mod_lt _ (by omega)
  have l6 : n / 26 % 26 < 26 := Nat.mod_lt _ (by omega)
  have l11 : n % 26 < 26 := Nat.mod_lt _ (by omega)
  have hsz := (nm_ok h).1
  unfold nm at hsz ⊢
  generalize n / 676 % 26 = a at *
  generalize n / 26 % 26 = b at *
  generalize n % 26 = c at *
  rw [ByteArray.size_append, ByteArray.size_append] at hsz
  have hs2 : (letters.extract a (a + 1) ++ letters.extract b (b + 1)).size = (letters.extract a (a + 1)).size + (letters.extract b (b + 1)).size := ByteArray.size_append
  refine (name_walk n a b c w e2 e6 e11 (by omega) (by rw [wr1 l2]; omega) (by rw [wr1 l2]; omega) (by omega) (by rw [wr1 l6]; omega) (by rw [wr1 l6]; omega) (by omega) (by rw [wr1 l11]; omega) (by rw [wr1 l11]; omega) ?_ ?_).mono ?_
  · rw [wr1 l2, wr1 l6, Int.toNat_natCast, Int.toNat_natCast, Int.toNat_natCast, Int.toNat_natCast]
    show (letters.extract a (a + 1)).size + (letters.extract b (b + 1)).size ≤ _
    omega
  · rw [wr1 l2, wr1 l6, wr1 l11, Int.toNat_natCast, Int.toNat_natCast, Int.toNat_natCast, Int.toNat_natCast, Int.toNat_natCast, Int.toNat_natCast]
    show (letters.extract a (a + 1) ++ letters.extract b (b + 1)).size + (letters.extract c (c + 1)).size ≤ _
    omega
  · rintro e w' ⟨he, ⟨q, hq⟩⟩
    refine ⟨?_, q, hq⟩
    rw [wr1 l2, wr1 l6, wr1 l11, Int.toNat_natCast, Int.toNat_natCast, Int.toNat_natCast, Int.toNat_natCast, Int.toNat_natCast, Int.toNat_natCast] at he
    exact he
end Go.Proofs.Ytaefbibkkkglnaa.Wh
/- Wheel's laws: few, texts, filled. No condition. -/
namespace Go.Proofs.Ytaefbibkkkglnaa.Wh
open Go Go.RowKit Go.Proofs.YtaefbibkkkglnaaW.PrintWords Go.Proofs.Ytaefbibkkkglnaa.Mp Go.Proofs.Ytaefbibkkkglnaa.Fr
set_option linter.unusedVariables false
set_option linter.unusedSimpArgs false

theorem few_calls (A : Option Addr) (n c : Nat) (w : World) (hn : n ≤ c) (hl : n ≤ 4611686018427387904) :
    Calls Try.prog 11 #[.slice A n c] w fun e w' => e = .returned (.slice A (min n 400) c) ∧ w = w' := by
  by_cases h : 400 < n
  · have hm : min n 400 = 400 := by omega
    rw [hm]
    have hd : decide (400 < n) = true := by simpa using h
    go_enter Try.func11, Try.ntmps11
    go_wp2
    go_ret
    exact ⟨rfl, rfl⟩
  · have hm : min n 400 = n := by omega
    rw [hm]
    have hd : decide (400 < n) = false := by simpa using h
    go_enter Try.func11, Try.ntmps11
    go_wp2
    go_ret
    exact ⟨rfl, rfl⟩

theorem at_S {w : World} {A : Option Addr} {xs : List ByteArray} (h : Kd.C Kd.string w A xs.length xs) (i : Nat) (hi : i < xs.length) : ∃ ad, A = some ad ∧ w.cell? (ad.add i) = some (.string xs[i]) := by
  obtain ⟨ad, c, e, hc, hK, hcell⟩ := Kd.C_get h xs[i] (i : Int) (by omega) (by omega)
  refine ⟨ad, e, ?_⟩
  have hg : xs.getD (i : Int).toNat xs[i] = xs[i] := by
    rw [Int.toNat_natCast, List.getD_eq_getElem?_getD, List.getElem?_eq_getElem hi]
    rfl
  rw [hg] at hK
  have hK' : c = [.string xs[i]] := hK
  have := hcell 0 _ (by rw [hK']; rfl)
  rw [Int.toNat_natCast] at this
  simpa [Kd.string, Kd.scalar] using this
theorem at_I {w : World} {A : Option Addr} {xs : List Int} (h : Kd.C (Kd.int .i64) w A xs.length xs) (i : Nat) (hi : i < xs.length) : ∃ ad, A = some ad ∧ w.cell? (ad.add i) = some (.int .i64 xs[i]) := by
  obtain ⟨ad, c, e, hc, hK, hcell⟩ := Kd.C_get h xs[i] (i : Int) (by omega) (by omega)
  refine ⟨ad, e, ?_⟩
  have hg : xs.getD (i : Int).toNat xs[i] = xs[i] := by
    rw [Int.toNat_natCast, List.getD_eq_getElem?_getD, List.getElem?_eq_getElem hi]
    rfl
  rw [hg] at hK
  have hK' : c = [.int .i64 xs[i]] := hK
  have := hcell 0 _ (by rw [hK']; rfl)
  rw [Int.toNat_natCast] at this
  simpa [Kd.int, Kd.scalar] using this

/-- texts: two lists that read alike. -/
theorem texts_calls (A B : Option Addr) (c d : Nat) (xs : List ByteArray) (w : World) (ha : Kd.C Kd.string w A xs.length xs) (hb : Kd.C Kd.string w B xs.length xs) (hc : xs.length ≤ c) (hd : xs.length ≤ d) (hl : xs.length < 4611686018427387904) :
    Calls Try.prog 16 #[.slice A xs.length c, .slice B xs.length d] w fun e w' => e = .returned (.bool true) ∧ ∃ q, w' = w.drewN q := by
  have HA := Aside0.mk ha
  have HB := Aside0.mk hb
  clear ha hb
  go_enter Try.func16, Try.ntmps16
  go_wp2_with fail
  go_loopg [5] xs.length (fun g v5 wx => ∃ i : Nat, i ≤ xs.length ∧ g = xs.length - i ∧ v5 = .int .i64 i ∧ Aside0 (∃ q, wx = w.drewN q))
  case atStart => exact ⟨0, by omega, rfl, rfl, ⟨0, rfl⟩⟩
  case round =>
    obtain ⟨i, hi, rfl, rfl, HW⟩ := hrel
    by_cases h : i < xs.length
    · obtain ⟨q, rfl⟩ := HW.out
      obtain ⟨ad, rfl, c1⟩ := at_S HA.out i h
      obtain ⟨bd, rfl, c2⟩ := at_S HB.out i h
      have i0 : (0 : Int) ≤ (i : Int) := by omega
      have i1 : (i : Int) < (xs.length : Int) := by omega
      have e1 : (xs[i].toList == xs[i].toList) = true := by simp
      have e2 : (xs[i].toList != xs[i].toList) = false := by simp
      generalize xs[i] = x at *
      go_wp2_with fail
      (try go_quiet (fail))
      (try go_wp2_with fail)
      go_roundg (xs.length - (i + 1))
      case measure => omega
      case rel => exact ⟨i + 1, by omega, rfl, by go_num, ⟨_, rfl⟩⟩
    · obtain rfl : i = xs.length := by omega
      go_wp2_with fail
      go_ret
      exact ⟨rfl, HW.out⟩
end Go.Proofs.Ytaefbibkkkglnaa.Wh
/- Wheel: Advance over the sorted list; filled. No condition. -/
namespace Go.Proofs.Ytaefbibkkkglnaa.Wh
open Go Go.RowKit Go.Proofs.YtaefbibkkkglnaaW.PrintWords Go.Proofs.Ytaefbibkkkglnaa.Mp Go.Proofs.Ytaefbibkkkglnaa.Fr
set_option linter.unusedVariables false
set_option linter.unusedSimpArgs false

theorem add_blk (a : Addr) (n : Nat) : (a.add n).block = a.block := by unfold Addr.add; split <;> rfl
def toldF (t : Int) (l : List E) : List E := l.filter fun e => decide (e.2 ≤ t)
def leftF (t : Int) (l : List E) : List E := l.filter fun e => decide (t < e.2)
theorem gone_ent (t : Int) (F : List Node) : (gone t F).map ent = toldF t (F.map ent) := by
  unfold gone toldF
  rw [List.filter_map]
  rfl
theorem kept_ent (t : Int) (F : List Node) : (kept t F).map ent = leftF t (F.map ent) := by
  unfold kept leftF
  rw [List.filter_map]
  rfl
section
variable {w w' : World} {O : Nat → Prop} {p : Nat} {now : Int} {l : List E}
theorem advance_calls (h : Whl w O p now l) (t : Int) (ht0 : 0 ≤ t) (ht1 : t ≤ 1099511627776) (hnt : now ≤ t) :
    Calls Try.prog 14 #[.pointer (some ⟨p, 0, none⟩), .int .i64 t] w fun e w' =>
      ∃ v, e = .returned (.tuple #[v, .int .i64 0]) ∧ Kd.string.R 9 w' w.heap.size (fun _ => True) v ((toldF t l).map Prod.fst) ∧ Whl w' O p t (leftF t l) ∧ Only O w w' := by
  obtain ⟨⟨m, S, h1, h2, h3⟩, a1, a2, a3, a4, a5, a6⟩ := h
  have hnl : (nodes S).length ≤ 4096 := by
    have := h3.length_eq
    simp at this
    omega
  refine (adv_main t h1 h2 a6 a1 a2 ht0 ht1 hnt hnl).mono ?_
  rintro e w' ⟨v, D, rfl, hR, hp, hs, ⟨S', r1, r2, r3⟩, hO⟩
  have e1 : D.map ent = toldF t l := by
    refine sorted_ext hs (a3.sublist List.filter_sublist) ?_
    refine (hp.map ent).trans ?_
    rw [gone_ent]
    exact (h3.filter _).symm
  refine ⟨v, rfl, ?_, ⟨⟨m, S', r1, r2, ?_⟩, ht0, ht1, a3.sublist List.filter_sublist, fun e he => a4 e (List.mem_filter.1 he).1, Nat.le_trans (List.length_filter_le _ _) a5, fun b hb => Nat.lt_of_lt_of_le (a6 b hb) hO.size⟩, hO⟩
  · rw [← e1, List.map_map]
    exact hR
  · refine List.Perm.trans ?_ (r3.map ent).symm
    rw [kept_ent]
    exact h3.filter _
end

/-! ### filled -/
def farT (now : Int) (fs : List Int) (i : Nat) : Int := now + 1 + winF (fs.getD i 0) 0 549755813888
def fillL (now : Int) (fs : List Int) : Nat → List E
  | 0 => []
  | k + 1 => putF (nm k, farT now fs k) (fillL now fs k)
theorem fillL_perm (now : Int) (fs : List Int) (k : Nat) : (fillL now fs k).Perm ((List.range k).map fun i => (nm i, farT now fs i)) := by
  induction k with
  | zero => exact List.Perm.refl _
  | succ k ih =>
    rw [List.range_succ, List.map_append]
    refine (putF_perm _ _).trans ?_
    refine (ih.cons _).trans ?_
    exact (List.perm_append_singleton _ _).symm
theorem fillL_len (now : Int) (fs : List Int) (k : Nat) : (fillL now fs k).length = k := by
  rw [(fillL_perm now fs k).length_eq]
  simp
theorem fillL_has {now : Int} {fs : List Int} {k : Nat} (hk : k ≤ 400) : hasB (fillL now fs k) (nm k) = false := by
  rw [Bool.eq_false_iff]
  intro h
  have h1 := hasB_iff.1 h
  have h2 := ((fillL_perm now fs k).map Prod.fst).mem_iff.1 h1
  rw [List.map_map] at h2
  obtain ⟨i, hi, e⟩ := List.mem_map.1 h2
  have := List.mem_range.1 hi
  have := nm_inj (a := i) (b := k) (by omega) hk e
  omega
theorem fill_add {now : Int} {fs : List Int} {k : Nat} (h0 : 0 ≤ now) (h1 : now ≤ 549755813887) (hk : k < 400) (hfs : ∀ x ∈ fs, -9223372036854775808 ≤ x ∧ x ≤ 9223372036854775807) (hlt : k < fs.length) :
    addE now (fillL now fs k) (nm k) (farT now fs k) = 0 ∧ addL now (fillL now fs k) (nm k) (farT now fs k) = fillL now fs (k + 1) := by
  have hm : fs.getD k 0 ∈ fs := by
    rw [List.getD_eq_getElem?_getD, List.getElem?_eq_getElem hlt]
    exact List.getElem_mem hlt
  obtain ⟨q0, q1⟩ := hfs _ hm
  have hb := winF_bd (lo := 0) (hi := 549755813888) q0 q1 (by omega)
  have ht : timeE now (farT now fs k) = 0 := by
    unfold timeE farT
    rw [if_pos (by omega), if_neg (by omega)]
  have : addE now (fillL now fs k) (nm k) (farT now fs k) = 0 := by
    unfold addE
    rw [if_pos (nm_good (by omega)), if_neg (by rw [fillL_has (by omega)]; simp), if_pos ht, if_neg (by rw [fillL_len]; omega)]
  refine ⟨this, ?_⟩
  unfold addL
  rw [if_pos this]
  rfl

/-- What stands of a wheel that filled made. -/
def Filled (w : World) (now : Int) (l : List E) (e : Ending) (w' : World) : Prop :=
  ∃ p O, e = .returned (.pointer (some ⟨p, 0, none⟩)) ∧ Whl w' O p now l ∧ (∀ b, O b → w.heap.size ≤ b) ∧ Below w.heap.size w w'
theorem i64_far {now : Int} {fs : List Int} {k : Nat} (h0 : 0 ≤ now) (h1 : now ≤ 549755813887) (hfs : ∀ x ∈ fs, -9223372036854775808 ≤ x ∧ x ≤ 9223372036854775807) (hlt : k < fs.length) :
    IntKind.i64.wrap (now + 1) = now + 1 ∧ IntKind.i64.wrap (now + 1 + winF fs[k] 0 549755813888) = farT now fs k := by
  obtain ⟨q0, q1⟩ := hfs _ (List.getElem_mem hlt)
  have hb := winF_bd (lo := 0) (hi := 549755813888) q0 q1 (by omega)
  refine ⟨IntWalk.i64_in _ (by omega), ?_⟩
  rw [IntWalk.i64_in _ (by omega)]
  unfold farT
  rw [List.getD_eq_getElem?_getD, List.getElem?_eq_getElem hlt]
  rfl
set_option maxHeartbeats 1000000 in
theorem filled_calls (now : Int) (A : Option Addr) (c : Nat) (fs : List Int) (w : World) (h0 : 0 ≤ now) (h1 : now ≤ 549755813887) (hfs : ∀ x ∈ fs, -9223372036854775808 ≤ x ∧ x ≤ 9223372036854775807) (hC : Kd.C (Kd.int .i64) w A fs.length fs) (hl : fs.length ≤ 400) (hc : fs.length ≤ c) :
    Calls Try.prog 12 #[.int .i64 now, .slice A fs.length c] w (Filled w now (fillL now fs fs.length)) := by
  have HC := Aside0.mk hC
  have HF := Aside0.mk hfs
  clear hC
  go_enter Try.func12, Try.ntmps12
  go_wp2_with fail
  refine (new_calls now _ h0 (by omega)).mono ?_
  rintro e w1 ⟨rfl, hW, hB⟩
  have HW := Aside0.mk hW
  have HB := Aside0.mk hB
  clear hW hB
  go_wp2_with fail
  go_loopg [7, 8] fs.length (fun g v7 v8 wx => ∃ i : Nat, g = fs.length - i ∧ i ≤ fs.length ∧ v7 = .int .i64 i ∧ Aside0 (∃ O, Whl wx O (w.heap.size + 1) now (fillL now fs i) ∧ (∀ b, O b → w.heap.size ≤ b)) ∧ Aside0 (Below w.heap.size w wx))
  case atStart => exact ⟨0, rfl, by omega, rfl, ⟨_, HW.out, fun b hb => hb.1⟩, HB⟩
  case round =>
    obtain ⟨i, rfl, hi, rfl, HX, HBX⟩ := hrel
    by_cases h : i < fs.length
    · obtain ⟨O, hWx, hO⟩ := HX.out
      have hCx := Kd.C_below HC.out HBX.out
      obtain ⟨ad, rfl, c1⟩ := at_I hCx i h
      have hbl : ad.block < w.heap.size := by
        obtain ⟨ad', e', c'⟩ := at_I HC.out i h
        injection e' with e'
        subst e'
        exact add_blk _ i ▸ World.block_lt_of_cell? _ _ c'
      have i0 : (0 : Int) ≤ (i : Int) := by omega
      have i1 : (i : Int) < (fs.length : Int) := by omega
      obtain ⟨e1, e2⟩ := i64_far h0 h1 hfs h
      obtain ⟨q0, q1⟩ := hfs _ (List.getElem_mem h)
      have hadd := fill_add (fs := fs) (k := i) h0 h1 (by omega) hfs h
      generalize fs[i] = x at *
      generalize hT : farT now fs i = T at *
      have HA := Aside0.mk hadd
      have HWX := Aside0.mk hWx
      have HOO := Aside0.mk hO
      clear hadd hWx hO hCx hfs HX
      go_wp2_with fail
      go_region_held3 (fun w' => w'.cell? (ad.add i) = some (.int .i64 x)) (go_keep) (first
        | (go_at_call 15; refine (name_calls i _ (by omega)).mono ?_; rintro e w2 ⟨rfl, n1, rfl⟩)
        | (go_at_call 10; refine (within_calls x 0 549755813888 _ q0 q1 (by omega) (by omega) (by omega)).mono ?_; rintro e w3 ⟨rfl, rfl⟩)
        | (go_at_call 26; refine (add_calls (HWX.out.drewN _) (nm i) T (by rw [(nm_ok (n := i) (by omega)).1]; omega)).mono ?_; rintro e w4 ⟨rfl, O4, hW4, hO4, ho4⟩; have c4 : w4.cell? (ad.add i) = some (.int .i64 x) := ho4.cell c1 (fun hb => by have hz := HOO.out _ hb; rw [add_blk] at hz; omega); have H4 := Aside0.mk (And.intro hW4 (And.intro hO4 ho4)); clear hW4 hO4 ho4))
      obtain ⟨hA1, hA2⟩ := HA.out
      rw [hA1]
      obtain ⟨hW4, hO4, ho4⟩ := H4.out
      rw [hA2] at hW4
      have HW4 := Aside0.mk hW4
      have HO4 := Aside0.mk hO4
      have Ho4 := Aside0.mk ho4
      clear hW4 hO4 ho4 hA1 hA2 c4
      go_wp2_with fail
      go_roundg (fs.length - (i + 1))
      case measure => omega
      case rel => exact ⟨i + 1, rfl, by omega, by go_num, ⟨O4, HW4.out, fun b hb => (HO4.out b hb).elim (HOO.out b) (fun q => Nat.le_trans HBX.out.size q)⟩, ⟨Ho4.out.below_of (pw_below_drewN HBX.out _) HBX.out.size (fun k hk hb => by have := HOO.out k hb; omega)⟩⟩
    · obtain rfl : i = fs.length := by omega
      go_wp2_with fail
      go_ret
      obtain ⟨O, hWx, hO⟩ := HX.out
      exact ⟨_, O, rfl, hWx, hO, HBX.out⟩
end Go.Proofs.Ytaefbibkkkglnaa.Wh
/- Wheel's laws: lists of what is told; words for what a step leaves. No condition. -/
namespace Go.Proofs.Ytaefbibkkkglnaa.Wh
open Go Go.RowKit Go.Proofs.YtaefbibkkkglnaaW.PrintWords Go.Proofs.Ytaefbibkkkglnaa.Mp Go.Proofs.Ytaefbibkkkglnaa.Fr
set_option linter.unusedVariables false
set_option linter.unusedSimpArgs false

theorem fillL_late {now : Int} {fs : List Int} {k : Nat} (hk : k ≤ fs.length) (hfs : ∀ x ∈ fs, -9223372036854775808 ≤ x ∧ x ≤ 9223372036854775807) : ∀ e ∈ fillL now fs k, now < e.2 ∧ e.2 ≤ now + 1 + 549755813888 := fun e he => by
  obtain ⟨i, hi, rfl⟩ := List.mem_map.1 ((fillL_perm now fs k).mem_iff.1 he)
  have hik := List.mem_range.1 hi
  have hm : fs.getD i 0 ∈ fs := by
    rw [List.getD_eq_getElem?_getD, List.getElem?_eq_getElem (by omega)]
    exact List.getElem_mem (by omega)
  obtain ⟨q0, q1⟩ := hfs _ hm
  have hb := winF_bd (lo := 0) (hi := 549755813888) q0 q1 (by omega)
  show now < farT now fs i ∧ farT now fs i ≤ _
  unfold farT
  omega
theorem told_none {t : Int} {l : List E} (h : ∀ e ∈ l, t < e.2) : toldF t l = [] := by
  unfold toldF
  rw [List.filter_eq_nil_iff]
  intro e he
  have := h e he
  simp
  omega
theorem left_all {t : Int} {l : List E} (h : ∀ e ∈ l, t < e.2) : leftF t l = l := by
  unfold leftF
  rw [List.filter_eq_self]
  intro e he
  have := h e he
  simpa using this
theorem left_step {a b : Int} (h : a ≤ b) (l : List E) : leftF b (leftF a l) = leftF b l := by
  unfold leftF
  rw [List.filter_filter]
  refine List.filter_congr fun e _ => ?_
  rw [Bool.eq_iff_iff]
  simp
  omega
theorem told_step {a b : Int} (h : a ≤ b) : ∀ {l : List E}, Sorted l → toldF a l ++ toldF b (leftF a l) = toldF b l
  | [], _ => rfl
  | e :: l, hs => by
    obtain ⟨h1, h2⟩ := List.pairwise_cons.1 hs
    have ih := told_step h h2
    unfold toldF leftF at *
    by_cases ha : e.2 ≤ a
    · have hb : e.2 ≤ b := by omega
      rw [List.filter_cons_of_pos (by simpa using ha), List.filter_cons_of_neg (p := fun e : E => decide (a < e.2)) (by simp; omega), List.filter_cons_of_pos (p := fun e : E => decide (e.2 ≤ b)) (by simpa using hb), List.cons_append, ih]
    · have hn : (l.filter fun e : E => decide (e.2 ≤ a)) = [] := by
        rw [List.filter_eq_nil_iff]
        intro f hf
        have := h1 f hf
        unfold lt at this
        simp at this
        simp
        omega
      rw [hn] at ih
      rw [List.filter_cons_of_neg (by simpa using ha), hn, List.filter_cons_of_pos (p := fun e : E => decide (a < e.2)) (by simp; omega)]
      rw [List.nil_append] at ih ⊢
      by_cases hb : e.2 ≤ b
      · rw [List.filter_cons_of_pos (by simpa using hb), List.filter_cons_of_pos (by simpa using hb), ih]
      · rw [List.filter_cons_of_neg (by simpa using hb), List.filter_cons_of_neg (by simpa using hb), ih]

theorem infoS2 : (Try.prog.info? 9).map (fun i => (i.zero, i.size, i.bytes)) = some (some (.string ⟨#[]⟩), 1, 16) := by kernel_rfl
section
variable {w w' : World} {O S : Nat → Prop} {p : Nat} {now : Int} {l : List E} {v : Value} {xs : List ByteArray} {base : Nat} {ok : Nat → Prop}
/-- A list of strings past a step that touches what lies lower only. -/
theorem R_over (h : Kd.string.R 9 w base ok v xs) (k : Only S w w') (hS : ∀ b, S b → b < base) : Kd.string.R 9 w' base ok v xs :=
  Kd.R_mono (Kd.R_step (ok := fun b => ok b ∧ base ≤ b) (Kd.R_mono (Kd.R_bound h) (fun b hb => ⟨hb.1, hb.2.1⟩)) (fun b ho hl => k.block b hl (fun hs => by have := hS b hs; omega))) (fun _ ho => ho.1)
theorem R_base {base' : Nat} (h : Kd.string.R 9 w base ok v xs) (hb : base' ≤ base) : Kd.string.R 9 w base' ok v xs := Kd.R_lower h hb
theorem Only.apart {S' : Nat → Prop} (h : Only S w w') (k : ∀ b, b < w.heap.size → S b → S' b) : Only S' w w' := h.mono k
end
end Go.Proofs.Ytaefbibkkkglnaa.Wh
/- Equality of seven ints. No condition. -/
namespace Go.Proofs.Ytaefbibkkkglnaa.Wh
open Go Go.RowKit Go.Proofs.YtaefbibkkkglnaaW.PrintWords
set_option linter.unusedVariables false
set_option linter.unusedSimpArgs false
section
variable (w : World) (a0 a1 a2 a3 a4 a5 a6 : Int)
theorem part7_0 : (part 3 #[.int .i64 a0, .int .i64 a1, .int .i64 a2, .int .i64 a3, .int .i64 a4, .int .i64 a5, .int .i64 a6] 0).run Try.prog w = .ok (.int .i64 a0) w := by kernel_rfl
theorem part7_1 : (part 3 #[.int .i64 a0, .int .i64 a1, .int .i64 a2, .int .i64 a3, .int .i64 a4, .int .i64 a5, .int .i64 a6] 1).run Try.prog w = .ok (.int .i64 a1) w := by kernel_rfl
theorem part7_2 : (part 3 #[.int .i64 a0, .int .i64 a1, .int .i64 a2, .int .i64 a3, .int .i64 a4, .int .i64 a5, .int .i64 a6] 2).run Try.prog w = .ok (.int .i64 a2) w := by kernel_rfl
theorem part7_3 : (part 3 #[.int .i64 a0, .int .i64 a1, .int .i64 a2, .int .i64 a3, .int .i64 a4, .int .i64 a5, .int .i64 a6] 3).run Try.prog w = .ok (.int .i64 a3) w := by kernel_rfl
theorem part7_4 : (part 3 #[.int .i64 a0, .int .i64 a1, .int .i64 a2, .int .i64 a3, .int .i64 a4, .int .i64 a5, .int .i64 a6] 4).run Try.prog w = .ok (.int .i64 a4) w := by kernel_rfl
theorem part7_5 : (part 3 #[.int .i64 a0, .int .i64 a1, .int .i64 a2, .int .i64 a3, .int .i64 a4, .int .i64 a5, .int .i64 a6] 5).run Try.prog w = .ok (.int .i64 a5) w := by kernel_rfl
theorem part7_6 : (part 3 #[.int .i64 a0, .int .i64 a1, .int .i64 a2, .int .i64 a3, .int .i64 a4, .int .i64 a5, .int .i64 a6] 6).run Try.prog w = .ok (.int .i64 a6) w := by kernel_rfl
end
theorem size_i (w : World) : (sizeOf 3).run Try.prog w = .ok 1 w := by kernel_rfl
theorem eq7d (d : Nat) (w : World) (a0 a1 a2 a3 a4 a5 a6 b0 b1 b2 b3 b4 b5 b6 : Int) (he : ∀ (a b : Int) (w : World), (Op.equalIn d 3 (.int .i64 a) (.int .i64 b)).run Try.prog w = .ok (a == b) w) :
    (Op.equalIn (d + 1) 36 (.agg #[.int .i64 a0, .int .i64 a1, .int .i64 a2, .int .i64 a3, .int .i64 a4, .int .i64 a5, .int .i64 a6]) (.agg #[.int .i64 b0, .int .i64 b1, .int .i64 b2, .int .i64 b3, .int .i64 b4, .int .i64 b5, .int .i64 b6])).run Try.prog w = .ok (a0 == b0 && (a1 == b1 && (a2 == b2 && (a3 == b3 && (a4 == b4 && (a5 == b5 && a6 == b6)))))) w := by
  have pa0 := fun w => part7_0 w a0 a1 a2 a3 a4 a5 a6
  have pa1 := fun w => part7_1 w a0 a1 a2 a3 a4 a5 a6
  have pa2 := fun w => part7_2 w a0 a1 a2 a3 a4 a5 a6
  have pa3 := fun w => part7_3 w a0 a1 a2 a3 a4 a5 a6
  have pa4 := fun w => part7_4 w a0 a1 a2 a3 a4 a5 a6
  have pa5 := fun w => part7_5 w a0 a1 a2 a3 a4 a5 a6
  have pa6 := fun w => part7_6 w a0 a1 a2 a3 a4 a5 a6
  have pb0 := fun w => part7_0 w b0 b1 b2 b3 b4 b5 b6
  have pb1 := fun w => part7_1 w b0 b1 b2 b3 b4 b5 b6
  have pb2 := fun w => part7_2 w b0 b1 b2 b3 b4 b5 b6
  have pb3 := fun w => part7_3 w b0 b1 b2 b3 b4 b5 b6
  have pb4 := fun w => part7_4 w b0 b1 b2 b3 b4 b5 b6
  have pb5 := fun w => part7_5 w b0 b1 b2 b3 b4 b5 b6
  have pb6 := fun w => part7_6 w b0 b1 b2 b3 b4 b5 b6
  have hs := size_i w
  simp only [Op.equalIn, Sem.run_bind, run_underlying Try.underlying36, Result.andThen_ok, hs]
  rw [Std.Legacy.Range.forIn_eq_forIn_range']
  rw [show List.range' ([:7] : Std.Legacy.Range).start ([:7] : Std.Legacy.Range).size ([:7] : Std.Legacy.Range).step = [0, 1, 2, 3, 4, 5, 6] from rfl]
  simp only [List.forIn_cons, List.forIn_nil, Sem.run_bind, Sem.run_ite, Sem.run_pure, Result.andThen_ok, Nat.zero_mul, Nat.mul_one, pa0, pb0, pa1, pb1, pa2, pb2, pa3, pb3, pa4, pb4, pa5, pb5, pa6, pb6, he]
  cases a0 == b0
  · rfl
  simp only [Bool.not_true, Bool.false_eq_true, if_false, Bool.true_and, Sem.run_pure, Result.andThen_ok, Sem.run_bind, Sem.run_ite, pa0, pb0, pa1, pb1, pa2, pb2, pa3, pb3, pa4, pb4, pa5, pb5, pa6, pb6, he]
  cases a1 == b1
  · rfl
  simp only [Bool.not_true, Bool.false_eq_true, if_false, Bool.true_and, Sem.run_pure, Result.andThen_ok, Sem.run_bind, Sem.run_ite, pa0, pb0, pa1, pb1, pa2, pb2, pa3, pb3, pa4, pb4, pa5, pb5, pa6, pb6, he]
  cases a2 == b2
  · rfl
  simp only [Bool.not_true, Bool.false_eq_true, if_false, Bool.true_and, Sem.run_pure, Result.andThen_ok, Sem.run_bind, Sem.run_ite, pa0, pb0, pa1, pb1, pa2, pb2, pa3, pb3, pa4, pb4, pa5, pb5, pa6, pb6, he]
  cases a3 == b3
  · rfl
  simp only [Bool.not_true, Bool.false_eq_true, if_false, Bool.true_and, Sem.run_pure, Result.andThen_ok, Sem.run_bind, Sem.run_ite, pa0, pb0, pa1, pb1, pa2, pb2, pa3, pb3, pa4, pb4, pa5, pb5, pa6, pb6, he]
  cases a4 == b4
  · rfl
  simp only [Bool.not_true, Bool.false_eq_true, if_false, Bool.true_and, Sem.run_pure, Result.andThen_ok, Sem.run_bind, Sem.run_ite, pa0, pb0, pa1, pb1, pa2, pb2, pa3, pb3, pa4, pb4, pa5, pb5, pa6, pb6, he]
  cases a5 == b5
  · rfl
  simp only [Bool.not_true, Bool.false_eq_true, if_false, Bool.true_and, Sem.run_pure, Result.andThen_ok, Sem.run_bind, Sem.run_ite, pa0, pb0, pa1, pb1, pa2, pb2, pa3, pb3, pa4, pb4, pa5, pb5, pa6, pb6, he]
  cases a6 == b6
  · rfl
  simp only [Bool.not_true, Bool.false_eq_true, if_false, Bool.true_and, Sem.run_pure, Result.andThen_ok, Sem.run_bind, Sem.run_ite, pa0, pb0, pa1, pb1, pa2, pb2, pa3, pb3, pa4, pb4, pa5, pb5, pa6, pb6, he]
theorem eq7 (w : World) (a0 a1 a2 a3 a4 a5 a6 b0 b1 b2 b3 b4 b5 b6 : Int) :
    (Op.equalIn 10000 36 (.agg #[.int .i64 a0, .int .i64 a1, .int .i64 a2, .int .i64 a3, .int .i64 a4, .int .i64 a5, .int .i64 a6]) (.agg #[.int .i64 b0, .int .i64 b1, .int .i64 b2, .int .i64 b3, .int .i64 b4, .int .i64 b5, .int .i64 b6])).run Try.prog w = .ok (a0 == b0 && (a1 == b1 && (a2 == b2 && (a3 == b3 && (a4 == b4 && (a5 == b5 && a6 == b6)))))) w :=
  eq7d 9999 w _ _ _ _ _ _ _ _ _ _ _ _ _ _ (fun a b w => run_equalIn_int w 9998 3 .i64 .i64 a b Try.underlying3)
theorem eq7_same (c : Nat → Nat) (w : World) : (Op.equalIn 10000 36 (sprV c) (sprV c)).run Try.prog w = .ok true w := by
  unfold sprV
  rw [eq7]
  simp
end Go.Proofs.Ytaefbibkkkglnaa.Wh
/- Wheel: Remove, Change, At for every name and time. Two wheels side by side. No condition. -/
namespace Go.Proofs.Ytaefbibkkkglnaa.Wh
open Go Go.RowKit Go.Proofs.YtaefbibkkkglnaaW.PrintWords Go.Proofs.Ytaefbibkkkglnaa.Mp Go.Proofs.Ytaefbibkkkglnaa.Fr
set_option linter.unusedVariables false
set_option linter.unusedSimpArgs false
def removeL (l : List E) (id : ByteArray) : List E := if findE l id = 0 then cutF id l else l
def changeL (now : Int) (l : List E) (id : ByteArray) (t : Int) : List E := if changeE now l id t = 0 then putF (id, t) (cutF id l) else l
def atV (l : List E) (id : ByteArray) : Int := if findE l id = 0 then timeOf l id else 0
section
variable {w w' : World} {O : Nat → Prop} {p : Nat} {now : Int} {l : List E}
theorem find_none (h : Whl w O p now l) (id : ByteArray) (hs : id.size < 4611686018427387904) (hv : findE l id ≠ 0) :
    Calls Try.prog 40 #[.pointer (some ⟨p, 0, none⟩), .string id] w fun e w' => e = .returned (.tuple #[.pointer none, .int .i64 (findE l id)]) ∧ ∃ n, w' = w.drewN n := by
  by_cases hn : nameB id = true
  · by_cases hx : hasB l id = true
    · exfalso
      apply hv
      unfold findE
      rw [if_pos hn, if_pos hx]
    · obtain ⟨⟨m, S, h1, h2, h3⟩, a1, a2, a3, a4, a5, a6⟩ := h
      obtain ⟨es, he, hp⟩ := h1.names
      have hxs : id ∉ es.map Prod.fst := fun q => hx (hasB_iff.2 ((ids_iff hp h3 id).1 q))
      have e : findE l id = 7 := by unfold findE; rw [if_pos hn, if_neg hx]
      rw [e]
      exact find_out id w hs hn h1.head.map he hxs
  · have e : findE l id = 111 := by unfold findE; rw [if_neg hn]
    rw [e]
    exact find_bad p id w hs (by simpa using hn)
theorem find_zero {id : ByteArray} (h : findE l id = 0) : nameB id = true ∧ hasB l id = true := by
  unfold findE at h
  split at h
  · split at h
    · exact ⟨‹_›, ‹_›⟩
    · cases h
  · cases h
theorem remove_calls (h : Whl w O p now l) (id : ByteArray) (hs : id.size < 4611686018427387904) :
    Calls Try.prog 22 #[.pointer (some ⟨p, 0, none⟩), .string id] w fun e w' => e = .returned (.int .i64 (findE l id)) ∧ After w O p now (removeL l id) w' := by
  unfold removeL
  by_cases hv : findE l id = 0
  · rw [if_pos hv, hv]
    exact remove_ok h id hs (find_zero hv).1 (find_zero hv).2
  · rw [if_neg hv]
    refine (remove_bad p id (findE l id) w (by rw [bne_iff_ne]; exact hv) (find_none h id hs hv)).mono ?_
    rintro e w' ⟨rfl, n, rfl⟩
    exact ⟨rfl, h.same n⟩
theorem change_calls (h : Whl w O p now l) (id : ByteArray) (t : Int) (hs : id.size < 4611686018427387904) :
    Calls Try.prog 21 #[.pointer (some ⟨p, 0, none⟩), .string id, .int .i64 t] w fun e w' => e = .returned (.int .i64 (changeE now l id t)) ∧ After w O p now (changeL now l id t) w' := by
  unfold changeL
  by_cases hv : findE l id = 0
  · by_cases ht : timeE now t = 0
    · have e : changeE now l id t = 0 := by unfold changeE; rw [if_pos hv]; exact ht
      rw [if_pos e, e]
      exact change_ok h id t hs (find_zero hv).1 (find_zero hv).2 ht
    · have e : changeE now l id t = timeE now t := by unfold changeE; rw [if_pos hv]
      rw [if_neg (by rw [e]; exact ht), e]
      refine (change_late h id t hs (find_zero hv).1 (find_zero hv).2 ht).mono ?_
      rintro e w' ⟨rfl, n, rfl⟩
      exact ⟨rfl, h.same n⟩
  · have e : changeE now l id t = findE l id := by unfold changeE; rw [if_neg hv]
    rw [if_neg (by rw [e]; exact hv), e]
    refine (change_bad p id t (findE l id) w (by rw [bne_iff_ne]; exact hv) (find_none h id hs hv)).mono ?_
    rintro e w' ⟨rfl, n, rfl⟩
    exact ⟨rfl, h.same n⟩
theorem at_calls (h : Whl w O p now l) (id : ByteArray) (hs : id.size < 4611686018427387904) :
    Calls Try.prog 23 #[.pointer (some ⟨p, 0, none⟩), .string id] w fun e w' => e = .returned (.tuple #[.int .i64 (atV l id), .int .i64 (findE l id)]) ∧ ∃ n, w' = w.drewN n := by
  unfold atV
  by_cases hv : findE l id = 0
  · rw [if_pos hv, hv]
    exact at_ok h id hs (find_zero hv).1 (find_zero hv).2
  · rw [if_neg hv]
    exact at_bad p id (findE l id) w (by rw [bne_iff_ne]; exact hv) (find_none h id hs hv)
end

/-- Two wheels side by side, both made since w0. -/
def Two (w0 w : World) (p1 : Nat) (t1 : Int) (l1 : List E) (p2 : Nat) (t2 : Int) (l2 : List E) : Prop :=
  ∃ O1 O2, Whl w O1 p1 t1 l1 ∧ Whl w O2 p2 t2 l2 ∧ (∀ b, O1 b → ¬ O2 b) ∧ (∀ b, O1 b → w0.heap.size ≤ b) ∧ (∀ b, O2 b → w0.heap.size ≤ b) ∧ Below w0.heap.size w0 w
section
variable {w0 w w' : World} {p1 p2 : Nat} {t1 t2 : Int} {l1 l2 : List E}
theorem Two.swap (h : Two w0 w p1 t1 l1 p2 t2 l2) : Two w0 w p2 t2 l2 p1 t1 l1 := by
  obtain ⟨O1, O2, a, b, c, d, e, f⟩ := h
  exact ⟨O2, O1, b, a, fun k h1 h2 => c k h2 h1, e, d, f⟩
theorem Two.drewN (h : Two w0 w p1 t1 l1 p2 t2 l2) (n : Nat) : Two w0 (w.drewN n) p1 t1 l1 p2 t2 l2 := by
  obtain ⟨O1, O2, a, b, c, d, e, f⟩ := h
  exact ⟨O1, O2, a.drewN n, b.drewN n, c, d, e, pw_below_drewN f n⟩
theorem Two.same (h : Two w0 w p1 t1 l1 p2 t2 l2) (hb : Below w.heap.size w w') : Two w0 w' p1 t1 l1 p2 t2 l2 := by
  obtain ⟨O1, O2, a, b, c, d, e, f⟩ := h
  exact ⟨O1, O2, a.below hb, b.below hb, c, d, e, f.trans (hb.mono f.size)⟩
theorem Two.after {O1 O2 : Nat → Prop} {t1' : Int} {l1' : List E} (b : Whl w O2 p2 t2 l2) (c : ∀ b, O1 b → ¬ O2 b) (d : ∀ b, O1 b → w0.heap.size ≤ b) (e : ∀ b, O2 b → w0.heap.size ≤ b) (f : Below w0.heap.size w0 w) (h : After w O1 p1 t1' l1' w') : Two w0 w' p1 t1' l1' p2 t2 l2 := by
  obtain ⟨O1', g1, g2, g3⟩ := h
  refine ⟨O1', O2, g1, b.only g3 (fun k h1 _ h2 => c k h2 h1), fun k h1 h2 => ?_, fun k h1 => ?_, e, g3.below_of f f.size (fun k hk h1 => by have := d k h1; omega)⟩
  · rcases g2 k h1 with h3 | h3
    · exact c k h3 h2
    · have := b.lt k h2
      omega
  · rcases g2 k h1 with h3 | h3
    · exact d k h3
    · exact Nat.le_trans f.size h3
theorem Two.change (h : Two w0 w p1 t1 l1 p2 t2 l2) (id : ByteArray) (t : Int) (hs : id.size < 4611686018427387904) :
    Calls Try.prog 21 #[.pointer (some ⟨p1, 0, none⟩), .string id, .int .i64 t] w fun e w' => e = .returned (.int .i64 (changeE t1 l1 id t)) ∧ Two w0 w' p1 t1 (changeL t1 l1 id t) p2 t2 l2 := by
  obtain ⟨O1, O2, a, b, c, d, e, f⟩ := h
  exact (change_calls a id t hs).mono fun e' w' hq => ⟨hq.1, Two.after b c d e f hq.2⟩
theorem Two.remove (h : Two w0 w p1 t1 l1 p2 t2 l2) (id : ByteArray) (hs : id.size < 4611686018427387904) :
    Calls Try.prog 22 #[.pointer (some ⟨p1, 0, none⟩), .string id] w fun e w' => e = .returned (.int .i64 (findE l1 id)) ∧ Two w0 w' p1 t1 (removeL l1 id) p2 t2 l2 := by
  obtain ⟨O1, O2, a, b, c, d, e, f⟩ := h
  exact (remove_calls a id hs).mono fun e' w' hq => ⟨hq.1, Two.after b c d e f hq.2⟩
theorem Two.add (h : Two w0 w p1 t1 l1 p2 t2 l2) (id : ByteArray) (t : Int) (hs : id.size < 4611686018427387904) :
    Calls Try.prog 26 #[.pointer (some ⟨p1, 0, none⟩), .string id, .int .i64 t] w fun e w' => e = .returned (.int .i64 (addE t1 l1 id t)) ∧ Two w0 w' p1 t1 (addL t1 l1 id t) p2 t2 l2 := by
  obtain ⟨O1, O2, a, b, c, d, e, f⟩ := h
  exact (add_calls a id t hs).mono fun e' w' hq => ⟨hq.1, Two.after b c d e f hq.2⟩
theorem Two.at (h : Two w0 w p1 t1 l1 p2 t2 l2) (id : ByteArray) (hs : id.size < 4611686018427387904) :
    Calls Try.prog 23 #[.pointer (some ⟨p1, 0, none⟩), .string id] w fun e w' => e = .returned (.tuple #[.int .i64 (atV l1 id), .int .i64 (findE l1 id)]) ∧ Two w0 w' p1 t1 l1 p2 t2 l2 := by
  have h' := h
  obtain ⟨O1, O2, a, b, c, d, e, f⟩ := h
  refine (at_calls a id hs).mono ?_
  rintro e' w' ⟨rfl, n, rfl⟩
  exact ⟨rfl, h'.drewN n⟩
theorem Two.len (h : Two w0 w p1 t1 l1 p2 t2 l2) : Calls Try.prog 13 #[.pointer (some ⟨p1, 0, none⟩)] w fun e w' => e = .returned (.int .i64 l1.length) ∧ w = w' := by
  obtain ⟨O1, O2, a, b, c, d, e, f⟩ := h
  exact len_calls a
theorem filled_two {w0 w1 w2 : World} {v1 v2 : Ending} (h1 : Filled w0 t1 l1 v1 w1) (h2 : Filled w1 t2 l2 v2 w2) : ∃ p1 p2, v1 = .returned (.pointer (some ⟨p1, 0, none⟩)) ∧ v2 = .returned (.pointer (some ⟨p2, 0, none⟩)) ∧ Two w0 w2 p1 t1 l1 p2 t2 l2 := by
  obtain ⟨p1, O1, e1, a1, b1, c1⟩ := h1
  obtain ⟨p2, O2, e2, a2, b2, c2⟩ := h2
  exact ⟨p1, p2, e1, e2, O1, O2, a1.below c2, a2, fun b x y => by have := a1.lt b x; have := b2 b y; omega, b1, fun b hb => Nat.le_trans c1.size (b2 b hb), c1.trans (c2.mono c1.size)⟩
end
end Go.Proofs.Ytaefbibkkkglnaa.Wh
/- The reference wheel: its state; New, Now, Len, Next, name, time, find, At. No condition. -/
namespace Go.Proofs.Ytaefbibkkkglnaa.Wh
open Go Go.RowKit Go.Proofs.YtaefbibkkkglnaaW.PrintWords Go.Proofs.Ytaefbibkkkglnaa.Fr
set_option linter.unusedVariables false
set_option linter.unusedSimpArgs false
/-- The reference wheel at r: the time now, the list l; R: the blocks that are read. -/
structure Ref (w : World) (R : Nat → Prop) (r : Nat) (now : Int) (l : List E) : Prop where
  hd : ∃ A c, w.heap[r]? = some (.cells #[.int .i64 now, .slice A l.length c] 94 (0, 0)) ∧ l.length ≤ c ∧ kE.C w A l.length l ∧ (∀ ad, A = some ad → R ad.block ∧ ad.block ≠ r)
  own : R r
  lt : ∀ b, R b → b < w.heap.size
section
variable {w w' : World} {R : Nat → Prop} {r : Nat} {now : Int} {l : List E}
theorem C_move {A : Option Addr} {xs : List E} (h : kE.C w A xs.length xs) (hm : ∀ ad, A = some ad → w'.heap[ad.block]? = w.heap[ad.block]?) : kE.C w' A xs.length xs := by
  refine ⟨h.1, h.2.1, fun h0 => ?_⟩
  obtain ⟨ad, e, hc⟩ := h.2.2 h0
  refine ⟨ad, e, fun j p hp => ?_⟩
  obtain ⟨c, h1, h2, h3⟩ := hc j p hp
  refine ⟨c, h1, kE_K.2 (kE_K.1 h2), fun i u hu => ?_⟩
  have := h3 i u hu
  rw [World.cell?_of_block (show w'.heap[(ad.add (j * kE.sz + i)).block]? = w.heap[(ad.add (j * kE.sz + i)).block]? by rw [add_blk2]; exact hm ad e)]
  exact this
theorem Ref.move (h : Ref w R r now l) (hz : w.heap.size ≤ w'.heap.size) (hm : ∀ b, R b → w'.heap[b]? = w.heap[b]?) : Ref w' R r now l := by
  obtain ⟨⟨A, c, h1, h2, h3, h4⟩, h5, h6⟩ := h
  exact ⟨⟨A, c, (hm r h5).trans h1, h2, C_move h3 (fun ad e => hm _ (h4 ad e).1), h4⟩, h5, fun b hb => Nat.lt_of_lt_of_le (h6 b hb) hz⟩
theorem Ref.only {S : Nat → Prop} (h : Ref w R r now l) (k : Only S w w') (hd : ∀ b, R b → ¬ S b) : Ref w' R r now l := h.move k.size (fun b hb => k.block b (h.lt b hb) (hd b hb))
theorem Ref.below (h : Ref w R r now l) (k : Below w.heap.size w w') : Ref w' R r now l := h.move k.size (fun b hb => k.block b (h.lt b hb))
theorem Ref.drewN (h : Ref w R r now l) (n : Nat) : Ref (w.drewN n) R r now l := h.move (Nat.le_refl _) (fun _ _ => rfl)
theorem Ref.c0 (h : Ref w R r now l) : w.cell? ⟨r, 0, none⟩ = some (.int .i64 now) := by
  obtain ⟨A, c, h1, _⟩ := h.hd
  exact blk_cell h1 0
theorem Ref.fz (h : Ref w R r now l) (i : Nat) : w.frozen? ⟨r, i, none⟩ = false := by
  obtain ⟨A, c, h1, _⟩ := h.hd
  exact blk_frozen h1 i
/-- What a call leaves of a reference wheel. -/
def RAfter (w : World) (R : Nat → Prop) (r : Nat) (now : Int) (l : List E) (w' : World) : Prop :=
  ∃ R', Ref w' R' r now l ∧ (∀ b, R' b → R b ∨ w.heap.size ≤ b) ∧ Only (fun b => b = r) w w'
theorem Ref.same (h : Ref w R r now l) (n : Nat) : RAfter w R r now l (w.drewN n) := ⟨R, h.drewN n, fun _ hb => .inl hb, (Only.refl _ w).drewN n⟩

theorem rnew_bad (now : Int) (w : World) (h : ¬ (0 ≤ now ∧ now ≤ 1099511627776)) : Calls Try.prog 27 #[.int .i64 now] w fun e w' => e = .returned (.tuple #[.pointer none, .int .i64 2]) ∧ w = w' := by
  by_cases h0 : now < 0
  · have d0 : decide (now < 0) = true := by simpa using h0
    clear h
    go_enter Try.func27, Try.ntmps27
    go_wp2_with fail
    go_ret2
    exact ⟨rfl, rfl⟩
  · have d0 : decide (now < 0) = false := by simpa using h0
    have d1 : decide (1099511627776 < now) = true := by simp; omega
    clear h
    go_enter Try.func27, Try.ntmps27
    go_wp2_with fail
    go_ret2
    exact ⟨rfl, rfl⟩
theorem rnew_ok (now : Int) (w : World) (h : 0 ≤ now ∧ now ≤ 1099511627776) : Calls Try.prog 27 #[.int .i64 now] w fun e w' => e = .returned (.tuple #[.pointer (some ⟨w.heap.size, 0, none⟩), .int .i64 0]) ∧ Ref w' (fun b => b = w.heap.size) w.heap.size now [] ∧ Below w.heap.size w w' := by
  have d0 : decide (now < 0) = false := by simp; omega
  have d1 : decide (1099511627776 < now) = false := by simp; omega
  clear h
  go_enter Try.func27, Try.ntmps27
  go_wp2_with fail
  go_ret2
  refine ⟨rfl, ⟨⟨none, 0, heap_alloc_new _ _, Nat.le_refl _, ⟨rfl, by simp, fun h => by simp at h⟩, fun ad e => by cases e⟩, rfl, fun b hb => ?_⟩, below_alloc (Below.refl _ _) _⟩
  rw [World.size_alloc]
  omega
theorem rnow_calls (h : Ref w R r now l) : Calls Try.prog 43 #[.pointer (some ⟨r, 0, none⟩)] w fun e w' => e = .returned (.int .i64 now) ∧ w = w' := by
  have c0 := h.c0
  clear h
  go_enter Try.func43, Try.ntmps43
  go_wp2_with fail
  go_ret
  exact ⟨rfl, rfl⟩
theorem rlen_calls (h : Ref w R r now l) : Calls Try.prog 50 #[.pointer (some ⟨r, 0, none⟩)] w fun e w' => e = .returned (.int .i64 l.length) ∧ w = w' := by
  obtain ⟨A, c, h1, h2, h3, h4⟩ := h.hd
  have c1 : w.cell? ⟨r, 1, none⟩ = some (.slice A l.length c) := blk_cell h1 1
  clear h h1 h2 h3 h4
  go_enter Try.func50, Try.ntmps50
  go_wp2_with fail
  go_ret
  exact ⟨rfl, rfl⟩
theorem rname_calls (id : ByteArray) (w : World) (hs : id.size < 4611686018427387904) : Calls Try.prog 60 #[.string id] w fun e w' => e = .returned (.bool (nameB id)) ∧ w = w' := by
  unfold nameB
  by_cases h1 : 1 ≤ id.size
  · by_cases h2 : id.size ≤ 64
    · have d1 : decide ((1 : Int) ≤ (id.size : Int)) = true := by simp; omega
      have d2 : decide ((id.size : Int) ≤ 64) = true := by simp; omega
      have e : decide (1 ≤ id.size ∧ id.size ≤ 64) = true := by simp; omega
      rw [e]
      clear e
      go_enter Try.func60, Try.ntmps60
      go_wp2_with fail
      go_ret
      exact ⟨rfl, rfl⟩
    · have d1 : decide ((1 : Int) ≤ (id.size : Int)) = true := by simp; omega
      have d2 : decide ((id.size : Int) ≤ 64) = false := by simp; omega
      have e : decide (1 ≤ id.size ∧ id.size ≤ 64) = false := by simp; omega
      rw [e]
      clear e
      go_enter Try.func60, Try.ntmps60
      go_wp2_with fail
      go_ret
      exact ⟨rfl, rfl⟩
  · have d1 : decide ((1 : Int) ≤ (id.size : Int)) = false := by simp; omega
    have e : decide (1 ≤ id.size ∧ id.size ≤ 64) = false := by simp; omega
    rw [e]
    clear e
    go_enter Try.func60, Try.ntmps60
    go_wp2_with fail
    go_ret
    exact ⟨rfl, rfl⟩
theorem rtime_calls (h : Ref w R r now l) (t : Int) : Calls Try.prog 62 #[.pointer (some ⟨r, 0, none⟩), .int .i64 t] w fun e w' => e = .returned (.int .i64 (timeE now t)) ∧ w = w' := by
  have c0 := h.c0
  unfold timeE
  clear h
  by_cases h0 : t < 0
  · have d0 : decide (t < 0) = true := by simpa using h0
    rw [if_neg (by omega)]
    go_enter Try.func62, Try.ntmps62
    go_wp2_with fail
    go_ret
    exact ⟨rfl, rfl⟩
  · have d0 : decide (t < 0) = false := by simpa using h0
    by_cases h1 : 1099511627776 < t
    · have d1 : decide (1099511627776 < t) = true := by simpa using h1
      rw [if_neg (by omega)]
      go_enter Try.func62, Try.ntmps62
      go_wp2_with fail
      go_ret
      exact ⟨rfl, rfl⟩
    · have d1 : decide (1099511627776 < t) = false := by simpa using h1
      rw [if_pos (by omega)]
      by_cases h2 : t ≤ now
      · have d2 : decide (t ≤ now) = true := by simpa using h2
        rw [if_pos h2]
        go_enter Try.func62, Try.ntmps62
        go_wp2_with fail
        go_ret
        exact ⟨rfl, rfl⟩
      · have d2 : decide (t ≤ now) = false := by simpa using h2
        rw [if_neg h2]
        go_enter Try.func62, Try.ntmps62
        go_wp2_with fail
        go_ret
        exact ⟨rfl, rfl⟩
theorem rnext_calls (h : Ref w R r now l) : Calls Try.prog 49 #[.pointer (some ⟨r, 0, none⟩)] w fun e w' => e = .returned (.tuple #[.int .i64 (headT l), .bool (decide (0 < l.length))]) ∧ w = w' := by
  obtain ⟨A, c, h1, h2, h3, h4⟩ := h.hd
  have c1 : w.cell? ⟨r, 1, none⟩ = some (.slice A l.length c) := blk_cell h1 1
  clear h h1 h4
  cases l with
  | nil =>
    have e : decide (0 < ([] : List E).length) = false := rfl
    have e2 : headT [] = 0 := rfl
    rw [e, e2]
    have c1' : w.cell? ⟨r, 1, none⟩ = some (.slice A 0 c) := c1
    clear c1 e e2
    go_enter Try.func49, Try.ntmps49
    go_wp2_with fail
    go_ret2
    exact ⟨rfl, rfl⟩
  | cons x l =>
    have e : decide (0 < (x :: l).length) = true := by simp
    have e2 : headT (x :: l) = x.2 := rfl
    rw [e, e2]
    obtain ⟨ad, rfl, x1, x2⟩ := at_E h3 0 (by simp)
    have x3 : w.cell? ⟨ad.block, ad.off + 1, none⟩ = some (.int .i64 x.2) := x2
    have x4 : w.cell? ⟨(ad.add 0).block, (ad.add 0).off + 1, none⟩ = some (.int .i64 x.2) := x2
    have hn : (0 : Int) < ((x :: l).length : Int) := by rw [List.length_cons]; omega
    have hz : ((((x :: l).length : Nat) : Int) == 0) = false := by rw [beq_eq_false_iff_ne]; omega
    generalize (x :: l).length = n at *
    generalize x.2 = t at *
    clear x1 x2 e e2 h2 h3
    go_enter Try.func49, Try.ntmps49
    go_wp2_with fail
    go_ret2
    exact ⟨rfl, rfl⟩
end
end Go.Proofs.Ytaefbibkkkglnaa.Wh
