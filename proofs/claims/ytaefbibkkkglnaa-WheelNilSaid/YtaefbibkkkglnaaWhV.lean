/- Wheel: what Advance's loops keep. No condition. -/
import Derived.Test.YtaefbibkkkglnaaWhO
namespace Go.Proofs.Ytaefbibkkkglnaa.Wh
open Go Go.RowKit Go.Proofs.YtaefbibkkkglnaaW.PrintWords Go.Proofs.Ytaefbibkkkglnaa.Mp Go.Proofs.Ytaefbibkkkglnaa.Fr
set_option linter.unusedVariables false
set_option linter.unusedSimpArgs false

section
variable {w w' w0 : World} {O : Nat → Prop} {p m : Nat} {now td : Int} {S S' : Slots} {F : List Node} {B : Nat}
theorem Rep.setNow (h : Rep w O p m now S F) (x : Int) : Rep (w.setCell ⟨p, 0, none⟩ (.int .i64 x)) O p m x S F := by
  have hbk : ∀ n ∈ F ++ nodes S, (w.setCell ⟨p, 0, none⟩ (.int .i64 x)).heap[n.b]? = w.heap[n.b]? := fun n hn => Below.heap_setCell _ _ _ _ (h.pne hn).symm
  obtain ⟨es, he, hp⟩ := h.names
  refine ⟨⟨?_⟩, fun r k hr hk' => (h.seg r k hr hk').move (fun n hn => hbk n (List.mem_append_right _ (mem_nodes.2 ⟨r, k, hr, hk', hn⟩))), fun n hn => ?_, ⟨es, he.move (Below.heap_setCell _ _ _ _ h.pm), hp⟩, h.nodup, h.own⟩
  · obtain ⟨cs, h1, h2, h3, h4, h5, h6⟩ := h.head.cs
    refine ⟨_, blk_set h1 0 _, by simp [h2], ?_, fun r k hr hk => ?_, fun r hr => ?_, ?_⟩
    · rw [Array.getElem?_setIfInBounds_self_of_lt (by omega)]
    · rw [Array.getElem?_setIfInBounds_ne (by omega), h4 r k hr hk]
    · rw [Array.getElem?_setIfInBounds_ne (by omega), h5 r hr]
    · rw [Array.getElem?_setIfInBounds_ne (by omega), h6]
  · obtain ⟨r, a, b, hc⟩ := h.loose n hn
    exact ⟨r, a, b, (hbk n (List.mem_append_left _ hn)).trans hc⟩
/-- The wheel's own blocks and no others. -/
def Blk (p m : Nat) (L : List Node) (b : Nat) : Prop := b = p ∨ b = m ∨ ∃ n ∈ L, n.b = b
theorem Rep.tight (h : Rep w O p m now S F) : Rep w (Blk p m (F ++ nodes S)) p m now S F :=
  ⟨h.head, h.seg, h.loose, h.names, h.nodup, .inl rfl, .inr (.inl rfl), fun n hn => .inr (.inr ⟨n, hn, rfl⟩)⟩
theorem Rep.grown {row : Option Nat} (h : Rep w O p m now S F) (hg : w.grownBy w' row) (hr : ∀ k, row = some k → ¬ O k) : Rep w' O p m now S F :=
  h.move (fun b hb hl => hg.block b hl (fun e => hr b e.symm hb))
theorem R_keep {α : Type} {d : Kd α} {e : Nat} {ok : Nat → Prop} {v : Value} {xs : List α} (h : d.R e w B ok v xs) (k : Only O w w') (hO : ∀ b, O b → b < w.heap.size → b < B) : d.R e w' B ok v xs :=
  Kd.R_mono (Kd.R_step (Kd.R_bound h) (fun b ho hl => k.block b hl (fun hb => by
    have h1 := hO b hb hl
    have h2 := ho.2.1
    omega))) (fun _ hk => hk.1)
theorem Only.of_grown2 {row : Option Nat} (h : Only O w0 w) (hg : w.grownBy w' row) (hr : ∀ k, row = some k → w0.heap.size ≤ k) : Only O w0 w' :=
  ⟨hg.os.trans h.os, hg.tape.trans h.tape, hg.output.trans h.output, Nat.le_trans h.size hg.size, fun k hk hn => (hg.block k (Nat.lt_of_lt_of_le hk h.size) (fun e => by have := hr k e.symm; omega)).trans (h.block k hk hn)⟩
theorem own_ge {α : Type} {d : Kd α} {e : Nat} {ok : Nat → Prop} {v : Value} {xs : List α} (h : d.R e w B ok v xs) : ∀ k, v.ownBlock = some k → B ≤ k := fun k hk => ((Kd.R_bound h).1 k hk).2.1

/-! ### the fall -/
structure InvA (w0 w : World) (O : Nat → Prop) (p m : Nat) (now : Int) (S : Slots) (v : Value) (S' : Slots) (F : List Node) : Prop where
  rep : Rep w O p m now S' F
  row : kN.R 65 w w0.heap.size (fun _ => True) v F
  perm : (F ++ nodes S').Perm (nodes S)
  good : Good now S'
  only : Only O w0 w
/-- One timer has been taken out; then the list of those that have fallen is grown by it (in w2). -/
theorem InvA.step {v v' : Value} {t : Node} {r k : Nat} {ys : List Node} {w1 w2 : World} (h : InvA w0 w O p m now S v S' F) (hr : r < 7) (hk : k < 64) (hS : S' r k = t :: ys)
    (h1 : Rep w1 O p m now (upd S' r k ys) (t :: F)) (ho : Only O w w1) (hlt : ∀ b, O b → b < w0.heap.size)
    (hR : kN.R 65 w2 w0.heap.size (fun _ => True) v' (F ++ [t])) (hg : w1.grownBy w2 v.ownBlock) : InvA w0 w2 O p m now S v' (upd S' r k ys) (F ++ [t]) := by
  have hv := own_ge h.row
  have hpm : ((F ++ [t]) ++ nodes (upd S' r k ys)).Perm ((t :: F) ++ nodes (upd S' r k ys)) := (List.perm_append_comm (l₁ := F) (l₂ := [t])).append_right _
  have hr2 : Rep w2 O p m now (upd S' r k ys) (t :: F) := h1.grown hg (fun k' hk' hO => by have := hv k' hk'; have := hlt k' hO; omega)
  refine ⟨⟨hr2.head, hr2.seg, fun n hn => hr2.loose n ?_, ?_, ?_, hr2.own.1, hr2.own.2.1, fun n hn => hr2.own.2.2 n (hpm.mem_iff.1 hn)⟩, hR, ?_, ?_, ?_⟩
  · rcases List.mem_append.1 hn with hn | hn
    · exact List.mem_cons_of_mem _ hn
    · rw [List.mem_singleton.1 hn]; simp
  · obtain ⟨es, he, hp⟩ := hr2.names
    exact ⟨es, he, hp.trans (hpm.map _).symm⟩
  · exact (hpm.map Node.b).nodup_iff.2 hr2.nodup
  · refine hpm.trans (List.Perm.trans ?_ h.perm)
    rw [List.cons_append]
    refine List.perm_middle.symm.trans ?_
    exact (nodes_out (xs := []) hr hk hS).append_left F
  · have := good_out (xs := []) (t := t) h.good hS
    exact this
  · exact Wh.Only.of_grown2 (h.only.trans ho) hg (fun k' hk' => hv k' hk')
def fall (mv ld r k : Nat) : Prop := r < mv ∨ (r = mv ∧ k ≤ ld)
instance (mv ld r k : Nat) : Decidable (fall mv ld r k) := by unfold fall; infer_instance
def OutA (mv ld : Nat) (S S' : Slots) (r : Nat) : Prop := ∀ r' k', r' < 7 → k' < 64 → S' r' k' = if r' < r ∧ fall mv ld r' k' then [] else S r' k'
def InA (mv ld : Nat) (S S' : Slots) (r k : Nat) : Prop := ∀ r' k', r' < 7 → k' < 64 → S' r' k' = if (r' < r ∧ fall mv ld r' k') ∨ (r' = r ∧ k' < k) then [] else S r' k'
def ChA (mv ld : Nat) (S S' : Slots) (r k : Nat) : Prop := ∀ r' k', r' < 7 → k' < 64 → ¬ (r' = r ∧ k' = k) → S' r' k' = if (r' < r ∧ fall mv ld r' k') ∨ (r' = r ∧ k' < k) then [] else S r' k'
theorem outA_zero (mv ld : Nat) (S : Slots) : OutA mv ld S S 0 := fun r' k' _ _ => by rw [if_neg (by omega)]
theorem outA_in {mv ld r : Nat} (h : OutA mv ld S S' r) : InA mv ld S S' r 0 := fun r' k' hr hk => by
  rw [h r' k' hr hk]
  by_cases c : r' < r ∧ fall mv ld r' k'
  · rw [if_pos c, if_pos (.inl c)]
  · rw [if_neg c, if_neg (by rintro (q | q); exact c q; omega)]
theorem inA_ch {mv ld r k : Nat} (h : InA mv ld S S' r k) : ChA mv ld S S' r k := fun r' k' hr hk _ => h r' k' hr hk
theorem chA_upd {mv ld r k : Nat} (h : ChA mv ld S S' r k) (L : List Node) : ChA mv ld S (upd S' r k L) r k := fun r' k' hr hk hne => by rw [upd_other hne]; exact h r' k' hr hk hne
theorem chA_in {mv ld r k : Nat} (h : ChA mv ld S S' r k) (h0 : S' r k = []) : InA mv ld S S' r (k + 1) := fun r' k' hr hk => by
  by_cases e : r' = r ∧ k' = k
  · obtain ⟨rfl, rfl⟩ := e
    rw [h0, if_pos (.inr ⟨rfl, by omega⟩)]
  · rw [h r' k' hr hk e]
    by_cases c : (r' < r ∧ fall mv ld r' k') ∨ (r' = r ∧ k' < k)
    · rw [if_pos c, if_pos (by rcases c with c | c; exact .inl c; exact .inr ⟨c.1, by omega⟩)]
    · rw [if_neg c, if_neg (by rintro (q | q); exact c (.inl q); exact c (.inr ⟨q.1, by omega⟩))]
theorem inA_out {mv ld r k : Nat} (h : InA mv ld S S' r k) (hk : ∀ k', k' < 64 → (k' < k ↔ fall mv ld r k')) : OutA mv ld S S' (r + 1) := fun r' k' hr hk' => by
  rw [h r' k' hr hk']
  by_cases e : r' = r
  · subst e
    by_cases c : k' < k
    · rw [if_pos (.inr ⟨rfl, c⟩), if_pos ⟨by omega, (hk k' hk').1 c⟩]
    · rw [if_neg (by rintro (q | q); omega; exact c q.2), if_neg (fun q => c ((hk k' hk').2 q.2))]
  · by_cases c : r' < r ∧ fall mv ld r' k'
    · rw [if_pos (.inl c), if_pos ⟨by omega, c.2⟩]
    · rw [if_neg (by rintro (q | q); exact c q; exact e q.1), if_neg (fun q => c ⟨by omega, q.2⟩)]
theorem outA_skip {mv ld r : Nat} (h : OutA mv ld S S' r) (h0 : cnt S' r = 0) : OutA mv ld S S' (r + 1) := fun r' k' hr hk => by
  by_cases e : r' = r
  · subst e
    have h1 := cnt_zero h0 k' hk
    have h2 := h r' k' hr hk
    rw [if_neg (by omega)] at h2
    rw [h1]
    split
    · rfl
    · rw [← h2, h1]
  · rw [h r' k' hr hk]
    by_cases c : r' < r ∧ fall mv ld r' k'
    · rw [if_pos c, if_pos ⟨by omega, c.2⟩]
    · rw [if_neg c, if_neg (fun q => c ⟨by omega, q.2⟩)]
/-- Those that still hang are as they should be at the new time. -/
theorem outA_good {mv ld : Nat} (h : OutA mv ld S S' (mv + 1)) (hg : Good now S) (h0 : 0 ≤ now) (hto : now ≤ td) (hmv : mv = rg td now) (hld : ld = dg mv td) : Good td S' := fun r k hr hk n hn => by
  rw [h r k hr hk] at hn
  split at hn
  · simp at hn
  · rename_i hc
    obtain ⟨g1, g2, g3, g4⟩ := hg r k hr hk n hn
    have hnf : ¬ fall mv ld r k := fun q => hc ⟨by unfold fall at q; omega, q⟩
    unfold fall at hnf
    have hst := @stays now.toNat td.toNat n.tm.toNat (by omega) (by omega) (by
      unfold rg at g3 hmv
      unfold dg at g4 hld
      rcases Nat.lt_trichotomy r mv with q | q | q
      · exact absurd (.inl q) hnf
      · right
        refine ⟨by omega, ?_⟩
        rw [g3]
        subst q
        have : ¬ k ≤ ld := fun q => hnf (.inr ⟨rfl, q⟩)
        omega
      · left; omega)
    refine ⟨by omega, g2, ?_, g4⟩
    unfold rg at g3 ⊢
    omega
end
end Go.Proofs.Ytaefbibkkkglnaa.Wh
