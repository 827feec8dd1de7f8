/- Wheel's laws: lists of what is told; words for what a step leaves. No condition. -/
import Derived.Test.YtaefbibkkkglnaaWhT
namespace Go.Proofs.Ytaefbibkkkglnaa.Wh
open Go Go.RowKit Go.Proofs.YtaefbibkkkglnaaW.PrintWords Go.Proofs.Ytaefbibkkkglnaa.Mp Go.Proofs.Ytaefbibkkkglnaa.Fr
set_option linter.unusedVariables false
set_option linter.unusedSimpArgs false

theorem fillL_late {now : Int} {fs : List Int} {k : Nat} (hk : k ≤ fs.length) (hfs : ∀ x ∈ fs, -9223372036854775808 ≤ x ∧ x ≤ 9223372036854775807) : ∀ e ∈ fillL now fs k, now < e.2 ∧ e.2 ≤ now + 1 + 549755813888 := fun e he => by
  obtain ⟨i, hi, rfl⟩ := List.mem_map.1 ((fillL_perm now fs k).mem_iff.1 he)
  have hik := List.mem_range.1 hi
  have hm : fs.getD i 0 ∈ fs := by
    rw [List.getD_eq_getElem?_getD, List.getElem?_eq_getElem (by omega)]
    exact List.getElem_mem (by omega)
  obtain ⟨q0, q1⟩ := hfs _ hm
  have hb := winF_bd (lo := 0) (hi := 549755813888) q0 q1 (by omega)
  show now < farT now fs i ∧ farT now fs i ≤ _
  unfold farT
  omega
theorem told_none {t : Int} {l : List E} (h : ∀ e ∈ l, t < e.2) : toldF t l = [] := by
  unfold toldF
  rw [List.filter_eq_nil_iff]
  intro e he
  have := h e he
  simp
  omega
theorem left_all {t : Int} {l : List E} (h : ∀ e ∈ l, t < e.2) : leftF t l = l := by
  unfold leftF
  rw [List.filter_eq_self]
  intro e he
  have := h e he
  simpa using this
theorem left_step {a b : Int} (h : a ≤ b) (l : List E) : leftF b (leftF a l) = leftF b l := by
  unfold leftF
  rw [List.filter_filter]
  refine List.filter_congr fun e _ => ?_
  rw [Bool.eq_iff_iff]
  simp
  omega
theorem told_step {a b : Int} (h : a ≤ b) : ∀ {l : List E}, Sorted l → toldF a l ++ toldF b (leftF a l) = toldF b l
  | [], _ => rfl
  | e :: l, hs => by
    obtain ⟨h1, h2⟩ := List.pairwise_cons.1 hs
    have ih := told_step h h2
    unfold toldF leftF at *
    by_cases ha : e.2 ≤ a
    · have hb : e.2 ≤ b := by omega
      rw [List.filter_cons_of_pos (by simpa using ha), List.filter_cons_of_neg (p := fun e : E => decide (a < e.2)) (by simp; omega), List.filter_cons_of_pos (p := fun e : E => decide (e.2 ≤ b)) (by simpa using hb), List.cons_append, ih]
    · have hn : (l.filter fun e : E => decide (e.2 ≤ a)) = [] := by
        rw [List.filter_eq_nil_iff]
        intro f hf
        have := h1 f hf
        unfold lt at this
        simp at this
        simp
        omega
      rw [hn] at ih
      rw [List.filter_cons_of_neg (by simpa using ha), hn, List.filter_cons_of_pos (p := fun e : E => decide (a < e.2)) (by simp; omega)]
      rw [List.nil_append] at ih ⊢
      by_cases hb : e.2 ≤ b
      · rw [List.filter_cons_of_pos (by simpa using hb), List.filter_cons_of_pos (by simpa using hb), ih]
      · rw [List.filter_cons_of_neg (by simpa using hb), List.filter_cons_of_neg (by simpa using hb), ih]

theorem infoS2 : (Try.prog.info? 9).map (fun i => (i.zero, i.size, i.bytes)) = some (some (.string ⟨#[]⟩), 1, 16) := by kernel_rfl
section
variable {w w' : World} {O S : Nat → Prop} {p : Nat} {now : Int} {l : List E} {v : Value} {xs : List ByteArray} {base : Nat} {ok : Nat → Prop}
/-- A list of strings past a step that touches what lies lower only. -/
theorem R_over (h : Kd.string.R 9 w base ok v xs) (k : Only S w w') (hS : ∀ b, S b → b < base) : Kd.string.R 9 w' base ok v xs :=
  Kd.R_mono (Kd.R_step (ok := fun b => ok b ∧ base ≤ b) (Kd.R_mono (Kd.R_bound h) (fun b hb => ⟨hb.1, hb.2.1⟩)) (fun b ho hl => k.block b hl (fun hs => by have := hS b hs; omega))) (fun _ ho => ho.1)
theorem R_base {base' : Nat} (h : Kd.string.R 9 w base ok v xs) (hb : base' ≤ base) : Kd.string.R 9 w base' ok v xs := Kd.R_lower h hb
theorem Only.apart {S' : Nat → Prop} (h : Only S w w') (k : ∀ b, b < w.heap.size → S b → S' b) : Only S' w w' := h.mono k
end
end Go.Proofs.Ytaefbibkkkglnaa.Wh
