/- slices.Sort and slices.Compact over the kinds of the print. No condition. -/
import Derived.Test.YtcejkpjinmolhaaDoorDrStripe
import Derived.Test.YtcejkpjinmolhaaDoorDrLay
namespace Go.Proofs.YtcejkpjinmolhaaDoor.Dr
open Go Go.RowKit Go.Lib Go.Sort Go.Shelf Go.Proofs.YtcejkpjinmolhaaDoorW.PrintWords
set_option linter.unusedVariables false
set_option linter.unusedSimpArgs false

def sortF (zs : List Int) : List Int := zs.mergeSort fun x y => decide (x ≤ y)
theorem sortF_len (zs : List Int) : (sortF zs).length = zs.length := List.length_mergeSort _
theorem own_grow {w : World} {base n size : Nat} {e : TypeId} {v : Value} {xs : List Value} (h : w.ownsRow base e size v n xs) (os : Array Obj) : (grow w os).ownsRow base e size v n xs := by
  refine ⟨h.1, ?_⟩
  rcases h.2 with h0 | ⟨g, cap, cur, hv, hb, hg, h4, h5, h6, h7⟩
  · exact .inl h0
  · refine .inr ⟨g, cap, cur, hv, hb, ?_, h4, h5, h6, h7⟩
    have hlt : g < w.heap.size := by
      rcases Nat.lt_or_ge g w.heap.size with h' | h'
      · exact h'
      · rw [Array.getElem?_eq_none h'] at hg; cases hg
    show (w.heap ++ os)[g]? = _
    rw [Array.getElem?_append_left hlt]
    exact hg
theorem below_grow {B : Nat} {w0 w : World} (h : Below B w0 w) (hB : B ≤ w.heap.size) (os : Array Obj) : Below B w0 (grow w os) :=
  ⟨h.os, h.tape, h.output, Nat.le_trans h.size (by show w.heap.size ≤ (w.heap ++ os).size; rw [Array.size_append]; omega), fun k hk => by
    rw [← h.block k hk]
    show (w.heap ++ os)[k]? = _
    exact Array.getElem?_append_left (by omega)⟩
theorem tab_below {w w1 : World} (h : Tab w) (hb : Below w.heap.size w w1) : Tab w1 := by
  unfold Tab Lib.TabIs World.var? at h ⊢
  rw [gNamed] at h ⊢
  simp only [Option.bind_some] at h ⊢
  have hlt : 0 < w.heap.size := by
    rcases Nat.lt_or_ge 0 w.heap.size with h' | h'
    · exact h'
    · simp [Array.getElem?_eq_none h'] at h
  rw [hb.block 0 hlt]
  exact h

theorem sort_calls {B : Nat} {v : Value} {zs : List Int} {w : World} (hR : (Kd.int .i64).R 3 w B (fun b => B ≤ b) v zs) (hl : zs.length < 4611686018427387904) (hB : B ≤ w.heap.size) :
    Calls Tryd.prog 13 #[v] w fun e w' => e = .returned (.tuple #[]) ∧ (Kd.int .i64).R 3 w' B (fun b => B ≤ b) v (sortF zs) ∧ ∀ w0, Below B w0 w → Below B w0 w' := by
  have hown : w.ownsRow B 3 1 v zs.length (zs.map (Value.int .i64)) := Kd.own_of_R hR
  by_cases hv : v = .slice none 0 0
  · subst hv
    obtain rfl : zs = [] := by
      have := (Kd.R_reads' hR).1
      exact List.eq_nil_of_length_eq_zero this.symm
    refine (calls_of_every_depth fun D => AnyS.slices_Sort_int_none_in Tryd.laysSort D none 0 w).mono ?_
    rintro e w' ⟨rfl, rfl⟩
    exact ⟨rfl, by rw [show sortF [] = [] from List.eq_nil_of_length_eq_zero (sortF_len [])]; exact hR, fun _ h => h⟩
  · obtain ⟨g, cap, rfl, hBg, hlt, hncap, hcm, _, hH⟩ := holds_of_ownsRow hown hv
    refine (Any.slices_Sort_int Tryd.laysSort g 0 cap zs w hH hlt hl).mono ?_
    rintro e w' ⟨rfl, q, os, rfl⟩
    have h2 := ownsRow_putRow (q := q) (k := zs.length) (ys := sortF zs) hown (sortF_len zs) (Nat.le_refl _)
    rw [List.take_of_length_le (by rw [sortF_len]; omega)] at h2
    refine ⟨rfl, ?_, fun w0 h => below_grow (below_putRow h hBg) (by simpa [putRow, mapBlock, Sort.ahead] using hB) os⟩
    have h3 := own_grow h2 os
    rw [← sortF_len zs] at h3
    have h4 := Kd.R_of_own (ok := fun b => B ≤ b) (h1 := fun x => rfl) h3 (fun k hk => by simp only [Value.ownBlock, Option.some.injEq] at hk; omega)
    rw [sortF_len] at h4
    exact h4

theorem compact_le (zs : List Int) : (Lib.compact zs).length ≤ zs.length := by
  unfold Lib.compact Lib.compactUpTo
  rw [List.length_map]
  refine Nat.le_trans (List.length_filter_le _ _) ?_
  rw [List.length_range]
  exact Nat.le_refl _
theorem compact_calls {B : Nat} {v : Value} {zs : List Int} {w : World} (hR : (Kd.int .i64).R 3 w B (fun b => B ≤ b) v zs) (hl : zs.length < 4611686018427387904) :
    Calls Tryd.prog 14 #[v] w fun e w' => ∃ v', e = .returned v' ∧ (Kd.int .i64).R 3 w' B (fun b => B ≤ b) v' (Lib.compact zs) ∧ ∀ w0, Below B w0 w → Below B w0 w' := by
  have hown : w.ownsRow B 3 1 v zs.length (zs.map (Value.int .i64)) := Kd.own_of_R hR
  by_cases hv : v = .slice none 0 0
  · subst hv
    obtain rfl : zs = [] := by
      have := (Kd.R_reads' hR).1
      exact List.eq_nil_of_length_eq_zero this.symm
    refine (Any.slices_Compact_int_empty Tryd.laysCompact none 0 w).mono ?_
    rintro e w' ⟨rfl, rfl⟩
    exact ⟨_, rfl, by rw [show Lib.compact ([] : List Int) = [] from List.eq_nil_of_length_eq_zero (Nat.le_zero.1 (compact_le []))]; exact hR, fun _ h => h⟩
  · obtain ⟨g, cap, rfl, hBg, hlt, hncap, hcm, _, hH⟩ := holds_of_ownsRow hown hv
    refine (Any.slices_Compact_int Tryd.laysCompact g 0 cap zs w hH (by omega) hncap).mono ?_
    rintro e w' ⟨rfl, q, rfl⟩
    have hle := compact_le zs
    have h2 := ownsRow_putRow (q := q) (k := (Lib.compact zs).length) (ys := Lib.compact zs ++ List.replicate (zs.length - (Lib.compact zs).length) 0) hown (by rw [List.length_append, List.length_replicate]; omega) hle
    rw [List.take_left] at h2
    refine ⟨_, rfl, Kd.R_of_own (h1 := fun x => rfl) h2 (fun k hk => by simp only [Value.ownBlock, Option.some.injEq] at hk; omega), fun w0 h => below_putRow h hBg⟩
end Go.Proofs.YtcejkpjinmolhaaDoor.Dr
