/- Wheel: slices.SortFunc of Each's pairs. No condition. -/
import Derived.Test.YtaefbibkkkglnaaWhO
namespace Go.Proofs.Ytaefbibkkkglnaa.Wh
open Go Go.RowKit Go.Shelf Go.Lib Go.Sort Go.Proofs.YtaefbibkkkglnaaW.PrintWords Go.Proofs.Ytaefbibkkkglnaa.Mp Go.Proofs.Ytaefbibkkkglnaa.Fr
set_option linter.unusedVariables false
set_option linter.unusedSimpArgs false
def encE (e : E) : List Value := [.string e.1, .int .i64 e.2]
def kE : Kd E := Kd.pair Kd.string (Kd.int .i64)
theorem kE_K {w : World} {x : E} {cs : List Value} : kE.K w x cs ↔ cs = encE x := by
  constructor
  · rintro ⟨c0, c1, rfl, h0, h1⟩
    have h0' : c0 = [.string x.1] := h0
    have h1' : c1 = [.int .i64 x.2] := h1
    rw [h0', h1']
    rfl
  · rintro rfl
    exact ⟨[.string x.1], [.int .i64 x.2], rfl, rfl, rfl⟩
theorem kE_M {w : World} {base : Nat} {ok : Nat → Prop} {x : E} : kE.M w base ok x (encE x) := ⟨[.string x.1], [.int .i64 x.2], rfl, rfl, rfl⟩
theorem add_off (g n : Nat) : (Addr.add ⟨g, 0, none⟩ n) = ⟨g, n, none⟩ := by
  unfold Addr.add
  split
  · subst n; rfl
  · simp
theorem alloc_grow (w : World) (o : Obj) : w.alloc o = grow w #[o] := by
  unfold World.alloc grow
  congr 1
set_option maxRecDepth 100000 in
theorem cmpE_calls (a b : E) (w : World) : Calls Try.prog 36 #[.agg #[.string a.1, .int .i64 a.2], .agg #[.string b.1, .int .i64 b.2]] w fun e w' => e = .returned (.int .i64 (ordF a b)) ∧ ∃ q os, w' = grow (w.drewN q) os := by
  obtain ⟨a1, a2⟩ := a
  obtain ⟨b1, b2⟩ := b
  unfold ordF
  by_cases h : a2 = b2
  · rw [if_pos h]
    have hd : (a2 != b2) = false := by simp [h]
    have HS := Aside0.mk (fun w => compare_s a1 b1 w)
    simp only
    generalize cmpS a1 b1 = v at HS ⊢
    clear h
    go_enter Try.func36, Try.ntmps36
    go_wp2_with fail
    refine (HS.out _).mono ?_
    rintro e w' ⟨rfl, rfl⟩
    go_wp2_with fail
    go_ret
    exact ⟨rfl, 0, _, by rw [alloc_grow, alloc_grow, grow_grow]; rfl⟩
  · rw [if_neg h]
    have hd : (a2 != b2) = true := by simp [h]
    have HS := Aside0.mk (fun w => compare_i a2 b2 w)
    simp only
    generalize cmpI a2 b2 = v at HS ⊢
    clear h
    go_enter Try.func36, Try.ntmps36
    go_wp2_with fail
    refine (HS.out _).mono ?_
    rintro e w' ⟨rfl, rfl⟩
    go_wp2_with fail
    go_ret
    exact ⟨rfl, 0, _, by rw [alloc_grow, alloc_grow, grow_grow]; rfl⟩

def sortE (l : List E) : List E := l.mergeSort fun x y => !lt y x
theorem leE_trans (x y z : E) : (!lt y x) = true → (!lt z y) = true → (!lt z x) = true := by
  simp only [Bool.not_eq_true']
  intro h1 h2
  cases h : lt z x
  · rfl
  · by_cases e : x = y
    · rw [← e, h] at h2; cases h2
    · rcases lt_total e with h3 | h3
      · rw [lt_trans h h3] at h2; cases h2
      · rw [h3] at h1; cases h1
theorem leE_total (x y : E) : (!lt y x || !lt x y) = true := by
  cases h : lt y x
  · rfl
  · rw [lt_asymm h]; rfl
theorem sortE_perm (l : List E) : (sortE l).Perm l := List.mergeSort_perm _ _
theorem sortE_sorted {l : List E} (hn : l.Nodup) : Sorted (sortE l) := by
  have h1 : (sortE l).Pairwise fun x y => (!lt y x) = true := List.pairwise_mergeSort leE_trans leE_total l
  have h2 : (sortE l).Nodup := (sortE_perm l).nodup_iff.2 hn
  refine (h1.and h2).imp ?_
  rintro x y ⟨h4, h5⟩
  rcases lt_total h5 with h | h
  · exact h
  · rw [h] at h4; cases h4
theorem flat_get (d : Array E) (j i : Nat) (hj : j < d.size) (hi : i < 2) : (flatK encE 2 d)[j * 2 + i]! = (encE d[j]!)[i]! := by
  rw [get_flatK _ _ _ _ (by omega)]
  rw [show (j * 2 + i) / 2 = j by omega, show (j * 2 + i) % 2 = i by omega]
theorem readsE {w : World} {g : Nat} {d : Array E} (h : HoldsK encE 2 w g 0 d) (hl : d.size ≤ 9223372036854775807) : kE.C w (some ⟨g, 0, none⟩) d.size d.toList := by
  refine ⟨by simp, hl, fun _ => ⟨_, rfl, fun j p hp => ⟨encE p, rfl, kE_K.2 rfl, fun i u hu => ?_⟩⟩⟩
  have hj : j < d.size := by
    have := (List.getElem?_eq_some_iff.1 hp).1
    simpa using this
  have hi : i < 2 := by
    have := (List.getElem?_eq_some_iff.1 hu).1
    simpa [encE] using this
  have h1 := (h (j * 2 + i) (by rw [size_flatK]; omega)).1
  rw [flat_get d j i hj hi, Nat.zero_add] at h1
  show w.cell? (Addr.add ⟨g, 0, none⟩ (j * 2 + i)) = some u
  rw [add_off, h1]
  have e1 : d[j]! = p := by
    rw [getElem!_pos d j hj]
    have := (List.getElem?_eq_some_iff.1 hp).2
    simpa using this
  rw [e1, getElem!_pos _ i (by simpa [encE] using hi)]
  exact congrArg some (List.getElem?_eq_some_iff.1 hu).2
theorem holdsE {w : World} {B g c n : Nat} {inner : List Value} {D : List E} (ho : w.ownsRow B 84 2 (.slice (some ⟨g, 0, none⟩) n c) D.length inner) (hr : Reps (kE.M w B (fun _ => True)) 2 D inner) : HoldsK encE 2 w g 0 D.toArray := by
  obtain ⟨h1, h2 | ⟨g', cap, cur, e0, hb, hg, h3, h4, h5, h6⟩⟩ := ho
  · cases h2.1
  · injection e0 with e1 _ e3
    injection e1 with e1
    injection e1 with e1
    subst e1
    intro t ht
    rw [size_flatK] at ht
    have ht' : t < D.length * 2 := by simpa using ht
    refine ⟨?_, blk_frozen hg _⟩
    rw [Nat.zero_add, blk_cell hg, get_flatK _ _ _ _ ht]
    have hj : t / 2 < D.length := by omega
    have hs := hr.2 (t / 2) _ (List.getElem?_eq_getElem hj)
    have hs2 : (inner.drop (t / 2 * 2)).take 2 = encE D[t / 2] := by
      have := kE.K_of_M hs
      exact kE_K.1 this
    have e4 : inner[t]? = (encE D[t / 2])[t % 2]? := by
      rw [← hs2, List.getElem?_take, if_pos (Nat.mod_lt _ (by omega)), List.getElem?_drop]
      congr 1
      omega
    have e5 : cur[t]? = inner[t]? := by
      rw [← h6, List.getElem?_take, if_pos ht', Array.getElem?_toList]
    rw [e5, e4]
    have e6 : D.toArray[t / 2]! = D[t / 2] := by
      rw [getElem!_pos D.toArray (t / 2) (by simpa using hj)]
      simp
    have h2 : t % 2 < (encE D[t / 2]).length := Nat.mod_lt _ (by decide)
    rw [e6, getElem!_pos _ (t % 2) h2, List.getElem?_eq_getElem h2]
    rfl
theorem heap_sortWorldK {w : World} {blk m : Nat} {dk : Array E} {os : Array Obj} {b : Nat} (hb : b < w.heap.size) (hne : b ≠ blk) : (sortWorldK encE 2 w blk 0 m dk os).heap[b]? = w.heap[b]? := by
  unfold sortWorldK
  rw [heap_grow_old _ _ (by unfold putRowK putRow mapBlock; simpa [Sort.ahead] using hb)]
  unfold putRowK putRow mapBlock
  show (w.heap.modify blk _)[b]? = _
  rw [Array.getElem?_modify, if_neg (fun e => hne e.symm)]
theorem sortE_calls {B : Nat} {v : Value} {D : List E} {w : World} (hR : kE.R 84 w B (fun _ => True) v D) (hl : D.length < 4611686018427387904) (hB : B ≤ w.heap.size) (hn : D.Nodup) :
    Calls Try.prog 35 #[v, .func (.func 36) #[] #[]] w fun e w' => e = .returned (.tuple #[]) ∧ (∃ A c, v = .slice A (sortE D).length c ∧ kE.C w' A (sortE D).length (sortE D)) ∧ Below B w w' := by
  have hlen : (sortE D).length = D.length := (sortE_perm D).length_eq
  obtain ⟨_, inner, ho, hr⟩ := id hR
  by_cases h0 : D.length = 0
  · have hD : D = [] := List.eq_nil_of_length_eq_zero h0
    subst hD
    obtain ⟨A, c, rfl, _, hC⟩ := Kd.R_reads hR
    have hz : sortE [] = [] := List.eq_nil_of_length_eq_zero hlen
    refine (AnyF.slices_SortFunc_none (P := Try.prog) (ρ := Try.sortP_ren) Try.sortP A c _ w).mono ?_
    rintro e w' ⟨rfl, rfl⟩
    rw [hz]
    exact ⟨rfl, ⟨A, c, rfl, hC⟩, Below.refl _ _⟩
  · obtain ⟨A, c, rfl, hcl, hC⟩ := Kd.R_reads hR
    obtain ⟨g, rfl, hBg, hgl⟩ : ∃ g, A = some ⟨g, 0, none⟩ ∧ B ≤ g ∧ g < w.heap.size := by
      obtain ⟨h1, h2 | ⟨g', cap, cur, e0, hb, hg, h3, h4, h5, h6⟩⟩ := ho
      · exact absurd h2.2 h0
      · injection e0 with e1 _ e3
        exact ⟨g', e1, hb, blk_lt hg⟩
    have hH := holdsE ho (hr.imp_ (fun p cs h => kE.M_mono (fun _ _ => trivial) h))
    let cf : E → E → Int := fun x y => ordF x y
    have hcf : ∀ x y : E, ltOf cf x y = lt x y := fun x y => ord_lt _ _
    have hswo : SWO (ltOf cf) := ⟨fun x => by rw [hcf]; exact lt_irrefl _, fun x y z h1 h2 => by rw [hcf] at *; exact lt_trans h1 h2, fun x y z h1 h2 => by
      rw [hcf] at *
      have a1 := leE_trans z y x
      simp only [Bool.not_eq_true'] at a1
      exact a1 h2 h1⟩
    have hT : ∀ x y : E, ltOf cf x y = false → ltOf cf y x = false → x = y := fun x y h1 h2 => by
      rw [hcf] at h1 h2
      refine Classical.byContradiction fun hne => ?_
      rcases lt_total hne with h | h
      · rw [h] at h1; cases h1
      · rw [h] at h2; cases h2
    have eg : ∀ args w, (callFunc 36 args).run Try.prog w = .ok (.enter 36 args) w := enters_of Try.func36 (by kernel_rfl) rfl
    have hsz : D.toArray.size = D.length := by simp
    refine (AnyQ.slices_SortFunc_total (P := Try.prog) (ρ := Try.sortP_ren) Try.sortP 2 (fun w => by kernel_rfl) (fun w => by kernel_rfl) encE (fun _ => rfl) (fun x v hv => by simp [encE] at hv; rcases hv with rfl | rfl <;> rfl) cf hswo 36 #[] g 0 c D.toArray w eg (fun m os dk _ x y => cmpE_calls x y _) hH hgl (by rw [hsz]; exact hl) hT).mono ?_
    rintro e w' ⟨rfl, q, os, rfl⟩
    have hys : (D.toArray.toList.mergeSort fun x y => !ltOf cf y x) = sortE D := by
      unfold sortE
      have h1 : D.toArray.toList = D := by simp
      rw [h1]
      congr 1
      funext x y
      rw [hcf]
    rw [hys]
    have hH2 := holdsK_sortWorldK_c encE 2 w g 0 D.toArray (sortE D).toArray q os hH hgl (by simp [hlen])
    have hC2 := readsE hH2 (by simp; omega)
    refine ⟨rfl, ⟨_, c, by rw [hlen], ?_⟩, ?_⟩
    · have e1 : (sortE D).toArray.size = (sortE D).length := by simp
      rw [e1] at hC2
      simpa using hC2
    · exact ⟨rfl, rfl, rfl, by unfold sortWorldK; rw [size_grow]; unfold putRowK putRow mapBlock; simp [Sort.ahead], fun k hk => heap_sortWorldK (by omega) (fun e => by omega)⟩
end Go.Proofs.Ytaefbibkkkglnaa.Wh
