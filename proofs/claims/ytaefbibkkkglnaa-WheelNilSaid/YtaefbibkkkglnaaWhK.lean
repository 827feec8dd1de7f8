/- WheelMoved: the plain law. No condition. -/
import Derived.Test.YtaefbibkkkglnaaWhG
namespace Go.Proofs.Ytaefbibkkkglnaa.Wh
open Go Go.RowKit Go.Proofs.YtaefbibkkkglnaaW.PrintWords
set_option linter.unusedVariables false
set_option linter.unusedSimpArgs false
theorem putF_filter_neg {e : E} {l : List E} {p : E → Bool} (h : p e = false) : (putF e l).filter p = l.filter p := by
  unfold putF
  rw [List.filter_append, List.filter_cons_of_neg (by rw [h]; simp), ← List.filter_append, List.takeWhile_append_dropWhile]
theorem putF_filter_pos {e : E} {l : List E} {p : E → Bool} (h : p e = true) (hs : Sorted l) (hne : ∀ f ∈ l, f.1 ≠ e.1) : (putF e l).filter p = putF e (l.filter p) := by
  refine sorted_ext ((putF_sorted hs (fun f hf q => hne f hf (by rw [q]))).sublist List.filter_sublist) (putF_sorted (hs.sublist List.filter_sublist) (fun f hf q => hne f (List.mem_filter.1 hf).1 (by rw [q]))) ?_
  refine ((putF_perm e l).filter p).trans ?_
  rw [List.filter_cons_of_pos h]
  exact (putF_perm e (l.filter p)).symm
theorem cutF_len {id : ByteArray} : ∀ {l : List E}, (l.map Prod.fst).Nodup → id ∈ l.map Prod.fst → (cutF id l).length + 1 = l.length
  | [], _, h => by simp at h
  | e :: l, hn, h => by
    rw [List.map_cons, List.nodup_cons] at hn
    unfold cutF
    by_cases he : e.1 = id
    · subst he
      have : (l.filter fun f => decide (f.1 ≠ e.1)) = l := by
        rw [List.filter_eq_self]
        intro f hf
        simp
        intro q
        exact hn.1 (q ▸ List.mem_map.2 ⟨f, hf, rfl⟩)
      rw [List.filter_cons_of_neg (by simp), this]
      rfl
    · have h' : id ∈ l.map Prod.fst := by
        rw [List.map_cons, List.mem_cons] at h
        rcases h with h | h
        · exact absurd h.symm he
        · exact h
      rw [List.filter_cons_of_pos (by simpa using he)]
      have := cutF_len hn.2 h'
      unfold cutF at this
      simp only [List.length_cons]
      omega
theorem putF_len (e : E) (l : List E) : (putF e l).length = l.length + 1 := (putF_perm e l).length_eq
theorem cutF_ne {id : ByteArray} {l : List E} : ∀ f ∈ cutF id l, f.1 ≠ id := fun f hf => (cutF_mem.1 hf).2
theorem hasB_cut (id : ByteArray) (l : List E) : hasB (cutF id l) id = false := by
  rw [Bool.eq_false_iff]
  intro h
  obtain ⟨f, hf, e⟩ := List.mem_map.1 (hasB_iff.1 h)
  exact cutF_ne f hf e
theorem fillL_in {now : Int} {fs : List Int} {n k : Nat} (hk : k < n) : hasB (fillL now fs n) (nm k) = true := by
  refine hasB_iff.2 (((fillL_perm now fs n).map Prod.fst).mem_iff.2 ?_)
  rw [List.map_map]
  exact List.mem_map.2 ⟨k, List.mem_range.2 hk, rfl⟩
/-- What the two wheels hold and tell. -/
structure Moved (now t : Int) (id : ByteArray) (L LW LX : List E) (T0 : List ByteArray) (ys zs : List ByteArray) : Prop where
  ce : changeE now L id t = 0
  cl : changeL now L id t = LW
  re : findE L id = 0
  rl : removeL L id = LX
  ae : findE LW id = 0
  av : atV LW id = t
  xe : findE LX id = 7
  lw : LW.length = L.length
  lx : LX.length + 1 = L.length
  tw : (toldF (t - 1) LW).map Prod.fst = T0
  tx : (toldF (t - 1) LX).map Prod.fst = T0
  uw : (toldF t (leftF (t - 1) LW)).map Prod.fst = ys ++ id :: zs
  ux : (toldF t (leftF (t - 1) LX)).map Prod.fst = ys ++ zs
  ny : id ∉ ys
  nz : id ∉ zs
  ll : leftF t (leftF (t - 1) LW) = leftF t (leftF (t - 1) LX)
  t0 : T0.length ≤ L.length
  yz : (ys ++ zs).length ≤ L.length
theorem moved_ok {now t : Int} {id : ByteArray} {L : List E} (hs : Sorted L) (hnd : (L.map Prod.fst).Nodup) (hid : nameB id = true) (hin : hasB L id = true) (h0 : 0 ≤ now) (ht : now < t) (ht1 : t ≤ 1099511627776) : ∃ T0 ys zs, Moved now t id L (putF (id, t) (cutF id L)) (cutF id L) T0 ys zs := by
  have hfe : findE L id = 0 := by unfold findE; rw [if_pos hid, if_pos hin]
  have hte : timeE now t = 0 := by unfold timeE; rw [if_pos (by omega), if_neg (by omega)]
  have hce : changeE now L id t = 0 := by unfold changeE; rw [if_pos hfe]; exact hte
  have hsx : Sorted (cutF id L) := cutF_sorted _ hs
  have hmem : ((id, t) : E) ∈ putF (id, t) (cutF id L) := (putF_perm _ _).mem_iff.2 List.mem_cons_self
  have hinw : hasB (putF (id, t) (cutF id L)) id = true := hasB_iff.2 (List.mem_map.2 ⟨_, hmem, rfl⟩)
  have haw : findE (putF (id, t) (cutF id L)) id = 0 := by unfold findE; rw [if_pos hid, if_pos hinw]
  have hndx : ((cutF id L).map Prod.fst).Nodup := hnd.sublist (List.filter_sublist.map _)
  have hndw : ((putF (id, t) (cutF id L)).map Prod.fst).Nodup := by
    refine ((putF_perm (id, t) (cutF id L)).map Prod.fst).nodup_iff.2 ?_
    rw [List.map_cons, List.nodup_cons]
    exact ⟨fun h => by obtain ⟨f, hf, e⟩ := List.mem_map.1 h; exact cutF_ne f hf e, hndx⟩
  have hll : leftF (t - 1) (putF (id, t) (cutF id L)) = putF (id, t) (leftF (t - 1) (cutF id L)) := putF_filter_pos (by simp; omega) hsx cutF_ne
  have hsl : Sorted (leftF (t - 1) (cutF id L)) := hsx.sublist List.filter_sublist
  have hnel : ∀ f ∈ leftF (t - 1) (cutF id L), f.1 ≠ id := fun f hf => cutF_ne f (List.mem_filter.1 hf).1
  have htl : toldF t (putF (id, t) (leftF (t - 1) (cutF id L))) = putF (id, t) (toldF t (leftF (t - 1) (cutF id L))) := putF_filter_pos (by simp) hsl hnel
  have hneB : ∀ f ∈ toldF t (leftF (t - 1) (cutF id L)), f.1 ≠ id := fun f hf => hnel f (List.mem_filter.1 hf).1
  have hlen := cutF_len hnd (hasB_iff.1 hin)
  have hBl : (toldF t (leftF (t - 1) (cutF id L))).length ≤ L.length := by
    have e1 : (toldF t (leftF (t - 1) (cutF id L))).length ≤ (leftF (t - 1) (cutF id L)).length := List.length_filter_le _ _
    have e2 : (leftF (t - 1) (cutF id L)).length ≤ (cutF id L).length := List.length_filter_le _ _
    omega
  refine ⟨(toldF (t - 1) (cutF id L)).map Prod.fst, ((toldF t (leftF (t - 1) (cutF id L))).takeWhile (fun f => lt f (id, t))).map Prod.fst, ((toldF t (leftF (t - 1) (cutF id L))).dropWhile (fun f => lt f (id, t))).map Prod.fst, hce, ?_, hfe, ?_, haw, ?_, ?_, ?_, hlen, ?_, rfl, ?_, ?_, ?_, ?_, ?_, ?_, ?_⟩
  · unfold changeL; rw [if_pos hce]
  · unfold removeL; rw [if_pos hfe]
  · unfold atV; rw [if_pos haw]; exact timeOf_eq (e := (id, t)) hndw hmem
  · unfold findE; rw [if_pos hid, if_neg (by rw [hasB_cut]; simp)]
  · rw [putF_len]; exact hlen
  · exact congrArg (List.map Prod.fst) (putF_filter_neg (p := fun e : E => decide (e.2 ≤ t - 1)) (by simp; omega))
  · rw [hll, htl]
    unfold putF
    rw [List.map_append, List.map_cons]
  · rw [← List.map_append, List.takeWhile_append_dropWhile]
  · intro h
    obtain ⟨f, hf, e⟩ := List.mem_map.1 h
    exact hneB f ((List.takeWhile_sublist _).subset hf) e
  · intro h
    obtain ⟨f, hf, e⟩ := List.mem_map.1 h
    exact hneB f ((List.dropWhile_sublist _).subset hf) e
  · rw [hll]
    exact putF_filter_neg (p := fun e : E => decide (t < e.2)) (by simp)
  · rw [List.length_map]
    have e1 : (toldF (t - 1) (cutF id L)).length ≤ (cutF id L).length := List.length_filter_le _ _
    omega
  · rw [← List.map_append, List.takeWhile_append_dropWhile, List.length_map]
    exact hBl
def jAt (n i : Nat) : Nat := if i ≤ n then i else i - 1
theorem walk_at {id : ByteArray} {ys zs : List ByteArray} (h1 : id ∉ ys) (h2 : id ∉ zs) (i : Nat) (hi : i < (ys ++ id :: zs).length) :
    (i = ys.length ∧ (ys ++ id :: zs)[i] = id) ∨ (i ≠ ys.length ∧ ∃ hj : jAt ys.length i < (ys ++ zs).length, (ys ++ id :: zs)[i] = (ys ++ zs)[jAt ys.length i] ∧ (ys ++ id :: zs)[i] ≠ id) := by
  unfold jAt
  have hl : (ys ++ id :: zs).length = ys.length + zs.length + 1 := by simp; omega
  have hl2 : (ys ++ zs).length = ys.length + zs.length := by simp
  rcases Nat.lt_trichotomy i ys.length with h | h | h
  · have e1 : (ys ++ id :: zs)[i] = ys[i] := List.getElem_append_left h
    refine .inr ⟨by omega, by rw [if_pos (by omega)]; omega, ?_, ?_⟩
    · rw [e1]
      simp only [if_pos (show i ≤ ys.length by omega)]
      exact (List.getElem_append_left h).symm
    · rw [e1]
      intro q
      exact h1 (q ▸ List.getElem_mem h)
  · subst h
    exact .inl ⟨rfl, by simp⟩
  · obtain ⟨m, rfl⟩ : ∃ m, i = ys.length + 1 + m := ⟨i - (ys.length + 1), by omega⟩
    have hm : m < zs.length := by omega
    have e1 : (ys ++ id :: zs)[ys.length + 1 + m] = zs[m] := by
      rw [List.getElem_append_right (by omega)]
      simp only [show ys.length + 1 + m - ys.length = m + 1 by omega, List.getElem_cons_succ]
    refine .inr ⟨by omega, by rw [if_neg (by omega)]; omega, ?_, ?_⟩
    · rw [e1]
      simp only [if_neg (show ¬ ys.length + 1 + m ≤ ys.length by omega)]
      rw [List.getElem_append_right (by omega)]
      simp only [show ys.length + 1 + m - 1 - ys.length = m by omega]
    · rw [e1]
      intro q
      exact h2 (q ▸ List.getElem_mem hm)
theorem toList_ne {a b : ByteArray} (h : a ≠ b) : (a.toList == b.toList) = false := by
  rw [beq_eq_false_iff_ne]
  intro q
  exact h (str_inj q)
end Go.Proofs.Ytaefbibkkkglnaa.Wh
