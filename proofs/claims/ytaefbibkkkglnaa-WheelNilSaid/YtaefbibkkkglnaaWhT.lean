/- Wheel: Advance over the sorted list; filled. No condition. -/
import Derived.Test.YtaefbibkkkglnaaWhF
namespace Go.Proofs.Ytaefbibkkkglnaa.Wh
open Go Go.RowKit Go.Proofs.YtaefbibkkkglnaaW.PrintWords Go.Proofs.Ytaefbibkkkglnaa.Mp Go.Proofs.Ytaefbibkkkglnaa.Fr
set_option linter.unusedVariables false
set_option linter.unusedSimpArgs false

theorem add_blk (a : Addr) (n : Nat) : (a.add n).block = a.block := by unfold Addr.add; split <;> rfl
def toldF (t : Int) (l : List E) : List E := l.filter fun e => decide (e.2 ≤ t)
def leftF (t : Int) (l : List E) : List E := l.filter fun e => decide (t < e.2)
theorem gone_ent (t : Int) (F : List Node) : (gone t F).map ent = toldF t (F.map ent) := by
  unfold gone toldF
  rw [List.filter_map]
  rfl
theorem kept_ent (t : Int) (F : List Node) : (kept t F).map ent = leftF t (F.map ent) := by
  unfold kept leftF
  rw [List.filter_map]
  rfl
section
variable {w w' : World} {O : Nat → Prop} {p : Nat} {now : Int} {l : List E}
theorem advance_calls (h : Whl w O p now l) (t : Int) (ht0 : 0 ≤ t) (ht1 : t ≤ 1099511627776) (hnt : now ≤ t) :
    Calls Try.prog 14 #[.pointer (some ⟨p, 0, none⟩), .int .i64 t] w fun e w' =>
      ∃ v, e = .returned (.tuple #[v, .int .i64 0]) ∧ Kd.string.R 9 w' w.heap.size (fun _ => True) v ((toldF t l).map Prod.fst) ∧ Whl w' O p t (leftF t l) ∧ Only O w w' := by
  obtain ⟨⟨m, S, h1, h2, h3⟩, a1, a2, a3, a4, a5, a6⟩ := h
  have hnl : (nodes S).length ≤ 4096 := by
    have := h3.length_eq
    simp at this
    omega
  refine (adv_main t h1 h2 a6 a1 a2 ht0 ht1 hnt hnl).mono ?_
  rintro e w' ⟨v, D, rfl, hR, hp, hs, ⟨S', r1, r2, r3⟩, hO⟩
  have e1 : D.map ent = toldF t l := by
    refine sorted_ext hs (a3.sublist List.filter_sublist) ?_
    refine (hp.map ent).trans ?_
    rw [gone_ent]
    exact (h3.filter _).symm
  refine ⟨v, rfl, ?_, ⟨⟨m, S', r1, r2, ?_⟩, ht0, ht1, a3.sublist List.filter_sublist, fun e he => a4 e (List.mem_filter.1 he).1, Nat.le_trans (List.length_filter_le _ _) a5, fun b hb => Nat.lt_of_lt_of_le (a6 b hb) hO.size⟩, hO⟩
  · rw [← e1, List.map_map]
    exact hR
  · refine List.Perm.trans ?_ (r3.map ent).symm
    rw [kept_ent]
    exact h3.filter _
end

/-! ### filled -/
def farT (now : Int) (fs : List Int) (i : Nat) : Int := now + 1 + winF (fs.getD i 0) 0 549755813888
def fillL (now : Int) (fs : List Int) : Nat → List E
  | 0 => []
  | k + 1 => putF (nm k, farT now fs k) (fillL now fs k)
theorem fillL_perm (now : Int) (fs : List Int) (k : Nat) : (fillL now fs k).Perm ((List.range k).map fun i => (nm i, farT now fs i)) := by
  induction k with
  | zero => exact List.Perm.refl _
  | succ k ih =>
    rw [List.range_succ, List.map_append]
    refine (putF_perm _ _).trans ?_
    refine (ih.cons _).trans ?_
    exact (List.perm_append_singleton _ _).symm
theorem fillL_len (now : Int) (fs : List Int) (k : Nat) : (fillL now fs k).length = k := by
  rw [(fillL_perm now fs k).length_eq]
  simp
theorem fillL_has {now : Int} {fs : List Int} {k : Nat} (hk : k ≤ 400) : hasB (fillL now fs k) (nm k) = false := by
  rw [Bool.eq_false_iff]
  intro h
  have h1 := hasB_iff.1 h
  have h2 := ((fillL_perm now fs k).map Prod.fst).mem_iff.1 h1
  rw [List.map_map] at h2
  obtain ⟨i, hi, e⟩ := List.mem_map.1 h2
  have := List.mem_range.1 hi
  have := nm_inj (a := i) (b := k) (by omega) hk e
  omega
theorem fill_add {now : Int} {fs : List Int} {k : Nat} (h0 : 0 ≤ now) (h1 : now ≤ 549755813887) (hk : k < 400) (hfs : ∀ x ∈ fs, -9223372036854775808 ≤ x ∧ x ≤ 9223372036854775807) (hlt : k < fs.length) :
    addE now (fillL now fs k) (nm k) (farT now fs k) = 0 ∧ addL now (fillL now fs k) (nm k) (farT now fs k) = fillL now fs (k + 1) := by
  have hm : fs.getD k 0 ∈ fs := by
    rw [List.getD_eq_getElem?_getD, List.getElem?_eq_getElem hlt]
    exact List.getElem_mem hlt
  obtain ⟨q0, q1⟩ := hfs _ hm
  have hb := winF_bd (lo := 0) (hi := 549755813888) q0 q1 (by omega)
  have ht : timeE now (farT now fs k) = 0 := by
    unfold timeE farT
    rw [if_pos (by omega), if_neg (by omega)]
  have : addE now (fillL now fs k) (nm k) (farT now fs k) = 0 := by
    unfold addE
    rw [if_pos (nm_good (by omega)), if_neg (by rw [fillL_has (by omega)]; simp), if_pos ht, if_neg (by rw [fillL_len]; omega)]
  refine ⟨this, ?_⟩
  unfold addL
  rw [if_pos this]
  rfl

/-- What stands of a wheel that filled made. -/
def Filled (w : World) (now : Int) (l : List E) (e : Ending) (w' : World) : Prop :=
  ∃ p O, e = .returned (.pointer (some ⟨p, 0, none⟩)) ∧ Whl w' O p now l ∧ (∀ b, O b → w.heap.size ≤ b) ∧ Below w.heap.size w w'
theorem i64_far {now : Int} {fs : List Int} {k : Nat} (h0 : 0 ≤ now) (h1 : now ≤ 549755813887) (hfs : ∀ x ∈ fs, -9223372036854775808 ≤ x ∧ x ≤ 9223372036854775807) (hlt : k < fs.length) :
    IntKind.i64.wrap (now + 1) = now + 1 ∧ IntKind.i64.wrap (now + 1 + winF fs[k] 0 549755813888) = farT now fs k := by
  obtain ⟨q0, q1⟩ := hfs _ (List.getElem_mem hlt)
  have hb := winF_bd (lo := 0) (hi := 549755813888) q0 q1 (by omega)
  refine ⟨IntWalk.i64_in _ (by omega), ?_⟩
  rw [IntWalk.i64_in _ (by omega)]
  unfold farT
  rw [List.getD_eq_getElem?_getD, List.getElem?_eq_getElem hlt]
  rfl
set_option maxHeartbeats 1000000 in
theorem filled_calls (now : Int) (A : Option Addr) (c : Nat) (fs : List Int) (w : World) (h0 : 0 ≤ now) (h1 : now ≤ 549755813887) (hfs : ∀ x ∈ fs, -9223372036854775808 ≤ x ∧ x ≤ 9223372036854775807) (hC : Kd.C (Kd.int .i64) w A fs.length fs) (hl : fs.length ≤ 400) (hc : fs.length ≤ c) :
    Calls Try.prog 12 #[.int .i64 now, .slice A fs.length c] w (Filled w now (fillL now fs fs.length)) := by
  have HC := Aside0.mk hC
  have HF := Aside0.mk hfs
  clear hC
  go_enter Try.func12, Try.ntmps12
  go_wp2_with fail
  refine (new_calls now _ h0 (by omega)).mono ?_
  rintro e w1 ⟨rfl, hW, hB⟩
  have HW := Aside0.mk hW
  have HB := Aside0.mk hB
  clear hW hB
  go_wp2_with fail
  go_loopg [7, 8] fs.length (fun g v7 v8 wx => ∃ i : Nat, g = fs.length - i ∧ i ≤ fs.length ∧ v7 = .int .i64 i ∧ Aside0 (∃ O, Whl wx O (w.heap.size + 1) now (fillL now fs i) ∧ (∀ b, O b → w.heap.size ≤ b)) ∧ Aside0 (Below w.heap.size w wx))
  case atStart => exact ⟨0, rfl, by omega, rfl, ⟨_, HW.out, fun b hb => hb.1⟩, HB⟩
  case round =>
    obtain ⟨i, rfl, hi, rfl, HX, HBX⟩ := hrel
    by_cases h : i < fs.length
    · obtain ⟨O, hWx, hO⟩ := HX.out
      have hCx := Kd.C_below HC.out HBX.out
      obtain ⟨ad, rfl, c1⟩ := at_I hCx i h
      have hbl : ad.block < w.heap.size := by
        obtain ⟨ad', e', c'⟩ := at_I HC.out i h
        injection e' with e'
        subst e'
        exact add_blk _ i ▸ World.block_lt_of_cell? _ _ c'
      have i0 : (0 : Int) ≤ (i : Int) := by omega
      have i1 : (i : Int) < (fs.length : Int) := by omega
      obtain ⟨e1, e2⟩ := i64_far h0 h1 hfs h
      obtain ⟨q0, q1⟩ := hfs _ (List.getElem_mem h)
      have hadd := fill_add (fs := fs) (k := i) h0 h1 (by omega) hfs h
      generalize fs[i] = x at *
      generalize hT : farT now fs i = T at *
      have HA := Aside0.mk hadd
      have HWX := Aside0.mk hWx
      have HOO := Aside0.mk hO
      clear hadd hWx hO hCx hfs HX
      go_wp2_with fail
      go_region_held3 (fun w' => w'.cell? (ad.add i) = some (.int .i64 x)) (go_keep) (first
        | (go_at_call 15; refine (name_calls i _ (by omega)).mono ?_; rintro e w2 ⟨rfl, n1, rfl⟩)
        | (go_at_call 10; refine (within_calls x 0 549755813888 _ q0 q1 (by omega) (by omega) (by omega)).mono ?_; rintro e w3 ⟨rfl, rfl⟩)
        | (go_at_call 26; refine (add_calls (HWX.out.drewN _) (nm i) T (by rw [(nm_ok (n := i) (by omega)).1]; omega)).mono ?_; rintro e w4 ⟨rfl, O4, hW4, hO4, ho4⟩; have c4 : w4.cell? (ad.add i) = some (.int .i64 x) := ho4.cell c1 (fun hb => by have hz := HOO.out _ hb; rw [add_blk] at hz; omega); have H4 := Aside0.mk (And.intro hW4 (And.intro hO4 ho4)); clear hW4 hO4 ho4))
      obtain ⟨hA1, hA2⟩ := HA.out
      rw [hA1]
      obtain ⟨hW4, hO4, ho4⟩ := H4.out
      rw [hA2] at hW4
      have HW4 := Aside0.mk hW4
      have HO4 := Aside0.mk hO4
      have Ho4 := Aside0.mk ho4
      clear hW4 hO4 ho4 hA1 hA2 c4
      go_wp2_with fail
      go_roundg (fs.length - (i + 1))
      case measure => omega
      case rel => exact ⟨i + 1, rfl, by omega, by go_num, ⟨O4, HW4.out, fun b hb => (HO4.out b hb).elim (HOO.out b) (fun q => Nat.le_trans HBX.out.size q)⟩, ⟨Ho4.out.below_of (pw_below_drewN HBX.out _) HBX.out.size (fun k hk hb => by have := HOO.out k hb; omega)⟩⟩
    · obtain rfl : i = fs.length := by omega
      go_wp2_with fail
      go_ret
      obtain ⟨O, hWx, hO⟩ := HX.out
      exact ⟨_, O, rfl, hWx, hO, HBX.out⟩
end Go.Proofs.Ytaefbibkkkglnaa.Wh
