/- next, the order behind one. No condition. -/
import Derived.Test.YtoopoecopahcbaaSmP
import Derived.Test.YtoopoecopahcbaaTrC
import Derived.Deep.QuietTactic
import Derived.BigQuiet
namespace Go.Proofs.Ytoopoecopahcbaa.Tr
open Go Go.RowKit Go.Proofs.YtoopoecopahcbaaW.PrintWords Go.Proofs.YtoopoecopahcbaaW.PrintLast Go.Proofs.YtoopoecopahcbaaW.PrintMore
set_option linter.unusedVariables false
set_option linter.unusedSimpArgs false

theorem infoI : (Try.prog.info? 3).map (fun i => (i.zero, i.size, i.bytes)) = some (some (.int .i64 0), 1, 8) := by kernel_rfl
theorem swap_perm {xs : List Int} {i j : Nat} (hi : i < xs.length) (hj : j < xs.length) : List.Perm ((xs.set i (xs.getD j 0)).set j (xs.getD i 0)) xs := by
  have e1 : xs.getD i 0 = xs[i] := by rw [List.getD_eq_getElem?_getD, List.getElem?_eq_getElem hi]; rfl
  have e2 : xs.getD j 0 = xs[j] := by rw [List.getD_eq_getElem?_getD, List.getElem?_eq_getElem hj]; rfl
  rw [e1, e2]
  exact List.set_set_perm hi hj
theorem swap_head {xs : List Int} {i j : Nat} (hi : 1 ≤ i) (hj : 1 ≤ j) (u v : Int) : ((xs.set i u).set j v).head? = xs.head? := by
  obtain ⟨a, rfl⟩ : ∃ a, i = a + 1 := ⟨i - 1, by omega⟩
  obtain ⟨b, rfl⟩ : ∃ b, j = b + 1 := ⟨j - 1, by omega⟩
  cases xs <;> rfl
/-- Another order of the same, with the same first. -/
def Like (r xs : List Int) : Prop := List.Perm r xs ∧ r.head? = xs.head?
theorem Like.refl (xs : List Int) : Like xs xs := ⟨List.Perm.refl _, rfl⟩
theorem Like.trans {a b c : List Int} (h : Like a b) (k : Like b c) : Like a c := ⟨h.1.trans k.1, h.2.trans k.2⟩
theorem Like.len {a b : List Int} (h : Like a b) : a.length = b.length := List.Perm.length_eq h.1
abbrev RI (w : World) (b g n cap : Nat) (xs : List Int) : Prop := (Kd.int .i64).R 3 w b (fun _ => True) (.slice (some ⟨g, 0, none⟩) n cap) xs
theorem ri_cell {w : World} {b g n cap : Nat} {xs : List Int} (h : RI w b g n cap xs) {i : Nat} (hi : i < n) : w.cell? ⟨g, i, none⟩ = some (.int .i64 (xs.getD i 0)) ∧ w.frozen? ⟨g, i, none⟩ = false := by
  obtain ⟨a, c⟩ := Kd.R_celln (0 : Int) h (i : Int) (by omega) (by omega)
  rw [Int.toNat_natCast] at a c
  exact ⟨a, c⟩
theorem ri_put {w : World} {b g n cap : Nat} {xs : List Int} (h : RI w b g n cap xs) (i : Nat) (x : Int) : RI (w.setCell ⟨g, i, none⟩ (.int .i64 x)) b g n cap (xs.set i x) := by
  have := Kd.R_putn h (i : Int) x
  rw [Int.toNat_natCast] at this
  exact this
def NextPost (xs : List Int) (w : World) (e : Ending) (w' : World) : Prop := ∃ v r, e = .returned v ∧ (Kd.int .i64).R 3 w' w.heap.size (fun _ => True) v r ∧ (r = [] ∨ Like r xs) ∧ Below w.heap.size w w'
set_option maxRecDepth 100000 in
set_option maxHeartbeats 8000000 in
theorem next_calls (A : Option Addr) (c : Nat) (xs : List Int) (w : World) (ha : Kd.C (Kd.int .i64) w A xs.length xs) (hc : xs.length ≤ c) (h1 : 1 ≤ xs.length) (hl : xs.length ≤ 1000) :
    Calls Try.prog 26 #[.slice A xs.length c] w (NextPost xs w) := by
  have HA := Aside0.mk ha
  clear ha
  go_enter Try.func26, Try.ntmps26
  go_upto_region 3 with (first | ((with_reducible refine gate_builtin (b := .append) (xs := #[.tmp 9, .tmp 10]) rfl ?_); at_builtin; refine Kd.R_append_rows (Kd.int .i64) (Rr := (Kd.int .i64).K w) (w0 := w) w.heap.size rfl (.tmp 9) (.tmp 10) 48 3 (.int .i64 0) 8 rfl Try.underlying48 infoI rfl (by decide) (by omega) (.slice none 0 0) ([]) (xs) (A) ((xs).length) (c) (fun _ => True) (fun _ => False) ?aV ?aX ?aO ?aR ?aK (fun _ hk => hk.elim) (fun _ _ => trivial) ?aB ?aS ?aL ?_; (case aV => rfl); (case aX => rfl); (case aO => exact Kd.R_nil _ _ _ _ _); (case aR => exact HA.out); (case aK => exact fun x cs h => h); (case aB => exact Below.refl _ _); (case aS => exact Nat.le_refl _); (case aL => (first | omega | (simp; omega))); intro v1 w1 ho hb hgr hat; rw [List.nil_append] at ho; have R1 := Aside0.mk ho; have B1 := Aside0.mk hb; clear ho hb hgr hat))
  obtain ⟨g, cap, rfl, hg1, hg2, _⟩ := Kd.R_form R1.out (by omega)
  have HGB := Aside0.mk hg1
  generalize hn : xs.length = n at *
  have HN := Aside0.mk hn
  clear hn hg2 hg1
  have R0 : Aside0 (RI w1 w.heap.size g n cap xs) := R1
  clear R1
  go_upto_block 0 with fail
  go_cut [4] (fun s4 wx => ∃ i : Int, s4 = .int .i64 i ∧ (i < 1 ∨ ∃ m : Nat, i = (m : Int) ∧ 1 ≤ m ∧ m + 1 < n ∧ xs.getD m 0 ≤ xs.getD (m + 1) 0) ∧ Aside0 (RI wx w.heap.size g n cap xs) ∧ Aside0 (Below w.heap.size w wx))
  case first =>
    go_wp2_with fail
    go_loopg [4] n (fun gh s4 wr => ∃ i : Int, s4 = .int .i64 i ∧ -1 ≤ i ∧ i + 2 ≤ (n : Int) ∧ gh = (i + 1).toNat + 1 ∧ Aside0 (RI wr w.heap.size g n cap xs) ∧ Aside0 (Below w.heap.size w wr))
    case atStart => exact ⟨(n : Int) - 2, by go_num, by omega, by omega, by omega, R0, B1⟩
    case round =>
      obtain ⟨i, rfl, hi1, hi2, rfl, RR, BB⟩ := hrel
      by_cases h1i : 1 ≤ i
      · obtain ⟨m, rfl⟩ := Int.eq_ofNat_of_zero_le (show 0 ≤ i by omega)
        obtain ⟨c0, _⟩ := ri_cell RR.out (i := m) (by omega)
        obtain ⟨c1, _⟩ := ri_cell RR.out (i := m + 1) (by omega)
        obtain ⟨x, hx⟩ : ∃ x, xs.getD m 0 = x := ⟨_, rfl⟩
        obtain ⟨y, hy⟩ : ∃ y, xs.getD (m + 1) 0 = y := ⟨_, rfl⟩
        rw [hx] at c0
        rw [hy] at c1
        have HX := Aside0.mk (And.intro hx hy)
        clear hx hy
        obtain ⟨m1, hm1⟩ : ∃ m1, m + 1 = m1 := ⟨_, rfl⟩
        rw [hm1] at c1
        have w1' : IntKind.i64.wrap ((m : Int) + 1) = (m1 : Int) := by rw [← hm1]; exact (Go.IntWalk.i64_in _ (by omega)).trans (by omega)
        have b0 : (0 : Int) ≤ (m : Int) := by omega
        have b1 : (m : Int) < (n : Int) := by omega
        have b2 : (0 : Int) ≤ (m1 : Int) := by omega
        have b3 : (m1 : Int) < (n : Int) := by omega
        have d1 : decide ((1 : Int) ≤ (m : Int)) = true := decide_eq_true (by omega)
        have d1n : decide (1 ≤ m) = true := decide_eq_true (by omega)
        have HM := Aside0.mk hm1
        clear hm1
        by_cases hxy : y < x
        · have d2 : decide (y < x) = true := decide_eq_true hxy
          go_wp2_with fail
          go_quiet (fail)
          go_wp2_with fail
          go_roundg (m + 1)
          case measure => omega
          case rel => exact ⟨(m : Int) - 1, by go_num, by omega, by omega, by omega, ⟨by first | exact Kd.R_drewN RR.out _ | exact RR.out⟩, ⟨by first | exact pw_below_drewN BB.out _ | exact BB.out⟩⟩
        · have d2 : decide (y < x) = false := decide_eq_false hxy
          go_wp2_with fail
          go_quiet (fail)
          go_wp2_with fail
          go_meet
          exact ⟨(m : Int), rfl, .inr ⟨m, rfl, by omega, by have := HM.out; omega, by rw [HX.out.1, HX.out.2]; omega⟩, ⟨by first | exact Kd.R_drewN RR.out _ | exact RR.out⟩, ⟨by first | exact pw_below_drewN BB.out _ | exact BB.out⟩⟩
      · have d1 : decide ((1 : Int) ≤ i) = false := decide_eq_false h1i
        go_wp2_with fail
        go_quiet (fail)
        go_wp2_with fail
        go_meet
        exact ⟨i, rfl, .inl (by omega), ⟨by first | exact Kd.R_drewN RR.out _ | exact RR.out⟩, ⟨by first | exact pw_below_drewN BB.out _ | exact BB.out⟩⟩
  case rest =>
    clear R0 B1
    obtain ⟨i, rfl, hcase, RR, BB⟩ := hcut
    rcases hcase with hi | ⟨m, rfl, m1, m2, hxy⟩
    · go_wp2_with fail
      go_ret
      exact ⟨_, [], rfl, Kd.R_nil _ _ _ _ _, .inl rfl, BB.out⟩
    · have HXY := Aside0.mk hxy
      clear hxy
      go_upto_block 2 with fail
      go_cut [5] (fun s5 wx => ∃ j : Nat, s5 = .int .i64 j ∧ m < j ∧ j < n ∧ Aside0 (RI wx w.heap.size g n cap xs) ∧ Aside0 (Below w.heap.size w wx))
      case first =>
        go_wp2_with fail
        go_loopg [5] n (fun gh s5 wr => ∃ j : Nat, s5 = .int .i64 j ∧ m < j ∧ j < n ∧ gh = j + 1 ∧ Aside0 (RI wr w.heap.size g n cap xs) ∧ Aside0 (Below w.heap.size w wr))
        case atStart => exact ⟨n - 1, by go_num, by omega, by omega, by omega, RR, BB⟩
        case round =>
          clear RR BB
          obtain ⟨j, rfl, hj1, hj2, rfl, RR, BB⟩ := hrel
          obtain ⟨c0, _⟩ := ri_cell RR.out (i := m) (by omega)
          obtain ⟨c1, _⟩ := ri_cell RR.out (i := j) (by omega)
          obtain ⟨x, hx⟩ : ∃ x, xs.getD m 0 = x := ⟨_, rfl⟩
          obtain ⟨y, hy⟩ : ∃ y, xs.getD j 0 = y := ⟨_, rfl⟩
          rw [hx] at c0
          rw [hy] at c1
          have HX := Aside0.mk (And.intro hx hy)
          clear hx hy
          have b0 : (0 : Int) ≤ (m : Int) := by omega
          have b1 : (m : Int) < (n : Int) := by omega
          have b2 : (0 : Int) ≤ (j : Int) := by omega
          have b3 : (j : Int) < (n : Int) := by omega
          by_cases hxy : y < x
          · have hne : j ≠ m + 1 := fun h => by
              subst h
              have := HXY.out
              rw [HX.out.1, HX.out.2] at this
              omega
            have d2 : decide (y < x) = true := decide_eq_true hxy
            go_wp2_with fail
            go_quiet (fail)
            go_wp2_with fail
            go_roundg j
            case measure => omega
            case rel => exact ⟨j - 1, by go_num, by omega, by omega, by omega, ⟨by first | exact Kd.R_drewN RR.out _ | exact RR.out⟩, ⟨by first | exact pw_below_drewN BB.out _ | exact BB.out⟩⟩
          · have d2 : decide (y < x) = false := decide_eq_false hxy
            go_wp2_with fail
            go_quiet (fail)
            go_wp2_with fail
            go_meet
            exact ⟨j, rfl, hj1, hj2, ⟨by first | exact Kd.R_drewN RR.out _ | exact RR.out⟩, ⟨by first | exact pw_below_drewN BB.out _ | exact BB.out⟩⟩
      case rest =>
        clear RR BB
        obtain ⟨j, rfl, hj1, hj2, RR, BB⟩ := hcut
        obtain ⟨c0, f0⟩ := ri_cell RR.out (i := m) (by omega)
        obtain ⟨c1, f1⟩ := ri_cell RR.out (i := j) (by omega)
        have P1 := ri_put (ri_put RR.out m (xs.getD j 0)) j (xs.getD m 0)
        have L1 : Like ((xs.set m (xs.getD j 0)).set j (xs.getD m 0)) xs := ⟨swap_perm (by rw [HN.out]; omega) (by rw [HN.out]; omega), swap_head m1 (by omega) _ _⟩
        have BS := Aside0.mk ((BB.out.setCell (p := ⟨g, m, none⟩) HGB.out (.int .i64 (xs.getD j 0))).setCell (p := ⟨g, j, none⟩) HGB.out (.int .i64 (xs.getD m 0)))
        generalize (xs.set m (xs.getD j 0)).set j (xs.getD m 0) = ys at *
        have PS := Aside0.mk P1
        have LS := Aside0.mk L1
        generalize xs.getD m 0 = x at *
        generalize xs.getD j 0 = y at *
        clear P1 L1
        have b0 : (0 : Int) ≤ (m : Int) := by omega
        have b1 : (m : Int) < (n : Int) := by omega
        have b2 : (0 : Int) ≤ (j : Int) := by omega
        have b3 : (j : Int) < (n : Int) := by omega
        have hne : m ≠ j := by omega
        go_upto_block 4 with fail
        generalize ((wc.setCell ⟨g, m, none⟩ (.int .i64 y)).setCell ⟨g, j, none⟩ (.int .i64 x)) = W2 at *
        go_wp2_with fail
        clear hne f0 f1 c0 c1
        go_loopg [6, 7, 8] (n - (m + 1)) (fun gh s6 s7 s8 wr => ∃ (a b : Nat) (zs : List Int), s7 = .int .i64 a ∧ s8 = .int .i64 b ∧ 1 ≤ a ∧ b < n ∧ a ≤ n ∧ gh = n - a ∧ Aside0 (Like zs xs) ∧ Aside0 (RI wr w.heap.size g n cap zs) ∧ Aside0 (Below w.heap.size w wr))
        case atStart => exact ⟨m + 1, n - 1, ys, by go_num, by go_num, by omega, by omega, by omega, by omega, LS, PS, BS⟩
        case round =>
          clear PS BS LS RR BB
          obtain ⟨a, b, zs, rfl, rfl, ha, hb, han, rfl, LZ, RZ, BZ⟩ := hrel
          by_cases hab : a < b
          · obtain ⟨c0, f0⟩ := ri_cell RZ.out (i := a) (by omega)
            obtain ⟨c1, f1⟩ := ri_cell RZ.out (i := b) (by omega)
            have P1 := ri_put (ri_put RZ.out a (zs.getD b 0)) b (zs.getD a 0)
            have L1 : Like ((zs.set a (zs.getD b 0)).set b (zs.getD a 0)) zs := ⟨swap_perm (by rw [LZ.out.len, HN.out]; omega) (by rw [LZ.out.len, HN.out]; omega), swap_head ha (by omega) _ _⟩
            have BS := Aside0.mk ((BZ.out.setCell (p := ⟨g, a, none⟩) HGB.out (.int .i64 (zs.getD b 0))).setCell (p := ⟨g, b, none⟩) HGB.out (.int .i64 (zs.getD a 0)))
            generalize (zs.set a (zs.getD b 0)).set b (zs.getD a 0) = ys at *
            have PS := Aside0.mk P1
            have LS := Aside0.mk (L1.trans LZ.out)
            generalize zs.getD a 0 = x at *
            generalize zs.getD b 0 = y at *
            clear P1 L1 RZ LZ BZ
            have b0 : (0 : Int) ≤ (a : Int) := by omega
            have b1 : (a : Int) < (n : Int) := by omega
            have b2 : (0 : Int) ≤ (b : Int) := by omega
            have b3 : (b : Int) < (n : Int) := by omega
            have hne : a ≠ b := by omega
            go_wp2_with fail
            go_roundg (n - (a + 1))
            case measure => omega
            case rel => exact ⟨a + 1, b - 1, ys, by go_num, by go_num, by omega, by omega, by omega, rfl, LS, PS, BS⟩
          · go_wp2_with fail
            go_ret
            exact ⟨_, zs, rfl, RZ.out, .inr LZ.out, BZ.out⟩
end Go.Proofs.Ytoopoecopahcbaa.Tr
