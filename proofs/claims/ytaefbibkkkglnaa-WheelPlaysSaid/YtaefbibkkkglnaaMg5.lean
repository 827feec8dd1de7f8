/- The reference wheel: Spread. No condition. -/
import Derived.Test.YtaefbibkkkglnaaMg4
import Derived.Test.YtaefbibkkkglnaaWEqStruct
namespace Go.Proofs.Ytaefbibkkkglnaa.Wh
open Go Go.RowKit Go.Proofs.YtaefbibkkkglnaaW.PrintWords Go.Proofs.Ytaefbibkkkglnaa.Fr
set_option linter.unusedVariables false
set_option linter.unusedSimpArgs false
theorem Arr7.put {w : World} {g : Nat} {f f' : Nat → Nat} (h : Arr7 w g f) {k : Nat} (hk : k < 7) (hf : ∀ j, j < 7 → f' j = if j = k then f j + 1 else f j) : Arr7 (w.setCell ⟨g, k, none⟩ (.int .i64 ((f k + 1 : Nat) : Int))) g f' := by
  have h0 := hf 0 (by omega)
  have h1 := hf 1 (by omega)
  have h2 := hf 2 (by omega)
  have h3 := hf 3 (by omega)
  have h4 := hf 4 (by omega)
  have h5 := hf 5 (by omega)
  have h6 := hf 6 (by omega)
  unfold Arr7
  rw [blk_set h k, h0, h1, h2, h3, h4, h5, h6]
  match k, hk with
  | 0, _ => rfl
  | 1, _ => rfl
  | 2, _ => rfl
  | 3, _ => rfl
  | 4, _ => rfl
  | 5, _ => rfl
  | 6, _ => rfl
theorem spr_snoc (now : Int) (l : List E) (e : E) (j : Nat) : spr now (l ++ [e]) j = if j = rg e.2 now then spr now l j + 1 else spr now l j := by
  unfold spr
  rw [List.filter_append, List.length_append]
  by_cases h : j = rg e.2 now
  · rw [if_pos h, List.filter_cons_of_pos (by simpa using h.symm)]
    rfl
  · rw [if_neg h, List.filter_cons_of_neg (by simp; exact fun q => h q.symm)]
    rfl
section
variable {w w' : World} {R : Nat → Prop} {r : Nat} {now : Int} {l : List E}
set_option maxRecDepth 100000 in
set_option maxHeartbeats 2000000 in
theorem rspread_calls (h : Ref w R r now l) (hl : l.length ≤ 4096) (h0 : 0 ≤ now) (hlate : ∀ e ∈ l, now < e.2 ∧ e.2 ≤ 1099511627776) : Calls Try.prog 51 #[.pointer (some ⟨r, 0, none⟩)] w fun e w' => e = .returned (sprV (spr now l)) ∧ Below w.heap.size w w' := by
  have hz0 : spr now (l.take 0) = fun _ => 0 := rfl
  have HZ := Aside0.mk (show Arr7 ((w.alloc (.cells #[.int .i64 0, .int .i64 0, .int .i64 0, .int .i64 0, .int .i64 0, .int .i64 0, .int .i64 0] 36 (0, 0))).alloc (.cells #[.int .i64 0, .int .i64 0, .int .i64 0, .int .i64 0, .int .i64 0, .int .i64 0, .int .i64 0] 36 (0, 0))) (w.heap.size + 1) (spr now (l.take 0)) from by
    have h := heap_alloc_new (w.alloc (.cells #[.int .i64 0, .int .i64 0, .int .i64 0, .int .i64 0, .int .i64 0, .int .i64 0, .int .i64 0] 36 (0, 0))) (.cells #[.int .i64 0, .int .i64 0, .int .i64 0, .int .i64 0, .int .i64 0, .int .i64 0, .int .i64 0] 36 (0, 0))
    rw [World.size_alloc] at h
    rw [hz0]
    exact h)
  have HY := Aside0.mk (show Arr7 ((w.alloc (.cells #[.int .i64 0, .int .i64 0, .int .i64 0, .int .i64 0, .int .i64 0, .int .i64 0, .int .i64 0] 36 (0, 0))).alloc (.cells #[.int .i64 0, .int .i64 0, .int .i64 0, .int .i64 0, .int .i64 0, .int .i64 0, .int .i64 0] 36 (0, 0))) w.heap.size (fun _ => 0) from (Below.heap_alloc _ _ _ (by rw [World.size_alloc]; omega)).trans (heap_alloc_new w (.cells #[.int .i64 0, .int .i64 0, .int .i64 0, .int .i64 0, .int .i64 0, .int .i64 0, .int .i64 0] 36 (0, 0))))
  have HB := Aside0.mk (show Below w.heap.size w ((w.alloc (.cells #[.int .i64 0, .int .i64 0, .int .i64 0, .int .i64 0, .int .i64 0, .int .i64 0, .int .i64 0] 36 (0, 0))).alloc (.cells #[.int .i64 0, .int .i64 0, .int .i64 0, .int .i64 0, .int .i64 0, .int .i64 0, .int .i64 0] 36 (0, 0))) from below_alloc (below_alloc (Below.refl _ w) _) _)
  have HH := Aside0.mk (h.below HB.out)
  have hrs : r < w.heap.size := h.lt r h.own
  have HLT := Aside0.mk h.lt
  have HL := Aside0.mk hlate
  clear h hz0 hlate
  go_enter Try.func51, Try.ntmps51
  go_wp2_with fail
  generalize ((w.alloc (.cells #[.int .i64 0, .int .i64 0, .int .i64 0, .int .i64 0, .int .i64 0, .int .i64 0, .int .i64 0] 36 (0, 0))).alloc (.cells #[.int .i64 0, .int .i64 0, .int .i64 0, .int .i64 0, .int .i64 0, .int .i64 0, .int .i64 0] 36 (0, 0))) = w1 at *
  generalize hg0 : w.heap.size = g0 at *
  have HG0 := Aside0.mk hg0
  clear hg0
  obtain ⟨A, c, h1, h2, h3, h4⟩ := HH.out.hd
  have hrl := HH.out.lt r HH.out.own
  have HRB := Aside0.mk h1
  have H3 := Aside0.mk h3
  have H4 := Aside0.mk (show l ≠ [] → ∀ ad, A = some ad → ad.block ≠ g0 ∧ ad.block ≠ g0 + 1 from fun hne ad e => by have := HLT.out _ (h4 ad e).1; omega)
  clear h1 h3 h4
  go_loopg [4, 5] l.length (fun g v4 v5 wx => ∃ i : Nat, g = l.length - i ∧ i ≤ l.length ∧ v4 = .int .i64 i ∧ Aside0 (Arr7 wx (g0 + 1) (spr now (l.take i))) ∧ Aside0 (Only (fun b => b = g0 + 1) w1 wx))
  case atStart => exact ⟨0, rfl, by omega, rfl, HZ, ⟨Only.refl _ _⟩⟩
  case round =>
    clear HZ
    obtain ⟨i, rfl, hi, rfl, HA, HO⟩ := hrel
    have hrb : wr.heap[r]? = _ := (HO.out.block r hrl (by show ¬ r = g0 + 1; omega)).trans HRB.out
    have y0 : wr.cell? ⟨r, 0, none⟩ = some (.int .i64 now) := blk_cell hrb 0
    have y1 : wr.cell? ⟨r, 1, none⟩ = some (.slice A l.length c) := blk_cell hrb 1
    clear hrb
    have i0 : (0 : Int) ≤ (i : Int) := by omega
    by_cases hil : i < l.length
    · obtain ⟨ad, rfl, z1', z2'⟩ := at_E H3.out i hil
      have hab := H4.out (fun e => by rw [e] at hil; simp at hil) ad rfl
      have z2 := HO.out.cell z2' (by show ¬ (ad.add (i * 2)).block = g0 + 1; rw [add_blk2]; exact hab.2)
      clear z1' z2'
      have i1 : (i : Int) < (l.length : Int) := by omega
      obtain ⟨t1, t2⟩ := HL.out _ (List.getElem_mem hil)
      have hrg : rg l[i].2 now < 7 := rg_lt7 h0 t1 t2
      have hcalls := fun w => Ring_calls now.toNat l[i].2.toNat w (by omega) (by omega)
      rw [show ((now.toNat : Nat) : Int) = now from Int.toNat_of_nonneg h0, show ((l[i].2.toNat : Nat) : Int) = l[i].2 from Int.toNat_of_nonneg (by omega), show ring now.toNat l[i].2.toNat = rg l[i].2 now from ring_comm _ _] at hcalls
      have HC := Aside0.mk hcalls
      have hk := HA.out.get hrg
      have hsn := fun j => spr_snoc now (l.take i) l[i] j
      have HSN := Aside0.mk hsn
      have hcnt : spr now (l.take i) (rg l[i].2 now) ≤ 4096 := Nat.le_trans (List.length_filter_le _ _) (by rw [List.length_take]; omega)
      have hfk : wr.frozen? ⟨g0 + 1, rg l[i].2 now, none⟩ = false := blk_frozen HA.out _
      clear hcalls hsn
      generalize l[i].2 = et at *
      generalize hrr : rg et now = rr at *
      have HRR := Aside0.mk hrr
      generalize hcc : spr now (l.take i) rr = cc at *
      have HCC := Aside0.mk hcc
      clear hrr hcc
      have r0 : (0 : Int) ≤ (rr : Int) := by omega
      have r1 : (rr : Int) < 7 := by omega
      have ew : IntKind.i64.wrap ((cc : Int) + 1) = (cc : Int) + 1 := IntWalk.i64_in _ (by omega)
      go_wp2_with fail
      go_region_held3 (fun w' => w'.cell? ⟨r, 0, none⟩ = some (.int .i64 now) ∧ w'.cell? ⟨r, 1, none⟩ = some (.slice (some ad) l.length c) ∧ w'.cell? ⟨(ad.add (i * 2)).block, (ad.add (i * 2)).off + 1, none⟩ = some (.int .i64 et)) (go_keep) (first | (go_at_call 65; refine (HC.out _).mono ?_; rintro e w2 ⟨rfl, n1, rfl⟩))
      go_wp2_with fail
      go_roundg (l.length - (i + 1))
      case measure => omega
      case rel =>
        refine ⟨i + 1, rfl, by omega, by go_num, ⟨?_⟩, ⟨(HO.out.drewN _).set (fun _ => rfl) _⟩⟩
        have hp := Arr7.put (w := wr.drewN (1 + n1)) (HA.out.move rfl) (k := rr) (by omega) (f' := spr now (l.take (i + 1))) (fun j hj => by rw [List.take_succ_eq_append_getElem hil, HSN.out j])
        rw [HCC.out, show ((cc + 1 : Nat) : Int) = (cc : Int) + 1 by omega] at hp
        exact hp
    · obtain rfl : i = l.length := by omega
      have hY : Arr7 wr g0 (fun _ => 0) := HY.out.move (HO.out.block g0 HY.out.lt (by show ¬ g0 = g0 + 1; omega))
      have p0 := HA.out.get (k := 0) (by omega)
      have q0 := hY.get (k := 0) (by omega)
      have f0 : wr.frozen? ⟨g0, 0, none⟩ = false := blk_frozen hY 0
      have p1 := HA.out.get (k := 1) (by omega)
      have q1 := hY.get (k := 1) (by omega)
      have f1 : wr.frozen? ⟨g0, 1, none⟩ = false := blk_frozen hY 1
      have p2 := HA.out.get (k := 2) (by omega)
      have q2 := hY.get (k := 2) (by omega)
      have f2 : wr.frozen? ⟨g0, 2, none⟩ = false := blk_frozen hY 2
      have p3 := HA.out.get (k := 3) (by omega)
      have q3 := hY.get (k := 3) (by omega)
      have f3 : wr.frozen? ⟨g0, 3, none⟩ = false := blk_frozen hY 3
      have p4 := HA.out.get (k := 4) (by omega)
      have q4 := hY.get (k := 4) (by omega)
      have f4 : wr.frozen? ⟨g0, 4, none⟩ = false := blk_frozen hY 4
      have p5 := HA.out.get (k := 5) (by omega)
      have q5 := hY.get (k := 5) (by omega)
      have f5 : wr.frozen? ⟨g0, 5, none⟩ = false := blk_frozen hY 5
      have p6 := HA.out.get (k := 6) (by omega)
      have q6 := hY.get (k := 6) (by omega)
      have f6 : wr.frozen? ⟨g0, 6, none⟩ = false := blk_frozen hY 6
      have HSP := Aside0.mk (show spr now l = spr now (l.take l.length) from by rw [List.take_length])
      have HB2 := Aside0.mk (HO.out.below_of HB.out (Nat.le_of_lt HY.out.lt) (fun k hk hb => by omega))
      have HYY := Aside0.mk hY
      clear hY
      have HS7 := Aside0.mk (show sprV (spr now l) = sprV (spr now (l.take l.length)) from by rw [List.take_length])
      unfold sprV at HS7
      generalize spr now (l.take l.length) 0 = s0 at *
      generalize spr now (l.take l.length) 1 = s1 at *
      generalize spr now (l.take l.length) 2 = s2 at *
      generalize spr now (l.take l.length) 3 = s3 at *
      generalize spr now (l.take l.length) 4 = s4 at *
      generalize spr now (l.take l.length) 5 = s5 at *
      generalize spr now (l.take l.length) 6 = s6 at *
      go_wp2_with fail
      have b0 := blk_set HYY.out 0 (.int .i64 (s0 : Int))
      have b1 := blk_set b0 1 (.int .i64 (s1 : Int))
      have b2 := blk_set b1 2 (.int .i64 (s2 : Int))
      have b3 := blk_set b2 3 (.int .i64 (s3 : Int))
      have b4 := blk_set b3 4 (.int .i64 (s4 : Int))
      have b5 := blk_set b4 5 (.int .i64 (s5 : Int))
      have b6 := blk_set b5 6 (.int .i64 (s6 : Int))
      have e0 := blk_cell b6 0
      have e1 := blk_cell b6 1
      have e2 := blk_cell b6 2
      have e3 := blk_cell b6 3
      have e4 := blk_cell b6 4
      have e5 := blk_cell b6 5
      have e6 := blk_cell b6 6
      have hS := HS7.out
      refine bodyPost_ret (v := .agg #[.int .i64 (s0 : Int), .int .i64 (s1 : Int), .int .i64 (s2 : Int), .int .i64 (s3 : Int), .int .i64 (s4 : Int), .int .i64 (s5 : Int), .int .i64 (s6 : Int)]) ?_ rfl ⟨?_, ?_⟩
      · simp at e0 e1 e2 e3 e4 e5 e6
        simp [results, Try.results51, go_sem, e0, e1, e2, e3, e4, e5, e6]
      · unfold sprV
        rw [hS]
      · rw [HG0.out]
        exact (((((((HB2.out).setCell (p := ⟨g0, 0, none⟩) (Nat.le_refl _) (.int .i64 (s0 : Int))).setCell (p := ⟨g0, 1, none⟩) (Nat.le_refl _) (.int .i64 (s1 : Int))).setCell (p := ⟨g0, 2, none⟩) (Nat.le_refl _) (.int .i64 (s2 : Int))).setCell (p := ⟨g0, 3, none⟩) (Nat.le_refl _) (.int .i64 (s3 : Int))).setCell (p := ⟨g0, 4, none⟩) (Nat.le_refl _) (.int .i64 (s4 : Int))).setCell (p := ⟨g0, 5, none⟩) (Nat.le_refl _) (.int .i64 (s5 : Int))).setCell (p := ⟨g0, 6, none⟩) (Nat.le_refl _) (.int .i64 (s6 : Int))
end
end Go.Proofs.Ytaefbibkkkglnaa.Wh
/- Wheel's laws: walked, as a plain contract. No condition. -/
namespace Go.Proofs.Ytaefbibkkkglnaa.Wh
open Go Go.RowKit Go.Shelf Go.Proofs.YtaefbibkkkglnaaW.PrintWords Go.Proofs.Ytaefbibkkkglnaa.Fr
set_option linter.unusedVariables false
set_option linter.unusedSimpArgs false
theorem reps_E2 {R : E → List Value → Prop} (hR : ∀ x, R x (encE x)) : ∀ (xs ps : List E) (cs : List Value), Reps R 2 ps cs → Reps R 2 (ps ++ xs) (cs ++ xs.flatMap encE)
  | [], ps, cs, h => by simpa using h
  | x :: xs, ps, cs, h => by
    have := reps_E2 hR xs (ps ++ [x]) (cs ++ encE x) (h.snoc (hR x) rfl)
    simpa [List.append_assoc] using this
theorem reps_E {R : E → List Value → Prop} (hR : ∀ x, R x (encE x)) (xs : List E) : Reps R 2 xs (xs.flatMap encE) := by
  simpa using reps_E2 hR xs [] [] (Reps.none _ _)
theorem R_of_rowE {w : World} {base e : Nat} {v : Value} {xs : List E} (h : w.ownsRow base e 2 v xs.length (xs.flatMap encE)) : kE.R e w base (fun _ => True) v xs :=
  ⟨fun _ _ => trivial, _, h, reps_E (fun _ => kE_M) xs⟩
def walkF (most : Int) (l : List E) : List E := if most < 1 then [] else l.take most.toNat
theorem walkF_le (most : Int) (l : List E) : (walkF most l).length ≤ l.length := by
  unfold walkF
  split
  · simp
  · rw [List.length_take]; omega
theorem walked_calls {w : World} {O : Nat → Prop} {p : Nat} {now : Int} {l : List E} (h : Whl w O p now l) (most : Int) (hm2 : most ≤ 9223372036854775807) :
    Calls Try.prog 20 #[.pointer (some ⟨p, 0, none⟩), .int .i64 most] w fun e w' =>
      ∃ v, e = .returned v ∧ kE.R 46 w' w.heap.size (fun _ => True) v (walkF most l) ∧ Below w.heap.size w w' := by
  unfold walkF
  by_cases hm : most < 1
  · rw [if_pos hm]
    have e1 : decide (most < 1) = true := by simpa using hm
    have hw2 : Whl ((w.alloc (.cells #[.int .i64 most] 3 (0, 0))).alloc (.cells #[.slice none 0 0] 42 (0, 0))) O p now l := (h.below (below_alloc (Below.refl _ _) _)).below (below_alloc (Below.refl _ _) _)
    have HE := Aside0.mk (each_calls hw2)
    clear h hw2 hm
    go_enter Try.func20, Try.ntmps20
    go_wp2_with fail
    refine (HE.out).mono ?_
    rintro e w3 ⟨A, c, rfl, hbox, hsz, hC, hB3⟩
    simp only [World.size_alloc] at hbox hsz hB3 ⊢
    have b3 : Boxed w3 w.heap.size 3 (.int .i64 most) := (hB3.block _ (by omega)).trans ((Boxed.new w 3 _).alloc _)
    have b5 : Boxed w3 (w.heap.size + 1) 42 (.slice none 0 0) := by
      have h := Boxed.new (w.alloc (.cells #[.int .i64 most] 3 (0, 0))) 42 (.slice none 0 0)
      rw [World.size_alloc] at h
      exact (hB3.block _ (by omega)).trans h
    have c3 := b3.cell
    have c5 := b5.cell
    have hB0 : Below w.heap.size w w3 := (below_alloc (below_alloc (Below.refl _ w) _) _).trans (hB3.mono (by omega))
    have hnn := each_nn (w.heap.size + 1 + 1) w3
    go_wp2_with fail
    go_ret
    exact ⟨_, rfl, Kd.R_nil _ _ _ _ _, hB0⟩
  · rw [if_neg hm]
    refine (callsIn_wide.1 (walked_main h most (by omega) hm2)).mono ?_
    rintro e w' ⟨v, rfl, h1, h2⟩
    exact ⟨v, rfl, R_of_rowE h1, h2⟩
end Go.Proofs.Ytaefbibkkkglnaa.Wh
/- WheelPlays: timers; the two wheels side by side. No condition. -/
namespace Go.Proofs.Ytaefbibkkkglnaa.Wh
open Go Go.RowKit Go.Proofs.YtaefbibkkkglnaaW.PrintWords Go.Proofs.YtaefbibkkkglnaaW.PrintMore Go.Proofs.Ytaefbibkkkglnaa.Fr
set_option linter.unusedVariables false
set_option linter.unusedSimpArgs false
theorem eqT (d : Nat) (w : World) (x0 y0 : ByteArray) (x1 y1 : Int) :
    (Op.equalIn (d + 2) 46 (.agg #[.string x0, .int .i64 x1]) (.agg #[.string y0, .int .i64 y1])).run Try.prog w = .ok (x0.toList == y0.toList && (x1 == y1)) w := by
  refine eqA_of Try.underlying46 (by kernel_rfl) ?_
  refine eqf_cons (by rfl) (by go_simp; rfl) (by go_simp; rfl) (by go_simp) ?_
  exact eqf_last (by rfl) (by go_simp; rfl) (by go_simp; rfl) (by go_simp)
theorem eqT_same (e : E) (w : World) : (Op.equalIn 10000 46 (.agg #[.string e.1, .int .i64 e.2]) (.agg #[.string e.1, .int .i64 e.2])).run Try.prog w = .ok true w := by
  rw [show (10000 : Nat) = 9998 + 2 from rfl, eqT]
  simp
set_option maxHeartbeats 1000000 in
theorem timers_calls (A B : Option Addr) (c d : Nat) (xs : List E) (w : World) (ha : kE.C w A xs.length xs) (hb : kE.C w B xs.length xs) (hl : xs.length < 4611686018427387904) :
    Calls Try.prog 53 #[.slice A xs.length c, .slice B xs.length d] w fun e w' => e = .returned (.bool true) ∧ ∃ q, w' = w.drewN q := by
  have HA := Aside0.mk ha
  have HB := Aside0.mk hb
  clear ha hb
  go_enter Try.func53, Try.ntmps53
  go_wp2_with fail
  go_loopg [5] xs.length (fun g v5 wx => ∃ i : Nat, i ≤ xs.length ∧ g = xs.length - i ∧ v5 = .int .i64 i ∧ Aside0 (∃ q, wx = w.drewN q))
  case atStart => exact ⟨0, by omega, rfl, rfl, ⟨0, rfl⟩⟩
  case round =>
    obtain ⟨i, hi, rfl, rfl, HQ⟩ := hrel
    by_cases h : i < xs.length
    · obtain ⟨ad, rfl, a1', a2'⟩ := at_E HA.out i h
      obtain ⟨bd, rfl, b1', b2'⟩ := at_E HB.out i h
      have a1 : wr.cell? (ad.add (i * 2)) = some (.string xs[i].1) := by obtain ⟨q, hq⟩ := HQ.out; rw [hq]; exact a1'
      have a2 : wr.cell? ⟨(ad.add (i * 2)).block, (ad.add (i * 2)).off + 1, none⟩ = some (.int .i64 xs[i].2) := by obtain ⟨q, hq⟩ := HQ.out; rw [hq]; exact a2'
      have b1 : wr.cell? (bd.add (i * 2)) = some (.string xs[i].1) := by obtain ⟨q, hq⟩ := HQ.out; rw [hq]; exact b1'
      have b2 : wr.cell? ⟨(bd.add (i * 2)).block, (bd.add (i * 2)).off + 1, none⟩ = some (.int .i64 xs[i].2) := by obtain ⟨q, hq⟩ := HQ.out; rw [hq]; exact b2'
      have i0 : (0 : Int) ≤ (i : Int) := by omega
      have i1 : (i : Int) < (xs.length : Int) := by omega
      have he := eqT_same xs[i]
      generalize xs[i] = x at *
      obtain ⟨x1, x2⟩ := x
      simp only at a1 a2 b1 b2 he
      clear a1' a2' b1' b2'
      go_wp2_with fail
      go_quiet (fail)
      go_wp2_with fail
      go_roundg (xs.length - (i + 1))
      case measure => omega
      case rel => exact ⟨i + 1, by omega, rfl, by go_num, ⟨dr_ex (by repeat (first | exact HQ.out | apply dr_step | apply dr_stepN))⟩⟩
    · obtain rfl : i = xs.length := by omega
      go_wp2_with fail
      go_ret
      exact ⟨rfl, HQ.out⟩

/-- The wheel and the reference wheel, both made since w0, at the same minute with the same timers. -/
def Both (w0 w : World) (p r : Nat) (now : Int) (l : List E) : Prop :=
  ∃ O R, Whl w O p now l ∧ Ref w R r now l ∧ (∀ b, O b → ¬ R b) ∧ (∀ b, O b → w0.heap.size ≤ b) ∧ (w0.heap.size ≤ r) ∧ Below w0.heap.size w0 w
section
variable {w0 w w' : World} {p r : Nat} {now : Int} {l : List E}
theorem Both.drewN (h : Both w0 w p r now l) (n : Nat) : Both w0 (w.drewN n) p r now l := by
  obtain ⟨O, R, a, b, c, d, e, f⟩ := h
  exact ⟨O, R, a.drewN n, b.drewN n, c, d, e, pw_below_drewN f n⟩
theorem Both.same (h : Both w0 w p r now l) (hb : Below w.heap.size w w') : Both w0 w' p r now l := by
  obtain ⟨O, R, a, b, c, d, e, f⟩ := h
  exact ⟨O, R, a.below hb, b.below hb, c, d, e, f.trans (hb.mono f.size)⟩
/-- A step of the wheel, then one of the reference wheel. -/
theorem both_step {O R : Nat → Prop} {n1 : Int} {l1 : List E} {w1 w2 : World} (b : Ref w R r now l) (c : ∀ x, O x → ¬ R x) (d : ∀ x, O x → w0.heap.size ≤ x) (e : w0.heap.size ≤ r) (f : Below w0.heap.size w0 w) (h1 : After w O p n1 l1 w1) (h2 : ∀ R1, Ref w1 R1 r now l → RAfter w1 R1 r n1 l1 w2) : Both w0 w2 p r n1 l1 := by
  obtain ⟨O1, g1, g2, g3⟩ := h1
  have hb1 : Ref w1 R r now l := b.only g3 (fun x hx hO => c x hO hx)
  obtain ⟨R2, k1, k2, k3⟩ := h2 R hb1
  have hf1 := g3.below_of f f.size (fun k hk hO => by have := d k hO; omega)
  refine ⟨O1, R2, g1.only k3 (fun x h1 h2 h3 => ?_), k1, fun x h1 h2 => ?_, fun x h1 => ?_, e, k3.below_of hf1 hf1.size (fun k hk hr => by omega)⟩
  · subst h3
    rcases g2 x h1 with q | q
    · exact c x q b.own
    · have := b.lt x b.own
      omega
  · rcases k2 x h2 with q | q
    · rcases g2 x h1 with s | s
      · exact c x s q
      · have := b.lt x q
        omega
    · have := g1.lt x h1
      omega
  · rcases g2 x h1 with q | q
    · exact d x q
    · exact Nat.le_trans f.size q
end
end Go.Proofs.Ytaefbibkkkglnaa.Wh
/- Wheel: Each of a nil wheel. No condition. -/
namespace Go.Proofs.Ytaefbibkkkglnaa.Wh
open Go Go.RowKit Go.Proofs.YtaefbibkkkglnaaW.PrintWords Go.Proofs.Ytaefbibkkkglnaa.Mp Go.Proofs.Ytaefbibkkkglnaa.Fr
set_option linter.unusedVariables false
set_option linter.unusedSimpArgs false
theorem nil_each (w : World) : Calls Try.prog 19 #[.pointer none] w fun e w' =>
    e = .returned (.func (.func 39) #[] #[.pointer (some ⟨w.heap.size, 0, none⟩)]) ∧ w'.cell? ⟨w.heap.size, 0, none⟩ = some (.slice none 0 0) ∧ w.heap.size < w'.heap.size ∧ Below w.heap.size w w' := by
  have HS := Aside0.mk (fun w => AnyF.slices_SortFunc_none (P := Try.prog) (ρ := Try.sortP_ren) Try.sortP none 0 (.func (.func 36) #[] #[]) w)
  go_enter Try.func19, Try.ntmps19
  go_wp2_with fail
  refine (HS.out _).mono ?_
  rintro e w' ⟨rfl, rfl⟩
  go_wp2_with fail
  go_ret
  refine ⟨rfl, blk_cell (heap_alloc_new w _) 0, by rw [World.size_alloc]; omega, below_alloc (Below.refl _ _) _⟩
theorem fill_one : fillL 0 [4] 1 = [(⟨#[97, 97, 97]⟩, 5)] := by
  have h1 : nm 0 = ⟨#[97, 97, 97]⟩ := by decide
  have h2 : farT 0 [4] 0 = 5 := by decide
  show putF (nm 0, farT 0 [4] 0) [] = _
  rw [h1, h2]
  rfl
theorem told_one : (toldF 5 [((⟨#[97, 97, 97]⟩ : ByteArray), (5 : Int))]).map Prod.fst = [⟨#[97, 97, 97]⟩] := by decide
end Go.Proofs.Ytaefbibkkkglnaa.Wh
