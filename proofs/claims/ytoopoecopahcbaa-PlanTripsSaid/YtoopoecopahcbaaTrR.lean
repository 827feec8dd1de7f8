/- larderref17.Trip: two stops or more. No condition. -/
import Derived.Test.YtoopoecopahcbaaTrD
import Derived.Test.YtoopoecopahcbaaTrT
import Derived.Deep.OwnRows
import Derived.Laws.OwnMore
namespace Go.Proofs.Ytoopoecopahcbaa.Tr
open Go Go.RowKit Go.Proofs.YtoopoecopahcbaaW.PrintWords Go.Proofs.YtoopoecopahcbaaW.PrintLast Go.Proofs.YtoopoecopahcbaaW.PrintMore
set_option linter.unusedVariables false
set_option linter.unusedSimpArgs false
attribute [local go_sem ↓] Go.wp_at_zero Go.wp_at_succ
attribute [local go_sem] bits_and1

theorem infoRw : (Try.prog.info? 48).map (fun i => (i.zero, i.size, i.bytes)) = some (some (.slice none 0 0), 1, 24) := by kernel_rfl
/-- The reference's table: a row of n numbers for each of the first S sets. -/
def RTab (w : World) (g all n S : Nat) (G : Nat → Nat) (R : Nat → Nat → Int) : Prop :=
  (∃ cs : Array Value, w.heap[g]? = some (.cells cs 48 (0, 0)) ∧ cs.size = all ∧ ∀ s < S, cs[s]? = some (.slice (some ⟨G s, 0, none⟩) n n)) ∧
  (∀ s < S, g < G s ∧ ∃ rs : Array Value, w.heap[G s]? = some (.cells rs 3 (0, 0)) ∧ rs.size = n ∧ ∀ j < n, rs[j]? = some (.int .i64 (R s j))) ∧
  ∀ s t, s < S → t < S → G s = G t → s = t
section
variable {w w1 : World} {g all n S : Nat} {G : Nat → Nat} {R : Nat → Nat → Int}
theorem rtab_lt (h : RTab w g all n S G R) : g < w.heap.size := by
  obtain ⟨⟨cs, h1, _⟩, _⟩ := h
  exact blk_lt h1
theorem rtab_below (h : RTab w g all n S G R) (hb : Below w.heap.size w w1) : RTab w1 g all n S G R := by
  obtain ⟨⟨cs, h1, h2⟩, h3, h4⟩ := h
  refine ⟨⟨cs, blk_under hb h1, h2⟩, fun s hs => ?_, h4⟩
  obtain ⟨a, rs, b, c⟩ := h3 s hs
  exact ⟨a, rs, blk_under hb b, c⟩
theorem rtab_drewN (h : RTab w g all n S G R) (m : Nat) : RTab (w.drewN m) g all n S G R := rtab_below h (pw_below_drewN (Below.refl _ _) m)
theorem rtab_drew (h : RTab w g all n S G R) : RTab w.drew g all n S G R := rtab_below h (below_drew (Below.refl _ _))
theorem rtab_row (h : RTab w g all n S G R) {s : Nat} (hs : s < S) : w.cell? ⟨g, s, none⟩ = some (.slice (some ⟨G s, 0, none⟩) n n) := by
  obtain ⟨⟨cs, h1, _, h2⟩, _⟩ := h
  exact (blk_cell h1 s).trans (h2 s hs)
theorem rtab_cell (h : RTab w g all n S G R) {s j : Nat} (hs : s < S) (hj : j < n) : w.cell? ⟨G s, j, none⟩ = some (.int .i64 (R s j)) ∧ w.frozen? ⟨G s, j, none⟩ = false ∧ g < G s := by
  obtain ⟨a, rs, b, _, c⟩ := h.2.1 s hs
  exact ⟨(blk_cell b j).trans (c j hj), blk_frozen b j, a⟩
theorem rtab_slot (h : RTab w g all n S G R) {s : Nat} (hs : s < all) : (∃ v, w.cell? ⟨g, s, none⟩ = some v) ∧ w.frozen? ⟨g, s, none⟩ = false := by
  obtain ⟨⟨cs, h1, h2, _⟩, _⟩ := h
  refine ⟨⟨cs[s]'(by omega), (blk_cell h1 s).trans (Array.getElem?_eq_getElem _)⟩, blk_frozen h1 s⟩
theorem rtab_put (h : RTab w g all n S G R) {s j : Nat} (hs : s < S) (hj : j < n) (v : Int) : RTab (w.setCell ⟨G s, j, none⟩ (.int .i64 v)) g all n S G (updR R s j v) := by
  obtain ⟨⟨cs, h1, h2⟩, h3, h4⟩ := h
  obtain ⟨hg, rs, b, c, d⟩ := h3 s hs
  refine ⟨⟨cs, (Below.heap_setCell w _ _ g (show g ≠ G s by omega)).trans h1, h2⟩, fun t ht => ?_, h4⟩
  obtain ⟨hg', rt, b', c', d'⟩ := h3 t ht
  refine ⟨hg', ?_⟩
  by_cases hst : t = s
  · subst hst
    refine ⟨_, blk_set b j _, by simp [c], fun i hi => ?_⟩
    by_cases hij : i = j
    · subst hij
      rw [updR_same, Array.getElem?_setIfInBounds_self_of_lt (by omega)]
    · rw [updR_other (by omega), Array.getElem?_setIfInBounds_ne (Ne.symm hij), d i hi]
  · have hne : G t ≠ G s := fun e => hst (h4 t s ht hs e)
    refine ⟨rt, (Below.heap_setCell w _ _ (G t) hne).trans b', c', fun i hi => ?_⟩
    rw [updR_other (by omega), d' i hi]
/-- A new row of zeros. -/
theorem rtab_new (h : RTab w g all n S G R) (hS : S < all) (hsz : ∀ s < S, G s < w.heap.size) (zr : Array Value) (hz : zr.size = n) (hz0 : ∀ j < n, zr[j]? = some (.int .i64 0)) :
    RTab ((w.alloc (.cells zr 3 (0, 0))).setCell ⟨g, S, none⟩ (.slice (some ⟨w.heap.size, 0, none⟩) n n)) g all n (S + 1) (fun x => if x = S then w.heap.size else G x) (fun x j => if x = S then 0 else R x j) := by
  have hlt := rtab_lt h
  obtain ⟨⟨cs, h1, h2, h2'⟩, h3, h4⟩ := h
  have e1 : (w.alloc (.cells zr 3 (0, 0))).heap[g]? = some (.cells cs 48 (0, 0)) := blk_alloc h1 _
  refine ⟨⟨_, blk_set e1 S _, by simp [h2], fun s hs => ?_⟩, fun s hs => ?_, fun s t hs ht e0 => ?_⟩
  · by_cases hsS : s = S
    · subst hsS
      simp only [if_true]
      rw [Array.getElem?_setIfInBounds_self_of_lt (by omega)]
    · simp only [if_neg hsS]
      rw [Array.getElem?_setIfInBounds_ne (Ne.symm hsS), h2' s (by omega)]
  · by_cases hsS : s = S
    · subst hsS
      simp only [if_true]
      exact ⟨hlt, zr, (Below.heap_setCell _ _ _ _ (show w.heap.size ≠ g by omega)).trans (heap_alloc_new _ _), hz, fun j hj => hz0 j hj⟩
    · simp only [if_neg hsS]
      obtain ⟨a, rs, b, c, d⟩ := h3 s (by omega)
      exact ⟨a, rs, (Below.heap_setCell _ _ _ _ (show G s ≠ g by omega)).trans (blk_alloc b _), c, d⟩
  · have e : (if s = S then w.heap.size else G s) = (if t = S then w.heap.size else G t) := e0
    by_cases hsS : s = S
    · by_cases htS : t = S
      · omega
      · rw [if_pos hsS, if_neg htS] at e
        have := hsz t (by omega)
        omega
    · by_cases htS : t = S
      · rw [if_neg hsS, if_pos htS] at e
        have := hsz s (by omega)
        omega
      · rw [if_neg hsS, if_neg htS] at e
        exact h4 s t (by omega) (by omega) e
theorem rtab_rows (h : RTab w g all n S G R) : ∀ s < S, G s < w.heap.size := fun s hs => by
  obtain ⟨_, rs, b, _⟩ := h.2.1 s hs
  exact blk_lt b
end
theorem rdone_zeros {zs : List (List Int)} {R : Nat → Nat → Int} {s : Nat} (h : RDone zs R s 0) : RDone zs (fun x j => if x = s then 0 else R x j) s 0 := by
  intro s' j' c1 c2
  have hs : s' < s := by omega
  have e : rstep zs (fun x j => if x = s then 0 else R x j) s' j' = rstep zs R s' j' := rstep_same (fun t k ht => if_neg (by omega))
  rw [e]
  simp only [if_neg (show s' ≠ s by omega)]
  exact h s' j' c1 (.inl hs)
theorem made_zero (n : Nat) : (madeCells #[Value.int .i64 0] n).size = n ∧ ∀ j < n, (madeCells #[Value.int .i64 0] n)[j]? = some (.int .i64 0) := by
  refine ⟨size_madeCells _ _, fun j hj => ?_⟩
  have e := toList_madeCells_one (Value.int .i64 0) n
  have : (madeCells #[Value.int .i64 0] n).toList[j]? = some (.int .i64 0) := by
    rw [e, List.getElem?_replicate, if_pos hj]
  simpa using this
theorem pow_int {n : Nat} (h12 : n ≤ 12) : IntKind.i64.wrap ((2 : Int) ^ n) = ((2 ^ n : Nat) : Int) ∧ 2 ^ n ≤ 4096 := by
  have h1 : (2 : Nat) ^ n ≤ 2 ^ 12 := Nat.pow_le_pow_right (by omega) h12
  have e : ((2 : Int) ^ n) = ((2 ^ n : Nat) : Int) := by simp
  rw [e]
  generalize 2 ^ n = p at *
  exact ⟨Go.IntWalk.i64_in _ (by omega), by omega⟩
theorem updR_twice (R : Nat → Nat → Int) (s j : Nat) (u v : Int) : updR (updR R s j u) s j v = updR R s j v := by
  funext s' j'
  unfold updR
  split <;> rfl
theorem cell_far1 {w : World} {q : Addr} {g i : Nat} {v u : Value} (h : w.cell? q = some v) (hq : q.block ≠ g) : (w.setCell ⟨g, i, none⟩ u).cell? q = some v := by
  rw [World.cell?_setCell_other _ _ _ _ (fun e => hq (by rw [← e])), h]
set_option maxRecDepth 100000 in
set_option maxHeartbeats 16000000 in
theorem reftrip_calls (A : Option Addr) (c : Nat) (zs : List (List Int)) (B : Nat → Nat → Leg) (hB : DoneAll zs B) (w : World) (ha : Kd.C kRow w A zs.length zs) (hc : zs.length ≤ c) (h2 : 2 ≤ zs.length) (h12 : zs.length ≤ 12) (hg : zs.all (rowGood zs.length) = true) :
    Calls Try.prog 22 #[.slice A zs.length c] w fun e w' => ∃ v, e = .returned (.tuple #[v, .int .i64 (B 1 0).1, .int .i64 0]) ∧ (Kd.int .i64).R 3 w' w.heap.size (fun _ => True) v (0 :: tourF zs B (all zs) 1 0) ∧ Below w.heap.size w w' := by
  have HA := Aside0.mk ha
  have HR := Aside0.mk (good_rows hg)
  have HB := Aside0.mk hB
  clear ha hg hB
  go_enter Try.func22, Try.ntmps22
  go_upto_block 0 with fail
  go_cut [6] (fun s6 wx => Aside0 (Below w.heap.size w wx))
  case first =>
    as_aux_lemma =>
    go_wp2_with fail
    go_loopg [6] zs.length (fun gh s6 wr => ∃ i : Nat, i ≤ zs.length ∧ gh = zs.length - i ∧ s6 = .int .i64 i ∧ Aside0 (Below w.heap.size w wr))
    case atStart => exact ⟨0, Nat.zero_le _, rfl, rfl, ⟨Below.refl _ _⟩⟩
    case round =>
      obtain ⟨i, hi, rfl, rfl, BB⟩ := hrel
      by_cases hlt : i < zs.length
      · obtain ⟨hrl, hrb⟩ := HR.out zs[i] (List.getElem_mem hlt)
        obtain ⟨ad, bd, cb, eA, f1, _, f3⟩ := at_far (Kd.C_below HA.out BB.out) hlt (show 0 < zs.length by omega) HR.out
        have HJ := Aside0.mk (fun (wj : World) (hb : Below wr.heap.size wr wj) j (hj : j < zs.length) => at_far (Kd.C_below (Kd.C_below HA.out BB.out) hb) hlt hj HR.out)
        have i0 : (0 : Int) ≤ (i : Int) := by omega
        have i1 : (i : Int) < (zs.length : Int) := by omega
        have dNN : ((zs.length : Int) != (zs.length : Int)) = false := by simp
        have HF := Aside0.mk (fun j (hj : j < zs.length) => fr_bound HR.out hlt hj)
        clear hrl hrb
        subst eA
        go_upto_block 2 with fail
        obtain ⟨wo, rfl⟩ : ∃ wo : World, wo = wr := ⟨_, rfl⟩
        go_wp2_with fail
        go_loopg [7] zs.length (fun gh s7 wr => ∃ j : Nat, j ≤ zs.length ∧ gh = zs.length - j ∧ s7 = .int .i64 j ∧ Aside0 (Below wo.heap.size wo wr))
        case atStart => exact ⟨0, Nat.zero_le _, rfl, rfl, ⟨Below.refl _ _⟩⟩
        case round =>
          obtain ⟨j, hj, rfl, rfl, BJ⟩ := hrel
          by_cases hlj : j < zs.length
          · obtain ⟨ad2, bd2, cb2, e2, g1, g2, g3⟩ := HJ.out wr BJ.out j hlj
            obtain rfl : ad = ad2 := Option.some.inj e2
            obtain ⟨x1, x2⟩ := HF.out j hlj
            generalize fr zs i j = x at *
            have j0 : (0 : Int) ≤ (j : Int) := by omega
            have j1 : (j : Int) < (zs.length : Int) := by omega
            have d1 : decide (x < 0) = false := decide_eq_false (by omega)
            have d2 : decide ((1000000000 : Int) < x) = false := decide_eq_false (by omega)
            clear e2 x1 x2
            go_wp2_with fail
            go_roundg (zs.length - (j + 1))
            case measure => omega
            case rel => exact ⟨j + 1, by omega, rfl, by go_num, BJ⟩
          · obtain rfl : j = zs.length := by omega
            go_wp2_with fail
            go_roundg (zs.length - (i + 1))
            case measure => omega
            case rel => exact ⟨i + 1, by omega, rfl, by go_num, ⟨below_then BB.out BB.out.size BJ.out⟩⟩
      · obtain rfl : i = zs.length := by omega
        go_wp2_with fail
        go_meet
        exact BB
  case rest =>
    have BX := hcut
    clear hcut
    obtain ⟨hpw, hp4⟩ := pow_int h12
    have hp2 : 4 ≤ 2 ^ zs.length := by
      have := Nat.pow_le_pow_right (show 0 < 2 by omega) h2
      omega
    have hn0 : ((zs.length : Int) == 0) = false := beq_eq_false_iff_ne.2 (by omega)
    have hn1 : ((zs.length : Int) == 1) = false := beq_eq_false_iff_ne.2 (by omega)
    obtain ⟨al, hal⟩ : ∃ al, 2 ^ zs.length = al := ⟨_, rfl⟩
    rw [hal] at hpw hp4 hp2
    have HAL := Aside0.mk hal
    clear hal
    have hmk := run_make_row' (P := Try.prog) 47 48 (.slice none 0 0) 24 Try.underlying47 infoRw rfl .i64 .i64 al (by omega) (by omega)
    go_upto_block 4 with fail
    clear hmk hpw hn0 hn1
    generalize decide ((12 : Int) < (zs.length : Int)) = b23
    obtain ⟨wb, rfl⟩ : ∃ wb : World, wb = wc := ⟨_, rfl⟩
    have T0 : Aside0 (RTab (wb.alloc (.cells (madeCells #[.slice none 0 0] al) 48)) wb.heap.size al zs.length 0 (fun _ => 0) (fun _ _ => 0)) := ⟨⟨⟨_, heap_alloc_new _ _, size_madeCells _ _, fun s hs => by omega⟩, fun s hs => by omega, fun s t hs => by omega⟩⟩
    have BA := Aside0.mk (below_alloc (Below.refl wb.heap.size wb) (.cells (madeCells #[.slice none 0 0] al) 48))
    generalize wb.alloc (.cells (madeCells #[.slice none 0 0] al) 48) = W1 at *
    have hgw : wb.heap.size ≤ wb.heap.size := Nat.le_refl _
    generalize hgt : wb.heap.size = gt at *
    have HGT := Aside0.mk hgt
    have BX2 : Aside0 (w.heap.size ≤ gt) := ⟨by rw [← hgt]; exact BX.out.size⟩
    clear hgt
    go_cut [10] (fun s10 wx => ∃ (G : Nat → Nat) (R : Nat → Nat → Int), Aside0 (RTab wx gt al zs.length al G R) ∧ Aside0 (RDone zs R al 0) ∧ Aside0 (Below gt wb wx))
    case first =>
      go_wp2_with fail
      go_loopg [10] al (fun gh s10 wr => ∃ (s : Nat) (G : Nat → Nat) (R : Nat → Nat → Int), s ≤ al ∧ gh = al - s ∧ s10 = .int .i64 s ∧ Aside0 (RTab wr gt al zs.length s G R) ∧ Aside0 (RDone zs R s 0) ∧ Aside0 (Below gt wb wr))
      case atStart => exact ⟨0, _, _, Nat.zero_le _, rfl, rfl, T0, ⟨rdone_zero zs _⟩, BA⟩
      case round =>
        clear T0 BA
        obtain ⟨s, G, R, hs, rfl, rfl, TB, DB, BB⟩ := hrel
        by_cases hlt : s < al
        · have s0 : (0 : Int) ≤ (s : Int) := by omega
          have s1 : (s : Int) < (al : Int) := by omega
          obtain ⟨⟨v0, cv⟩, fv⟩ := rtab_slot TB.out hlt
          have hgl : gt < wr.heap.size := rtab_lt TB.out
          have hgn : gt ≠ wr.heap.size := by omega
          have hmk2 := run_make_row' (P := Try.prog) 48 3 (.int .i64 0) 8 Try.underlying48 infoZ rfl .i64 .i64 zs.length (by omega) (by omega)
          have T2 := rtab_new TB.out hlt (rtab_rows TB.out) (madeCells #[.int .i64 0] zs.length) (made_zero _).1 (made_zero _).2
          rw [World.setCell_alloc_past _ _ _ _ hgl] at T2
          have D2 := Aside0.mk (rdone_zeros DB.out)
          have BB2 := Aside0.mk ((BB.out.setCell (p := ⟨gt, s, none⟩) (Nat.le_refl _) (.slice (some ⟨wr.heap.size, 0, none⟩) zs.length zs.length)).alloc (by simp [World.setCell]; omega) (.cells (madeCells #[.int .i64 0] zs.length) 3))
          go_upto_block 6 with fail
          have T2' := Aside0.mk T2
          clear T2 cv fv hgl hgn hmk2 TB DB BB
          generalize ((wr.setCell ⟨gt, s, none⟩ (.slice (some ⟨wr.heap.size, 0, none⟩) zs.length zs.length)).alloc (.cells (madeCells #[.int .i64 0] zs.length) 3)) = W2 at *
          generalize (fun x => if x = s then wr.heap.size else G x) = G2 at *
          generalize (fun x j => if x = s then 0 else R x j) = R2 at *
          go_wp2_with fail
          go_loopg [11] zs.length (fun gh s11 wr => ∃ (j : Nat) (R : Nat → Nat → Int), j ≤ zs.length ∧ gh = zs.length - j ∧ s11 = .int .i64 j ∧ Aside0 (RTab wr gt al zs.length (s + 1) G2 R) ∧ Aside0 (RDone zs R s j) ∧ Aside0 (Below gt wb wr))
          case atStart => exact ⟨0, R2, Nat.zero_le _, rfl, rfl, T2', D2, BB2⟩
          case round =>
            clear T2' D2 BB2
            obtain ⟨j, R, hj, rfl, rfl, TB, DB, BB⟩ := hrel
            by_cases hlj : j < zs.length
            · have j0 : (0 : Int) ≤ (j : Int) := by omega
              have j1 : (j : Int) < (zs.length : Int) := by omega
              obtain ⟨wo, rfl⟩ : ∃ wo : World, wo = wr := ⟨_, rfl⟩
              have BW := Aside0.mk (below_then BX.out BX.out.size (show Below wb.heap.size wb wo by rw [HGT.out]; exact BB.out))
              go_upto_block 7 with fail
              go_cut [12] (fun s12 wx => ∃ R, Aside0 (RTab wx gt al zs.length (s + 1) G2 R) ∧ Aside0 (RDone zs R s (j + 1)) ∧ Aside0 (Below gt wb wx))
              case first =>
                as_aux_lemma =>
                have sp : (s : Int) < ((s + 1 : Nat) : Int) := by omega
                have cr := rtab_row TB.out (show s < s + 1 by omega)
                obtain ⟨cj, fj, hgj⟩ := rtab_cell TB.out (show s < s + 1 by omega) hlj
                by_cases hs0 : s = 0
                · have d0 : ((s : Int) == 0) = true := by rw [hs0]; rfl
                  obtain ⟨ad, bd, cb, eA, f1, f2, f3⟩ := at_far HA.out hlj (show 0 < zs.length by omega) HR.out
                  have f4 : w.cell? bd = some (.int .i64 (fr zs j 0)) := by have := f2; unfold Addr.add at this; simpa using this
                  have hx := fr_bound HR.out hlj (show 0 < zs.length by omega)
                  have HV := Aside0.mk (show fr zs j 0 = rstep zs R s j by unfold rstep; rw [if_pos hs0])
                  have HS := Aside0.mk hs0
                  have HX := Aside0.mk hx
                  generalize fr zs j 0 = x at *
                  have l1 := World.block_lt_of_cell? w _ f1
                  have l4 := World.block_lt_of_cell? w _ f4
                  have hgw2 := BX2.out
                  have g1 := pw_cell_below BW.out f1
                  have g4 := pw_cell_below BW.out f4
                  have TP := Aside0.mk (rtab_put TB.out (show s < s + 1 by omega) hlj x)
                  have BP := Aside0.mk (BB.out.setCell (p := ⟨G2 s, j, none⟩) (Nat.le_of_lt hgj) (.int .i64 x))
                  generalize G2 s = gs at cr cj fj hgj TP BP ⊢
                  have K1 : (wo.setCell ⟨gs, j, none⟩ (.int .i64 x)).cell? (ad.add j) = some (.slice (some bd) zs.length cb) := cell_far1 g1 (by omega)
                  have K4 : (wo.setCell ⟨gs, j, none⟩ (.int .i64 x)).cell? bd = some (.int .i64 x) := cell_far1 g4 (by omega)
                  have K0 : (wo.setCell ⟨gs, j, none⟩ (.int .i64 x)).cell? ⟨gt, s, none⟩ = some (.slice (some ⟨gs, 0, none⟩) zs.length zs.length) := cell_far1 cr (by show gt ≠ gs; omega)
                  have i6 : 0 < zs.length := by omega
                  subst eA
                  clear f1 f2 f4 l1 l4 hx hs0
                  go_upto_region 28 with fail
                  go_region_held3 (fun w' => w'.cell? ⟨gt, s, none⟩ = some (.slice (some ⟨gs, 0, none⟩) zs.length zs.length) ∧ w'.cell? (ad.add j) = some (.slice (some bd) zs.length cb) ∧ w'.cell? bd = some (.int .i64 x)) (first | go_keep | exact ⟨K0, K1, K4⟩) (fail)
                  go_wp2_with fail
                  go_meet
                  exact ⟨updR R s j x, ⟨by first | exact rtab_drew TP.out | exact TP.out⟩, ⟨rdone_put DB.out HV.out HX.out.1 (by have := HX.out.2; rw [HS.out]; omega)⟩, ⟨by first | exact below_drew BP.out | exact BP.out⟩⟩
                · have d0 : ((s : Int) == 0) = false := beq_eq_false_iff_ne.2 (by omega)
                  go_upto_block 8 with fail
                  go_cut [12] (fun s12 wx => s12 = .int .i64 (bestK zs R s j zs.length) ∧ Aside0 (Below wo.heap.size wo wx))
                  case first =>
                    go_wp2_with fail
                    go_loopg [12, 13] zs.length (fun gh s12 s13 wk => ∃ k : Nat, 1 ≤ k ∧ k ≤ zs.length ∧ gh = zs.length + 1 - k ∧ s13 = .int .i64 k ∧ s12 = .int .i64 (bestK zs R s j k) ∧ Aside0 (Below wo.heap.size wo wk))
                    case atStart => exact ⟨1, Nat.le_refl _, by omega, by omega, rfl, rfl, ⟨Below.refl _ _⟩⟩
                    case round =>
                      obtain ⟨k, hk1, hk2, rfl, rfl, rfl, BK⟩ := hrel
                      by_cases hlk : k < zs.length
                      · have rk := bit_int s k
                        have qk := bit_lt s k
                        have k0 : (0 : Int) ≤ (k : Int) := by omega
                        have k1 : (k : Int) < (zs.length : Int) := by omega
                        by_cases hbk : bit s k = 0
                        · have d4 : ((s : Int) / 2 ^ k % 2 == 0) = true := by rw [rk, hbk]; rfl
                          have HK := Aside0.mk (show bestK zs R s j (k + 1) = bestK zs R s j k by show (if _ then _ else _) = _; rw [if_pos (.inr hbk)])
                          clear rk qk hbk
                          generalize bestK zs R s j k = bst at *
                          go_wp2_with fail
                          go_roundg (zs.length + 1 - (k + 1))
                          case measure => omega
                          case rel => exact ⟨k + 1, by omega, by omega, rfl, by go_num, by rw [HK.out], BK⟩
                        · have hbk1 : bit s k = 1 := by omega
                          have d4 : ((s : Int) / 2 ^ k % 2 == 0) = false := by rw [rk, hbk1]; rfl
                          obtain ⟨ad, bd, cb, eA, f1, f2, f3⟩ := at_far HA.out hlj hlk HR.out
                          obtain ⟨x1, x2⟩ := fr_bound HR.out hlj hlk
                          have hge := bit_ge hbk1
                          have hp0 := Nat.two_pow_pos k
                          obtain ⟨_, y1, y2⟩ := DB.out (s - 2 ^ k) k hlk (.inl (by omega))
                          have u1 := rtab_row TB.out (show s - 2 ^ k < s + 1 by omega)
                          obtain ⟨u2, _, _⟩ := rtab_cell TB.out (show s - 2 ^ k < s + 1 by omega) hlk
                          have HK := Aside0.mk (show bestK zs R s j (k + 1) = if bestK zs R s j k < 0 ∨ wayF zs R s j k < bestK zs R s j k then wayF zs R s j k else bestK zs R s j k by show (if _ then _ else _) = _; rw [if_neg (by omega)])
                          have hwy : wayF zs R s j k = fr zs j k + R (s - 2 ^ k) k := rfl
                          rw [hwy] at HK
                          clear hwy
                          obtain ⟨x, hx⟩ : ∃ x, fr zs j k = x := ⟨_, rfl⟩
                          obtain ⟨y, hy⟩ : ∃ y, R (s - 2 ^ k) k = y := ⟨_, rfl⟩
                          rw [hx] at f2 x1 x2 HK
                          rw [hy] at y1 y2 u2 HK
                          obtain ⟨q, hq⟩ : ∃ q, s - 2 ^ k = q := ⟨_, rfl⟩
                          rw [hq] at y2 u1 u2
                          generalize G2 q = gq at u1 u2
                          obtain ⟨p, hp⟩ : ∃ p, 2 ^ k = p := ⟨_, rfl⟩
                          have ep : ((2 : Int) ^ k) = (p : Int) := by rw [← hp]; simp
                          rw [hp] at hq hge
                          obtain ⟨z, hz⟩ : ∃ z, x + y = z := ⟨_, rfl⟩
                          rw [hz] at HK
                          have ez : IntKind.i64.wrap (x + y) = z := by rw [← hz]; exact Go.IntWalk.i64_in _ (by omega)
                          have e1 : IntKind.i64.wrap ((2 : Int) ^ k) = (p : Int) := by rw [ep]; exact Go.IntWalk.i64_in _ (by omega)
                          have e2 : IntKind.i64.wrap ((s : Int) - (p : Int)) = (q : Int) := by rw [← hq]; exact (Go.IntWalk.i64_in _ (by omega)).trans (by omega)
                          have q0' : (0 : Int) ≤ (q : Int) := by omega
                          have q1' : (q : Int) < (al : Int) := by omega
                          have k2 := pw_cell_below BK.out (pw_cell_below BW.out f1)
                          have k3 := pw_cell_below BK.out (pw_cell_below BW.out f2)
                          have k4 := pw_cell_below BK.out u1
                          have k5 := pw_cell_below BK.out u2
                          subst eA
                          clear f1 f2 u1 u2 hp hq ep hz y2 hge hp0 rk qk hbk hbk1 hx hy x1 x2 y1
                          generalize bestK zs R s j k = bst at *
                          by_cases hb0 : bst < 0
                          · have d5 : decide (bst < 0) = true := decide_eq_true hb0
                            rw [if_pos (.inl hb0)] at HK
                            clear hb0
                            go_wp2_with fail
                            go_quiet (fail)
                            go_wp2_with fail
                            go_roundg (zs.length + 1 - (k + 1))
                            case measure => omega
                            case rel => exact ⟨k + 1, by omega, by omega, rfl, by go_num, by rw [HK.out], ⟨by first | exact pw_below_drewN BK.out _ | exact BK.out⟩⟩
                          · have d5 : decide (bst < 0) = false := decide_eq_false hb0
                            by_cases hzb : z < bst
                            · have d6 : decide (z < bst) = true := decide_eq_true hzb
                              rw [if_pos (.inr hzb)] at HK
                              clear hb0 hzb
                              go_wp2_with fail
                              go_quiet (fail)
                              go_wp2_with fail
                              go_roundg (zs.length + 1 - (k + 1))
                              case measure => omega
                              case rel => exact ⟨k + 1, by omega, by omega, rfl, by go_num, by rw [HK.out], ⟨by first | exact pw_below_drewN BK.out _ | exact BK.out⟩⟩
                            · have d6 : decide (z < bst) = false := decide_eq_false hzb
                              rw [if_neg (by omega)] at HK
                              clear hb0 hzb
                              go_wp2_with fail
                              go_quiet (fail)
                              go_wp2_with fail
                              go_roundg (zs.length + 1 - (k + 1))
                              case measure => omega
                              case rel => exact ⟨k + 1, by omega, by omega, rfl, by go_num, by rw [HK.out], ⟨by first | exact pw_below_drewN BK.out _ | exact BK.out⟩⟩
                      · obtain rfl : k = zs.length := by omega
                        go_wp2_with fail
                        go_meet
                        exact ⟨rfl, BK⟩
                  case rest =>
                    obtain ⟨rfl, BK⟩ := hcut
                    have hwn : ∀ k, 1 ≤ k → bit s k = 1 → k < zs.length → 0 ≤ wayF zs R s j k ∧ wayF zs R s j k ≤ ((s : Int) + 1) * 1000000000 := fun k k1 bk hk => by
                      have hge := bit_ge bk
                      have hp0 := Nat.two_pow_pos k
                      obtain ⟨_, y1, y2⟩ := DB.out (s - 2 ^ k) k hk (.inl (by omega))
                      obtain ⟨x1, x2⟩ := fr_bound HR.out hlj hk
                      unfold wayF
                      omega
                    have HBW := Aside0.mk (bestK_words (fun k a b c => (hwn k a b c).1) zs.length (Nat.le_refl _))
                    have HRS := Aside0.mk (show rstep zs R s j = if bestK zs R s j zs.length < 0 then 0 else bestK zs R s j zs.length by unfold rstep; rw [if_neg hs0])
                    have HWN := Aside0.mk hwn
                    clear hwn
                    have TK := Aside0.mk (rtab_below TB.out BK.out)
                    have hgo : gt ≤ wo.heap.size := Nat.le_of_lt (rtab_lt TB.out)
                    have BG := Aside0.mk (below_then BB.out hgo BK.out)
                    have cr2 := rtab_row TK.out (show s < s + 1 by omega)
                    obtain ⟨cj2, fj2, _⟩ := rtab_cell TK.out (show s < s + 1 by omega) hlj
                    obtain ⟨b, hb⟩ : ∃ b, bestK zs R s j zs.length = b := ⟨_, rfl⟩
                    rw [hb] at HBW HRS ⊢
                    clear hb cr cj fj
                    have P1 := rtab_put TK.out (show s < s + 1 by omega) hlj b
                    have TP := Aside0.mk P1
                    have TP2 := Aside0.mk (rtab_put P1 (show s < s + 1 by omega) hlj 0)
                    rw [updR_twice] at TP2
                    have BP := Aside0.mk (BG.out.setCell (p := ⟨G2 s, j, none⟩) (Nat.le_of_lt hgj) (.int .i64 b))
                    have BP2 := Aside0.mk (BP.out.setCell (p := ⟨G2 s, j, none⟩) (Nat.le_of_lt hgj) (.int .i64 0))
                    clear P1
                    generalize G2 s = gs at cr2 cj2 fj2 hgj TP TP2 BP BP2 ⊢
                    have hne : gt ≠ gs := by omega
                    by_cases hb0 : b < 0
                    · have d5 : decide (b < 0) = true := decide_eq_true hb0
                      rw [if_pos hb0] at HRS
                      clear hb0
                      go_wp2_with fail
                      go_meet
                      exact ⟨updR R s j 0, TP2, ⟨rdone_put DB.out HRS.out.symm (Int.le_refl _) (by omega)⟩, BP2⟩
                    · have d5 : decide (b < 0) = false := decide_eq_false hb0
                      rw [if_neg hb0] at HRS
                      have HV := Aside0.mk (show b ≤ ((s : Int) + 1) * 1000000000 by
                        rcases HBW.out with ⟨h, _⟩ | ⟨⟨k, k1, k2, k3, k4⟩, _⟩
                        · omega
                        · have := (HWN.out k k1 k3 k2).2
                          omega)
                      have H0 := Aside0.mk (show 0 ≤ b by omega)
                      clear hb0
                      go_wp2_with fail
                      go_meet
                      exact ⟨updR R s j b, TP, ⟨rdone_put DB.out HRS.out.symm H0.out HV.out⟩, BP⟩
              case rest =>
                clear TB DB BB BW
                obtain ⟨R3, TB, DB, BB⟩ := hcut
                go_wp2_with fail
                go_roundg (zs.length - (j + 1))
                case measure => omega
                case rel => exact ⟨j + 1, R3, by omega, rfl, by go_num, TB, DB, BB⟩
            · obtain rfl : j = zs.length := by omega
              go_wp2_with fail
              go_roundg (al - (s + 1))
              case measure => omega
              case rel => exact ⟨s + 1, G2, R, by omega, rfl, by go_num, TB, ⟨rdone_up DB.out⟩, BB⟩
        · obtain rfl : s = al := by omega
          go_wp2_with fail
          go_meet
          exact ⟨G, R, TB, DB, BB⟩
    case rest =>
      clear T0 BA
      obtain ⟨G, R, TB, DB, BB⟩ := hcut
      have HT := Aside0.mk (tables HR.out HB.out (R := R) (by rw [HAL.out]; exact DB.out) h2)
      have haa : all zs = al - 1 := by unfold all; rw [HAL.out]
      have HAA := Aside0.mk haa
      have hb1 : bit (al - 2) 0 = 0 := by
        have := compl_bit (n := zs.length) (s := 1) (x := 0) (by rw [HAL.out]; omega) (by omega)
        rw [HAL.out, show al - 1 - 1 = al - 2 by omega] at this
        exact this.trans (by decide)
      have HB1 := Aside0.mk hb1
      obtain ⟨hv1, _⟩ := HT.out (al - 2) (by rw [HAL.out]; omega) hb1 0 (by omega) hb1
      rw [haa, show al - 1 - (al - 2) = 1 by omega] at hv1
      have HV1 := Aside0.mk hv1
      clear hv1 hb1 haa
      obtain ⟨wd, rfl⟩ : ∃ wd : World, wd = wc := ⟨_, rfl⟩
      have HGD : Aside0 (gt < wd.heap.size) := ⟨rtab_lt TB.out⟩
      have BW := Aside0.mk (below_then BX.out BX.out.size (show Below wb.heap.size wb wd by rw [HGT.out]; exact BB.out))
      go_upto_block 10 with fail
      have R0 := Aside0.mk (R_fresh1 wd 0 3)
      have A0 := Aside0.mk (below_alloc (Below.refl wd.heap.size wd) (.cells #[.int .i64 0] 3))
      generalize wd.alloc (.cells #[.int .i64 0] 3) = W1 at *
      go_cut [15] (fun s15 wx => Aside0 ((Kd.int .i64).R 3 wx wd.heap.size (fun _ => True) s15 (0 :: tourF zs B (all zs) 1 0)) ∧ Aside0 (Below wd.heap.size wd wx))
      case first =>
        as_aux_lemma =>
        go_wp2_with fail
        go_loopg [15, 16, 17] al (fun gh s15 s16 s17 wr => ∃ (s a m : Nat) (l : List Int), s + 2 ≤ al ∧ gh = s + 2 ∧ a < zs.length ∧ l.length = m + 1 ∧ m + s + 2 ≤ al ∧ s16 = .int .i64 s ∧ s17 = .int .i64 a ∧ Aside0 (bit s 0 = 0 ∧ bit s a = 0) ∧ Aside0 (0 :: tourF zs B (all zs) 1 0 = l ++ tourF zs B (all zs - m) (all zs - s) a) ∧ Aside0 ((Kd.int .i64).R 3 wr wd.heap.size (fun _ => True) s15 l) ∧ Aside0 (Below wd.heap.size wd wr))
        case atStart => exact ⟨al - 2, 0, 0, [0], by omega, by omega, by omega, rfl, by omega, by go_num, rfl, ⟨HB1.out, HB1.out⟩, ⟨by rw [HAA.out, show al - 1 - (al - 2) = 1 by omega]; rfl⟩, R0, A0⟩
        case round =>
          clear R0 A0
          obtain ⟨s, a, m, l, hs, rfl, ha, hll, hms, rfl, rfl, BT, TO, R15, BB2⟩ := hrel
          by_cases hs0 : s = 0
          · have d1 : decide ((0 : Int) < (s : Int)) = false := decide_eq_false (by omega)
            have d1n : decide (0 < s) = false := decide_eq_false (by omega)
            have TE := Aside0.mk (show 0 :: tourF zs B (all zs) 1 0 = l by rw [TO.out, hs0, Nat.sub_zero, tour_end, List.append_nil])
            clear hs0
            go_wp2_with fail
            go_meet
            exact ⟨⟨by rw [TE.out]; exact R15.out⟩, BB2⟩
          · have d1 : decide ((0 : Int) < (s : Int)) = true := decide_eq_true (by omega)
            have d1n : decide (0 < s) = true := decide_eq_true (by omega)
            obtain ⟨_, hk⟩ := HT.out s (by rw [HAL.out]; omega) BT.out.1 a ha BT.out.2
            obtain ⟨k, k1, k2, bk, eB2, eW, hmin⟩ := hk hs0
            have HK := Aside0.mk (And.intro bk (And.intro eB2 (And.intro eW hmin)))
            clear hk eB2 eW hmin
            obtain ⟨wo, rfl⟩ : ∃ wo : World, wo = wr := ⟨_, rfl⟩
            have a0 : (0 : Int) ≤ (a : Int) := by omega
            have a1 : (a : Int) < (zs.length : Int) := by omega
            have s0 : (0 : Int) ≤ (s : Int) := by omega
            have s1 : (s : Int) < (al : Int) := by omega
            go_upto_block 12 with fail
            go_cut [18] (fun s18 wx => s18 = .int .i64 k ∧ Aside0 (Below wo.heap.size wo wx))
            case first =>
              as_aux_lemma =>
              go_wp2_with fail
              go_loopg [18, 19] zs.length (fun gh s18 s19 wk => ∃ (i : Nat) (nx : Int), 1 ≤ i ∧ i ≤ zs.length ∧ gh + i = zs.length + 1 ∧ s19 = .int .i64 i ∧ s18 = .int .i64 nx ∧ (nx = -1 ∧ i ≤ k ∨ nx = (k : Int)) ∧ Aside0 (Below wo.heap.size wo wk))
              case atStart => exact ⟨1, -1, Nat.le_refl _, by omega, by omega, rfl, rfl, .inl ⟨rfl, k1⟩, ⟨Below.refl _ _⟩⟩
              case round =>
                obtain ⟨i, nx, hi1, hi2, hgh, rfl, rfl, hnx, BK⟩ := hrel
                rcases hnx with ⟨rfl, hik⟩ | rfl
                · have i0 : (0 : Int) ≤ (i : Int) := by omega
                  have i1 : (i : Int) < (zs.length : Int) := by omega
                  have ri := bit_int s i
                  have qi := bit_lt s i
                  by_cases hbi : bit s i = 0
                  · have d4 : ((s : Int) / 2 ^ i % 2 == 1) = false := by rw [ri, hbi]; rfl
                    have hne : i ≠ k := fun e => by rw [e, HK.out.1] at hbi; cases hbi
                    clear ri qi hbi
                    go_wp2_with fail
                    go_quiet (fail)
                    go_wp2_with fail
                    go_roundg (zs.length - i)
                    case measure => omega
                    case rel => exact ⟨i + 1, -1, by omega, by omega, by omega, by go_num, rfl, .inl ⟨rfl, by omega⟩, ⟨by first | exact pw_below_drewN BK.out _ | exact BK.out⟩⟩
                  · have hbi1 : bit s i = 1 := by omega
                    have d4 : ((s : Int) / 2 ^ i % 2 == 1) = true := by rw [ri, hbi1]; rfl
                    have hlk : i < zs.length := by omega
                    obtain ⟨ad, bd, cb, eA, f1, f2, f3⟩ := at_far HA.out ha hlk HR.out
                    obtain ⟨x1, x2⟩ := fr_bound HR.out ha hlk
                    have hge := bit_ge hbi1
                    have hp0 := Nat.two_pow_pos i
                    obtain ⟨_, y1, y2⟩ := DB.out (s - 2 ^ i) i hlk (.inl (by omega))
                    have u1 := rtab_row TB.out (show s - 2 ^ i < al by omega)
                    obtain ⟨u2, _, _⟩ := rtab_cell TB.out (show s - 2 ^ i < al by omega) hlk
                    have u3 := rtab_row TB.out (show s < al by omega)
                    obtain ⟨u4, _, _⟩ := rtab_cell TB.out (show s < al by omega) ha
                    have HE := Aside0.mk (And.intro (fun e : i = k => e ▸ HK.out.2.2.1) (fun e : i < k => HK.out.2.2.2 i hi1 e hbi1))
                    have hwy : wayF zs R s a i = fr zs a i + R (s - 2 ^ i) i := rfl
                    rw [hwy] at HE
                    clear hwy
                    obtain ⟨x, hx⟩ : ∃ x, fr zs a i = x := ⟨_, rfl⟩
                    obtain ⟨y, hy⟩ : ∃ y, R (s - 2 ^ i) i = y := ⟨_, rfl⟩
                    obtain ⟨v, hv⟩ : ∃ v, R s a = v := ⟨_, rfl⟩
                    rw [hx] at f2 x1 x2 HE
                    rw [hy] at y1 y2 u2 HE
                    rw [hv] at u4 HE
                    obtain ⟨q, hq⟩ : ∃ q, s - 2 ^ i = q := ⟨_, rfl⟩
                    rw [hq] at y2 u1 u2
                    generalize G q = gq at u1 u2
                    generalize G s = gs at u3 u4
                    obtain ⟨p, hp⟩ : ∃ p, 2 ^ i = p := ⟨_, rfl⟩
                    have ep : ((2 : Int) ^ i) = (p : Int) := by rw [← hp]; simp
                    rw [hp] at hq hge
                    obtain ⟨z, hz⟩ : ∃ z, x + y = z := ⟨_, rfl⟩
                    rw [hz] at HE
                    have ez : IntKind.i64.wrap (x + y) = z := by rw [← hz]; exact Go.IntWalk.i64_in _ (by omega)
                    have e1 : IntKind.i64.wrap ((2 : Int) ^ i) = (p : Int) := by rw [ep]; exact Go.IntWalk.i64_in _ (by omega)
                    have e2 : IntKind.i64.wrap ((s : Int) - (p : Int)) = (q : Int) := by rw [← hq]; exact (Go.IntWalk.i64_in _ (by omega)).trans (by omega)
                    have q0' : (0 : Int) ≤ (q : Int) := by omega
                    have q1' : (q : Int) < (al : Int) := by omega
                    have BDK := Aside0.mk (below_then BB2.out BB2.out.size BK.out)
                    have k2' := pw_cell_below BDK.out (pw_cell_below BW.out f1)
                    have k3' := pw_cell_below BDK.out (pw_cell_below BW.out f2)
                    have k4' := pw_cell_below BDK.out u1
                    have k5' := pw_cell_below BDK.out u2
                    have k6' := pw_cell_below BDK.out u3
                    have k7' := pw_cell_below BDK.out u4
                    subst eA
                    clear f1 f2 u1 u2 u3 u4 hp hq ep hz y2 hge hp0 ri qi hbi hbi1 hx hy hv x1 x2 y1 BDK
                    by_cases hik2 : i = k
                    · have d6 : (z == v) = true := by rw [HE.out.1 hik2]; simp
                      have HIK := Aside0.mk hik2
                      clear hik2
                      go_wp2_with fail
                      go_quiet (fail)
                      go_wp2_with fail
                      go_roundg (zs.length - i)
                      case measure => omega
                      case rel => exact ⟨i + 1, (i : Int), by omega, by omega, by omega, by go_num, rfl, .inr (by rw [HIK.out]), ⟨by first | exact pw_below_drewN BK.out _ | exact BK.out⟩⟩
                    · have d6 : (z == v) = false := beq_eq_false_iff_ne.2 (HE.out.2 (by omega))
                      go_wp2_with fail
                      go_quiet (fail)
                      go_wp2_with fail
                      go_roundg (zs.length - i)
                      case measure => omega
                      case rel => exact ⟨i + 1, -1, by omega, by omega, by omega, by go_num, rfl, .inl ⟨rfl, by omega⟩, ⟨by first | exact pw_below_drewN BK.out _ | exact BK.out⟩⟩
                · have d5 : decide ((k : Int) < 0) = false := decide_eq_false (by omega)
                  by_cases hin : i < zs.length
                  · have d6 : decide ((i : Int) < (zs.length : Int)) = true := decide_eq_true (by omega)
                    go_wp2_with fail
                    go_meet
                    exact ⟨rfl, BK⟩
                  · have d6 : decide ((i : Int) < (zs.length : Int)) = false := decide_eq_false (by omega)
                    go_wp2_with fail
                    go_meet
                    exact ⟨rfl, BK⟩
            case rest =>
              obtain ⟨rfl, BK⟩ := hcut
              obtain ⟨bk1, eB2, _, _⟩ := HK.out
              have hge := bit_ge bk1
              have hp0 := Nat.two_pow_pos k
              obtain ⟨b1, b2⟩ := bit_sub bk1
              have BT2 := Aside0.mk (And.intro (show bit (s - 2 ^ k) 0 = 0 by rw [b2 0 (by omega)]; exact BT.out.1) b1)
              have TN := Aside0.mk (show l ++ tourF zs B (all zs - m) (all zs - s) a = (l ++ [(k : Int)]) ++ tourF zs B (all zs - (m + 1)) (all zs - (s - 2 ^ k)) k by
                rw [HAA.out] at eB2 ⊢
                rw [show al - 1 - m = (al - 1 - (m + 1)) + 1 by omega, tour_next (by rw [HAA.out]; omega), eB2, Int.toNat_natCast, show al - 1 - s + 2 ^ k = al - 1 - (s - 2 ^ k) by omega, List.append_assoc]
                rfl)
              have TO2 := Aside0.mk (TO.out.trans TN.out)
              have BO := Aside0.mk (below_then BB2.out BB2.out.size BK.out)
              have R16 := Aside0.mk (Kd.R_below R15.out BK.out)
              obtain ⟨q, hq⟩ : ∃ q, s - 2 ^ k = q := ⟨_, rfl⟩
              rw [hq] at BT2 TO2
              obtain ⟨p, hp⟩ : ∃ p, 2 ^ k = p := ⟨_, rfl⟩
              have ep : ((2 : Int) ^ k) = (p : Int) := by rw [← hp]; simp
              rw [hp] at hq hge hp0
              have hqs : q < s := by omega
              have e1 : IntKind.i64.wrap ((2 : Int) ^ k) = (p : Int) := by rw [ep]; exact Go.IntWalk.i64_in _ (by omega)
              have e2 : IntKind.i64.wrap ((s : Int) - (p : Int)) = (q : Int) := by rw [← hq]; exact (Go.IntWalk.i64_in _ (by omega)).trans (by omega)
              have k0 : (0 : Int) ≤ (k : Int) := by omega
              have k64 : (k : Int) ≤ 64 := by omega
              clear hp hq ep eB2 TN TO hge b1 b2 bk1
              go_wp2_with (first | ((with_reducible refine gate_builtin (b := .append) (xs := #[.tmp 196, .tmp 198]) rfl ?_); at_builtin; refine Kd.R_append (Kd.int .i64) (w0 := wd) wd.heap.size rfl (.tmp 196) (.tmp 198) 48 3 (.int .i64 0) 8 rfl Try.underlying48 infoZ rfl (by decide) (by omega) (u15) (l) ((k : Int)) ([.int .i64 (k : Int)]) (fun _ => True) (fun _ => False) ?aV ?aX ?aP (fun _ hk => hk.elim) (fun _ _ => trivial) ?aO ?aB ?aS ?aL ?_; (case aV => rfl); (case aX => rfl); (case aP => exact rfl); (case aO => exact R16.out); (case aB => exact BO.out); (case aS => exact BO.out.size); (case aL => omega); intro v18 w18 ho hb hgr hat; have R18 := Aside0.mk ho; have B18 := Aside0.mk hb; clear ho hb hgr hat))
              go_roundg (q + 2)
              case measure => omega
              case rel => exact ⟨q, k, m + 1, l ++ [(k : Int)], by omega, rfl, k2, by rw [List.length_append, hll]; rfl, by omega, rfl, rfl, BT2, TO2, R18, B18⟩
      case rest =>
        obtain ⟨R15, BB2⟩ := hcut
        clear R0 A0
        have u3 := rtab_row TB.out (show al - 2 < al by omega)
        obtain ⟨u4, _, _⟩ := rtab_cell TB.out (show al - 2 < al by omega) (show 0 < zs.length by omega)
        rw [HV1.out] at u4
        generalize G (al - 2) = gs at u3 u4
        obtain ⟨q, hq⟩ : ∃ q, al - 2 = q := ⟨_, rfl⟩
        rw [hq] at u3
        have e2 : IntKind.i64.wrap ((al : Int) - 2) = (q : Int) := by rw [← hq]; exact (Go.IntWalk.i64_in _ (by omega)).trans (by omega)
        have q0' : (0 : Int) ≤ (q : Int) := by omega
        have q1' : (q : Int) < (al : Int) := by omega
        have n0 : 0 < zs.length := by omega
        have k6 := pw_cell_below BB2.out u3
        have k7 := pw_cell_below BB2.out u4
        obtain ⟨b10, hb10⟩ : ∃ b, (B 1 0).1 = b := ⟨_, rfl⟩
        rw [hb10] at k7
        have HB10 := Aside0.mk hb10
        have BF := Aside0.mk (below_then BW.out BW.out.size BB2.out)
        clear hb10 hq u3 u4
        go_upto_region 53 with fail
        go_quiet (fail)
        go_wp2_with fail
        go_ret3
        refine ⟨u15, by rw [HB10.out]; rfl, ?_, ?_⟩
        · exact Kd.R_lower (by first | exact Kd.R_drewN R15.out _ | exact R15.out) BW.out.size
        · first | exact pw_below_drewN BF.out _ | exact BF.out
end Go.Proofs.Ytoopoecopahcbaa.Tr
