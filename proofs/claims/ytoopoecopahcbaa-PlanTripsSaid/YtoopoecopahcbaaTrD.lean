/- plan.Trip: two stops or more. No condition. -/
import Derived.Test.YtoopoecopahcbaaTrC
import Derived.Deep.QuietTactic
import Derived.BigQuiet
import Derived.Deep.RegionHeld3
import Derived.Deep.DrawnRows
namespace Go.Proofs.Ytoopoecopahcbaa.Tr
open Go Go.RowKit Go.Proofs.YtoopoecopahcbaaW.PrintWords Go.Proofs.YtoopoecopahcbaaW.PrintLast Go.Proofs.YtoopoecopahcbaaW.PrintMore
set_option linter.unusedVariables false
set_option linter.unusedSimpArgs false
attribute [local go_sem ↓] Go.wp_at_zero Go.wp_at_succ
attribute [local go_sem] bits_and1

/-- Cells of the table: two for each stop of each set. -/
def Tab (w : World) (g : Nat) (B : Nat → Nat → Leg) : Prop :=
  ∃ cs : Array Value, w.heap[g]? = some (.cells cs 108 (0, 0)) ∧ cs.size = 98304 ∧ ∀ s < 4096, ∀ a < 12, cs[s * 24 + a * 2]? = some (.int .i64 (B s a).1) ∧ cs[s * 24 + a * 2 + 1]? = some (.int .i64 (B s a).2)
theorem tab_lt {w : World} {g : Nat} {B : Nat → Nat → Leg} (h : Tab w g B) : g < w.heap.size := by
  obtain ⟨cs, h1, _⟩ := h
  exact blk_lt h1
theorem tab_below {w w1 : World} {g : Nat} {B : Nat → Nat → Leg} (h : Tab w g B) (hb : Below w.heap.size w w1) : Tab w1 g B := by
  obtain ⟨cs, h1, h2⟩ := h
  exact ⟨cs, blk_under hb h1, h2⟩
theorem tab_cell {w : World} {g : Nat} {B : Nat → Nat → Leg} (h : Tab w g B) {s a : Nat} (hs : s < 4096) (ha : a < 12) :
    w.cell? ⟨g, s * 24 + a * 2, none⟩ = some (.int .i64 (B s a).1) ∧ w.cell? ⟨g, s * 24 + a * 2 + 1, none⟩ = some (.int .i64 (B s a).2) ∧ w.frozen? ⟨g, s * 24 + a * 2, none⟩ = false ∧ w.frozen? ⟨g, s * 24 + a * 2 + 1, none⟩ = false := by
  obtain ⟨cs, h1, h2, h3⟩ := h
  obtain ⟨a1, a2⟩ := h3 s hs a ha
  exact ⟨(blk_cell h1 _).trans a1, (blk_cell h1 _).trans a2, blk_frozen h1 _, blk_frozen h1 _⟩
theorem tab_drew {w : World} {g : Nat} {B : Nat → Nat → Leg} (h : Tab w g B) : Tab w.drew g B := h
theorem tab_put {w : World} {g : Nat} {B : Nat → Nat → Leg} (h : Tab w g B) {s a : Nat} (hs : s < 4096) (ha : a < 12) (x y : Int) :
    Tab ((w.setCell ⟨g, s * 24 + a * 2, none⟩ (.int .i64 x)).setCell ⟨g, s * 24 + a * 2 + 1, none⟩ (.int .i64 y)) g (upd B s a (x, y)) := by
  obtain ⟨cs, h1, h2, h3⟩ := h
  refine ⟨_, blk_set (blk_set h1 _ _) _ _, by simp [h2], fun s' hs' a' ha' => ?_⟩
  obtain ⟨e1, e2⟩ := h3 s' hs' a' ha'
  by_cases he : s' = s ∧ a' = a
  · obtain ⟨rfl, rfl⟩ := he
    rw [upd_same]
    constructor
    · rw [Array.getElem?_setIfInBounds_ne (by omega), Array.getElem?_setIfInBounds_self_of_lt (by omega)]
    · rw [Array.getElem?_setIfInBounds_self_of_lt (by simp; omega)]
  · rw [upd_other he]
    have hne : s' * 24 + a' * 2 ≠ s * 24 + a * 2 := by omega
    constructor
    · rw [Array.getElem?_setIfInBounds_ne (by omega), Array.getElem?_setIfInBounds_ne (by omega), e1]
    · rw [Array.getElem?_setIfInBounds_ne (by omega), Array.getElem?_setIfInBounds_ne (by omega), e2]
theorem good_rows {zs : List (List Int)} (hg : zs.all (rowGood zs.length) = true) : ∀ r ∈ zs, r.length = zs.length ∧ ∀ x ∈ r, 0 ≤ x ∧ x ≤ 1000000000 := fun r hr => by
  have := List.all_eq_true.1 hg r hr
  unfold rowGood at this
  rw [Bool.and_eq_true, decide_eq_true_eq] at this
  refine ⟨this.1, fun x hx => ?_⟩
  have h2 : badRow r = false := by simpa using this.2
  unfold badRow at h2
  have h3 := List.any_eq_false.1 h2 x hx
  have h4 : goodF x = true := by simpa using h3
  unfold goodF at h4
  simpa using h4
theorem fr_eq {zs : List (List Int)} {i j : Nat} (hi : i < zs.length) (hj : j < (zs[i]).length) : fr zs i j = zs[i][j] := by
  unfold fr
  rw [show zs.getD i [] = zs[i] by rw [List.getD_eq_getElem?_getD, List.getElem?_eq_getElem hi]; rfl, List.getD_eq_getElem?_getD, List.getElem?_eq_getElem hj]
  rfl
theorem pow_all {zs : List (List Int)} (h12 : zs.length ≤ 12) : wrap64 (wrap64 (2 ^ zs.length) - 1) = (all zs : Int) ∧ all zs < 4096 := by
  have h1 : (2 : Nat) ^ zs.length ≤ 2 ^ 12 := Nat.pow_le_pow_right (by omega) h12
  have h2 := Nat.two_pow_pos zs.length
  have e : ((2 : Int) ^ zs.length) = ((2 ^ zs.length : Nat) : Int) := by simp
  unfold all
  rw [e]
  generalize 2 ^ zs.length = p at *
  unfold wrap64
  omega
theorem cell_far2 {w : World} {q : Addr} {g i j : Nat} {v u1 u2 : Value} (h : w.cell? q = some v) (hq : q.block < g) : ((w.setCell ⟨g, i, none⟩ u1).setCell ⟨g, j, none⟩ u2).cell? q = some v := by
  rw [World.cell?_setCell_other _ _ _ _ (fun e => by rw [← e] at hq; exact Nat.lt_irrefl _ hq), World.cell?_setCell_other _ _ _ _ (fun e => by rw [← e] at hq; exact Nat.lt_irrefl _ hq), h]
theorem infoZ : (Try.prog.info? 3).map (fun i => (i.zero, i.size, i.bytes)) = some (some (.int .i64 0), 1, 8) := by kernel_rfl
theorem infoL : (Try.prog.info? 106).map (fun i => (i.zero, i.size, i.bytes)) = some (some (.agg #[.int .i64 0, .int .i64 0]), 2, 16) := by kernel_rfl
theorem leg_append {ops : Array Oper} {Q : Exit → Act → World → Prop} {Kc : Act → World → Prop} {o : Oper} {a : Act} {w0 W : World} (base : Nat) (hw : Region.wanted o (yielded ops a.tmps) = true)
    (ho : o.op = .call { callee := .builtin .append, args := #[.tmp 87, .tmp 107], argTypes := #[109, 109] }) (v : Value) (xs : List Leg) (z j : Int) (hs : a.eval (.tmp 87) = v) (hx : a.eval (.tmp 107) = .slice (some ⟨W.heap.size, 0, none⟩) 1 1)
    (HO : kLeg.R 106 W base (fun _ => True) v xs) (HB : Below base w0 W) (hbase : base ≤ W.heap.size) (hl : (xs.length + 1) * 16 ≤ 140737488355328)
    (h : ∀ v1 w1, kLeg.R 106 w1 base (fun _ => True) v1 (xs ++ [(z, j)]) → Below base w0 w1 → Kc (a.put o.dst v1) w1) :
    if Region.wanted o (yielded ops a.tmps) = true then Oper.wp Try.prog o a ((W.alloc (.cells #[.int .i64 z, .int .i64 j] 106)).drew) Kc Q else Kc (a.put o.dst undef) ((W.alloc (.cells #[.int .i64 z, .int .i64 j] 106)).drew) :=
  Kd.R_append_step kLeg (w0 := w0) (W := W.drew) base hw (.tmp 87) (.tmp 107) 109 106 (.agg #[.int .i64 0, .int .i64 0]) 16 ho Try.underlying109 infoL rfl (by decide) (by decide) v xs (z, j) [.int .i64 z, .int .i64 j] (fun _ => True) (fun _ => False) hs hx
    ⟨[.int .i64 z], [.int .i64 j], rfl, rfl, rfl⟩ (fun _ h => h.elim) (fun _ _ => trivial) (Kd.R_drew HO) (below_drew HB) hbase hl (fun v1 w1 h1 h2 _ _ => h v1 w1 h1 h2)
theorem ways_len (zs : List (List Int)) (B : Nat → Nat → Leg) (s a : Nat) : ∀ k, (waysF zs B s a k).length ≤ k
  | 0 => Nat.le_refl _
  | k + 1 => by
    show (waysF zs B s a k ++ _).length ≤ k + 1
    have := ways_len zs B s a k
    rw [List.length_append]
    split <;> simp <;> omega
theorem bit_int (s a : Nat) : (s : Int) / 2 ^ a % 2 = ((bit s a : Nat) : Int) := by unfold bit; simp
theorem bit_zero (s : Nat) : (s : Int) % 2 = ((bit s 0 : Nat) : Int) := by unfold bit; simp
theorem at_far {w : World} {A : Option Addr} {zs : List (List Int)} (h : Kd.C kRow w A zs.length zs) {i j : Nat} (hi : i < zs.length) (hj : j < zs.length) (hr : ∀ r ∈ zs, r.length = zs.length ∧ ∀ x ∈ r, 0 ≤ x ∧ x ≤ 1000000000) :
    ∃ ad bd c, A = some ad ∧ w.cell? (ad.add i) = some (.slice (some bd) zs.length c) ∧ w.cell? (bd.add j) = some (.int .i64 (fr zs i j)) ∧ zs.length ≤ c := by
  obtain ⟨ad, B, c, e, h1, h2, h3⟩ := at_row h i hi
  obtain ⟨hl, _⟩ := hr zs[i] (List.getElem_mem hi)
  obtain ⟨bd, e2, h4⟩ := at_int h3 j (by omega)
  subst e2
  rw [hl] at h1 h2
  exact ⟨ad, bd, c, e, h1, by rw [fr_eq hi (by omega)]; exact h4, h2⟩
set_option maxRecDepth 100000 in
set_option maxHeartbeats 8000000 in
theorem trip_calls (A : Option Addr) (c : Nat) (zs : List (List Int)) (w : World) (ha : Kd.C kRow w A zs.length zs) (hc : zs.length ≤ c) (h2 : 2 ≤ zs.length) (h12 : zs.length ≤ 12) (hg : zs.all (rowGood zs.length) = true) :
    Calls Try.prog 21 #[.slice A zs.length c] w fun e w' => ∃ (v : Value) (B : Nat → Nat → Leg), e = .returned (.tuple #[v, .int .i64 (B 1 0).1, .int .i64 0]) ∧ (Kd.int .i64).R 3 w' w.heap.size (fun _ => True) v (0 :: tourF zs B (all zs) 1 0) ∧ DoneAll zs B ∧ Below w.heap.size w w' := by
  have HA := Aside0.mk ha
  have HG := Aside0.mk hg
  have HR := Aside0.mk (good_rows hg)
  clear ha hg
  obtain ⟨cs0, hz, hzs, hz0⟩ := zero_best
  have HZ := Aside0.mk (And.intro hzs hz0)
  clear hzs hz0
  go_enter Try.func21, Try.ntmps21
  go_upto_block 0 with fail
  go_cut [7] (fun s7 wx => w = wx)
  case first =>
    go_wp2_with fail
    go_loopg [7, 23] zs.length (fun g v7 v23 wx => w = wx ∧ ∃ k : Nat, k ≤ zs.length ∧ g = zs.length - k ∧ v23 = .int .i64 k ∧ Aside0 (∀ j, (hj : j < k) → (hk : j < zs.length) → rowGood zs.length zs[j] = true))
    case atStart => exact ⟨rfl, 0, Nat.zero_le _, rfl, rfl, ⟨fun j hj => by omega⟩⟩
    case round =>
      obtain ⟨rfl, k, hk, rfl, rfl, HN⟩ := hrel
      by_cases hlt : k < zs.length
      · obtain ⟨ad, B, c1, eA, hcA, hcc, hC⟩ := at_row HA.out k hlt
        have hrl : zs[k].length < 4611686018427387904 := by have := (HR.out zs[k] (List.getElem_mem hlt)).1; omega
        have HC := Aside0.mk (contains_calls B c1 zs[k] w hC hcc hrl)
        obtain ⟨b, hb⟩ : ∃ b, rowGood zs.length zs[k] = b := ⟨_, rfl⟩
        have HB := Aside0.mk hb
        have HX := Aside0.mk (show rowGood zs.length zs[k] = (decide (zs[k].length = zs.length) && !badRow zs[k]) from rfl)
        clear hC hb
        obtain ⟨r, hr⟩ : ∃ r, zs[k] = r := ⟨_, rfl⟩
        rw [hr] at hcA hcc hrl HC HB HX
        have HB' := Aside0.mk hr
        clear hr
        subst eA
        have i0 : (0 : Int) ≤ (k : Int) := by omega
        have i1 : (k : Int) < (zs.length : Int) := by omega
        have hrb : (decide (r.length = zs.length) && !badRow r) = b := HX.out.symm.trans HB.out
        obtain ⟨b1, hb1⟩ : ∃ b1, badRow r = b1 := ⟨_, rfl⟩
        rw [hb1] at HC hrb
        clear hb1
        by_cases hle : r.length = zs.length
        · have d1 : ((r.length : Int) != (zs.length : Int)) = false := by simp [hle]
          rw [decide_eq_true hle] at hrb
          have HL := Aside0.mk hle
          clear hle
          cases b1
          · obtain rfl : b = true := by simpa using hrb.symm
            have HN2 := Aside0.mk (show ∀ j, (hj : j < k + 1) → (hk : j < zs.length) → rowGood zs.length zs[j] = true from fun j hj hk' => by
              rcases Nat.lt_or_ge j k with h | h
              · exact HN.out j h hk'
              · obtain rfl : j = k := by omega
                rw [HB'.out]; exact HB.out)
            clear HN hrb
            go_wp2_with (first | (go_at_call 49; refine (HC.out).mono ?_; rintro e w1 ⟨rfl, rfl⟩))
            go_roundg (zs.length - (k + 1))
            case measure => omega
            case rel => exact ⟨rfl, k + 1, by omega, rfl, by go_num, HN2⟩
          · exfalso
            have := List.all_eq_true.1 HG.out _ (List.getElem_mem hlt)
            rw [HB'.out, HB.out] at this
            rw [this] at hrb
            cases hrb
        · have d1 : ((r.length : Int) != (zs.length : Int)) = true := by
            refine bne_iff_ne.2 fun h => hle ?_
            omega
          exfalso
          have := List.all_eq_true.1 HG.out _ (List.getElem_mem hlt)
          rw [HB'.out, HX.out] at this
          simp only [Bool.and_eq_true, decide_eq_true_eq] at this
          exact hle this.1
      · obtain rfl : k = zs.length := by omega
        go_wp2_with fail
        go_meet
        exact rfl
  case rest =>
    subst hcut
    obtain ⟨hal, hal2⟩ := pow_all h12
    generalize hall : all zs = al at *
    have HAL := Aside0.mk hall
    clear hall
    go_upto_block 3 with fail
    rw [hal]
    clear hal hz
    generalize ((zs.length : Int) == 0) = b37
    generalize ((zs.length : Int) == 1) = b39
    generalize decide ((12 : Int) < (zs.length : Int)) = b20
    generalize wrap64 (2 ^ zs.length) = v43
    have T0 : Aside0 (Tab (w.alloc (.cells cs0 108)) w.heap.size (fun _ _ => (0, 0))) := ⟨⟨cs0, heap_alloc_new _ _, HZ.out.1, fun s hs a ha => ⟨HZ.out.2 _ (by omega), HZ.out.2 _ (by omega)⟩⟩⟩
    have B0 := Aside0.mk (below_alloc (Below.refl w.heap.size w) (.cells cs0 108))
    generalize w.alloc (.cells cs0 108) = W0 at *
    clear HZ
    have hg0 := Aside0.mk (tab_lt T0.out)
    generalize hgt : w.heap.size = gt at *
    have HGT := Aside0.mk hgt
    clear hgt
    go_cut [10] (fun s10 wx => ∃ B, Aside0 (Tab wx gt B) ∧ Aside0 (Done zs B 0 0) ∧ Aside0 (Below gt w wx))
    case first =>
      go_wp2_with fail
      go_loopg [10] al (fun g s10 wr => ∃ (s : Nat) (B : Nat → Nat → Leg), s ≤ al ∧ s = g ∧ s10 = .int .i64 s ∧ Aside0 (Tab wr gt B) ∧ Aside0 (Done zs B s 0) ∧ Aside0 (Below gt w wr))
      case atStart => exact ⟨al, _, Nat.le_refl _, rfl, rfl, T0, ⟨by rw [← HAL.out]; exact done_first zs _⟩, B0⟩
      case round =>
        obtain ⟨s, B, hs, rfl, rfl, TB, DB, BB⟩ := hrel
        clear T0 B0
        by_cases hs0 : 0 < s
        · go_wp2_with fail
          go_loopg [51] zs.length (fun g s51 wr => ∃ (a : Nat) (B : Nat → Nat → Leg), a ≤ zs.length ∧ g = zs.length - a ∧ s51 = .int .i64 a ∧ Aside0 (Tab wr gt B) ∧ Aside0 (Done zs B s a) ∧ Aside0 (Below gt w wr))
          case atStart => exact ⟨0, B, Nat.zero_le _, rfl, rfl, TB, DB, BB⟩
          case round =>
            clear TB DB BB
            obtain ⟨a, B, ha, rfl, rfl, TB, DB, BB⟩ := hrel
            by_cases hlt : a < zs.length
            · go_upto_block 6 with fail
              go_cut [11] (fun s11 wx => ∃ B, Aside0 (Tab wx gt B) ∧ Aside0 (Done zs B s (a + 1)) ∧ Aside0 (Below gt w wx))
              case first =>
                as_aux_lemma =>
                have BW : Aside0 (Below w.heap.size w wr) := ⟨by rw [HGT.out]; exact BB.out⟩
                have i0 : (0 : Int) ≤ (a : Int) := by omega
                have i1 : (a : Int) < (zs.length : Int) := by omega
                have i2 : (a : Int) < 12 := by omega
                have i3 : (0 : Int) ≤ (s : Int) := by omega
                have i4 : (s : Int) < 4096 := by omega
                have q0 := bit_lt s 0
                have qa := bit_lt s a
                have r0 := bit_zero s
                have ra := bit_int s a
                by_cases hb0 : bit s 0 = 0
                · have d1 : ((s : Int) % 2 == 0) = true := by rw [r0, hb0]; rfl
                  clear r0 ra q0 qa
                  go_wp2_with fail
                  go_meet
                  exact ⟨B, TB, ⟨done_skip DB.out (.inl hb0)⟩, BB⟩
                · have hb1 : bit s 0 = 1 := by omega
                  have d1 : ((s : Int) % 2 == 0) = false := by rw [r0, hb1]; rfl
                  clear hb0
                  by_cases hba : bit s a = 0
                  · have d2 : ((s : Int) / 2 ^ a % 2 == 0) = true := by rw [ra, hba]; rfl
                    clear r0 ra q0 qa
                    go_wp2_with fail
                    go_meet
                    exact ⟨B, TB, ⟨done_skip DB.out (.inr hba)⟩, BB⟩
                  · have hba1 : bit s a = 1 := by omega
                    have d2 : ((s : Int) / 2 ^ a % 2 == 0) = false := by rw [ra, hba1]; rfl
                    have HB1 := Aside0.mk hb1
                    have HBA := Aside0.mk hba1
                    clear r0 ra q0 qa hba hba1 hb1
                    obtain ⟨t1, t2, t3, t4⟩ := tab_cell TB.out (s := s) (a := a) (by omega) (by omega)
                    by_cases hsa : s = al
                    · have d3 : ((s : Int) == (al : Int)) = true := by rw [hsa]; simp
                      have HSA := Aside0.mk hsa
                      clear hsa
                      obtain ⟨ad, bd, cb, eA, f1, f2, f3⟩ := at_far HA.out hlt (show 0 < zs.length by omega) HR.out
                      have hN := Aside0.mk (fr_bound HR.out hlt (show 0 < zs.length by omega))
                      obtain ⟨x, hx⟩ : ∃ x, fr zs a 0 = x := ⟨_, rfl⟩
                      rw [hx] at f2 hN
                      have HX := Aside0.mk hx
                      clear hx
                      subst eA
                      have i6 : 0 < zs.length := by omega
                      have f4 : w.cell? bd = some (.int .i64 x) := by have := f2; unfold Addr.add at this; simpa using this
                      have l1 := World.block_lt_of_cell? w _ f1
                      have l4 := World.block_lt_of_cell? w _ f4
                      rw [HGT.out] at l1 l4
                      have g1 := pw_cell_below BW.out f1
                      have g4 := pw_cell_below BW.out f4
                      have K1 : ((wr.setCell ⟨gt, s * 24 + a * 2, none⟩ (.int .i64 x)).setCell ⟨gt, s * 24 + a * 2 + 1, none⟩ (.int .i64 (-1))).cell? (ad.add a) = some (.slice (some bd) zs.length cb) := cell_far2 g1 l1
                      have K4 : ((wr.setCell ⟨gt, s * 24 + a * 2, none⟩ (.int .i64 x)).setCell ⟨gt, s * 24 + a * 2 + 1, none⟩ (.int .i64 (-1))).cell? bd = some (.int .i64 x) := cell_far2 g4 l4
                      clear f1 f2 f4
                      go_upto_region 25 with fail
                      go_region_held3 (fun w' => w'.cell? (ad.add a) = some (.slice (some bd) zs.length cb) ∧ w'.cell? bd = some (.int .i64 x)) (first | go_keep | (go_split_ands; exact ⟨K1, K4⟩) | exact ⟨K1, K4⟩) (fail)
                      go_wp2_with fail
                      go_meet
                      refine ⟨upd B s a (x, -1), ?_, ?_, ?_⟩
                      · exact ⟨tab_drew (tab_put TB.out (by omega) (by omega) x (-1))⟩
                      · refine ⟨done_put DB.out ?_ hN.out.1 ?_⟩
                        · unfold stepF
                          rw [if_pos (by rw [HAL.out]; exact HSA.out), HX.out]
                        · have := hN.out.2
                          rw [HAL.out]
                          omega
                      · exact ⟨below_drew ((BB.out.setCell (Nat.le_refl _) _).setCell (Nat.le_refl _) _)⟩
                    · have d3 : ((s : Int) == (al : Int)) = false := by
                        refine beq_eq_false_iff_ne.2 ?_
                        omega
                      have hsl : s < al := by omega
                      clear hsa
                      have SW := Aside0.mk (step_words HR.out (show s < all zs by rw [HAL.out]; exact hsl) hlt HB1.out DB.out)
                      obtain ⟨wo, rfl⟩ : ∃ wo : World, wo = wr := ⟨_, rfl⟩
                      go_upto_block 7 with fail
                      go_cut [12] (fun s12 wx => ∃ (A12 : Option Addr) (c12 : Nat), s12 = .slice A12 (waysF zs B s a zs.length).length c12 ∧ (waysF zs B s a zs.length).length ≤ c12 ∧ Aside0 (Kd.C kLeg wx A12 (waysF zs B s a zs.length).length (waysF zs B s a zs.length)) ∧ Aside0 (Below wo.heap.size wo wx))
                      case first =>
                        go_wp2_with fail
                        go_loopg [12, 79] zs.length (fun g s12 s79 wj => ∃ j : Nat, j ≤ zs.length ∧ g = zs.length - j ∧ s79 = .int .i64 j ∧ Aside0 (kLeg.R 106 wj wo.heap.size (fun _ => True) s12 (waysF zs B s a j)) ∧ Aside0 (Below wo.heap.size wo wj))
                        case atStart => exact ⟨0, Nat.zero_le _, rfl, rfl, ⟨Kd.R_nil _ _ _ _ _⟩, ⟨Below.refl _ _⟩⟩
                        case round =>
                          obtain ⟨j, hj, rfl, rfl, RJ, BJ⟩ := hrel
                          by_cases hlj : j < zs.length
                          · have j0 : (0 : Int) ≤ (j : Int) := by omega
                            have j1 : (j : Int) < (zs.length : Int) := by omega
                            have j2 : (j : Int) < 12 := by omega
                            have rj := bit_int s j
                            have qj := bit_lt s j
                            have HWS := Aside0.mk (show waysF zs B s a (j + 1) = waysF zs B s a j ++ (if bit s j = 0 then [(fr zs a j + (B (s + 2 ^ j) j).1, (j : Int))] else []) from rfl)
                            by_cases hbj : bit s j = 0
                            · have d4 : ((s : Int) / 2 ^ j % 2 == 0) = true := by rw [rj, hbj]; rfl
                              rw [if_pos hbj] at HWS
                              obtain ⟨ad, bd, cb, eA, f1, f2, f3⟩ := at_far HA.out hlt hlj HR.out
                              obtain ⟨x1, x2⟩ := fr_bound HR.out hlt hlj
                              have hqa : s + 2 ^ j ≤ al := by
                                have := bit_le (s := s) (n := zs.length) (j := j) (by have := all_lt zs; rw [HAL.out] at this; omega) hlj hbj
                                have h3 := HAL.out
                                unfold all at h3
                                omega
                              have hp0 := Nat.two_pow_pos j
                              obtain ⟨_, y1, y2⟩ := DB.out (s + 2 ^ j) j (by rw [HAL.out]; exact hqa) hlj (by rw [bit_other hbj (fun h => by subst h; have := HB1.out; omega)]; exact HB1.out) (bit_self hbj) (.inl (by omega))
                              obtain ⟨u1, _⟩ := tab_cell TB.out (s := s + 2 ^ j) (a := j) (by omega) (by omega)
                              have hor := or_bit hbj
                              have hwl := ways_len zs B s a j
                              obtain ⟨x, hx⟩ : ∃ x, fr zs a j = x := ⟨_, rfl⟩
                              obtain ⟨y, hy⟩ : ∃ y, (B (s + 2 ^ j) j).1 = y := ⟨_, rfl⟩
                              rw [hx] at f2 x1 x2 HWS
                              rw [hy] at y1 y2 u1 HWS
                              obtain ⟨q, hq⟩ : ∃ q, s + 2 ^ j = q := ⟨_, rfl⟩
                              rw [hq] at hqa y2 u1 hor
                              clear hx hy hq
                              obtain ⟨p, hp⟩ : ∃ p, 2 ^ j = p := ⟨_, rfl⟩
                              have ep : ((2 : Int) ^ j) = (p : Int) := by rw [← hp]; simp
                              rw [hp] at hor hp0
                              have hpl : p ≤ q := by rw [← hor]; exact Nat.right_le_or
                              obtain ⟨z, hz⟩ : ∃ z, x + y = z := ⟨_, rfl⟩
                              rw [hz] at HWS
                              subst eA
                              have hb12 : ((all zs - q : Nat) : Int) + 1 ≤ 4096 := by rw [HAL.out]; omega
                              have ez : IntKind.i64.wrap (x + y) = z := by rw [← hz]; exact Go.IntWalk.i64_in _ (by omega)
                              have e1 : IntKind.i64.wrap ((2 : Int) ^ j) = (p : Int) := by rw [ep]; exact Go.IntWalk.i64_in _ (by omega)
                              have e2 : bits .or .i64 (s : Int) (p : Int) = (q : Int) := by rw [bits_or_nat s p (by omega) (by omega), hor]
                              have q0' : (0 : Int) ≤ (q : Int) := by omega
                              have q1' : (q : Int) < 4096 := by omega
                              have h16 : ((waysF zs B s a j).length + 1) * 16 ≤ 140737488355328 := by omega
                              have g1 := pw_cell_below BW.out f1
                              have g2 := pw_cell_below BW.out f2
                              have k1 := pw_cell_below BJ.out g1
                              have k2 := pw_cell_below BJ.out g2
                              have k3 := pw_cell_below BJ.out u1
                              have G1 := Aside0.mk g1
                              have G2 := Aside0.mk g2
                              have U1 := Aside0.mk u1
                              clear f1 f2 g1 g2 u1 hp hor ep hz y2 hb12 hp0 hpl rj qj hbj
                              go_upto_region 31 with fail
                              go_region_held3 (fun w' => w'.cell? (ad.add a) = some (.slice (some bd) zs.length cb) ∧ w'.cell? (bd.add j) = some (.int .i64 x) ∧ w'.cell? ⟨gt, q * 24 + j * 2, none⟩ = some (.int .i64 y)) (go_keep) ((refine leg_append (w0 := wo) wo.heap.size (by rfl) (by rfl) u12 (waysF zs B s a j) z (j : Int) (by rfl) (by rfl) RJ.out BJ.out BJ.out.size h16 ?_; intro v1 w1 ho hb; have s1 := pw_cell_below hb G1.out; have s2 := pw_cell_below hb G2.out; have s3 := pw_cell_below hb U1.out; have RN := Aside0.mk ho; have BN := Aside0.mk hb; clear ho hb))
                              go_wp2_with fail
                              go_roundg (zs.length - (j + 1))
                              case measure => omega
                              case rel => exact ⟨j + 1, by omega, rfl, by go_num, ⟨by rw [HWS.out]; exact RN.out⟩, BN⟩
                            · have hbj1 : bit s j = 1 := by omega
                              have d4 : ((s : Int) / 2 ^ j % 2 == 0) = false := by rw [rj, hbj1]; rfl
                              rw [if_neg hbj, List.append_nil] at HWS
                              clear rj qj hbj hbj1
                              go_wp2_with fail
                              go_roundg (zs.length - (j + 1))
                              case measure => omega
                              case rel => exact ⟨j + 1, by omega, rfl, by go_num, ⟨by rw [HWS.out]; exact RJ.out⟩, BJ⟩
                          · obtain rfl : j = zs.length := by omega
                            obtain ⟨A12, c12, rfl, hc12, hC12⟩ := Kd.R_reads RJ.out
                            have C12 := Aside0.mk hC12
                            clear hC12 RJ
                            generalize waysF zs B s a zs.length = ws at *
                            go_wp2_with fail
                            go_meet
                            exact ⟨A12, c12, rfl, hc12, C12, BJ⟩
                      case rest =>
                        obtain ⟨A12, c12, rfl, hc12, C12, B12⟩ := hcut
                        have hwl := ways_len zs B s a zs.length
                        obtain ⟨j, j1, j2, j3, hL, jle, v0, v1⟩ := SW.out
                        have HL := Aside0.mk (fun w' (hb : Below wc.heap.size wc w') => least_calls A12 c12 (waysF zs B s a zs.length) w' (Kd.C_below C12.out hb) hc12 (by omega))
                        unfold LeastPost at HL
                        have HV := Aside0.mk (show leastL (waysF zs B s a zs.length) = stepF zs B s a by unfold stepF; rw [if_neg (by rw [HAL.out]; omega)])
                        have v0' : 0 ≤ (leastL (waysF zs B s a zs.length)).1 := by rw [hL]; exact v0
                        have v1' : (leastL (waysF zs B s a zs.length)).1 ≤ ((all zs - s : Nat) + 1 : Int) * 1000000000 := by rw [hL]; exact v1
                        clear v0 v1
                        clear hL jle j1 j2 j3
                        generalize waysF zs B s a zs.length = ws at *
                        generalize leastL ws = lg at *
                        obtain ⟨lx, ly⟩ := lg
                        simp only at HL v0' v1'
                        have hgo : gt ≤ wo.heap.size := Nat.le_of_lt (tab_lt TB.out)
                        go_upto_region 33 with fail
                        go_region_held3 (fun _ => True) (first | trivial | go_keep) (first | (go_at_call 51; refine (HL.out _ (below_drew (Below.refl _ _))).mono ?_; rintro e w5 ⟨rfl, hb5⟩; have T5 := Aside0.mk (tab_below (tab_drew (tab_below TB.out B12.out)) hb5); obtain ⟨k1, k2, k3, k4⟩ := tab_cell T5.out (s := s) (a := a) (by omega) (by omega); have B5 := Aside0.mk (below_then (below_drew (below_then BB.out hgo B12.out)) (Nat.le_trans hgo B12.out.size) hb5); clear hb5))
                        go_wp2_with fail
                        go_meet
                        exact ⟨upd B s a (lx, ly), ⟨tab_put T5.out (by omega) (by omega) lx ly⟩, ⟨done_put DB.out HV.out v0' v1'⟩, ⟨(B5.out.setCell (Nat.le_refl _) _).setCell (Nat.le_refl _) _⟩⟩
              case rest =>
                clear TB DB BB
                obtain ⟨B, TB, DB, BB⟩ := hcut
                go_wp2_with fail
                go_roundg (zs.length - (a + 1))
                case measure => omega
                case rel => exact ⟨a + 1, B, by omega, rfl, by go_num, TB, DB, BB⟩
            · obtain rfl : a = zs.length := by omega
              obtain ⟨t, rfl⟩ : ∃ t, s = t + 1 := ⟨s - 1, by omega⟩
              go_wp2_with fail
              go_roundg t
              case measure => omega
              case rel => exact ⟨t, B, by omega, rfl, by go_num, TB, ⟨done_down DB.out⟩, BB⟩
        · obtain rfl : s = 0 := by omega
          go_wp2_with fail
          go_meet
          exact ⟨B, TB, DB, BB⟩
    case rest =>
      clear T0 B0 hg0
      obtain ⟨B, TB, DB, BB⟩ := hcut
      have h3 : 3 ≤ al := by
        have e := HAL.out
        unfold all at e
        have := Nat.pow_le_pow_right (show 0 < 2 by omega) h2
        omega
      obtain ⟨wb, rfl⟩ : ∃ wb : World, wb = wc := ⟨_, rfl⟩
      have HGB : Aside0 (gt < wb.heap.size) := ⟨tab_lt TB.out⟩
      go_upto_block 9 with fail
      have R0 := Aside0.mk (R_fresh1 wb 0 3)
      have A0 := Aside0.mk (below_alloc (Below.refl wb.heap.size wb) (.cells #[.int .i64 0] 3))
      generalize wb.alloc (.cells #[.int .i64 0] 3) = W1 at *
      go_cut [14] (fun s14 wx => Aside0 ((Kd.int .i64).R 3 wx wb.heap.size (fun _ => True) s14 (0 :: tourF zs B al 1 0)) ∧ Aside0 (Below wb.heap.size wb wx))
      case first =>
        as_aux_lemma =>
        go_wp2_with fail
        go_loopg [14, 15, 16] al (fun g s14 s15 s16 wr => ∃ (s a m : Nat) (l : List Int), s ≤ al ∧ g = al + 1 - s ∧ m + 1 ≤ s ∧ a < zs.length ∧ l.length = m + 1 ∧ s15 = .int .i64 s ∧ s16 = .int .i64 a ∧ Aside0 (bit s 0 = 1 ∧ bit s a = 1) ∧ Aside0 (0 :: tourF zs B al 1 0 = l ++ tourF zs B (al - m) s a) ∧ Aside0 ((Kd.int .i64).R 3 wr wb.heap.size (fun _ => True) s14 l) ∧ Aside0 (Below wb.heap.size wb wr))
        case atStart => exact ⟨1, 0, 0, [0], by omega, rfl, by omega, by omega, rfl, rfl, rfl, ⟨by decide, by decide⟩, ⟨rfl⟩, R0, A0⟩
        case round =>
          clear R0 A0
          obtain ⟨s, a, m, l, hs, rfl, hm, ha, hll, rfl, rfl, BT, TO, R14, BB2⟩ := hrel
          by_cases hsa : s = al
          · have d1 : ((s : Int) != (al : Int)) = false := by rw [hsa]; simp
            have TE := Aside0.mk (show 0 :: tourF zs B al 1 0 = l by rw [TO.out, hsa, ← HAL.out, tour_end, List.append_nil])
            clear hsa
            go_wp2_with fail
            go_meet
            exact ⟨⟨by rw [TE.out]; exact R14.out⟩, BB2⟩
          · have d1 : ((s : Int) != (al : Int)) = true := bne_iff_ne.2 (by omega)
            have hsl : s < al := by omega
            have hlt : s < all zs := by rw [HAL.out]; exact hsl
            obtain ⟨eB, _, _⟩ := DB.out s a (Nat.le_of_lt hlt) ha BT.out.1 BT.out.2 (.inl (by omega))
            have DS : Done zs B s a := fun s' a' c1 c2 c3 c4 c5 => DB.out s' a' c1 c2 c3 c4 (.inl (by omega))
            obtain ⟨j, j1, j2, j3, hL, jle, _, _⟩ := step_words HR.out hlt ha BT.out.1 DS
            have eJ : (B s a).2 = (j : Int) := by
              rw [eB]
              unfold stepF
              rw [if_neg (by omega), hL]
            have hp0 := Nat.two_pow_pos j
            have TN := Aside0.mk (show l ++ tourF zs B (al - m) s a = (l ++ [(j : Int)]) ++ tourF zs B (al - (m + 1)) (s + 2 ^ j) j by
              rw [show al - m = (al - (m + 1)) + 1 by omega, tour_next (by omega), eJ, Int.toNat_natCast, List.append_assoc]
              rfl)
            have TO2 := Aside0.mk (TO.out.trans TN.out)
            have BT2 := Aside0.mk (And.intro (show bit (s + 2 ^ j) 0 = 1 by rw [bit_other j2 (by omega)]; exact BT.out.1) (bit_self j2))
            obtain ⟨_, t2, _, _⟩ := tab_cell TB.out (s := s) (a := a) (by omega) (by omega)
            rw [eJ] at t2
            have c2 := pw_cell_below BB2.out t2
            have hor := or_bit j2
            rw [HAL.out] at jle
            obtain ⟨q, hq⟩ : ∃ q, s + 2 ^ j = q := ⟨_, rfl⟩
            rw [hq] at jle hor TO2 BT2
            have hsq : s < q := by omega
            obtain ⟨p, hp⟩ : ∃ p, 2 ^ j = p := ⟨_, rfl⟩
            have ep : ((2 : Int) ^ j) = (p : Int) := by rw [← hp]; simp
            rw [hp] at hor
            have hpl : p ≤ q := by rw [← hor]; exact Nat.right_le_or
            have e1 : IntKind.i64.wrap ((2 : Int) ^ j) = (p : Int) := by rw [ep]; exact Go.IntWalk.i64_in _ (by omega)
            have e2 : bits .or .i64 (s : Int) (p : Int) = (q : Int) := by rw [bits_or_nat s p (by omega) (by omega), hor]
            have a0 : (0 : Int) ≤ (a : Int) := by omega
            have a1 : (a : Int) < 12 := by omega
            have a2 : (0 : Int) ≤ (s : Int) := by omega
            have a3 : (s : Int) < 4096 := by omega
            have a4 : (0 : Int) ≤ (j : Int) := by omega
            have a5 : (j : Int) ≤ 64 := by omega
            clear hp hq ep eB eJ hL DS TN TO t2 hor hlt j2 hp0
            go_wp2_with (first | ((with_reducible refine gate_builtin (b := .append) (xs := #[.tmp 134, .tmp 136]) rfl ?_); at_builtin; refine Kd.R_append (Kd.int .i64) (w0 := wb) wb.heap.size rfl (.tmp 134) (.tmp 136) 48 3 (.int .i64 0) 8 rfl Try.underlying48 infoZ rfl (by decide) (by omega) (u14) (l) ((j : Int)) ([.int .i64 (j : Int)]) (fun _ => True) (fun _ => False) ?aV ?aX ?aP (fun _ hk => hk.elim) (fun _ _ => trivial) ?aO ?aB ?aS ?aL ?_; (case aV => rfl); (case aX => rfl); (case aP => exact rfl); (case aO => exact R14.out); (case aB => exact BB2.out); (case aS => exact BB2.out.size); (case aL => omega); intro v18 w18 ho hb hgr hat; have R18 := Aside0.mk ho; have B18 := Aside0.mk hb; clear ho hb hgr hat))
            go_roundg (al + 1 - q)
            case measure => omega
            case rel => exact ⟨q, j, m + 1, l ++ [(j : Int)], jle, rfl, by omega, j1, by rw [List.length_append, hll]; rfl, rfl, rfl, BT2, TO2, R18, B18⟩
      case rest =>
        obtain ⟨R14, BB2⟩ := hcut
        clear R0 A0
        obtain ⟨t1, _, _, _⟩ := tab_cell TB.out (s := 1) (a := 0) (by omega) (by omega)
        have c24 : wc.cell? ⟨gt, 24, none⟩ = some (.int .i64 (B 1 0).1) := pw_cell_below BB2.out t1
        have BF := Aside0.mk (below_then BB.out (Nat.le_of_lt HGB.out) BB2.out)
        have HGE := Aside0.mk (Nat.le_of_lt HGB.out)
        clear t1 BB BB2 TB
        obtain ⟨b10, hb10⟩ : ∃ b, (B 1 0).1 = b := ⟨_, rfl⟩
        rw [hb10] at c24
        have HB10 := Aside0.mk hb10
        clear hb10
        go_upto_region 41 with fail
        go_quiet (fail)
        go_wp2_with fail
        go_ret3
        refine ⟨u14, B, by rw [HB10.out]; rfl, ?_, DB.out, ?_⟩
        · rw [HAL.out, HGT.out]
          exact Kd.R_lower (by first | exact Kd.R_drewN R14.out _ | exact R14.out) HGE.out
        · rw [HGT.out]
          first | exact pw_below_drewN BF.out _ | exact BF.out
end Go.Proofs.Ytoopoecopahcbaa.Tr
