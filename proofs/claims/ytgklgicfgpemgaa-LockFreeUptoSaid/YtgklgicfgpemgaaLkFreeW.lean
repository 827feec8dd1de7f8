/- Handlers: the contracts of the functions of LockFree. No condition. -/
import Derived.Test.YtgklgicfgpemgaaLkFreeM
import Derived.Test.YtgklgicfgpemgaaLkQuiet
import Derived.Test.YtgklgicfgpemgaaFr
import Derived.Test.YtgklgicfgpemgaaWMore
namespace Go.Proofs.Ytgklgicfgpemgaa.Lk
open Go.RowKit Go.Proofs.YtgklgicfgpemgaaW.PrintWords Go.Proofs.YtgklgicfgpemgaaW.PrintMore Go.Proofs.Ytgklgicfgpemgaa.Fr
set_option linter.unusedVariables false
set_option linter.unusedSimpArgs false

theorem infoI : (Try.prog.info? 3).map (fun i => (i.zero, i.size, i.bytes)) = some (some (.int .i64 0), 1, 8) := by kernel_rfl
def ints (xs : List Nat) : List Int := xs.map (fun n : Nat => (n : Int))
theorem ints_snoc (xs : List Nat) (k : Nat) : ints xs ++ [(k : Int)] = ints (xs ++ [k]) := by simp [ints]
theorem ints_len (xs : List Nat) : (ints xs).length = xs.length := by simp [ints]

theorem rise_snoc {xs : List Nat} {k : Nat} (h : xs.Pairwise (· < ·)) (hk : ∀ x ∈ xs, x < k) : (xs ++ [k]).Pairwise (· < ·) := by
  rw [List.pairwise_append]
  refine ⟨h, List.pairwise_singleton _ _, fun a ha b hb => ?_⟩
  simp at hb
  rw [hb]
  exact hk a ha

set_option maxRecDepth 100000 in
set_option maxHeartbeats 1000000 in
theorem rise_calls (A : Option Addr) (cap : Nat) (l : List Int) (N : Nat) (hN : 1 ≤ N) (hN2 : N ≤ 10) (w : World) (hr : Kd.C (Kd.int .i64) w A l.length l) (hw : ∀ x ∈ l, (Lit.int .i64 x).wf = true) :
    Calls Try.prog 28 #[.slice A l.length cap, .int .i64 N] w fun e w' => ∃ v xs, e = .returned v ∧ (Kd.int .i64).R 3 w' w.heap.size (fun _ => True) v (ints xs) ∧ xs.Pairwise (· < ·) ∧ (∀ x ∈ xs, x < N) ∧ xs.length ≤ N ∧ Below w.heap.size w w' := by
  have hl : l.length ≤ 9223372036854775807 := hr.2.1
  have HR := Aside0.mk hr
  have HW := Aside0.mk hw
  clear hr hw
  go_enter Try.func28, Try.ntmps28
  go_wp2_with fail
  go_loopw [5, 6] (fun v5 v6 wr => ∃ (k : Nat) (xs : List Nat), k ≤ N ∧ v6 = .int .i64 k ∧ Aside0 ((Kd.int .i64).R 3 wr w.heap.size (fun _ => True) v5 (ints xs)) ∧ Aside0 (xs.Pairwise (· < ·) ∧ (∀ x ∈ xs, x < k) ∧ xs.length ≤ k) ∧ Aside0 (Below w.heap.size w wr)) (fun _ v6 _ => N - (intOf v6).toNat)
  case atStart => exact ⟨0, [], Nat.zero_le _, rfl, ⟨Kd.R_nil _ _ _ _ _⟩, ⟨List.Pairwise.nil, by simp, by simp⟩, ⟨Below.refl _ _⟩⟩
  case round =>
    obtain ⟨k, xs, hk, rfl, R1, P1, B1⟩ := hrel
    by_cases hlt : k < N
    · obtain ⟨wo, rfl⟩ : ∃ wo : World, wo = wr := ⟨_, rfl⟩
      go_wp2_with fail
      go_loop [7, 8] (fun v7 v8 => ∃ (b : Bool) (m : Nat), m ≤ l.length ∧ m ≤ 10 ∧ v7 = .bool b ∧ v8 = .int .i64 m) (fun _ v8 => 10 - (intOf v8).toNat)
      case atStart => exact ⟨false, 0, Nat.zero_le _, by omega, rfl, rfl⟩
      case round =>
        obtain ⟨b, m, hm, hm2, rfl, rfl⟩ := hrel
        by_cases hin : m < l.length ∧ m < 10
        · obtain ⟨hin1, hin2⟩ := hin
          obtain ⟨ad, eA, c0⟩ := Kd.at_int (Kd.C_below HR.out B1.out) (m : Int) (by omega) (by omega)
          subst eA
          rw [Int.toNat_natCast] at c0
          have hx := HW.out (rd l m) (by unfold rd; rw [Int.toNat_natCast, List.getD_eq_getElem?_getD, List.getElem?_eq_getElem hin1]; exact List.getElem_mem hin1)
          have hx' : -9223372036854775808 ≤ rd l m ∧ rd l m ≤ 9223372036854775807 := by simpa [Lit.wf, IntKind.min, IntKind.max, IntKind.bits, IntKind.signed] using hx
          generalize rd l m = x at c0 hx'
          obtain ⟨hx1, hx2⟩ := hx'
          clear hx
          cases b
          · go_wp2_with fail
            refine (within_calls x (N - 1) _ (by omega) (by omega) hx1 hx2).mono ?_
            rintro e w' ⟨rfl, rfl⟩
            go_wp2_with fail
            go_round
            case rel => exact ⟨_, m + 1, by omega, by omega, rfl, by go_num⟩
            case measure => simp [intOf]; omega
          · go_wp2_with fail
            go_round
            case rel => exact ⟨true, m + 1, by omega, by omega, rfl, by go_num⟩
            case measure => simp [intOf]; omega
        · by_cases hml : m < l.length
          all_goals
            cases b
            · go_wp2_with fail
              go_roundw
              case rel => exact ⟨k + 1, xs, by omega, by go_num, R1, ⟨P1.out.1, fun x hx => Nat.lt_succ_of_lt (P1.out.2.1 x hx), by have := P1.out.2.2; omega⟩, B1⟩
              case measure => simp [intOf]; omega
            · have hlen := P1.out.2.2
              go_wp2_with (first | ((with_reducible refine gate_builtin (b := .append) (xs := #[.tmp 37, .tmp 39]) rfl ?_); at_builtin; refine Kd.R_append (Kd.int .i64) (w0 := w) w.heap.size rfl (.tmp 37) (.tmp 39) 22 3 (.int .i64 0) 8 rfl Try.underlying22 infoI rfl (by decide) (by omega) _ (ints xs) (k : Int) [.int .i64 k] (fun _ => True) (fun _ => False) rfl rfl ?aP (fun _ hk => hk.elim) ?aF ?aO ?aB ?aS ?aL ?_; (case aP => exact rfl); (case aB => exact B1.out); (case aF => exact (fun _ _ => trivial)); (case aO => exact R1.out); (case aS => exact below_size B1.out); (case aL => rw [ints_len]; omega); intro v51 w6 ho hb hg hat; rw [ints_snoc] at ho; have R6 := Aside0.mk ho; have B6 := Aside0.mk hb; clear ho hb hg hat R1 B1))
              go_roundw
              case rel => exact ⟨k + 1, xs ++ [k], by omega, by go_num, R6, ⟨rise_snoc P1.out.1 P1.out.2.1, fun x hx => by rcases List.mem_append.1 hx with hx | hx; exact Nat.lt_succ_of_lt (P1.out.2.1 x hx); simp at hx; omega, by rw [List.length_append]; simp; omega⟩, B6⟩
              case measure => simp [intOf]; omega
    · go_wp2_with fail
      go_ret
      exact ⟨_, xs, rfl, R1.out, P1.out.1, fun x hx => by have := P1.out.2.1 x hx; omega, by have := P1.out.2.2; omega, B1.out⟩


/-- A handler in memory: at block a; its set is the slice sv, in blocks below B; its tickets' row is tv, in blocks from B on. -/
structure HandB (a : Nat) (sv tv : Value) (B : Nat) (h : HandM) (w : World) : Prop where
  blk : w.heap[a]? = some (.cells #[sv, .int .i64 h.pos, tv] 49 (0, 0))
  set : (Kd.int .i64).R 3 w 0 (fun k => k < B) sv (ints h.set)
  tk : (Kd.int .i64).R 3 w B (fun k => some k = tv.ownBlock) tv (ints h.tk)

theorem rd_ints (xs : List Nat) (i : Nat) : rd (ints xs) (i : Int) = (xs.getD i 0 : Nat) := by
  unfold rd ints
  rw [Int.toNat_natCast, List.getD_eq_getElem?_getD, List.getD_eq_getElem?_getD, List.getElem?_map]
  cases xs[i]? <;> rfl
theorem R_at {w : World} {base : Nat} {ok : Nat → Prop} {v : Value} {xs : List Nat} {i : Nat} (h : (Kd.int .i64).R 3 w base ok v (ints xs)) (hi : i < xs.length) :
    ∃ ad c, v = .slice (some ad) xs.length c ∧ w.cell? (ad.add i) = some (.int .i64 (xs.getD i 0 : Nat)) := by
  obtain ⟨A, c, rfl, hc, hC⟩ := Kd.R_reads h
  rw [ints_len] at hC
  obtain ⟨ad, rfl, hcell⟩ := Kd.at_int hC (i : Int) (by omega) (by omega)
  rw [rd_ints, Int.toNat_natCast] at hcell
  exact ⟨ad, c, by rw [ints_len], hcell⟩
theorem R_get {w : World} {base : Nat} {ok : Nat → Prop} {ad : Addr} {n c : Nat} {xs : List Nat} {i : Nat} (h : (Kd.int .i64).R 3 w base ok (.slice (some ad) n c) (ints xs)) (hi : i < xs.length) : w.cell? (ad.add i) = some (.int .i64 (xs.getD i 0 : Nat)) := by
  obtain ⟨ad', c', e, hc⟩ := R_at h hi
  cases e
  exact hc
theorem tk_own {w : World} {base : Nat} {ok : Nat → Prop} {v : Value} {xs : List Int} (h : (Kd.int .i64).R 3 w base ok v xs) : (Kd.int .i64).R 3 w base (fun k => some k = v.ownBlock) v xs :=
  ⟨fun k hk => hk.symm, (Kd.R_mono h (fun _ _ => trivial) : (Kd.int .i64).R 3 w base (fun _ => True) v xs).2.imp_ (fun _ _ hp => hp)⟩

section
variable {a g ta : Nat} {sv tv : Value} {B : Nat} {h : HandM} {xs xs' : List Lane} {w w1 : World} {S : Nat → Prop}
theorem HandB.only (H : HandB a sv tv B h w) (k : Only S w w1) (ha : ¬ S a) (hset : ∀ b, b < B → (∃ cells, w.heap[b]? = some (.cells cells 3 (0, 0))) → ¬ S b) (htk : ∀ b, tv.ownBlock = some b → ¬ S b) : HandB a sv tv B h w1 where
  blk := k.blk H.blk ha
  set := R_only H.set k (fun b hb _ ht => hset b hb (by obtain ⟨q, hq, c, e⟩ := ht; simp [Kd.int, Kd.scalar] at hq; subst hq; exact ⟨c, e⟩))
  tk := R_only H.tk k (fun b hb _ _ => htk b hb.symm)
/-- What a step may touch. -/
def StepS (a g : Nat) (tv : Value) (b : Nat) : Prop := b = a ∨ b = g ∨ some b = tv.ownBlock

set_option maxRecDepth 100000 in
set_option maxHeartbeats 2000000 in
theorem step_take {i t s : Nat} (H : HandB a sv tv B h w) (T : Tab ta g xs w) (hg : ∀ x ∈ xs, 0 ≤ x.given) (hn : h.set.length ≤ 10) (hi : h.set[i]? = some s) (hk : h.pos = 2 * i) (hB : B ≤ w.heap.size) (hta : h.tk.length ≤ 10)
    (hv : ticketF xs s = (((t : Int), (0 : Int)), xs')) :
    Calls Try.prog 29 #[.pointer (some ⟨a, 0, none⟩), .pointer (some ⟨ta, 0, none⟩)] w fun e w' => e = .returned (.tuple #[.bool true, .bool true]) ∧
      ∃ tv', HandB a sv tv' B { h with pos := h.pos + 1, tk := h.tk ++ [t] } w' ∧ Tab ta g xs' w' ∧ (tv'.ownBlock = tv.ownBlock ∨ ∃ b, tv'.ownBlock = some b ∧ w.heap.size ≤ b) ∧ Only (StepS a g tv) w w' := by
  obtain ⟨set, k, tk⟩ := h
  obtain ⟨hb, hs, ht⟩ := H
  simp only at hb hs ht hn hk hi hta
  subst hk
  have hil := (List.getElem?_eq_some_iff.1 hi).1
  obtain ⟨ad, c, rfl, s0⟩ := R_at hs hil
  rw [getD_of hi] at s0
  have c0 : w.cell? ⟨a, 0, none⟩ = some (.slice (some ad) set.length c) := (blk_cell hb 0).trans rfl
  have c1 : w.cell? ⟨a, 1, none⟩ = some (.int .i64 ((2 * i : Nat) : Int)) := (blk_cell hb 1).trans rfl
  have hcap := (Kd.R_reads' hs).2.1
  have hag : a ≠ g := blk_ne hb T.row (by decide)
  have HB := Aside0.mk hb
  have HS := Aside0.mk hs
  have HT := Aside0.mk ht
  have HTAB := Aside0.mk T
  have HG := Aside0.mk hg
  have HBB := Aside0.mk hB
  clear hb hs ht T hg hB hi
  go_enter Try.func29, Try.ntmps29
  go_wp2_with fail
  refine (ticket_calls ta g xs s _ HTAB.out HG.out).mono ?_
  rw [hv]
  rintro e w1 ⟨rfl, t1, g1⟩
  have hb1 := blk_grown HB.out g1 (by intro e; cases e; exact hag rfl)
  have d1 : w1.cell? ⟨a, 1, none⟩ = some (.int .i64 ((2 * i : Nat) : Int)) := (blk_cell hb1 1).trans rfl
  have d2 : w1.cell? ⟨a, 2, none⟩ = some tv := (blk_cell hb1 2).trans rfl
  have HV := Aside0.mk (show tk.length ≤ 10 from hta)
  have T1 := Aside0.mk t1
  have O1 := Aside0.mk (Only.of_grown g1)
  have HB1 := Aside0.mk hb1
  have HT1 : Aside0 ((Kd.int .i64).R 3 w1 B (fun k => some k = tv.ownBlock) tv (ints tk)) := ⟨R_only HT.out O1.out (fun b hb hl ht => by
    obtain ⟨q, hq, cells, e⟩ := ht
    simp [Kd.int, Kd.scalar] at hq
    subst hq
    intro e2
    cases e2
    rw [HTAB.out.row] at e
    cases e)⟩
  have hBl := Nat.le_trans HBB.out g1.size
  clear t1 g1 hb1
  go_wp2_with (first | ((with_reducible refine gate_builtin (b := .append) (xs := #[.tmp 54, .tmp 56]) rfl ?_); at_builtin; refine Kd.R_append (Kd.int .i64) (w0 := w1) B rfl (.tmp 54) (.tmp 56) 22 3 (.int .i64 0) 8 rfl Try.underlying22 infoI rfl (by decide) (by omega) _ (ints tk) (t : Int) [.int .i64 t] (fun _ => True) (fun _ => False) rfl rfl ?aP (fun _ hk => hk.elim) ?aF ?aO ?aB ?aS ?aL ?_; (case aP => exact rfl); (case aB => exact Below.refl _ _); (case aF => exact (fun _ _ => trivial)); (case aO => exact Kd.R_mono HT1.out (fun _ _ => trivial)); (case aS => exact hBl); (case aL => rw [ints_len]; omega); intro v51 w6 ho hb hg hat; rw [ints_snoc] at ho; obtain ⟨A5, c5, rfl, hc5, hC5⟩ := Kd.R_reads ho; clear hc5 hC5; have hb6 := blk_grown HB1.out hg (Kd.R_ne HT1.out HB1.out (by decide)); have R6 := Aside0.mk ho; have e1 : w6.cell? ⟨a, 1, none⟩ = some (.int .i64 ((2 * i : Nat) : Int)) := (blk_cell hb6 1).trans rfl; have e2 : w6.cell? ⟨a, 2, none⟩ = some tv := (blk_cell hb6 2).trans rfl; have q1 := blk_frozen hb6 1; have q2 := blk_frozen hb6 2; have HB6 := Aside0.mk hb6; have G6 := Aside0.mk hg; have AT := Aside0.mk hat; clear ho hb hg hat hb6))
  go_ret2
  have B6 := HB6.out
  generalize Value.slice A5 (ints (tk ++ [t])).length c5 = v51 at *
  have hfin : ((w6.setCell ⟨a, 2, none⟩ v51).setCell ⟨a, 1, none⟩ (.int .i64 (2 * (i : Int) + 1))).heap[a]? = some (.cells #[.slice (some ad) set.length c, .int .i64 ((2 * i + 1 : Nat) : Int), v51] 49 (0, 0)) := by
    have := blk_set (blk_set B6 2 v51) 1 (.int .i64 (2 * (i : Int) + 1))
    simpa using this
  have hO : Only (StepS a g tv) w ((w6.setCell ⟨a, 2, none⟩ v51).setCell ⟨a, 1, none⟩ (.int .i64 (2 * (i : Int) + 1))) :=
    ((((O1.out.mono (fun b _ e => .inr (.inl (by cases e; rfl)))).step (Only.of_grown G6.out) (fun b _ e => .inr (.inr e))).set (fun _ => .inl rfl) _).set (fun _ => .inl rfl) _)
  refine ⟨by simp, v51, ⟨hfin, ?_, ?_⟩, ?_, ?_, hO⟩
  · exact R_only HS.out hO (fun b hb hl ht => by
      obtain ⟨q, hq, cells, e⟩ := ht
      simp [Kd.int, Kd.scalar] at hq
      subst hq
      rintro (rfl | rfl | e2)
      · rw [HB.out] at e; cases e
      · rw [HTAB.out.row] at e; cases e
      · have := Kd.R_base HT.out b e2.symm; omega)
  · refine Kd.R_far (Kd.R_far (tk_own R6.out) ?_ _) ?_ _ <;>
    · intro b hb e
      subst e
      exact Kd.R_ne R6.out B6 (by decide) hb
  · have hta : ta ≠ a := blk_ne T1.out.head HB1.out (by decide)
    have hga : g ≠ a := blk_ne T1.out.row HB1.out (by decide)
    refine T1.out.moved ?_ ?_
    · rw [Below.heap_setCell _ _ _ _ hta, Below.heap_setCell _ _ _ _ hta]
      exact G6.out.block ta (blk_lt T1.out.head) (Kd.R_ne HT1.out T1.out.head (by decide))
    · rw [Below.heap_setCell _ _ _ _ hga, Below.heap_setCell _ _ _ _ hga]
      exact G6.out.block g (blk_lt T1.out.row) (Kd.R_ne HT1.out T1.out.row (by decide))
  · rcases AT.out with e | ⟨b, e, hb⟩
    · exact .inl e
    · exact .inr ⟨b, e, Nat.le_trans O1.out.size hb⟩

/-- A world that differs from one in the table's row alone, and in the counter of handler a. -/
theorem step_done {set tk : List Nat} {k : Nat} (hb : w.heap[a]? = some (.cells #[sv, .int .i64 k, tv] 49 (0, 0))) (hs : (Kd.int .i64).R 3 w 0 (fun k => k < B) sv (ints set)) (ht : (Kd.int .i64).R 3 w B (fun k => some k = tv.ownBlock) tv (ints tk))
    (T : Tab ta g xs w) (T1 : Tab ta g xs' w1) (O1 : Only (fun b => some b = some g) w w1) : HandB a sv tv B ⟨set, k + 1, tk⟩ (w1.setCell ⟨a, 1, none⟩ (.int .i64 ((k : Int) + 1))) ∧ Tab ta g xs' (w1.setCell ⟨a, 1, none⟩ (.int .i64 ((k : Int) + 1))) ∧ Only (StepS a g tv) w (w1.setCell ⟨a, 1, none⟩ (.int .i64 ((k : Int) + 1))) := by
  have hag : a ≠ g := blk_ne hb T.row (by decide)
  have hta : ta ≠ a := blk_ne T.head hb (by decide)
  have hb1 := O1.blk hb (by intro e; cases e; exact hag rfl)
  have hO : Only (StepS a g tv) w (w1.setCell ⟨a, 1, none⟩ (.int .i64 ((k : Int) + 1))) := (O1.mono (fun b _ e => .inr (.inl (by cases e; rfl)))).set (fun _ => .inl rfl) _
  refine ⟨⟨?_, ?_, ?_⟩, ?_, hO⟩
  · have := blk_set hb1 1 (.int .i64 ((k : Int) + 1))
    simpa using this
  · exact R_only hs hO (fun b hb' hl ht' => by
      obtain ⟨q, hq, cells, e⟩ := ht'
      simp [Kd.int, Kd.scalar] at hq
      subst hq
      rintro (rfl | rfl | e2)
      · rw [hb] at e; cases e
      · rw [T.row] at e; cases e
      · have := Kd.R_base ht b e2.symm; omega)
  · refine Kd.R_far (R_only ht O1 (fun b hb' hl ht' => by
      obtain ⟨q, hq, cells, e⟩ := ht'
      simp [Kd.int, Kd.scalar] at hq
      subst hq
      intro e2
      cases e2
      rw [T.row] at e
      cases e)) ?_ _
    intro b hb' e
    subst e
    exact Kd.R_ne ht hb (by decide) hb'
  · refine T1.moved ?_ ?_
    · exact Below.heap_setCell _ _ _ _ hta
    · exact Below.heap_setCell _ _ _ _ (fun e => hag e.symm)

theorem HandB.beside (H : HandB a sv tv B h w) (T : Tab ta g xs w) (k : Only (fun b => some b = some g) w w1) : HandB a sv tv B h w1 :=
  H.only k (by intro e; cases e; exact blk_ne H.blk T.row (by decide) rfl) (fun b _ ht e => by
    obtain ⟨c, hc⟩ := ht
    cases e
    rw [T.row] at hc
    cases hc) (fun b hb e => by
    cases e
    obtain ⟨c, hc⟩ := Kd.R_typed H.tk g hb
    rw [T.row] at hc
    cases hc)

set_option maxRecDepth 100000 in
set_option maxHeartbeats 2000000 in
theorem step_serve {i t s : Nat} (H : HandB a sv tv B h w) (T : Tab ta g xs w) (hn : h.set.length ≤ 10) (hi : h.set[i]? = some s) (hk : h.pos = 2 * i + 1) (HTI : h.tk[i]? = some t) (hv : servedF xs s t = true) :
    Calls Try.prog 29 #[.pointer (some ⟨a, 0, none⟩), .pointer (some ⟨ta, 0, none⟩)] w fun e w' => e = .returned (.tuple #[.bool true, .bool true]) ∧
      HandB a sv tv B { h with pos := h.pos + 1 } w' ∧ Tab ta g xs w' ∧ Only (StepS a g tv) w w' := by
  obtain ⟨set, k, tk⟩ := h
  obtain ⟨hb, hs, ht⟩ := H
  simp only at hb hs ht hn hk hi HTI
  subst hk
  have hil := (List.getElem?_eq_some_iff.1 hi).1
  have htl := (List.getElem?_eq_some_iff.1 HTI).1
  obtain ⟨ad, c, rfl, s0⟩ := R_at hs hil
  obtain ⟨at_, ct, rfl, t0⟩ := R_at ht htl
  rw [getD_of hi] at s0
  rw [getD_of HTI] at t0
  have c0 : w.cell? ⟨a, 0, none⟩ = some (.slice (some ad) set.length c) := (blk_cell hb 0).trans rfl
  have c1 : w.cell? ⟨a, 1, none⟩ = some (.int .i64 ((2 * i + 1 : Nat) : Int)) := (blk_cell hb 1).trans rfl
  have c2 : w.cell? ⟨a, 2, none⟩ = some (.slice (some at_) tk.length ct) := (blk_cell hb 2).trans rfl
  have f1 := blk_frozen hb 1
  have hcap := (Kd.R_reads' hs).2.1
  have hcapt := (Kd.R_reads' ht).2.1
  have hag : a ≠ g := blk_ne hb T.row (by decide)
  have hta : ta ≠ a := blk_ne T.head hb (by decide)
  have HB := Aside0.mk hb
  have HS := Aside0.mk hs
  have HT := Aside0.mk ht
  have HTAB := Aside0.mk T
  clear hb hs ht T hi HTI
  have s0' : w.cell? (ad.add ((2 * i + 1) / 2)) = some (.int .i64 s) := by
    rw [show (2 * i + 1) / 2 = i by omega]
    exact s0
  have t0' : w.cell? (at_.add ((2 * i + 1) / 2)) = some (.int .i64 t) := by
    rw [show (2 * i + 1) / 2 = i by omega]
    exact t0
  clear s0 t0
  go_enter Try.func29, Try.ntmps29
  go_wp2_with fail
  refine (served_calls ta g xs s t _ HTAB.out).mono ?_
  rw [hv]
  rintro e w1 ⟨rfl, t1, g1⟩
  have O1 := Aside0.mk (Only.of_grown g1)
  have hb1 := O1.out.blk HB.out (by intro e; cases e; exact hag rfl)
  have d1 : w1.cell? ⟨a, 1, none⟩ = some (.int .i64 ((2 * i + 1 : Nat) : Int)) := (blk_cell hb1 1).trans rfl
  have q1 := blk_frozen hb1 1
  have T1 := Aside0.mk t1
  clear t1 g1 hb1
  go_wp2_with fail
  go_ret2
  obtain ⟨x1, x2, x3⟩ := step_done HB.out HS.out HT.out HTAB.out T1.out O1.out
  rw [show (((2 * i + 1 : Nat) : Int)) + 1 = 2 * (i : Int) + 1 + 1 by omega] at x1 x2 x3
  exact ⟨rfl, x1, x2, x3⟩

set_option maxRecDepth 100000 in
set_option maxHeartbeats 2000000 in
theorem step_wait {i t s : Nat} (H : HandB a sv tv B h w) (T : Tab ta g xs w) (hn : h.set.length ≤ 10) (hi : h.set[i]? = some s) (hk : h.pos = 2 * i + 1) (HTI : h.tk[i]? = some t) (hv : servedF xs s t = false) :
    Calls Try.prog 29 #[.pointer (some ⟨a, 0, none⟩), .pointer (some ⟨ta, 0, none⟩)] w fun e w' => e = .returned (.tuple #[.bool false, .bool true]) ∧
      Tab ta g xs w' ∧ Only (fun b => some b = some g) w w' := by
  obtain ⟨set, k, tk⟩ := h
  obtain ⟨hb, hs, ht⟩ := H
  simp only at hb hs ht hn hk hi HTI
  subst hk
  have hil := (List.getElem?_eq_some_iff.1 hi).1
  have htl := (List.getElem?_eq_some_iff.1 HTI).1
  obtain ⟨ad, c, rfl, s0⟩ := R_at hs hil
  obtain ⟨at_, ct, rfl, t0⟩ := R_at ht htl
  rw [getD_of hi] at s0
  rw [getD_of HTI] at t0
  have c0 : w.cell? ⟨a, 0, none⟩ = some (.slice (some ad) set.length c) := (blk_cell hb 0).trans rfl
  have c1 : w.cell? ⟨a, 1, none⟩ = some (.int .i64 ((2 * i + 1 : Nat) : Int)) := (blk_cell hb 1).trans rfl
  have c2 : w.cell? ⟨a, 2, none⟩ = some (.slice (some at_) tk.length ct) := (blk_cell hb 2).trans rfl
  have f1 := blk_frozen hb 1
  have hcap := (Kd.R_reads' hs).2.1
  have hcapt := (Kd.R_reads' ht).2.1
  have hag : a ≠ g := blk_ne hb T.row (by decide)
  have hta : ta ≠ a := blk_ne T.head hb (by decide)
  have HB := Aside0.mk hb
  have HS := Aside0.mk hs
  have HT := Aside0.mk ht
  have HTAB := Aside0.mk T
  clear hb hs ht T hi HTI
  have s0' : w.cell? (ad.add ((2 * i + 1) / 2)) = some (.int .i64 s) := by
    rw [show (2 * i + 1) / 2 = i by omega]
    exact s0
  have t0' : w.cell? (at_.add ((2 * i + 1) / 2)) = some (.int .i64 t) := by
    rw [show (2 * i + 1) / 2 = i by omega]
    exact t0
  clear s0 t0
  go_enter Try.func29, Try.ntmps29
  go_wp2_with fail
  refine (served_calls ta g xs s t _ HTAB.out).mono ?_
  rw [hv]
  rintro e w1 ⟨rfl, t1, g1⟩
  have O1 := Aside0.mk (Only.of_grown g1)
  have T1 := Aside0.mk t1
  clear t1 g1
  go_wp2_with fail
  go_ret2
  exact ⟨rfl, T1.out, O1.out⟩

set_option maxRecDepth 100000 in
set_option maxHeartbeats 2000000 in
theorem step_odd {i t s : Nat} {q : Int} (H : HandB a sv tv B h w) (T : Tab ta g xs w) (hn : h.set.length ≤ 10) (hi : h.set[i]? = some s) (hk : h.pos = 2 * h.set.length + i) (HTI : h.tk[i]? = some t)
    (hq : seqF xs s = q) (hm : Int.tmod q 2 = 0) (hq0 : 0 ≤ q) (hq1 : q < 1000000) (hv : turnF 0 seqUp xs s t = (0, xs')) (hq' : seqF xs' s = q + 1) :
    Calls Try.prog 29 #[.pointer (some ⟨a, 0, none⟩), .pointer (some ⟨ta, 0, none⟩)] w fun e w' => e = .returned (.tuple #[.bool true, .bool true]) ∧
      HandB a sv tv B { h with pos := h.pos + 1 } w' ∧ Tab ta g xs' w' ∧ Only (StepS a g tv) w w' := by
  obtain ⟨set, k, tk⟩ := h
  obtain ⟨hb, hs, ht⟩ := H
  simp only at hb hs ht hn hk hi HTI
  subst hk
  have hil := (List.getElem?_eq_some_iff.1 hi).1
  have htl := (List.getElem?_eq_some_iff.1 HTI).1
  obtain ⟨ad, c, rfl, s0⟩ := R_at hs hil
  obtain ⟨at_, ct, rfl, t0⟩ := R_at ht htl
  rw [getD_of hi] at s0
  rw [getD_of HTI] at t0
  have HG := Aside0.mk (getD_of HTI)
  have c0 : w.cell? ⟨a, 0, none⟩ = some (.slice (some ad) set.length c) := (blk_cell hb 0).trans rfl
  have c1 : w.cell? ⟨a, 1, none⟩ = some (.int .i64 ((2 * set.length + i : Nat) : Int)) := (blk_cell hb 1).trans rfl
  have c2 : w.cell? ⟨a, 2, none⟩ = some (.slice (some at_) tk.length ct) := (blk_cell hb 2).trans rfl
  have f1 := blk_frozen hb 1
  have hcap := (Kd.R_reads' hs).2.1
  have hcapt := (Kd.R_reads' ht).2.1
  have hag : a ≠ g := blk_ne hb T.row (by decide)
  have hta : ta ≠ a := blk_ne T.head hb (by decide)
  have HB := Aside0.mk hb
  have HS := Aside0.mk hs
  have HT := Aside0.mk ht
  have HTAB := Aside0.mk T
  clear hb hs ht T hi HTI
  go_enter Try.func29, Try.ntmps29
  go_wp2_with fail
  refine (seq_calls ta g xs s _ HTAB.out).mono ?_
  rw [hq]
  rintro e w1 ⟨rfl, t1, g1⟩
  have O1 := Aside0.mk (Only.of_grown g1)
  have T1 := Aside0.mk t1
  have hb1 := O1.out.blk HB.out (by intro e; cases e; exact hag rfl)
  have HT1 := Aside0.mk (show (Kd.int .i64).R 3 w1 B (fun k => some k = (Value.slice (some at_) tk.length ct).ownBlock) _ (ints tk) from R_only HT.out O1.out (fun b hb' hl ht' => by
      obtain ⟨q, hq, cells, e⟩ := ht'
      simp [Kd.int, Kd.scalar] at hq
      subst hq
      intro e2
      cases e2
      rw [HTAB.out.row] at e
      cases e))
  have d2 : w1.cell? ⟨a, 2, none⟩ = some (.slice (some at_) tk.length ct) := (blk_cell hb1 2).trans rfl
  have t1' := R_get HT1.out htl
  rw [HG.out] at t1'
  clear t1 g1 hb1
  go_wp2_with fail
  refine (odd_calls ta g xs s t _ T1.out).mono ?_
  rw [hv]
  rintro e w2 ⟨rfl, t2, g2⟩
  have O2 := Aside0.mk (O1.out.trans (Only.of_grown g2))
  have T2 := Aside0.mk t2
  have hb2 := O2.out.blk HB.out (by intro e; cases e; exact hag rfl)
  have d3 : w2.cell? ⟨a, 1, none⟩ = some (.int .i64 (2 * (set.length : Int) + i : Int)) := (blk_cell hb2 1).trans (by simp)
  have q3 := blk_frozen hb2 1
  have O3 := Aside0.mk ((step_done HB.out HS.out HT.out HTAB.out T2.out O2.out))
  rw [show ((2 * set.length + i : Nat) : Int) + 1 = 2 * (set.length : Int) + i + 1 by omega] at O3
  obtain ⟨⟨x1, x2, x3⟩⟩ := O3
  have X1 := Aside0.mk x1
  have X2 := Aside0.mk x2
  have X3 := Aside0.mk x3
  clear t2 g2 hb2 x1 x2 x3 d2 t1'
  go_wp2_with fail
  refine (seq_calls ta g xs' s _ X2.out).mono ?_
  rw [hq']
  rintro e w4 ⟨rfl, t4, g4⟩
  have T4 := Aside0.mk t4
  have O4 := Aside0.mk (Only.of_grown g4)
  clear t4 g4
  go_wp2_with fail
  go_ret2
  have hO4 := Only.mono (S' := StepS a g (.slice (some at_) tk.length ct)) O4.out (fun b _ e => .inr (.inl (by cases e; rfl)))
  exact ⟨rfl, X1.out.beside X2.out O4.out, T4.out, X3.out.trans hO4⟩

set_option maxRecDepth 100000 in
set_option maxHeartbeats 2000000 in
theorem step_leave {i t s : Nat} (H : HandB a sv tv B h w) (T : Tab ta g xs w) (hn : h.set.length ≤ 10) (hi : h.set[i]? = some s) (hk : h.pos = 4 * h.set.length + i) (HTI : h.tk[i]? = some t)
    (hv : turnF 0 leaveUp xs s t = (0, xs')) :
    Calls Try.prog 29 #[.pointer (some ⟨a, 0, none⟩), .pointer (some ⟨ta, 0, none⟩)] w fun e w' => e = .returned (.tuple #[.bool true, .bool true]) ∧
      HandB a sv tv B { h with pos := h.pos + 1 } w' ∧ Tab ta g xs' w' ∧ Only (StepS a g tv) w w' := by
  obtain ⟨set, k, tk⟩ := h
  obtain ⟨hb, hs, ht⟩ := H
  simp only at hb hs ht hn hk hi HTI
  subst hk
  have hil := (List.getElem?_eq_some_iff.1 hi).1
  have htl := (List.getElem?_eq_some_iff.1 HTI).1
  obtain ⟨ad, c, rfl, s0⟩ := R_at hs hil
  obtain ⟨at_, ct, rfl, t0⟩ := R_at ht htl
  rw [getD_of hi] at s0
  rw [getD_of HTI] at t0
  have HG := Aside0.mk (getD_of HTI)
  have c0 : w.cell? ⟨a, 0, none⟩ = some (.slice (some ad) set.length c) := (blk_cell hb 0).trans rfl
  have c1 : w.cell? ⟨a, 1, none⟩ = some (.int .i64 ((4 * set.length + i : Nat) : Int)) := (blk_cell hb 1).trans rfl
  have c2 : w.cell? ⟨a, 2, none⟩ = some (.slice (some at_) tk.length ct) := (blk_cell hb 2).trans rfl
  have f1 := blk_frozen hb 1
  have hcap := (Kd.R_reads' hs).2.1
  have hcapt := (Kd.R_reads' ht).2.1
  have hag : a ≠ g := blk_ne hb T.row (by decide)
  have hta : ta ≠ a := blk_ne T.head hb (by decide)
  have HB := Aside0.mk hb
  have HS := Aside0.mk hs
  have HT := Aside0.mk ht
  have HTAB := Aside0.mk T
  clear hb hs ht T hi HTI
  go_enter Try.func29, Try.ntmps29
  go_wp2_with fail
  refine (leave_calls ta g xs s t _ HTAB.out).mono ?_
  rw [hv]
  rintro e w2 ⟨rfl, t2, g2⟩
  have O2 := Aside0.mk (Only.of_grown g2)
  have T2 := Aside0.mk t2
  have hb2 := O2.out.blk HB.out (by intro e; cases e; exact hag rfl)
  have d3 : w2.cell? ⟨a, 1, none⟩ = some (.int .i64 (4 * (set.length : Int) + i)) := (blk_cell hb2 1).trans (by simp)
  have q3 := blk_frozen hb2 1
  have O3 := Aside0.mk ((step_done HB.out HS.out HT.out HTAB.out T2.out O2.out))
  rw [show ((4 * set.length + i : Nat) : Int) + 1 = 4 * (set.length : Int) + i + 1 by omega] at O3
  obtain ⟨⟨x1, x2, x3⟩⟩ := O3
  have X1 := Aside0.mk x1
  have X2 := Aside0.mk x2
  have X3 := Aside0.mk x3
  clear t2 g2 hb2 x1 x2 x3
  go_wp2_with fail
  go_ret2
  exact ⟨rfl, X1.out, X2.out, X3.out⟩

set_option maxRecDepth 100000 in
set_option maxHeartbeats 2000000 in
theorem step_end (H : HandB a sv tv B h w) (hn : h.set.length ≤ 10) (hk : 5 * h.set.length ≤ h.pos) (hk2 : h.pos ≤ 1000) :
    Calls Try.prog 29 #[.pointer (some ⟨a, 0, none⟩), .pointer (some ⟨ta, 0, none⟩)] w fun e w' => e = .returned (.tuple #[.bool false, .bool true]) ∧ w = w' := by
  obtain ⟨set, k, tk⟩ := h
  obtain ⟨hb, hs, ht⟩ := H
  simp only at hb hs ht hn hk hk2
  obtain ⟨A, c, rfl, hcap, hC⟩ := Kd.R_reads hs
  rw [ints_len] at *
  have c0 : w.cell? ⟨a, 0, none⟩ = some (.slice A set.length c) := (blk_cell hb 0).trans rfl
  have c1 : w.cell? ⟨a, 1, none⟩ = some (.int .i64 k) := (blk_cell hb 1).trans rfl
  have n2 : ¬ (k : Int) < 2 * set.length := by omega
  have n3 : ¬ (k : Int) < 3 * set.length := by omega
  have n4 : ¬ (k : Int) < 4 * set.length := by omega
  have n5 : ¬ (k : Int) < 5 * set.length := by omega
  clear hb hs ht hC hk
  go_enter Try.func29, Try.ntmps29
  go_wp2_with fail
  go_ret2
  exact ⟨rfl, rfl⟩

set_option maxRecDepth 100000 in
set_option maxHeartbeats 2000000 in
theorem done_calls (H : HandB a sv tv B h w) (hn : h.set.length ≤ 10) (hk2 : h.pos ≤ 1000) :
    Calls Try.prog 31 #[.pointer (some ⟨a, 0, none⟩)] w fun e w' => e = .returned (.bool (doneM h)) ∧ ∃ n, w' = w.drewN n := by
  obtain ⟨set, k, tk⟩ := h
  obtain ⟨hb, hs, ht⟩ := H
  simp only at hb hs ht hn hk2
  obtain ⟨A, c, rfl, hcap, hC⟩ := Kd.R_reads hs
  rw [ints_len] at *
  have c0 : w.cell? ⟨a, 0, none⟩ = some (.slice A set.length c) := (blk_cell hb 0).trans rfl
  have c1 : w.cell? ⟨a, 1, none⟩ = some (.int .i64 k) := (blk_cell hb 1).trans rfl
  clear hb hs ht hC
  unfold doneM
  simp only
  go_enter Try.func31, Try.ntmps31
  go_wp2_with fail
  go_quiet (fail)
  go_wp2
  go_ret
  refine ⟨?_, _, rfl⟩
  simp
  omega

set_option maxRecDepth 100000 in
set_option maxHeartbeats 2000000 in
theorem inside_calls (i : Nat) (H : HandB a sv tv B h w) (hn : h.set.length ≤ 10) (hk2 : h.pos ≤ 1000) (hi : i ≤ 1000) :
    Calls Try.prog 30 #[.pointer (some ⟨a, 0, none⟩), .int .i64 i] w fun e w' => e = .returned (.bool (insideM h i)) ∧ ∃ n, w' = w.drewN n := by
  obtain ⟨set, k, tk⟩ := h
  obtain ⟨hb, hs, ht⟩ := H
  simp only at hb hs ht hn hk2
  obtain ⟨A, c, rfl, hcap, hC⟩ := Kd.R_reads hs
  rw [ints_len] at *
  have c0 : w.cell? ⟨a, 0, none⟩ = some (.slice A set.length c) := (blk_cell hb 0).trans rfl
  have c1 : w.cell? ⟨a, 1, none⟩ = some (.int .i64 k) := (blk_cell hb 1).trans rfl
  clear hb hs ht hC
  unfold insideM
  simp only
  by_cases h1 : (k : Int) > 2 * (i : Int) + 1
  · go_enter Try.func30, Try.ntmps30
    go_wp2_with fail
    go_ret
    refine ⟨?_, 0, rfl⟩
    rw [decide_eq_true (show k > 2 * i + 1 by omega)]
    simp
    omega
  · go_enter Try.func30, Try.ntmps30
    go_wp2_with fail
    go_ret
    refine ⟨?_, 0, rfl⟩
    rw [decide_eq_false (show ¬ k > 2 * i + 1 by omega)]
    simp

set_option maxRecDepth 100000 in
set_option maxHeartbeats 2000000 in
theorem step_even {i t s : Nat} {q : Int} (H : HandB a sv tv B h w) (T : Tab ta g xs w) (hn : h.set.length ≤ 10) (hi : h.set[i]? = some s) (hk : h.pos = 3 * h.set.length + i) (HTI : h.tk[i]? = some t)
    (hq : seqF xs s = q) (hm : Int.tmod q 2 = 1) (hq0 : 0 ≤ q) (hq1 : q < 1000000) (hv : turnF 1 seqUp xs s t = (0, xs')) (hq' : seqF xs' s = q + 1) :
    Calls Try.prog 29 #[.pointer (some ⟨a, 0, none⟩), .pointer (some ⟨ta, 0, none⟩)] w fun e w' => e = .returned (.tuple #[.bool true, .bool true]) ∧
      HandB a sv tv B { h with pos := h.pos + 1 } w' ∧ Tab ta g xs' w' ∧ Only (StepS a g tv) w w' := by
  obtain ⟨set, k, tk⟩ := h
  obtain ⟨hb, hs, ht⟩ := H
  simp only at hb hs ht hn hk hi HTI
  subst hk
  have hil := (List.getElem?_eq_some_iff.1 hi).1
  have htl := (List.getElem?_eq_some_iff.1 HTI).1
  obtain ⟨ad, c, rfl, s0⟩ := R_at hs hil
  obtain ⟨at_, ct, rfl, t0⟩ := R_at ht htl
  rw [getD_of hi] at s0
  rw [getD_of HTI] at t0
  have HG := Aside0.mk (getD_of HTI)
  have c0 : w.cell? ⟨a, 0, none⟩ = some (.slice (some ad) set.length c) := (blk_cell hb 0).trans rfl
  have c1 : w.cell? ⟨a, 1, none⟩ = some (.int .i64 ((3 * set.length + i : Nat) : Int)) := (blk_cell hb 1).trans rfl
  have c2 : w.cell? ⟨a, 2, none⟩ = some (.slice (some at_) tk.length ct) := (blk_cell hb 2).trans rfl
  have f1 := blk_frozen hb 1
  have hcap := (Kd.R_reads' hs).2.1
  have hcapt := (Kd.R_reads' ht).2.1
  have hag : a ≠ g := blk_ne hb T.row (by decide)
  have hta : ta ≠ a := blk_ne T.head hb (by decide)
  have HB := Aside0.mk hb
  have HS := Aside0.mk hs
  have HT := Aside0.mk ht
  have HTAB := Aside0.mk T
  clear hb hs ht T hi HTI
  go_enter Try.func29, Try.ntmps29
  go_wp2_with fail
  refine (seq_calls ta g xs s _ HTAB.out).mono ?_
  rw [hq]
  rintro e w1 ⟨rfl, t1, g1⟩
  have O1 := Aside0.mk (Only.of_grown g1)
  have T1 := Aside0.mk t1
  have hb1 := O1.out.blk HB.out (by intro e; cases e; exact hag rfl)
  have HT1 := Aside0.mk (show (Kd.int .i64).R 3 w1 B (fun k => some k = (Value.slice (some at_) tk.length ct).ownBlock) _ (ints tk) from R_only HT.out O1.out (fun b hb' hl ht' => by
      obtain ⟨q, hq, cells, e⟩ := ht'
      simp [Kd.int, Kd.scalar] at hq
      subst hq
      intro e2
      cases e2
      rw [HTAB.out.row] at e
      cases e))
  have d2 : w1.cell? ⟨a, 2, none⟩ = some (.slice (some at_) tk.length ct) := (blk_cell hb1 2).trans rfl
  have t1' := R_get HT1.out htl
  rw [HG.out] at t1'
  clear t1 g1 hb1
  go_wp2_with fail
  refine (even_calls ta g xs s t _ T1.out).mono ?_
  rw [hv]
  rintro e w2 ⟨rfl, t2, g2⟩
  have O2 := Aside0.mk (O1.out.trans (Only.of_grown g2))
  have T2 := Aside0.mk t2
  have hb2 := O2.out.blk HB.out (by intro e; cases e; exact hag rfl)
  have d3 : w2.cell? ⟨a, 1, none⟩ = some (.int .i64 (3 * (set.length : Int) + i : Int)) := (blk_cell hb2 1).trans (by simp)
  have q3 := blk_frozen hb2 1
  have O3 := Aside0.mk ((step_done HB.out HS.out HT.out HTAB.out T2.out O2.out))
  rw [show ((3 * set.length + i : Nat) : Int) + 1 = 3 * (set.length : Int) + i + 1 by omega] at O3
  obtain ⟨⟨x1, x2, x3⟩⟩ := O3
  have X1 := Aside0.mk x1
  have X2 := Aside0.mk x2
  have X3 := Aside0.mk x3
  clear t2 g2 hb2 x1 x2 x3 d2 t1'
  go_wp2_with fail
  refine (seq_calls ta g xs' s _ X2.out).mono ?_
  rw [hq']
  rintro e w4 ⟨rfl, t4, g4⟩
  have T4 := Aside0.mk t4
  have O4 := Aside0.mk (Only.of_grown g4)
  clear t4 g4
  go_wp2_with fail
  go_ret2
  have hO4 := Only.mono (S' := StepS a g (.slice (some at_) tk.length ct)) O4.out (fun b _ e => .inr (.inl (by cases e; rfl)))
  exact ⟨rfl, X1.out.beside X2.out O4.out, T4.out, X3.out.trans hO4⟩
end
end Go.Proofs.Ytgklgicfgpemgaa.Lk
