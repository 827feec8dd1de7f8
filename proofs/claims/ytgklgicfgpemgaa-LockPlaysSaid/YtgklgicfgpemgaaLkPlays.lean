/- LockPlays: the law answers true for every number and every script. No condition. -/
import Derived.Test.YtgklgicfgpemgaaLkBoth
import Derived.Test.YtgklgicfgpemgaaWMore
import Derived.Test.YtgklgicfgpemgaaKn
import Derived.Deep.RegionHeld3
namespace Go.Proofs.Ytgklgicfgpemgaa.Lk
open Go.RowKit Go.Proofs.YtgklgicfgpemgaaW.PrintWords Go.Proofs.YtgklgicfgpemgaaW.PrintMore Go.Proofs.Ytgklgicfgpemgaa.Kn
set_option linter.unusedVariables false
set_option linter.unusedSimpArgs false

/-- What New makes: a table, or none. -/
def NewT (x : Int) (p : Option Addr) (er : Int) (w w' : World) : Prop :=
  (1 ≤ x ∧ x ≤ 64 ∧ er = 0 ∧ p = some ⟨w.heap.size + 1, 0, none⟩ ∧ Tab (w.heap.size + 1) w.heap.size (List.replicate x.toNat L0) w' ∧ Below w.heap.size w w') ∨ ((x < 1 ∨ 64 < x) ∧ er = 2 ∧ p = none ∧ w = w')
def RNewT (x : Int) (p : Option Addr) (er : Int) (w w' : World) : Prop :=
  (1 ≤ x ∧ x ≤ 64 ∧ er = 0 ∧ p = some ⟨w.heap.size + 1, 0, none⟩ ∧ RTab (w.heap.size + 1) w.heap.size (List.replicate x.toNat L0) w' ∧ Below w.heap.size w w') ∨ ((x < 1 ∨ 64 < x) ∧ er = 2 ∧ p = none ∧ w = w')
theorem new_any (x : Int) (w : World) : Calls Try.prog 10 #[.int .i64 x] w fun e w' => ∃ p er, e = .returned (.tuple #[.pointer p, .int .i64 er]) ∧ NewT x p er w w' := by
  by_cases h : 1 ≤ x ∧ x ≤ 64
  · obtain ⟨n, rfl⟩ : ∃ n : Nat, x = n := ⟨x.toNat, by omega⟩
    refine (new_ok n (by omega) (by omega) w).mono ?_
    rintro e w' ⟨rfl, ht, hb⟩
    exact ⟨_, _, rfl, .inl ⟨h.1, h.2, rfl, rfl, by rw [Int.toNat_natCast]; exact ht, hb⟩⟩
  · refine (new_bad x (by omega) w).mono ?_
    rintro e w' ⟨rfl, rfl⟩
    exact ⟨_, _, rfl, .inr ⟨by omega, rfl, rfl, rfl⟩⟩
theorem rnew_any (x : Int) (w : World) : Calls Try.prog 18 #[.int .i64 x] w fun e w' => ∃ p er, e = .returned (.tuple #[.pointer p, .int .i64 er]) ∧ RNewT x p er w w' := by
  by_cases h : 1 ≤ x ∧ x ≤ 64
  · obtain ⟨n, rfl⟩ : ∃ n : Nat, x = n := ⟨x.toNat, by omega⟩
    refine (rnew_ok n (by omega) (by omega) w).mono ?_
    rintro e w' ⟨rfl, ht, hb⟩
    exact ⟨_, _, rfl, .inl ⟨h.1, h.2, rfl, rfl, by rw [Int.toNat_natCast]; exact ht, hb⟩⟩
  · refine (rnew_bad x (by omega) w).mono ?_
    rintro e w' ⟨rfl, rfl⟩
    exact ⟨_, _, rfl, .inr ⟨by omega, rfl, rfl, rfl⟩⟩

theorem both_new {x : Int} {p q : Option Addr} {er fr : Int} {w w1 w2 : World} (h : NewT x p er w w1) (k : RNewT x q fr w1 w2) :
    er = fr ∧ Below w.heap.size w w2 ∧ ∃ o, Both p q w.heap.size w2.heap.size o w2 ∧ ∀ xs, o = some xs → xs = List.replicate x.toNat L0 := by
  rcases h with ⟨h1, h2, rfl, rfl, t, b⟩ | ⟨h1, rfl, rfl, rfl⟩ <;> rcases k with ⟨k1, k2, rfl, rfl, r, c⟩ | ⟨k1, rfl, rfl, rfl⟩
  · refine ⟨rfl, below_step b c, some (List.replicate x.toNat L0), ⟨TT.start t b r c, ?_, rfl, rfl⟩, fun xs e => by cases e; rfl⟩
    intro xs e
    cases e
    rw [List.length_replicate]
    omega
  · omega
  · omega
  · exact ⟨rfl, Below.refl _ _, none, ⟨⟨rfl, rfl⟩, (fun xs e => by cases e), rfl, rfl⟩, fun xs e => by cases e⟩

theorem eqlT (p : Option Addr) (w : World) : (binOp .eql 25 (.pointer p) (.pointer none)).run Try.prog w = .ok (.bool p.isNone) w := by cases p <;> kernel_rfl
theorem eqlR (p : Option Addr) (w : World) : (binOp .eql 37 (.pointer p) (.pointer none)).run Try.prog w = .ok (.bool p.isNone) w := by cases p <;> kernel_rfl
theorem neqR (p : Option Addr) (w : World) : (binOp .neq 37 (.pointer p) (.pointer none)).run Try.prog w = .ok (.bool (!p.isNone)) w := by cases p <;> kernel_rfl

theorem infoInt : (Try.prog.info? 3).map (fun i => (i.zero, i.size, i.bytes)) = some (some (.int .i64 0), 1, 8) := by kernel_rfl

/-- 64 numbers at block g. -/
def Lefts (g : Nat) (w : World) : Prop := ∃ cells, w.heap[g]? = some (.cells cells 3 (0, 0)) ∧ ∀ i : Nat, i < 64 → ∃ n, cells[i]? = some (.int .i64 n)
theorem Lefts.cell {g : Nat} {w : World} (h : Lefts g w) (i : Nat) (hi : i < 64) : ∃ n, w.cell? ⟨g, i, none⟩ = some (.int .i64 n) := by
  obtain ⟨cells, hc, hn⟩ := h
  obtain ⟨n, e⟩ := hn i hi
  exact ⟨n, (blk_cell hc i).trans e⟩
theorem Lefts.fz {g : Nat} {w : World} (h : Lefts g w) (i : Nat) : w.frozen? ⟨g, i, none⟩ = false := by
  obtain ⟨cells, hc, _⟩ := h
  exact blk_frozen hc i
theorem Lefts.set {g : Nat} {w : World} (h : Lefts g w) (i : Nat) (n : Int) : Lefts g (w.setCell ⟨g, i, none⟩ (.int .i64 n)) := by
  obtain ⟨cells, hc, hn⟩ := h
  refine ⟨_, blk_set hc i _, fun j hj => ?_⟩
  obtain ⟨m, e⟩ := hn j hj
  by_cases ej : i = j
  · subst ej
    exact ⟨n, by simp [(Array.getElem?_eq_some_iff.1 e).1]⟩
  · exact ⟨m, by rw [Array.getElem?_setIfInBounds, if_neg ej]; exact e⟩
theorem Lefts.keep {g : Nat} {w w' : World} (h : Lefts g w) (hk : w'.heap[g]? = w.heap[g]?) : Lefts g w' := by
  obtain ⟨cells, hc, hn⟩ := h
  exact ⟨cells, hk.trans hc, hn⟩
theorem Lefts.of_R {w : World} {base : Nat} {v : Value} (h : (Kd.int .i64).R 3 w base (fun _ => True) v (List.replicate 64 0)) : ∃ g cap, v = .slice (some ⟨g, 0, none⟩) 64 cap ∧ base ≤ g ∧ 64 ≤ cap ∧ Lefts g w := by
  obtain ⟨g, cap, rfl, hb, hlt, cells, hc⟩ := Kd.R_form h (by simp)
  have hcap := (Kd.R_reads' h).2.1
  rw [List.length_replicate] at *
  refine ⟨g, cap, rfl, hb, by simpa using hcap, cells, hc, fun i hi => ?_⟩
  have := (Kd.R_cell (enc := Value.int .i64) 0 h (i : Int) (by omega) (by simp; omega)).1
  rw [Int.toNat_natCast, blk_cell hc] at this
  exact ⟨_, this⟩

set_option maxRecDepth 100000 in
set_option maxHeartbeats 40000000 in
theorem plays_true (x : Int) (A : Option Addr) (cap : Nat) (l : List S42) (w : World) (hr : Kd.C k42 w A l.length l) (hcap : l.length ≤ cap) (hx : (Lit.int .i64 x).wf = true) (hg : (∀ y ∈ l, g42 y) ∧ l.length * 32 ≤ 140737488351232 ∧ l.length ≤ maxLen) :
    Calls Try.prog 5 #[.int .i64 x, .slice A l.length cap] w fun e w' => e = .returned (.bool true) ∧ Below w.heap.size w w' := by
  have hl : l.length ≤ 140737488351232 := by
    have := hg.2.1
    omega
  have HR := Aside0.mk hr
  have HCAP := Aside0.mk hcap
  have HG := Aside0.mk hg
  clear hr hcap hg hx
  go_enter Try.func5, Try.ntmps5
  go_wp2_with fail
  refine (new_any x _).mono ?_
  rintro e w1 ⟨p, er, rfl, n1⟩
  have N1 := Aside0.mk n1
  clear n1
  go_wp2_with fail
  refine (rnew_any x _).mono ?_
  rintro e w2 ⟨q, fr, rfl, n2⟩
  obtain ⟨ee, bb, o, hb, ho⟩ := both_new N1.out n2
  have BB := Aside0.mk bb
  have BS := Aside0.mk bb.size
  have HO := Aside0.mk ho
  have H2 := Aside0.mk hb
  clear n2 bb ho N1 hb
  subst ee
  have G2 : Aside0 (Good 0 o) := by
    refine ⟨fun xs e y hy => ?_⟩
    rw [HO.out xs e] at hy
    rw [(List.mem_replicate.1 hy).2]
    decide
  clear HO
  have hpn := H2.out.np
  have hqn := H2.out.nq
  generalize o.isNone = bn at hpn hqn
  have et := fun w' => eqlT p w'
  have er' := fun w' => eqlR q w'
  have nr := fun w' => neqR q w'
  rw [hpn] at et
  rw [hqn] at er' nr
  have HPN := Aside0.mk hpn
  have HQN := Aside0.mk hqn
  clear hpn hqn
  go_wp2_with fail
  refine (t2_stripes H2.out).mono ?_
  obtain ⟨v, hv⟩ : ∃ v, vO (fun xs : List Lane => (xs.length : Int)) 0 o = v := ⟨_, rfl⟩
  rw [hv]
  rintro e w3 ⟨rfl, h3, m3⟩
  have HV := Aside0.mk hv
  have H3 := Aside0.mk h3
  have M3 := Aside0.mk m3
  clear hv h3 m3 H2
  go_wp2_with fail
  refine (u2_stripes H3.out).mono ?_
  rw [HV.out, show Option.map id o = o by cases o <;> rfl]
  rintro e w4 ⟨rfl, h4, m4⟩
  have H4 := Aside0.mk h4
  have M4 := Aside0.mk (M3.out.trans m4)
  have B4 := Aside0.mk (Mid.below (Nat.le_refl _) BB.out M4.out)
  have Z4 := Aside0.mk M4.out.size
  clear h4 m4 H3 M3 HV BB M4
  go_wp2_with fail
  go_loopw [9, 10] (fun v9 v10 wr => ∃ k : Nat, k ≤ 64 ∧ v10 = .int .i64 k ∧ Aside0 ((Kd.int .i64).R 3 wr w4.heap.size (fun _ => True) v9 (List.replicate k 0)) ∧ Aside0 (Below w4.heap.size w4 wr)) (fun _ v10 _ => 64 - (intOf v10).toNat)
  case atStart => exact ⟨0, Nat.zero_le _, rfl, ⟨Kd.R_nil _ _ _ _ _⟩, ⟨Below.refl _ _⟩⟩
  case round =>
    obtain ⟨k, hk, rfl, R5, B5⟩ := hrel
    by_cases hlt : k < 64
    · go_wp2_with (first | ((with_reducible refine gate_builtin (b := .append) (xs := #[.tmp 49, .tmp 50]) rfl ?_); at_builtin; refine Kd.R_append (Kd.int .i64) (w0 := w4) w4.heap.size rfl (.tmp 49) (.tmp 50) 22 3 (.int .i64 0) 8 rfl Try.underlying22 infoInt rfl (by decide) (by omega) _ (List.replicate k (0 : Int)) 0 [.int .i64 0] (fun _ => True) (fun _ => False) rfl rfl ?aP (fun _ hk => hk.elim) ?aF ?aO ?aB ?aS ?aL ?_; (case aP => exact rfl); (case aB => exact B5.out); (case aF => exact (fun _ _ => trivial)); (case aO => exact R5.out); (case aS => exact below_size B5.out); (case aL => rw [List.length_replicate]; omega); intro v51 w6 ho hb hg hat; rw [← List.replicate_succ'] at ho; have R6 := Aside0.mk ho; have B6 := Aside0.mk hb; clear ho hb hg hat R5 B5))
      go_roundw
      case rel => exact ⟨k + 1, by omega, by go_num, R6, B6⟩
      case measure => simp [intOf]; omega
    · have hR64 := R5.out
      rw [show k = 64 by omega] at hR64
      obtain ⟨g, gc, rfl, hg1, hg2, hL⟩ := Lefts.of_R hR64
      clear hR64
      have L5 := Aside0.mk hL
      have GE := Aside0.mk (Nat.le_trans Z4.out hg1)
      have H5 := Aside0.mk (H4.out.keep (fun b hb hb' => B5.out.block b hb'))
      have B55 := Aside0.mk (below_then B4.out (below_size B4.out) B5.out)
      have Z5 := Aside0.mk (Nat.le_trans Z4.out B5.out.size)
      clear hg1 hL R5 B5 H4 B4 Z4
      obtain ⟨wo, rfl⟩ : ∃ wo : World, wo = wr := ⟨_, rfl⟩
      go_wp2_with fail
      obtain ⟨kA, rfl⟩ : ∃ kA : Nat, kA = k := ⟨_, rfl⟩
      clear hk hlt
      go_loopw [6, 8, 11] (fun v6 v8 v11 wr => ∃ (k : Nat) (a b : Int) (o : Option (List Lane)), k ≤ l.length ∧ v11 = .int .i64 k ∧ v6 = .int .i64 a ∧ v8 = .int .i64 b ∧ Aside0 (Both p q w.heap.size w2.heap.size o wr) ∧ Aside0 (Good k o) ∧ Aside0 (Lefts g wr) ∧ Aside0 (Below w.heap.size w wr) ∧ Aside0 (w2.heap.size ≤ wr.heap.size)) (fun _ _ v11 _ => l.length - (intOf v11).toNat)
      case atStart => exact ⟨0, _, _, _, Nat.zero_le _, rfl, rfl, rfl, H5, G2, L5, B55, Z5⟩
      case round =>
        obtain ⟨k, a, b, o, hk, rfl, rfl, rfl, H6, G6, L6, B6, Z6⟩ := hrel
        clear H5 G2 L5 B55 Z5
        by_cases hlt : k < l.length
        · have hr6 := Kd.C_below HR.out B6.out
          obtain ⟨ad, eA, c0, c1, c2, c3⟩ := at_T42 hr6 (k : Int) (by omega) (by omega)
          subst eA
          rw [Int.toNat_natCast] at c0 c1 c2 c3
          generalize rd_T42 l k = y at c0 c1 c2 c3
          obtain ⟨kind, s, t, mine⟩ := y
          simp only at c0 c1 c2 c3
          clear hr6
          have hgl : g < wr.heap.size := by
            obtain ⟨n, hn⟩ := L6.out.cell 0 (by omega)
            exact World.block_lt_of_cell? wr _ hn
          have hgn : wr.heap.size ≠ g := by omega
          have hgn' : g ≠ wr.heap.size := by omega
          have hcs : ∃ n, (mine = true ∧ 0 ≤ s ∧ s < 64 ∧ wr.cell? ⟨g, s.toNat, none⟩ = some (.int .i64 n)) ∨ (mine = false ∧ n = t) ∨ (mine = true ∧ s < 0 ∧ n = t) ∨ (mine = true ∧ ¬ s < 0 ∧ 64 ≤ s ∧ n = t) := by
            by_cases h : 0 ≤ s ∧ s < 64
            · obtain ⟨n, hn⟩ := L6.out.cell s.toNat (by omega)
              cases mine
              · exact ⟨t, .inr (.inl ⟨rfl, rfl⟩)⟩
              · exact ⟨n, .inl ⟨rfl, h.1, h.2, hn⟩⟩
            · cases mine
              · exact ⟨t, .inr (.inl ⟨rfl, rfl⟩)⟩
              · by_cases h0 : s < 0
                · exact ⟨t, .inr (.inr (.inl ⟨rfl, h0, rfl⟩))⟩
                · exact ⟨t, .inr (.inr (.inr ⟨rfl, h0, by omega, rfl⟩))⟩
          have kk : kind = 0 ∨ kind = 1 ∨ kind = 2 ∨ kind = 3 ∨ kind = 4 ∨ kind = 5 ∨ kind = 6 ∨ ((kind == 0) = false ∧ (kind == 1) = false ∧ (kind == 2) = false ∧ (kind == 3) = false ∧ (kind == 4) = false ∧ (kind == 5) = false ∧ (kind == 6) = false) := by
            simp only [beq_eq_false_iff_ne]
            omega
          obtain ⟨n, hcs⟩ := hcs
          rcases hcs with ⟨rfl, hs0, hs1, hn⟩ | ⟨rfl, rfl⟩ | ⟨rfl, hs0, rfl⟩ | ⟨rfl, hs0, hs1, rfl⟩
          all_goals
            rcases kk with rfl | rfl | rfl | rfl | rfl | rfl | rfl | ⟨q0, q1, q2, q3, q4, q5, q6⟩
            -- ROUNDS {
            · as_aux_lemma =>
                obtain ⟨a1, a2, hv⟩ : ∃ a1 a2, vO (fun xs => (ticketF xs s).1) ((0 : Int), (0 : Int)) o = (a1, a2) := ⟨_, _, rfl⟩
                have HV := Aside0.mk hv
                clear hv
                go_wp2_with fail
                refine (t2_ticket s (H6.out.alloc _) G6.out).mono ?_
                (try rw [HV.out])
                rintro e w7 ⟨rfl, h7, m7⟩
                have x7 := m7.far (heap_alloc_new wr _) Z6.out
                have d1 : w7.cell? ⟨wr.heap.size, 1, none⟩ = some (.int .i64 s) := (blk_cell x7 1).trans rfl
                have d2 : w7.cell? ⟨wr.heap.size, 2, none⟩ = some (.int .i64 n) := (blk_cell x7 2).trans rfl
                have MM7 := Aside0.mk m7
                clear x7 m7
                go_wp2_with fail
                refine (u2_ticket s h7 G6.out).mono ?_
                (try rw [HV.out])
                rintro e w8 ⟨rfl, h8, m8⟩
                have H8 := Aside0.mk h8
                have MM8 := Aside0.mk (MM7.out.trans m8)
                clear h8 m8 MM7
                all_goals
                  go_wp2_with fail
                  go_roundw
                  case rel => exact ⟨k + 1, _, _, _, by omega, by go_num, rfl, rfl, H8, ⟨(G6.out.ticket s)⟩, ⟨L6.out.keep ((MM8.out.block g (by rw [World.size_alloc]; omega) (by have := GE.out; omega)).trans (Below.heap_alloc wr _ g (by omega)))⟩, ⟨Mid.below (Nat.le_refl _) (below_alloc B6.out _) MM8.out⟩, ⟨Nat.le_trans (Nat.le_trans Z6.out (Nat.le_succ _)) (by have := MM8.out.size; rw [World.size_alloc] at this; exact this)⟩⟩
                  case measure => simp [intOf]; omega
            · as_aux_lemma =>
                obtain ⟨a1, hv⟩ : ∃ a1, vO (fun xs => servedF xs s n) false o = a1 := ⟨_, rfl⟩
                have HV := Aside0.mk hv
                clear hv
                go_wp2_with fail
                go_region_held3 (fun w' => w'.cell? ⟨wr.heap.size, 1, none⟩ = some (.int .i64 s) ∧ w'.cell? ⟨wr.heap.size, 2, none⟩ = some (.int .i64 n)) (go_keep) (first | (go_at_call 12; refine (t2_served s n (H6.out.alloc _).drew).mono ?_; (try rw [HV.out]); rintro e w7 ⟨rfl, h7, m7⟩; have x7 := m7.far (heap_alloc_new wr _) Z6.out; have d1 : w7.cell? ⟨wr.heap.size, 1, none⟩ = some (.int .i64 s) := (blk_cell x7 1).trans rfl; have d2 : w7.cell? ⟨wr.heap.size, 2, none⟩ = some (.int .i64 n) := (blk_cell x7 2).trans rfl; have MM7 := Aside0.mk ((Mid.drewN _ _ (wr.alloc _) 1).trans m7); have XX7 := Aside0.mk x7; clear x7 m7) | (go_at_call 22; refine (u2_served s n h7).mono ?_; (try rw [HV.out]); rintro e w8 ⟨rfl, h8, m8⟩; have x8 := m8.far XX7.out Z6.out; have d81 : w8.cell? ⟨wr.heap.size, 1, none⟩ = some (.int .i64 s) := (blk_cell x8 1).trans rfl; have d82 : w8.cell? ⟨wr.heap.size, 2, none⟩ = some (.int .i64 n) := (blk_cell x8 2).trans rfl; clear x8; have H8 := Aside0.mk h8; have MM8 := Aside0.mk (MM7.out.trans m8); clear h8 m8 MM7))
                all_goals clear d1 d2 d81 d82
                all_goals
                  go_wp2_with fail
                  go_roundw
                  case rel => exact ⟨k + 1, _, _, _, by omega, by go_num, rfl, rfl, H8, ⟨G6.out.same⟩, ⟨L6.out.keep ((MM8.out.block g (by rw [World.size_alloc]; omega) (by have := GE.out; omega)).trans (Below.heap_alloc wr _ g (by omega)))⟩, ⟨Mid.below (Nat.le_refl _) (below_alloc B6.out _) MM8.out⟩, ⟨Nat.le_trans (Nat.le_trans Z6.out (Nat.le_succ _)) (by have := MM8.out.size; rw [World.size_alloc] at this; exact this)⟩⟩
                  case measure => simp [intOf]; omega
            · as_aux_lemma =>
                obtain ⟨a1, hv⟩ : ∃ a1, vO (fun xs => (turnF 0 leaveUp xs s n).1) (0 : Int) o = a1 := ⟨_, rfl⟩
                have HV := Aside0.mk hv
                clear hv
                go_wp2_with fail
                refine (t2_leave s n (H6.out.alloc _) G6.out).mono ?_
                (try rw [HV.out])
                rintro e w7 ⟨rfl, h7, m7⟩
                have x7 := m7.far (heap_alloc_new wr _) Z6.out
                have d1 : w7.cell? ⟨wr.heap.size, 1, none⟩ = some (.int .i64 s) := (blk_cell x7 1).trans rfl
                have d2 : w7.cell? ⟨wr.heap.size, 2, none⟩ = some (.int .i64 n) := (blk_cell x7 2).trans rfl
                have MM7 := Aside0.mk m7
                clear x7 m7
                go_wp2_with fail
                refine (u2_leave s n h7 G6.out).mono ?_
                (try rw [HV.out])
                rintro e w8 ⟨rfl, h8, m8⟩
                have H8 := Aside0.mk h8
                have MM8 := Aside0.mk (MM7.out.trans m8)
                clear h8 m8 MM7
                by_cases hb : bn = true
                · subst hb
                  all_goals
                    go_wp2_with fail
                    go_roundw
                    case rel => exact ⟨k + 1, _, _, _, by omega, by go_num, rfl, rfl, H8, ⟨(G6.out.leave s n)⟩, ⟨L6.out.keep ((MM8.out.block g (by rw [World.size_alloc]; omega) (by have := GE.out; omega)).trans (Below.heap_alloc wr _ g (by omega)))⟩, ⟨Mid.below (Nat.le_refl _) (below_alloc B6.out _) MM8.out⟩, ⟨Nat.le_trans (Nat.le_trans Z6.out (Nat.le_succ _)) (by have := MM8.out.size; rw [World.size_alloc] at this; exact this)⟩⟩
                    case measure => simp [intOf]; omega
                · have hb' := Bool.eq_false_iff.2 hb
                  subst hb'
                  by_cases h0 : a1 = 0
                  · subst h0
                    have hs : 0 ≤ s ∧ s < 64 := by
                      have hv := HV.out
                      have hn := H6.out.np
                      have hl := H6.out.len
                      cases o with
                      | none => rw [HPN.out] at hn; cases hn
                      | some xs =>
                        have hl2 := hl xs rfl
                        by_cases hla : laneAt xs s
                        · unfold laneAt at hla
                          omega
                        · simp only [vO, turnF, if_neg hla] at hv
                          omega
                    (first | (exfalso; omega) | skip)
                    all_goals
                     obtain ⟨hs0, hs1⟩ := hs
                     have L8 := Aside0.mk (L6.out.keep ((MM8.out.block g (by rw [World.size_alloc]; omega) (by have := GE.out; omega)).trans (Below.heap_alloc wr _ g (by omega))))
                     obtain ⟨m, hm8⟩ := L8.out.cell s.toNat (by omega)
                     have hf8 := L8.out.fz s.toNat
                     have d81 : w8.cell? ⟨wr.heap.size, 1, none⟩ = some (.int .i64 s) := (blk_cell (MM8.out.far (heap_alloc_new wr _) Z6.out) 1).trans rfl
                     go_wp2_with fail
                     go_roundw
                     case rel => exact ⟨k + 1, _, _, _, by omega, by go_num, rfl, rfl, ⟨H8.out.far GE.out _⟩, ⟨(G6.out.leave s n)⟩, ⟨L8.out.set _ _⟩, ⟨(Mid.below (Nat.le_refl _) (below_alloc B6.out _) MM8.out).setCell (by have := GE.out; have := BS.out; show w.heap.size ≤ g; omega) _⟩, ⟨by rw [World.size_setCell]; exact Nat.le_trans (Nat.le_trans Z6.out (Nat.le_succ _)) (by have := MM8.out.size; rw [World.size_alloc] at this; exact this)⟩⟩
                     case measure => simp [intOf]; omega
                  · have h0' : (a1 == 0) = false := by simp [h0]
                    clear h0
                    all_goals
                      go_wp2_with fail
                      go_roundw
                      case rel => exact ⟨k + 1, _, _, _, by omega, by go_num, rfl, rfl, H8, ⟨(G6.out.leave s n)⟩, ⟨L6.out.keep ((MM8.out.block g (by rw [World.size_alloc]; omega) (by have := GE.out; omega)).trans (Below.heap_alloc wr _ g (by omega)))⟩, ⟨Mid.below (Nat.le_refl _) (below_alloc B6.out _) MM8.out⟩, ⟨Nat.le_trans (Nat.le_trans Z6.out (Nat.le_succ _)) (by have := MM8.out.size; rw [World.size_alloc] at this; exact this)⟩⟩
                      case measure => simp [intOf]; omega
            · as_aux_lemma =>
                obtain ⟨a1, hv⟩ : ∃ a1, vO (fun xs => (turnF 0 seqUp xs s n).1) (0 : Int) o = a1 := ⟨_, rfl⟩
                have HV := Aside0.mk hv
                clear hv
                go_wp2_with fail
                go_region_held3 (fun w' => w'.cell? ⟨wr.heap.size, 1, none⟩ = some (.int .i64 s) ∧ w'.cell? ⟨wr.heap.size, 2, none⟩ = some (.int .i64 n)) (go_keep) (first | (go_at_call 14; refine (t2_odd s n (H6.out.alloc _).drew).mono ?_; (try rw [HV.out]); rintro e w7 ⟨rfl, h7, m7⟩; have x7 := m7.far (heap_alloc_new wr _) Z6.out; have d1 : w7.cell? ⟨wr.heap.size, 1, none⟩ = some (.int .i64 s) := (blk_cell x7 1).trans rfl; have d2 : w7.cell? ⟨wr.heap.size, 2, none⟩ = some (.int .i64 n) := (blk_cell x7 2).trans rfl; have MM7 := Aside0.mk ((Mid.drewN _ _ (wr.alloc _) 1).trans m7); have XX7 := Aside0.mk x7; clear x7 m7) | (go_at_call 24; refine (u2_odd s n h7).mono ?_; (try rw [HV.out]); rintro e w8 ⟨rfl, h8, m8⟩; have x8 := m8.far XX7.out Z6.out; have d81 : w8.cell? ⟨wr.heap.size, 1, none⟩ = some (.int .i64 s) := (blk_cell x8 1).trans rfl; have d82 : w8.cell? ⟨wr.heap.size, 2, none⟩ = some (.int .i64 n) := (blk_cell x8 2).trans rfl; clear x8; have H8 := Aside0.mk h8; have MM8 := Aside0.mk (MM7.out.trans m8); clear h8 m8 MM7))
                all_goals clear d1 d2 d81 d82
                all_goals
                  go_wp2_with fail
                  go_roundw
                  case rel => exact ⟨k + 1, _, _, _, by omega, by go_num, rfl, rfl, H8, ⟨(G6.out.turn 0 s n (by omega))⟩, ⟨L6.out.keep ((MM8.out.block g (by rw [World.size_alloc]; omega) (by have := GE.out; omega)).trans (Below.heap_alloc wr _ g (by omega)))⟩, ⟨Mid.below (Nat.le_refl _) (below_alloc B6.out _) MM8.out⟩, ⟨Nat.le_trans (Nat.le_trans Z6.out (Nat.le_succ _)) (by have := MM8.out.size; rw [World.size_alloc] at this; exact this)⟩⟩
                  case measure => simp [intOf]; omega
            · as_aux_lemma =>
                obtain ⟨a1, hv⟩ : ∃ a1, vO (fun xs => (turnF 1 seqUp xs s n).1) (0 : Int) o = a1 := ⟨_, rfl⟩
                have HV := Aside0.mk hv
                clear hv
                go_wp2_with fail
                go_region_held3 (fun w' => w'.cell? ⟨wr.heap.size, 1, none⟩ = some (.int .i64 s) ∧ w'.cell? ⟨wr.heap.size, 2, none⟩ = some (.int .i64 n)) (go_keep) (first | (go_at_call 15; refine (t2_even s n (H6.out.alloc _).drew).mono ?_; (try rw [HV.out]); rintro e w7 ⟨rfl, h7, m7⟩; have x7 := m7.far (heap_alloc_new wr _) Z6.out; have d1 : w7.cell? ⟨wr.heap.size, 1, none⟩ = some (.int .i64 s) := (blk_cell x7 1).trans rfl; have d2 : w7.cell? ⟨wr.heap.size, 2, none⟩ = some (.int .i64 n) := (blk_cell x7 2).trans rfl; have MM7 := Aside0.mk ((Mid.drewN _ _ (wr.alloc _) 1).trans m7); have XX7 := Aside0.mk x7; clear x7 m7) | (go_at_call 25; refine (u2_even s n h7).mono ?_; (try rw [HV.out]); rintro e w8 ⟨rfl, h8, m8⟩; have x8 := m8.far XX7.out Z6.out; have d81 : w8.cell? ⟨wr.heap.size, 1, none⟩ = some (.int .i64 s) := (blk_cell x8 1).trans rfl; have d82 : w8.cell? ⟨wr.heap.size, 2, none⟩ = some (.int .i64 n) := (blk_cell x8 2).trans rfl; clear x8; have H8 := Aside0.mk h8; have MM8 := Aside0.mk (MM7.out.trans m8); clear h8 m8 MM7))
                all_goals clear d1 d2 d81 d82
                all_goals
                  go_wp2_with fail
                  go_roundw
                  case rel => exact ⟨k + 1, _, _, _, by omega, by go_num, rfl, rfl, H8, ⟨(G6.out.turn 1 s n (by omega))⟩, ⟨L6.out.keep ((MM8.out.block g (by rw [World.size_alloc]; omega) (by have := GE.out; omega)).trans (Below.heap_alloc wr _ g (by omega)))⟩, ⟨Mid.below (Nat.le_refl _) (below_alloc B6.out _) MM8.out⟩, ⟨Nat.le_trans (Nat.le_trans Z6.out (Nat.le_succ _)) (by have := MM8.out.size; rw [World.size_alloc] at this; exact this)⟩⟩
                  case measure => simp [intOf]; omega
            · as_aux_lemma =>
                obtain ⟨a1, hv⟩ : ∃ a1, vO (fun xs => seqF xs s) (0 : Int) o = a1 := ⟨_, rfl⟩
                have HV := Aside0.mk hv
                clear hv
                go_wp2_with fail
                go_region_held3 (fun w' => w'.cell? ⟨wr.heap.size, 1, none⟩ = some (.int .i64 s) ∧ w'.cell? ⟨wr.heap.size, 2, none⟩ = some (.int .i64 n)) (go_keep) (first | (go_at_call 17; refine (t2_seq s (H6.out.alloc _).drew).mono ?_; (try rw [HV.out]); rintro e w7 ⟨rfl, h7, m7⟩; have x7 := m7.far (heap_alloc_new wr _) Z6.out; have d1 : w7.cell? ⟨wr.heap.size, 1, none⟩ = some (.int .i64 s) := (blk_cell x7 1).trans rfl; have d2 : w7.cell? ⟨wr.heap.size, 2, none⟩ = some (.int .i64 n) := (blk_cell x7 2).trans rfl; have MM7 := Aside0.mk ((Mid.drewN _ _ (wr.alloc _) 1).trans m7); have XX7 := Aside0.mk x7; clear x7 m7) | (go_at_call 26; refine (u2_seq s h7).mono ?_; (try rw [HV.out]); rintro e w8 ⟨rfl, h8, m8⟩; have x8 := m8.far XX7.out Z6.out; have d81 : w8.cell? ⟨wr.heap.size, 1, none⟩ = some (.int .i64 s) := (blk_cell x8 1).trans rfl; have d82 : w8.cell? ⟨wr.heap.size, 2, none⟩ = some (.int .i64 n) := (blk_cell x8 2).trans rfl; clear x8; have H8 := Aside0.mk h8; have MM8 := Aside0.mk (MM7.out.trans m8); clear h8 m8 MM7))
                all_goals clear d1 d2 d81 d82
                all_goals
                  go_wp2_with fail
                  go_roundw
                  case rel => exact ⟨k + 1, _, _, _, by omega, by go_num, rfl, rfl, H8, ⟨G6.out.same⟩, ⟨L6.out.keep ((MM8.out.block g (by rw [World.size_alloc]; omega) (by have := GE.out; omega)).trans (Below.heap_alloc wr _ g (by omega)))⟩, ⟨Mid.below (Nat.le_refl _) (below_alloc B6.out _) MM8.out⟩, ⟨Nat.le_trans (Nat.le_trans Z6.out (Nat.le_succ _)) (by have := MM8.out.size; rw [World.size_alloc] at this; exact this)⟩⟩
                  case measure => simp [intOf]; omega
            · as_aux_lemma =>
                obtain ⟨a1, hv⟩ : ∃ a1, vO (fun xs => waitingF xs s) (0 : Int) o = a1 := ⟨_, rfl⟩
                have HV := Aside0.mk hv
                clear hv
                go_wp2_with fail
                go_region_held3 (fun w' => w'.cell? ⟨wr.heap.size, 1, none⟩ = some (.int .i64 s) ∧ w'.cell? ⟨wr.heap.size, 2, none⟩ = some (.int .i64 n)) (go_keep) (first | (go_at_call 16; refine (t2_waiting s (H6.out.alloc _).drew).mono ?_; (try rw [HV.out]); rintro e w7 ⟨rfl, h7, m7⟩; have x7 := m7.far (heap_alloc_new wr _) Z6.out; have d1 : w7.cell? ⟨wr.heap.size, 1, none⟩ = some (.int .i64 s) := (blk_cell x7 1).trans rfl; have d2 : w7.cell? ⟨wr.heap.size, 2, none⟩ = some (.int .i64 n) := (blk_cell x7 2).trans rfl; have MM7 := Aside0.mk ((Mid.drewN _ _ (wr.alloc _) 1).trans m7); have XX7 := Aside0.mk x7; clear x7 m7) | (go_at_call 27; refine (u2_waiting s h7).mono ?_; (try rw [HV.out]); rintro e w8 ⟨rfl, h8, m8⟩; have x8 := m8.far XX7.out Z6.out; have d81 : w8.cell? ⟨wr.heap.size, 1, none⟩ = some (.int .i64 s) := (blk_cell x8 1).trans rfl; have d82 : w8.cell? ⟨wr.heap.size, 2, none⟩ = some (.int .i64 n) := (blk_cell x8 2).trans rfl; clear x8; have H8 := Aside0.mk h8; have MM8 := Aside0.mk (MM7.out.trans m8); clear h8 m8 MM7))
                all_goals clear d1 d2 d81 d82
                all_goals
                  go_wp2_with fail
                  go_roundw
                  case rel => exact ⟨k + 1, _, _, _, by omega, by go_num, rfl, rfl, H8, ⟨G6.out.same⟩, ⟨L6.out.keep ((MM8.out.block g (by rw [World.size_alloc]; omega) (by have := GE.out; omega)).trans (Below.heap_alloc wr _ g (by omega)))⟩, ⟨Mid.below (Nat.le_refl _) (below_alloc B6.out _) MM8.out⟩, ⟨Nat.le_trans (Nat.le_trans Z6.out (Nat.le_succ _)) (by have := MM8.out.size; rw [World.size_alloc] at this; exact this)⟩⟩
                  case measure => simp [intOf]; omega
            · as_aux_lemma =>
                obtain ⟨a1, hv⟩ : ∃ a1, vO (fun xs => (xs.length : Int)) (0 : Int) o = a1 := ⟨_, rfl⟩
                have HV := Aside0.mk hv
                clear hv
                go_wp2_with fail
                refine (t2_stripes  (H6.out.alloc _)).mono ?_
                (try rw [HV.out])
                rintro e w7 ⟨rfl, h7, m7⟩
                have x7 := m7.far (heap_alloc_new wr _) Z6.out
                have d1 : w7.cell? ⟨wr.heap.size, 1, none⟩ = some (.int .i64 s) := (blk_cell x7 1).trans rfl
                have d2 : w7.cell? ⟨wr.heap.size, 2, none⟩ = some (.int .i64 n) := (blk_cell x7 2).trans rfl
                have MM7 := Aside0.mk m7
                clear x7 m7
                go_wp2_with fail
                refine (u2_stripes  h7).mono ?_
                (try rw [HV.out])
                rintro e w8 ⟨rfl, h8, m8⟩
                have H8 := Aside0.mk h8
                have MM8 := Aside0.mk (MM7.out.trans m8)
                clear h8 m8 MM7
                all_goals
                  go_wp2_with fail
                  go_roundw
                  case rel => exact ⟨k + 1, _, _, _, by omega, by go_num, rfl, rfl, H8, ⟨G6.out.same⟩, ⟨L6.out.keep ((MM8.out.block g (by rw [World.size_alloc]; omega) (by have := GE.out; omega)).trans (Below.heap_alloc wr _ g (by omega)))⟩, ⟨Mid.below (Nat.le_refl _) (below_alloc B6.out _) MM8.out⟩, ⟨Nat.le_trans (Nat.le_trans Z6.out (Nat.le_succ _)) (by have := MM8.out.size; rw [World.size_alloc] at this; exact this)⟩⟩
                  case measure => simp [intOf]; omega
            -- } ROUNDS
        · obtain ⟨wo2, rfl⟩ : ∃ wo : World, wo = wr := ⟨_, rfl⟩
          go_wp2_with fail
          go_loopw [17] (fun v17 wr => ∃ (m : Nat) (o : Option (List Lane)), m ≤ 66 ∧ v17 = .int .i64 ((m : Int) - 1) ∧ Aside0 (Both p q w.heap.size w2.heap.size o wr) ∧ Aside0 (Below w.heap.size w wr)) (fun v17 _ => 66 - (intOf v17 + 1).toNat)
          case atStart => exact ⟨0, o, by omega, by go_num, H6, B6⟩
          case round =>
            obtain ⟨m, o, hm, rfl, H7, B7⟩ := hrel
            clear H6 B6
            obtain ⟨s, hs⟩ : ∃ s : Int, (m : Int) - 1 = s := ⟨_, rfl⟩
            rw [hs]
            have hs0 : -1 ≤ s := by omega
            by_cases hlt2 : s < 65
            · obtain ⟨a1, hv⟩ : ∃ a1, vO (fun xs => seqF xs s) (0 : Int) o = a1 := ⟨_, rfl⟩
              obtain ⟨a2, hv2⟩ : ∃ a1, vO (fun xs => waitingF xs s) (0 : Int) o = a1 := ⟨_, rfl⟩
              have HV := Aside0.mk hv
              have HV2 := Aside0.mk hv2
              have HS := Aside0.mk hs
              clear hv hv2 hs
              go_wp2_with fail
              refine (t2_seq s H7.out).mono ?_
              rw [HV.out]
              rintro e x1 ⟨rfl, h1, m1⟩
              go_wp2_with fail
              refine (u2_seq s h1).mono ?_
              rw [HV.out, show Option.map id o = o by cases o <;> rfl]
              rintro e x2 ⟨rfl, h2, m2⟩
              go_wp2_with fail
              refine (t2_waiting s h2).mono ?_
              rw [HV2.out]
              rintro e x3 ⟨rfl, h3, m3⟩
              go_wp2_with fail
              refine (u2_waiting s h3).mono ?_
              rw [HV2.out, show Option.map id o = o by cases o <;> rfl]
              rintro e x4 ⟨rfl, h4, m4⟩
              have H8 := Aside0.mk h4
              have B8 := Aside0.mk (Mid.below (Nat.le_refl _) B7.out (((m1.trans m2).trans m3).trans m4))
              clear h1 h2 h3 h4 m1 m2 m3 m4 H7 B7
              go_wp2_with fail
              go_roundw
              case rel => exact ⟨m + 1, o, by have := HS.out; omega, by rw [← HS.out]; congr 1; omega, H8, B8⟩
              case measure => have := HS.out; simp [intOf]; omega
            · clear hs
              go_wp2_with fail
              go_ret
              exact ⟨rfl, B7.out⟩
end Go.Proofs.Ytgklgicfgpemgaa.Lk
