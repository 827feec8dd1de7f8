/- LockFree: the law answers true for every number, every list of lists and every list of picks. No condition. -/
import Derived.Test.YtgklgicfgpemgaaLkFreeR
namespace Go.Proofs.Ytgklgicfgpemgaa.Lk
open Go.RowKit Go.Proofs.YtgklgicfgpemgaaW.PrintWords Go.Proofs.YtgklgicfgpemgaaW.PrintMore Go.Proofs.Ytgklgicfgpemgaa.Fr
set_option linter.unusedVariables false
set_option linter.unusedSimpArgs false

/-- Pointers to blocks. -/
def ptrK : Kd Nat := Kd.scalar (fun a : Nat => Value.pointer (some ⟨a, 0, none⟩)) (fun _ => rfl)
theorem infoP : (Try.prog.info? 46).map (fun i => (i.zero, i.size, i.bytes)) = some (some (.pointer none), 1, 8) := by kernel_rfl

/-- Handlers that have not begun. -/
def Fresh (N : Nat) (rs : List HR) : Prop := ∀ r ∈ rs, WF N r.h ∧ r.h.pos = 0 ∧ r.tv = .slice none 0 0 ∧ r.h.tk = []
def tot (rs : List HR) : Nat := (rs.map (fun r => 5 * r.h.set.length)).sum
theorem AllB.more {B B' lo N : Nat} {rs : List HR} {w : World} (A : AllB B lo rs w) (F : Fresh N rs) (h : B ≤ B') : AllB B' lo rs w :=
  ⟨(fun r hr => by
    obtain ⟨H, hl⟩ := A.each r hr
    obtain ⟨_, _, e, e2⟩ := F r hr
    refine ⟨⟨H.blk, Kd.R_mono H.set (fun k hk => Nat.lt_of_lt_of_le hk h), ?_⟩, hl⟩
    rw [e, e2]
    exact Kd.R_nil _ _ _ _ _), A.apart⟩
theorem Only.of_below' {w w1 : World} (h : Below w.heap.size w w1) : Only (fun _ => False) w w1 := Only.of_below h
theorem AllB.grown {B lo : Nat} {rs : List HR} {w w1 : World} {v : Value} {ps : List Nat} {base : Nat} {ok : Nat → Prop} (A : AllB B lo rs w) (R : ptrK.R 46 w base ok v ps) (k : w.grownBy w1 v.ownBlock) : AllB B lo rs w1 :=
  ⟨(fun r hr => by
    obtain ⟨H, hl⟩ := A.each r hr
    refine ⟨H.only (Only.of_grown k) (Kd.R_ne R H.blk (by decide)) ?_ ?_, hl⟩
    · intro b _ ht e
      obtain ⟨c, hc⟩ := ht
      obtain ⟨c2, hc2⟩ := Kd.R_typed R b e.symm
      rw [hc] at hc2
      cases hc2
    · intro b hb e
      obtain ⟨c, hc⟩ := Kd.R_typed H.tk b hb
      obtain ⟨c2, hc2⟩ := Kd.R_typed R b e.symm
      rw [hc] at hc2
      cases hc2), A.apart⟩
theorem below_alloc' {B : Nat} {w w1 : World} (h : Below B w w1) (o : Obj) (hB : B ≤ w1.heap.size := by assumption) : Below B w (w1.alloc o) := h.alloc hB o
theorem ints_nil : ints [] = [] := rfl
theorem tot_snoc (rs : List HR) (r : HR) : tot (rs ++ [r]) = tot rs + 5 * r.h.set.length := by simp [tot]
/-- One handler more. -/
theorem AllB.snoc {B lo N : Nat} {rs : List HR} {r : HR} {w : World} (A : AllB B lo rs w) (F : Fresh N rs) (H : HandB r.a r.sv r.tv B r.h w) (hl : lo ≤ r.a) (hn : r.tv = .slice none 0 0) (hne : ∀ y ∈ rs, y.a ≠ r.a) : AllB B lo (rs ++ [r]) w := by
  refine ⟨fun y hy => ?_, ?_⟩
  · rcases List.mem_append.1 hy with hy | hy
    · exact A.each y hy
    · simp at hy
      rw [hy]
      exact ⟨H, hl⟩
  · intro i j y y' hij hi hj
    have tvn : ∀ (i : Nat) (y : HR), (rs ++ [r])[i]? = some y → y.tv.ownBlock = none := by
      intro i y hi
      rcases List.mem_append.1 (List.mem_of_getElem? hi) with hm | hm
      · rw [(F y hm).2.2.1]
        rfl
      · simp at hm
        rw [hm, hn]
        rfl
    refine ⟨?_, fun b hb => by rw [tvn i y hi] at hb; cases hb⟩
    rcases Nat.lt_or_ge i rs.length with h1 | h1 <;> rcases Nat.lt_or_ge j rs.length with h2 | h2
    · rw [List.getElem?_append_left h1] at hi
      rw [List.getElem?_append_left h2] at hj
      exact (A.apart i j y y' hij hi hj).1
    · rw [List.getElem?_append_left h1] at hi
      rw [List.getElem?_append_right h2] at hj
      have : y' = r := by
        have := List.mem_of_getElem? hj
        simpa using this
      rw [this]
      exact hne y (List.mem_of_getElem? hi)
    · rw [List.getElem?_append_right h1] at hi
      rw [List.getElem?_append_left h2] at hj
      have : y = r := by
        have := List.mem_of_getElem? hi
        simpa using this
      rw [this]
      exact fun e => hne y' (List.mem_of_getElem? hj) e.symm
    · have hi' := (List.getElem?_eq_some_iff.1 hi).1
      have hj' := (List.getElem?_eq_some_iff.1 hj).1
      simp at hi' hj'
      omega

/-- The state of the great loop. -/
structure St (w : World) (lo B g ta N T : Nat) (v9 : Value) (ps : List Nat) (c : Nat) (xs : List Lane) (rs : List HR) (Q : Nat → List Nat) (wr : World) : Prop where
  ptrs : rs.map (·.a) = ps
  tot : tot rs = T
  all : AllB B lo rs wr
  tab : Tab ta g xs wr
  inv : Inv N xs (rs.map (·.h)) Q c
  row : ptrK.R 46 wr lo (fun k => k < B) v9 ps
  below : Below w.heap.size w wr
  size : B ≤ wr.heap.size
  hlo : w.heap.size ≤ lo
  hlo2 : w.heap.size ≤ g
  hloB : lo ≤ B

section
variable {w : World} {lo B g ta N T : Nat} {v9 : Value} {ps : List Nat} {c : Nat} {xs : List Lane} {rs : List HR} {Q : Nat → List Nat} {wr w1 : World}
theorem St.beside (S : St w lo B g ta N T v9 ps c xs rs Q wr) (A : AllB B lo rs w1) (Tb : Tab ta g xs w1) (k : Only (fun b => some b = some g) wr w1) : St w lo B g ta N T v9 ps c xs rs Q w1 where
  ptrs := S.ptrs
  tot := S.tot
  all := A
  tab := Tb
  inv := S.inv
  row := R_only S.row k (fun b _ _ ht e => by
    obtain ⟨q, hq, cells, hc⟩ := ht
    simp [ptrK, Kd.scalar] at hq
    subst hq
    cases e
    rw [S.tab.row] at hc
    cases hc)
  below := k.below_of S.below (Nat.le_trans (Nat.le_trans S.hlo S.hloB) S.size) (fun b hb e => by cases e; have := S.hlo2; omega)
  size := Nat.le_trans S.size k.size
  hlo := S.hlo
  hlo2 := S.hlo2
  hloB := S.hloB
theorem tot_set {rs : List HR} {j : Nat} {r r' : HR} (hj : rs[j]? = some r) (h : r'.h.set = r.h.set) : tot (rs.set j r') = tot rs := by
  have : (rs.set j r').map (fun r => 5 * r.h.set.length) = rs.map (fun r => 5 * r.h.set.length) := by
    apply List.ext_getElem?
    intro i
    rw [List.getElem?_map, List.getElem?_map, set_get' hj]
    split
    · rename_i e
      rw [e, hj]
      simp [h]
    · rfl
  unfold Lk.tot
  rw [this]
theorem St.next {j : Nat} {r : HR} (S : St w lo B g ta N T v9 ps c xs rs Q wr) (hj : rs[j]? = some r) (k : Stepped B lo N c j ta g rs r wr w1) : ∃ xs' rs' Q', St w lo B g ta N T v9 ps (c + 1) xs' rs' Q' w1 := by
  obtain ⟨r', xs', Q', e1, e2, hA, hT, hI, hO⟩ := k
  have Hr := S.all.each r (List.mem_of_getElem? hj)
  refine ⟨xs', rs.set j r', Q', ?_, ?_, hA, hT, hI, ?_, ?_, Nat.le_trans S.size hO.size, S.hlo, S.hlo2, S.hloB⟩
  · rw [← S.ptrs]
    apply List.ext_getElem?
    intro i
    rw [List.getElem?_map, List.getElem?_map, set_get' hj]
    split
    · rename_i e
      rw [e, hj]
      simp [e1]
    · rfl
  · rw [tot_set hj e2, S.tot]
  · refine R_only S.row hO (fun b _ _ ht e => ?_)
    obtain ⟨q, hq, cells, hc⟩ := ht
    simp [ptrK, Kd.scalar] at hq
    subst hq
    rcases e with e | e | e
    · subst e; rw [Hr.1.blk] at hc; cases hc
    · subst e; rw [S.tab.row] at hc; cases hc
    · obtain ⟨c2, hc2⟩ := Kd.R_typed Hr.1.tk b e.symm
      rw [hc] at hc2
      cases hc2
  · refine hO.below_of S.below (Nat.le_trans (Nat.le_trans S.hlo S.hloB) S.size) (fun b hb e => ?_)
    have h1 := S.hlo
    have h2 := S.hlo2
    have h3 := Hr.2
    have h4 := S.hloB
    rcases e with e | e | e
    · omega
    · omega
    · have := Kd.R_base Hr.1.tk b e.symm
      omega
theorem St.drawn (S : St w lo B g ta N T v9 ps c xs rs Q wr) (n : Nat) : St w lo B g ta N T v9 ps c xs rs Q (wr.drewN n) :=
  S.beside (S.all.quiet ((Only.refl _ _).drewN n)) (S.tab.drewN n) ((Only.refl _ _).drewN n)
theorem St.hand {j : Nat} {r : HR} (S : St w lo B g ta N T v9 ps c xs rs Q wr) (hj : rs[j]? = some r) : ∃ A cp, wr.cell? ⟨r.a, 0, none⟩ = some (.slice A r.h.set.length cp) ∧ r.h.set.length ≤ cp ∧ ∀ k, k < r.h.set.length → ∃ ad, A = some ad ∧ wr.cell? (ad.add k) = some (.int .i64 (r.h.set.getD k 0 : Nat)) := by
  have H := (S.all.each r (List.mem_of_getElem? hj)).1
  obtain ⟨A, cp, e, hc, _⟩ := Kd.R_reads H.set
  rw [ints_len] at e hc
  refine ⟨A, cp, (blk_cell H.blk 0).trans (by rw [e]; rfl), hc, fun k hk => ?_⟩
  obtain ⟨ad, c', e2, hcell⟩ := R_at H.set hk
  rw [e] at e2
  cases e2
  exact ⟨ad, rfl, hcell⟩
/-- A pointer out of the row. -/
theorem St.ptr {j : Nat} {r : HR} {A : Option Addr} {n cp : Nat} (S : St w lo B g ta N T (.slice A n cp) ps c xs rs Q wr) (hj : rs[j]? = some r) : ∃ ad, A = some ad ∧ wr.cell? (ad.add j) = some (.pointer (some ⟨r.a, 0, none⟩)) := by
  obtain ⟨A', c', e, hc, hC⟩ := Kd.R_reads S.row
  cases e
  have hl := (List.getElem?_eq_some_iff.1 hj).1
  have hps : ps[j]? = some r.a := by rw [← S.ptrs, List.getElem?_map, hj]; rfl
  have hpl := (List.getElem?_eq_some_iff.1 hps).1
  obtain ⟨ad, cs, rfl, _, hK, hcell⟩ := Kd.C_get hC 0 (j : Int) (by omega) (by omega)
  rw [Int.toNat_natCast, List.getD_eq_getElem?_getD, hps] at hK
  have hK' : cs = [.pointer (some ⟨r.a, 0, none⟩)] := hK
  subst hK'
  have := hcell 0 _ rfl
  simp only [ptrK, Kd.scalar, Int.toNat_natCast, Nat.mul_one, Nat.add_zero] at this
  exact ⟨ad, rfl, this⟩
end

set_option maxRecDepth 100000 in
set_option maxHeartbeats 4000000 in
theorem free_true (x : Int) (A1 : Option Addr) (cap1 : Nat) (l1 : List (List Int)) (A2 : Option Addr) (cap2 : Nat) (l2 : List Int) (w : World) (hr1 : Kd.C (Kd.slice 3 (Kd.int .i64)) w A1 l1.length l1) (hcap1 : l1.length ≤ cap1) (hr2 : Kd.C (Kd.int .i64) w A2 l2.length l2) (hcap2 : l2.length ≤ cap2)
    (hx : (Lit.int .i64 x).wf = true) (hg1 : (∀ y ∈ l1, (∀ z ∈ y, (Lit.int .i64 z).wf = true) ∧ y.length * 8 ≤ 140737488351232 ∧ y.length ≤ maxLen) ∧ l1.length * 24 ≤ 140737488351232 ∧ l1.length ≤ maxLen)
    (hg2 : (∀ z ∈ l2, (Lit.int .i64 z).wf = true) ∧ l2.length * 8 ≤ 140737488351232 ∧ l2.length ≤ maxLen) :
    Calls Try.prog 6 #[.int .i64 x, .slice A1 l1.length cap1, .slice A2 l2.length cap2] w fun e w' => e = .returned (.bool true) ∧ Below w.heap.size w w' := by
  have bx : -9223372036854775808 ≤ x ∧ x ≤ 9223372036854775807 := by simpa [Lit.wf, IntKind.min, IntKind.max, IntKind.bits, IntKind.signed] using hx
  have hl1 : l1.length ≤ 9223372036854775807 := hr1.2.1
  have hl2 : l2.length ≤ 9223372036854775807 := hr2.2.1
  have HR1 := Aside0.mk hr1
  have HCAP1 := Aside0.mk hcap1
  have HR2 := Aside0.mk hr2
  have HCAP2 := Aside0.mk hcap2
  have HG1 := Aside0.mk hg1
  have HG2 := Aside0.mk hg2
  clear hr1 hr2 hcap1 hcap2 hg1 hg2 hx
  obtain ⟨n, hn, en⟩ : ∃ n : Nat, n ≤ 9 ∧ x % (9 + 1) = n := ⟨(x % 10).toNat, by omega, by omega⟩
  have EN := Aside0.mk en
  clear en
  obtain ⟨N, hN1, hN, hNn⟩ : ∃ N : Nat, N ≤ 10 ∧ 1 ≤ N ∧ 1 + (n : Int) = N := ⟨n + 1, by omega, by omega, by omega⟩
  go_enter Try.func6, Try.ntmps6
  go_wp2_with fail
  refine (works_true _).mono ?_
  rintro e w1 ⟨rfl, hb1⟩
  have B1 := Aside0.mk hb1
  clear hb1
  go_wp2_with fail
  refine (within_calls x 9 _ (by omega) (by omega) bx.1 bx.2).mono ?_
  rw [EN.out]
  rintro e w' ⟨rfl, rfl⟩
  go_wp2_with fail
  clear hn
  refine (new_ok N (by omega) (by omega) _).mono ?_
  rintro e w2 ⟨rfl, ht2, hb2⟩
  have T2 := Aside0.mk ht2
  have B2 := Aside0.mk (below_step B1.out hb2)
  have Z2 := Aside0.mk (blk_lt ht2.head)
  have W1 := Aside0.mk B1.out.size
  clear ht2 hb2 B1
  clear hNn
  go_wp2_with fail
  refine (stripes_calls _ _ _ _ T2.out).mono ?_
  rw [List.length_replicate]
  rintro e w' ⟨rfl, rfl⟩
  go_wp2_with fail
  go_loopw [9, 10, 11] (fun v9 v10 v11 wr => ∃ (i T : Nat) (rs : List HR), i ≤ l1.length ∧ i ≤ 8 ∧ T ≤ 50 * i ∧ v11 = .int .i64 i ∧ v10 = .int .i64 T ∧ Aside0 (rs.length = i ∧ T = tot rs) ∧ Aside0 (ptrK.R 46 wr w2.heap.size (fun _ => True) v9 (rs.map (·.a))) ∧ Aside0 (Fresh N rs) ∧ Aside0 (AllB wr.heap.size w2.heap.size rs wr) ∧ Aside0 (Below w2.heap.size w2 wr)) (fun _ _ v11 _ => 8 - (intOf v11).toNat)
  case atStart => exact ⟨0, 0, [], Nat.zero_le _, by omega, by omega, rfl, rfl, ⟨rfl, rfl⟩, ⟨Kd.R_nil _ _ _ _ _⟩, ⟨fun r hr => by cases hr⟩, ⟨⟨(fun r hr => by cases hr), (fun i j r r' _ h => by simp at h)⟩⟩, ⟨Below.refl _ _⟩⟩
  case round =>
    obtain ⟨i, T, rs, hi1, hi2, hT, rfl, rfl, E3, R3, F3, A3, B3⟩ := hrel
    by_cases hin : i < l1.length ∧ i < 8
    · obtain ⟨hin1, hin2⟩ := hin
      have hw3 := below_then B2.out (below_size B2.out) B3.out
      obtain ⟨ad, c, eA, _, hK, hc⟩ := Kd.C_get (Kd.C_below HR1.out hw3) [] (i : Int) (by omega) (by omega)
      subst eA
      obtain ⟨A4, c4, rfl, hcap4, hC4⟩ := hK
      have s0 : wr.cell? (ad.add i) = some (.slice A4 (l1.getD i []).length c4) := by
        have := hc 0 _ rfl
        simpa [Kd.slice] using this
      have hy := (HG1.out.1 (l1.getD i []) (by rw [List.getD_eq_getElem?_getD, List.getElem?_eq_getElem hin1]; exact List.getElem_mem hin1)).1
      rw [Int.toNat_natCast] at hC4 hcap4
      generalize l1.getD i [] = y at s0 hC4 hcap4 hy
      have HY := Aside0.mk hy
      have HC4 := Aside0.mk hC4
      clear hc hy hC4 hw3
      go_wp2_with fail
      refine (rise_calls A4 c4 y N hN hN1 _ HC4.out HY.out).mono ?_
      rintro e w4 ⟨v, st, rfl, r4, p4, q4, z4, b4⟩
      obtain ⟨A5, c5, rfl, hc5, hC5⟩ := Kd.R_reads r4
      rw [ints_len] at *
      have R4 := Aside0.mk r4
      have P4 := Aside0.mk (And.intro p4 (And.intro q4 z4))
      have B4 := Aside0.mk b4
      clear r4 p4 q4 z4 b4 hC5
      have B34 := Aside0.mk (below_then B3.out (below_size B3.out) B4.out)
      have R34 := Aside0.mk (Kd.R_alloc (Kd.R_below R3.out B4.out) (.cells #[.slice A5 st.length c5, .int .i64 0, .slice none 0 0] 49))
      have A34 := Aside0.mk (((A3.out.more F3.out B4.out.size).quiet (Only.of_below' B4.out)).quiet (Only.of_below' (below_alloc (Below.refl _ _) (.cells #[.slice A5 st.length c5, .int .i64 0, .slice none 0 0] 49))))
      have HN := Aside0.mk (heap_alloc_new w4 (.cells #[.slice A5 st.length c5, .int .i64 0, .slice none 0 0] 49))
      have LEN := Aside0.mk (show (rs.map (·.a)).length = i by rw [List.length_map]; exact E3.out.1)
      have LT := Aside0.mk (show ∀ y ∈ rs, y.a ≠ w4.heap.size from fun y hy => by have := blk_lt (A3.out.each y hy).1.blk; have := B4.out.size; omega)
      have hst : st.length ≤ 10 := Nat.le_trans P4.out.2.2 hN1
      clear R3 A3
      go_wp2_with (first | ((with_reducible refine gate_builtin (b := .append) (xs := #[.tmp 69, .tmp 71]) rfl ?_); at_builtin; refine Kd.R_append ptrK (w0 := w2) w2.heap.size rfl (.tmp 69) (.tmp 71) 45 46 (.pointer none) 8 rfl Try.underlying45 infoP rfl (by decide) (by omega) _ (rs.map (·.a)) w4.heap.size [.pointer (some ⟨w4.heap.size, 0, none⟩)] (fun _ => True) (fun _ => False) rfl ?aX ?aP (fun _ hk => hk.elim) ?aF ?aO ?aB ?aS ?aL ?_; (case aP => exact rfl); (case aX => (show Value.slice (some ⟨w4.heap.size + 1, 0, none⟩) 1 1 = _; rw [World.size_alloc])); (case aB => exact B34.out.alloc (below_size B34.out) _); (case aF => exact (fun _ _ => trivial)); (case aO => exact R34.out); (case aS => exact below_size (B34.out.alloc (below_size B34.out) _)); (case aL => rw [LEN.out]; omega); intro v51 w6 ho hb hg hat; obtain ⟨A7, c7, rfl, hc7, hC7⟩ := Kd.R_reads ho; clear hc7 hC7; have hb6 := blk_grown HN.out hg (Kd.R_ne R34.out HN.out (by decide)); have R6 := Aside0.mk ho; have B6 := Aside0.mk hb; have HB6 := Aside0.mk hb6; have A6 := Aside0.mk (A34.out.grown R34.out hg); have e0 : w6.cell? ⟨w4.heap.size, 0, none⟩ = some (.slice A5 st.length c5) := (blk_cell hb6 0).trans rfl; have G6 := Aside0.mk hg; clear ho hb hg hat hb6 A34))
      go_roundw
      case rel =>
        have set6 : (Kd.int .i64).R 3 w6 0 (fun k => k < w6.heap.size) (.slice A5 st.length c5) (ints st) := by
          have h1 : (Kd.int .i64).R 3 w4 0 (fun k => k < w4.heap.size) (.slice A5 st.length c5) (ints st) := Kd.R_mono (Kd.R_bound (Kd.R_lower R4.out (Nat.zero_le _))) (fun k hk => hk.2.2.1)
          have h2 := Kd.R_alloc h1 (.cells #[.slice A5 st.length c5, .int .i64 0, .slice none 0 0] 49)
          have h3 := R_only h2 (Only.of_grown G6.out) (fun b _ _ ht e => by
            obtain ⟨q, hq, c, hc⟩ := ht
            simp [Kd.int, Kd.scalar] at hq
            subst hq
            obtain ⟨c2, hc2⟩ := Kd.R_typed R34.out b e.symm
            rw [hc] at hc2
            cases hc2)
          refine Kd.R_mono h3 (fun k hk => Nat.lt_of_lt_of_le hk ?_)
          have := G6.out.size
          rw [World.size_alloc] at this
          omega
        have hsz : w4.heap.size ≤ w6.heap.size := by
          have := G6.out.size
          rw [World.size_alloc] at this
          omega
        have hh : HandB w4.heap.size (.slice A5 st.length c5) (.slice none 0 0) w6.heap.size ⟨st, 0, []⟩ w6 := ⟨HB6.out, set6, Kd.R_nil _ _ _ _ _⟩
        have hw : WF N ⟨st, 0, []⟩ := ⟨P4.out.1, P4.out.2.1, Nat.zero_le _, by show 0 = min st.length ((0 + 1) / 2); simp⟩
        refine ⟨i + 1, T + 5 * st.length, rs ++ [⟨w4.heap.size, .slice A5 st.length c5, .slice none 0 0, ⟨st, 0, []⟩⟩], by omega, by omega, by omega, by go_num, by go_num, ⟨⟨?_, ?_⟩⟩, ⟨?_⟩, ⟨?_⟩, ⟨(A6.out.more F3.out hsz).snoc F3.out hh B34.out.size rfl LT.out⟩, B6⟩
        · rw [List.length_append, E3.out.1]
          rfl
        · rw [tot_snoc, E3.out.2]
        · have := R6.out
          simpa using this
        · intro r hr
          rcases List.mem_append.1 hr with hr | hr
          · exact F3.out r hr
          · simp at hr
            rw [hr]
            exact ⟨hw, rfl, rfl, rfl⟩
      case measure => simp [intOf]; omega
    · obtain ⟨A9, c9, e9, hc9, hC9⟩ := Kd.R_reads R3.out
      rw [List.length_map, E3.out.1] at e9 hc9
      subst e9
      have I3 := Aside0.mk (Inv.start N (rs.map (·.h)) (by intro h hh; obtain ⟨r, hr, rfl⟩ := List.mem_map.1 hh; exact (F3.out r hr).1) (by intro h hh; obtain ⟨r, hr, rfl⟩ := List.mem_map.1 hh; exact (F3.out r hr).2.1))
      have T3 := Aside0.mk (T2.out.moved (B3.out.block _ Z2.out) (B3.out.block _ (Nat.lt_of_succ_lt Z2.out)))
      have W3 := Aside0.mk (below_then B2.out (below_size B2.out) B3.out)
      have RP3 : Aside0 (ptrK.R 46 wr w2.heap.size (fun k => k < wr.heap.size) (.slice A9 i c9) (rs.map (·.a))) := ⟨Kd.R_mono (Kd.R_bound R3.out) (fun k hk => hk.2.2.1)⟩
      clear hC9 R3
      by_cases hml : i < l1.length
      all_goals
        obtain ⟨wo, rfl⟩ : ∃ wo : World, wo = wr := ⟨_, rfl⟩
        go_wp2_with fail
        obtain ⟨L, rfl⟩ : ∃ L : Nat, L = i := ⟨_, rfl⟩
        clear hin hml hi1
        have hST : St w w2.heap.size wo.heap.size w1.heap.size (w1.heap.size + 1) N T (.slice A9 L c9) (rs.map (·.a)) 0 (List.replicate N L0) rs (fun _ => []) wo :=
          ⟨rfl, E3.out.2.symm, A3.out, T3.out, I3.out, RP3.out, W3.out, Nat.le_refl _, B2.out.size, W1.out, B3.out.size⟩
        have ST := Aside0.mk hST
        clear hST A3 T3 I3 RP3 W3 T2
        go_loopw [13, 14] (fun v13 v14 wr => ∃ (c p : Nat) (xs : List Lane) (rs' : List HR) (Q : Nat → List Nat), c ≤ T ∧ p ≤ c ∧ v13 = .int .i64 c ∧ v14 = .int .i64 p ∧ Aside0 (St w w2.heap.size wo.heap.size w1.heap.size (w1.heap.size + 1) N T (.slice A9 L c9) (rs.map (·.a)) c xs rs' Q wr)) (fun v13 _ _ => T - (intOf v13).toNat)
        case atStart => exact ⟨0, 0, _, _, _, Nat.zero_le _, Nat.le_refl _, rfl, rfl, ST⟩
        case round =>
          obtain ⟨c, p, xs, rs', Q, hc, hp, rfl, rfl, S5⟩ := hrel
          clear ST
          have hT4 : T ≤ 400 := by omega
          by_cases hlt : c < T
          · have hL : 1 ≤ L := by
              rcases Nat.eq_zero_or_pos L with h0 | h0
              · have e := E3.out.1
                rw [h0, List.length_eq_zero_iff] at e
                have := E3.out.2
                rw [e] at this
                have h00 : tot [] = 0 := rfl
                omega
              · exact h0
            -- PICKS {
            by_cases hl20 : 0 < l2.length
            · skip
              obtain ⟨m, hm, hml⟩ : ∃ m : Nat, (p : Int) % (l2.length : Int) = m ∧ m < l2.length := ⟨p % l2.length, by rw [Int.natCast_emod], Nat.mod_lt p hl20⟩
              obtain ⟨ad2, e2, cc2⟩ := Kd.at_int (Kd.C_below HR2.out S5.out.below) (m : Int) (by omega) (by omega)
              subst e2
              rw [Int.toNat_natCast] at cc2
              have hzw := HG2.out.1 (rd l2 m) (by unfold rd; rw [Int.toNat_natCast, List.getD_eq_getElem?_getD, List.getElem?_eq_getElem hml]; exact List.getElem_mem _)
              have hz : -9223372036854775808 ≤ rd l2 m ∧ rd l2 m ≤ 9223372036854775807 := by simpa [Lit.wf, IntKind.min, IntKind.max, IntKind.bits, IntKind.signed] using hzw
              generalize rd l2 m = z at cc2 hz
              clear hzw
              obtain ⟨hz1, hz2⟩ := hz
              have hne : ((l2.length : Int) == 0) = false := beq_eq_false_iff_ne.2 (by omega)
              go_wp2_with fail
              refine (within_calls z (L - 1) _ (by omega) (by omega) hz1 hz2).mono ?_
              obtain ⟨f, hf, hfl⟩ : ∃ f : Nat, z % ((L : Int) - 1 + 1) = f ∧ f < L := ⟨(z % L).toNat, by rw [show (L : Int) - 1 + 1 = L by omega]; exact (Int.toNat_of_nonneg (Int.emod_nonneg _ (by omega))).symm, by have := Int.emod_lt_of_pos z (show (0 : Int) < L by omega); have := Int.emod_nonneg z (show (L : Int) ≠ 0 by omega); omega⟩
              rw [hf]
              rintro e w' ⟨rfl, rfl⟩
              clear hf hne hm cc2
              go_wp2_with fail
              obtain ⟨wq, rfl⟩ : ∃ wo : World, wo = wr := ⟨_, rfl⟩
              have hLr : rs'.length = L := by
                have := congrArg List.length S5.out.ptrs
                rw [List.length_map, List.length_map, E3.out.1] at this
                exact this
              have HLR := Aside0.mk hLr
              clear hLr
              go_loopw [16, 17] (fun v16 v17 wr => ∃ (i : Nat) (b : Bool), i ≤ L ∧ v17 = .int .i64 i ∧ v16 = .bool b ∧ Aside0 (b = false → St w w2.heap.size wo.heap.size w1.heap.size (w1.heap.size + 1) N T (.slice A9 L c9) (rs.map (·.a)) c xs rs' Q wr ∧ ∀ i', i' < i → ∀ r, rs'[(f + i') % L]? = some r → (stepM xs r.h).1.1 = false) ∧
                  Aside0 (b = true → ∃ xs2 rs2 Q2, St w w2.heap.size wo.heap.size w1.heap.size (w1.heap.size + 1) N T (.slice A9 L c9) (rs.map (·.a)) (c + 1) xs2 rs2 Q2 wr)) (fun _ v17 _ => L - (intOf v17).toNat)
              case atStart => exact ⟨0, false, Nat.zero_le _, rfl, rfl, ⟨fun _ => ⟨S5.out, fun i' hi => absurd hi (Nat.not_lt_zero _)⟩⟩, ⟨fun z => by cases z⟩⟩
              case round =>
                as_aux_lemma =>
                  obtain ⟨i, b, hi, rfl, rfl, S6, S7⟩ := hrel
                  cases b
                  · obtain ⟨S8, off⟩ := S6.out rfl
                    have OFF := Aside0.mk off
                    have S9 := Aside0.mk S8
                    clear S6 S7 S8 off
                    by_cases hin : i < L
                    · obtain ⟨j, hj, hjl⟩ : ∃ j : Nat, Int.tmod ((f : Int) + i) L = j ∧ j = (f + i) % L := ⟨(f + i) % L, by rw [Int.tmod_eq_emod_of_nonneg (by omega), Int.natCast_emod]; simp, rfl⟩
                      have hjL : j < L := by rw [hjl]; exact Nat.mod_lt _ hL
                      obtain ⟨r, hr⟩ : ∃ r, rs'[j]? = some r := ⟨_, List.getElem?_eq_getElem (by rw [HLR.out]; exact hjL)⟩
                      obtain ⟨ad9, e9, p9⟩ := S9.out.ptr hr
                      subst e9
                      obtain ⟨bn, hbn⟩ : ∃ bn, (stepM xs r.h).1.1 = bn := ⟨_, rfl⟩
                      have HR9 := Aside0.mk hr
                      have HJL := Aside0.mk hjl
                      have HBN := Aside0.mk hbn
                      clear hr hjl hbn
                      go_wp2_with fail
                      refine (step_rec S9.out.inv S9.out.all S9.out.tab HR9.out S9.out.size (by omega) hN1).mono ?_
                      rw [HBN.out]
                      rintro e w7 ⟨rfl, k1, k2⟩
                      have K1 := Aside0.mk k1
                      have K2 := Aside0.mk k2
                      clear k1 k2 p9
                      go_wp2_with fail
                      go_roundw
                      case rel =>
                        refine ⟨i + 1, bn, by omega, by go_num, rfl, ⟨fun z => ?_⟩, ⟨fun z => ?_⟩⟩
                        · obtain ⟨a1, a2, a3⟩ := K1.out z
                          refine ⟨S9.out.beside a1 a2 a3, fun i' hi' r2 hr2 => ?_⟩
                          rcases Nat.lt_or_ge i' i with hl | hl
                          · exact OFF.out i' hl r2 hr2
                          · have : i' = i := by omega
                            subst this
                            rw [← HJL.out, HR9.out] at hr2
                            cases hr2
                            rw [HBN.out, z]
                        · exact S9.out.next HR9.out (K2.out z)
                      case measure => simp [intOf]; omega
                    · exfalso
                      obtain ⟨h, hm, hon⟩ := S9.out.inv.goes (by have := S9.out.tot; unfold tot at this; rw [List.map_map]; show c < (rs'.map (fun r => 5 * r.h.set.length)).sum; omega)
                      obtain ⟨r, hr, rfl⟩ := List.mem_map.1 hm
                      obtain ⟨j, hl, e⟩ := List.mem_iff_getElem.1 hr
                      rw [HLR.out] at hl
                      have := OFF.out ((j + L - f) % L) (by have := Nat.mod_lt (j + L - f) hL; omega) r (by rw [show (f + (j + L - f) % L) % L = j by rw [Nat.add_mod_mod, show f + (j + L - f) = j + L by omega, Nat.add_mod_right, Nat.mod_eq_of_lt hl]]; rw [List.getElem?_eq_getElem (by rw [HLR.out]; exact hl), e])
                      rw [hon] at this
                      cases this
                  · obtain ⟨xs2, rs2, Q2, S8⟩ := S7.out rfl
                    have S9 := Aside0.mk S8
                    clear S6 S7 S8
                    by_cases hin : i < L
                    all_goals
                      as_aux_lemma =>
                        go_wp2_with fail
                        obtain ⟨wq2, rfl⟩ : ∃ wo : World, wo = wr := ⟨_, rfl⟩
                        go_loopw [21] (fun v21 wr => ∃ s : Nat, s ≤ N ∧ v21 = .int .i64 s ∧ Aside0 (St w w2.heap.size wo.heap.size w1.heap.size (w1.heap.size + 1) N T (.slice A9 L c9) (rs.map (·.a)) (c + 1) xs2 rs2 Q2 wr)) (fun v21 _ => N - (intOf v21).toNat)
                        case atStart => exact ⟨0, Nat.zero_le _, rfl, S9⟩
                        case round =>
                          as_aux_lemma =>
                            obtain ⟨s, hs, rfl, S10⟩ := hrel
                            clear S9
                            by_cases hsN : s < N
                            · obtain ⟨wq3, rfl⟩ : ∃ wo : World, wo = wr := ⟨_, rfl⟩
                              go_wp2_with fail
                              go_loopw [22, 23] (fun v22 v23 wr => ∃ i V : Nat, i ≤ L ∧ V ≤ 10 * i ∧ v23 = .int .i64 i ∧ v22 = .int .i64 V ∧ Aside0 (V = heldTo s (rs2.map (·.h)) i) ∧ Aside0 (St w w2.heap.size wo.heap.size w1.heap.size (w1.heap.size + 1) N T (.slice A9 L c9) (rs.map (·.a)) (c + 1) xs2 rs2 Q2 wr)) (fun _ v23 _ => L - (intOf v23).toNat)
                              case atStart => exact ⟨0, 0, Nat.zero_le _, Nat.zero_le _, rfl, rfl, ⟨rfl⟩, S10⟩
                              case round =>
                                as_aux_lemma =>
                                  obtain ⟨q, V, hq, hV, rfl, rfl, EV, S11⟩ := hrel
                                  clear S10
                                  have hL2 : rs2.length = L := by
                                    have := congrArg List.length S11.out.ptrs
                                    rw [List.length_map, List.length_map, E3.out.1] at this
                                    exact this
                                  have HL2 := Aside0.mk hL2
                                  clear hL2
                                  by_cases hqL : q < L
                                  · obtain ⟨r, hr⟩ : ∃ r, rs2[q]? = some r := ⟨_, List.getElem?_eq_getElem (by rw [HL2.out]; exact hqL)⟩
                                    have HRR := Aside0.mk hr
                                    have hset : r.h.set.length ≤ 10 := by
                                      have W := S11.out.inv.wf r.h (List.mem_map.2 ⟨r, List.mem_of_getElem? hr, rfl⟩)
                                      exact Nat.le_trans (rise_length W.rise W.lt) hN1
                                    have hpos : r.h.pos ≤ 1000 := by
                                      have W := S11.out.inv.wf r.h (List.mem_map.2 ⟨r, List.mem_of_getElem? hr, rfl⟩)
                                      have := W.pos
                                      omega
                                    clear hr
                                    obtain ⟨wq4, rfl⟩ : ∃ wo : World, wo = wr := ⟨_, rfl⟩
                                    go_wp2_with fail
                                    go_loopw [22, 24] (fun v22 v24 wr => ∃ k V2 : Nat, k ≤ r.h.set.length ∧ V2 ≤ 10 * q + k ∧ v24 = .int .i64 k ∧ v22 = .int .i64 V2 ∧ Aside0 (V2 = heldTo s (rs2.map (·.h)) q + holdsTo s r.h k) ∧ Aside0 (St w w2.heap.size wo.heap.size w1.heap.size (w1.heap.size + 1) N T (.slice A9 L c9) (rs.map (·.a)) (c + 1) xs2 rs2 Q2 wr)) (fun _ v24 _ => r.h.set.length - (intOf v24).toNat)
                                    case atStart => exact ⟨0, V, Nat.zero_le _, hV, rfl, rfl, ⟨EV.out⟩, S11⟩
                                    case round =>
                                      as_aux_lemma =>
                                        obtain ⟨k, V2, hk, hV2, rfl, rfl, EV2, S12⟩ := hrel
                                        obtain ⟨ad9, e9, p9⟩ := S12.out.ptr HRR.out
                                        subst e9
                                        obtain ⟨A8, c8, d0, hcap8, hcell8⟩ := S12.out.hand HRR.out
                                        by_cases hkn : k < r.h.set.length
                                        · obtain ⟨ad8, e8, d1⟩ := hcell8 k hkn
                                          subst e8
                                          clear hcell8
                                          obtain ⟨y, hy⟩ : ∃ y : Nat, r.h.set.getD k 0 = y := ⟨_, rfl⟩
                                          rw [hy] at d1
                                          have HY := Aside0.mk hy
                                          clear hy
                                          by_cases hys : y = s
                                          · have hyb : ((y : Int) == s) = true := by rw [hys]; simp
                                            obtain ⟨ib, hib⟩ : ∃ ib, insideM r.h k = ib := ⟨_, rfl⟩
                                            have HIB := Aside0.mk hib
                                            have HYS := Aside0.mk hys
                                            clear hib hys
                                            go_wp2_with fail
                                            refine (inside_calls k (S12.out.all.each r (List.mem_of_getElem? HRR.out)).1 hset hpos (by omega)).mono ?_
                                            rw [HIB.out]
                                            rintro e w8 ⟨rfl, nq, rfl⟩
                                            cases ib
                                            · go_wp2_with fail
                                              go_roundw
                                              case rel => exact ⟨k + 1, V2, by omega, by omega, by go_num, rfl, ⟨by rw [EV2.out, holdsTo, HIB.out]; simp⟩, ⟨S12.out.drawn nq⟩⟩
                                              case measure => simp [intOf]; omega
                                            · go_wp2_with fail
                                              go_roundw
                                              case rel => exact ⟨k + 1, V2 + 1, by omega, by omega, by go_num, by go_num, ⟨by rw [EV2.out, holdsTo, HIB.out, HY.out, HYS.out]; simp; omega⟩, ⟨S12.out.drawn nq⟩⟩
                                              case measure => simp [intOf]; omega
                                          · have hyb : ((y : Int) == s) = false := by simpa using fun e : (y : Int) = s => hys (by omega)
                                            have HYS := Aside0.mk hys
                                            clear hys
                                            go_wp2_with fail
                                            go_roundw
                                            case rel => exact ⟨k + 1, V2, by omega, by omega, by go_num, rfl, ⟨by rw [EV2.out, holdsTo, HY.out]; simp [HYS.out]⟩, S12⟩
                                            case measure => simp [intOf]; omega
                                        · clear hcell8
                                          have hkk : k = r.h.set.length := by omega
                                          have HKK := Aside0.mk hkk
                                          clear hkk
                                          go_wp2_with fail
                                          go_roundw
                                          case rel =>
                                            refine ⟨q + 1, V2, by omega, by omega, by go_num, rfl, ⟨?_⟩, S12⟩
                                            have hg : (rs2.map (·.h)).getD q ⟨[], 0, []⟩ = r.h := by rw [List.getD_eq_getElem?_getD, List.getElem?_map, HRR.out]; rfl
                                            rw [heldTo, hg, ← HKK.out]
                                            exact EV2.out
                                          case measure => simp [intOf]; omega
                                  · have hV1 : V ≤ 1 := by
                                      have := S11.out.inv.one hsN
                                      rw [List.length_map, HL2.out, show L = q by omega, ← EV.out] at this
                                      exact this
                                    go_wp2_with fail
                                    go_roundw
                                    case rel => exact ⟨s + 1, by omega, by go_num, S11⟩
                                    case measure => simp [intOf]; omega
                            · go_wp2_with fail
                              go_roundw
                              case rel => exact ⟨c + 1, p + 1, xs2, rs2, Q2, by omega, by omega, by go_num, by go_num, S10⟩
                              case measure => simp [intOf]; omega
            · have hfl : 0 < L := hL
              have hne0 : ¬ (0 : Int) < l2.length := by omega
              go_wp2_with fail
              obtain ⟨wq, rfl⟩ : ∃ wo : World, wo = wr := ⟨_, rfl⟩
              have hLr : rs'.length = L := by
                have := congrArg List.length S5.out.ptrs
                rw [List.length_map, List.length_map, E3.out.1] at this
                exact this
              have HLR := Aside0.mk hLr
              clear hLr
              go_loopw [16, 17] (fun v16 v17 wr => ∃ (i : Nat) (b : Bool), i ≤ L ∧ v17 = .int .i64 i ∧ v16 = .bool b ∧ Aside0 (b = false → St w w2.heap.size wo.heap.size w1.heap.size (w1.heap.size + 1) N T (.slice A9 L c9) (rs.map (·.a)) c xs rs' Q wr ∧ ∀ i', i' < i → ∀ r, rs'[(0 + i') % L]? = some r → (stepM xs r.h).1.1 = false) ∧
                  Aside0 (b = true → ∃ xs2 rs2 Q2, St w w2.heap.size wo.heap.size w1.heap.size (w1.heap.size + 1) N T (.slice A9 L c9) (rs.map (·.a)) (c + 1) xs2 rs2 Q2 wr)) (fun _ v17 _ => L - (intOf v17).toNat)
              case atStart => exact ⟨0, false, Nat.zero_le _, rfl, rfl, ⟨fun _ => ⟨S5.out, fun i' hi => absurd hi (Nat.not_lt_zero _)⟩⟩, ⟨fun z => by cases z⟩⟩
              case round =>
                as_aux_lemma =>
                  obtain ⟨i, b, hi, rfl, rfl, S6, S7⟩ := hrel
                  cases b
                  · obtain ⟨S8, off⟩ := S6.out rfl
                    have OFF := Aside0.mk off
                    have S9 := Aside0.mk S8
                    clear S6 S7 S8 off
                    by_cases hin : i < L
                    · obtain ⟨j, hj, hjl⟩ : ∃ j : Nat, Int.tmod ((i : Int)) L = j ∧ j = (0 + i) % L := ⟨(0 + i) % L, by rw [Int.tmod_eq_emod_of_nonneg (by omega), Int.natCast_emod]; simp, rfl⟩
                      have hjL : j < L := by rw [hjl]; exact Nat.mod_lt _ hL
                      obtain ⟨r, hr⟩ : ∃ r, rs'[j]? = some r := ⟨_, List.getElem?_eq_getElem (by rw [HLR.out]; exact hjL)⟩
                      obtain ⟨ad9, e9, p9⟩ := S9.out.ptr hr
                      subst e9
                      obtain ⟨bn, hbn⟩ : ∃ bn, (stepM xs r.h).1.1 = bn := ⟨_, rfl⟩
                      have HR9 := Aside0.mk hr
                      have HJL := Aside0.mk hjl
                      have HBN := Aside0.mk hbn
                      clear hr hjl hbn
                      go_wp2_with fail
                      refine (step_rec S9.out.inv S9.out.all S9.out.tab HR9.out S9.out.size (by omega) hN1).mono ?_
                      rw [HBN.out]
                      rintro e w7 ⟨rfl, k1, k2⟩
                      have K1 := Aside0.mk k1
                      have K2 := Aside0.mk k2
                      clear k1 k2 p9
                      go_wp2_with fail
                      go_roundw
                      case rel =>
                        refine ⟨i + 1, bn, by omega, by go_num, rfl, ⟨fun z => ?_⟩, ⟨fun z => ?_⟩⟩
                        · obtain ⟨a1, a2, a3⟩ := K1.out z
                          refine ⟨S9.out.beside a1 a2 a3, fun i' hi' r2 hr2 => ?_⟩
                          rcases Nat.lt_or_ge i' i with hl | hl
                          · exact OFF.out i' hl r2 hr2
                          · have : i' = i := by omega
                            subst this
                            rw [← HJL.out, HR9.out] at hr2
                            cases hr2
                            rw [HBN.out, z]
                        · exact S9.out.next HR9.out (K2.out z)
                      case measure => simp [intOf]; omega
                    · exfalso
                      obtain ⟨h, hm, hon⟩ := S9.out.inv.goes (by have := S9.out.tot; unfold tot at this; rw [List.map_map]; show c < (rs'.map (fun r => 5 * r.h.set.length)).sum; omega)
                      obtain ⟨r, hr, rfl⟩ := List.mem_map.1 hm
                      obtain ⟨j, hl, e⟩ := List.mem_iff_getElem.1 hr
                      rw [HLR.out] at hl
                      have := OFF.out ((j + L - 0) % L) (by have := Nat.mod_lt (j + L - 0) hL; omega) r (by rw [show (0 + (j + L - 0) % L) % L = j by rw [Nat.add_mod_mod, show 0 + (j + L - 0) = j + L by omega, Nat.add_mod_right, Nat.mod_eq_of_lt hl]]; rw [List.getElem?_eq_getElem (by rw [HLR.out]; exact hl), e])
                      rw [hon] at this
                      cases this
                  · obtain ⟨xs2, rs2, Q2, S8⟩ := S7.out rfl
                    have S9 := Aside0.mk S8
                    clear S6 S7 S8
                    by_cases hin : i < L
                    all_goals
                      as_aux_lemma =>
                        go_wp2_with fail
                        obtain ⟨wq2, rfl⟩ : ∃ wo : World, wo = wr := ⟨_, rfl⟩
                        go_loopw [21] (fun v21 wr => ∃ s : Nat, s ≤ N ∧ v21 = .int .i64 s ∧ Aside0 (St w w2.heap.size wo.heap.size w1.heap.size (w1.heap.size + 1) N T (.slice A9 L c9) (rs.map (·.a)) (c + 1) xs2 rs2 Q2 wr)) (fun v21 _ => N - (intOf v21).toNat)
                        case atStart => exact ⟨0, Nat.zero_le _, rfl, S9⟩
                        case round =>
                          as_aux_lemma =>
                            obtain ⟨s, hs, rfl, S10⟩ := hrel
                            clear S9
                            by_cases hsN : s < N
                            · obtain ⟨wq3, rfl⟩ : ∃ wo : World, wo = wr := ⟨_, rfl⟩
                              go_wp2_with fail
                              go_loopw [22, 23] (fun v22 v23 wr => ∃ i V : Nat, i ≤ L ∧ V ≤ 10 * i ∧ v23 = .int .i64 i ∧ v22 = .int .i64 V ∧ Aside0 (V = heldTo s (rs2.map (·.h)) i) ∧ Aside0 (St w w2.heap.size wo.heap.size w1.heap.size (w1.heap.size + 1) N T (.slice A9 L c9) (rs.map (·.a)) (c + 1) xs2 rs2 Q2 wr)) (fun _ v23 _ => L - (intOf v23).toNat)
                              case atStart => exact ⟨0, 0, Nat.zero_le _, Nat.zero_le _, rfl, rfl, ⟨rfl⟩, S10⟩
                              case round =>
                                as_aux_lemma =>
                                  obtain ⟨q, V, hq, hV, rfl, rfl, EV, S11⟩ := hrel
                                  clear S10
                                  have hL2 : rs2.length = L := by
                                    have := congrArg List.length S11.out.ptrs
                                    rw [List.length_map, List.length_map, E3.out.1] at this
                                    exact this
                                  have HL2 := Aside0.mk hL2
                                  clear hL2
                                  by_cases hqL : q < L
                                  · obtain ⟨r, hr⟩ : ∃ r, rs2[q]? = some r := ⟨_, List.getElem?_eq_getElem (by rw [HL2.out]; exact hqL)⟩
                                    have HRR := Aside0.mk hr
                                    have hset : r.h.set.length ≤ 10 := by
                                      have W := S11.out.inv.wf r.h (List.mem_map.2 ⟨r, List.mem_of_getElem? hr, rfl⟩)
                                      exact Nat.le_trans (rise_length W.rise W.lt) hN1
                                    have hpos : r.h.pos ≤ 1000 := by
                                      have W := S11.out.inv.wf r.h (List.mem_map.2 ⟨r, List.mem_of_getElem? hr, rfl⟩)
                                      have := W.pos
                                      omega
                                    clear hr
                                    obtain ⟨wq4, rfl⟩ : ∃ wo : World, wo = wr := ⟨_, rfl⟩
                                    go_wp2_with fail
                                    go_loopw [22, 24] (fun v22 v24 wr => ∃ k V2 : Nat, k ≤ r.h.set.length ∧ V2 ≤ 10 * q + k ∧ v24 = .int .i64 k ∧ v22 = .int .i64 V2 ∧ Aside0 (V2 = heldTo s (rs2.map (·.h)) q + holdsTo s r.h k) ∧ Aside0 (St w w2.heap.size wo.heap.size w1.heap.size (w1.heap.size + 1) N T (.slice A9 L c9) (rs.map (·.a)) (c + 1) xs2 rs2 Q2 wr)) (fun _ v24 _ => r.h.set.length - (intOf v24).toNat)
                                    case atStart => exact ⟨0, V, Nat.zero_le _, hV, rfl, rfl, ⟨EV.out⟩, S11⟩
                                    case round =>
                                      as_aux_lemma =>
                                        obtain ⟨k, V2, hk, hV2, rfl, rfl, EV2, S12⟩ := hrel
                                        obtain ⟨ad9, e9, p9⟩ := S12.out.ptr HRR.out
                                        subst e9
                                        obtain ⟨A8, c8, d0, hcap8, hcell8⟩ := S12.out.hand HRR.out
                                        by_cases hkn : k < r.h.set.length
                                        · obtain ⟨ad8, e8, d1⟩ := hcell8 k hkn
                                          subst e8
                                          clear hcell8
                                          obtain ⟨y, hy⟩ : ∃ y : Nat, r.h.set.getD k 0 = y := ⟨_, rfl⟩
                                          rw [hy] at d1
                                          have HY := Aside0.mk hy
                                          clear hy
                                          by_cases hys : y = s
                                          · have hyb : ((y : Int) == s) = true := by rw [hys]; simp
                                            obtain ⟨ib, hib⟩ : ∃ ib, insideM r.h k = ib := ⟨_, rfl⟩
                                            have HIB := Aside0.mk hib
                                            have HYS := Aside0.mk hys
                                            clear hib hys
                                            go_wp2_with fail
                                            refine (inside_calls k (S12.out.all.each r (List.mem_of_getElem? HRR.out)).1 hset hpos (by omega)).mono ?_
                                            rw [HIB.out]
                                            rintro e w8 ⟨rfl, nq, rfl⟩
                                            cases ib
                                            · go_wp2_with fail
                                              go_roundw
                                              case rel => exact ⟨k + 1, V2, by omega, by omega, by go_num, rfl, ⟨by rw [EV2.out, holdsTo, HIB.out]; simp⟩, ⟨S12.out.drawn nq⟩⟩
                                              case measure => simp [intOf]; omega
                                            · go_wp2_with fail
                                              go_roundw
                                              case rel => exact ⟨k + 1, V2 + 1, by omega, by omega, by go_num, by go_num, ⟨by rw [EV2.out, holdsTo, HIB.out, HY.out, HYS.out]; simp; omega⟩, ⟨S12.out.drawn nq⟩⟩
                                              case measure => simp [intOf]; omega
                                          · have hyb : ((y : Int) == s) = false := by simpa using fun e : (y : Int) = s => hys (by omega)
                                            have HYS := Aside0.mk hys
                                            clear hys
                                            go_wp2_with fail
                                            go_roundw
                                            case rel => exact ⟨k + 1, V2, by omega, by omega, by go_num, rfl, ⟨by rw [EV2.out, holdsTo, HY.out]; simp [HYS.out]⟩, S12⟩
                                            case measure => simp [intOf]; omega
                                        · clear hcell8
                                          have hkk : k = r.h.set.length := by omega
                                          have HKK := Aside0.mk hkk
                                          clear hkk
                                          go_wp2_with fail
                                          go_roundw
                                          case rel =>
                                            refine ⟨q + 1, V2, by omega, by omega, by go_num, rfl, ⟨?_⟩, S12⟩
                                            have hg : (rs2.map (·.h)).getD q ⟨[], 0, []⟩ = r.h := by rw [List.getD_eq_getElem?_getD, List.getElem?_map, HRR.out]; rfl
                                            rw [heldTo, hg, ← HKK.out]
                                            exact EV2.out
                                          case measure => simp [intOf]; omega
                                  · have hV1 : V ≤ 1 := by
                                      have := S11.out.inv.one hsN
                                      rw [List.length_map, HL2.out, show L = q by omega, ← EV.out] at this
                                      exact this
                                    go_wp2_with fail
                                    go_roundw
                                    case rel => exact ⟨s + 1, by omega, by go_num, S11⟩
                                    case measure => simp [intOf]; omega
                            · go_wp2_with fail
                              go_roundw
                              case rel => exact ⟨c + 1, p, xs2, rs2, Q2, by omega, by omega, by go_num, by go_num, S10⟩
                              case measure => simp [intOf]; omega
            -- } PICKS
          · have hcT : T ≤ c := by omega
            have hLr : rs'.length = L := by
              have := congrArg List.length S5.out.ptrs
              rw [List.length_map, List.length_map, E3.out.1] at this
              exact this
            have HLR := Aside0.mk hLr
            clear hLr
            have END := Aside0.mk (S5.out.inv.end_ (by have := S5.out.tot; unfold tot at this; rw [List.map_map]; show (rs'.map (fun r => 5 * r.h.set.length)).sum ≤ c; omega))
            obtain ⟨wq, rfl⟩ : ∃ wo : World, wo = wr := ⟨_, rfl⟩
            go_wp2_with fail
            -- LAST {
            go_loopw [25] (fun v25 wr => ∃ s : Nat, s ≤ N ∧ v25 = .int .i64 s ∧ Aside0 (St w w2.heap.size wo.heap.size w1.heap.size (w1.heap.size + 1) N T (.slice A9 L c9) (rs.map (·.a)) c xs rs' Q wr)) (fun v25 _ => N - (intOf v25).toNat)
            case atStart => exact ⟨0, Nat.zero_le _, rfl, S5⟩
            case round =>
              as_aux_lemma =>
                obtain ⟨s, hs, rfl, S10⟩ := hrel
                clear S5
                by_cases hsN : s < N
                · obtain ⟨wq3, rfl⟩ : ∃ wo : World, wo = wr := ⟨_, rfl⟩
                  go_wp2_with fail
                  go_loopw [26, 27] (fun v22 v23 wr => ∃ i V : Nat, i ≤ L ∧ V ≤ 10 * i ∧ v23 = .int .i64 i ∧ v22 = .int .i64 V ∧ Aside0 (V = wantTo s (rs'.map (·.h)) i) ∧ Aside0 (St w w2.heap.size wo.heap.size w1.heap.size (w1.heap.size + 1) N T (.slice A9 L c9) (rs.map (·.a)) c xs rs' Q wr)) (fun _ v23 _ => L - (intOf v23).toNat)
                  case atStart => exact ⟨0, 0, Nat.zero_le _, Nat.zero_le _, rfl, rfl, ⟨rfl⟩, S10⟩
                  case round =>
                    as_aux_lemma =>
                      obtain ⟨q, V, hq, hV, rfl, rfl, EV, S11⟩ := hrel
                      clear S10
                      by_cases hqL : q < L
                      · obtain ⟨r, hr⟩ : ∃ r, rs'[q]? = some r := ⟨_, List.getElem?_eq_getElem (by rw [HLR.out]; exact hqL)⟩
                        have HRR := Aside0.mk hr
                        have hset : r.h.set.length ≤ 10 := by
                          have W := S11.out.inv.wf r.h (List.mem_map.2 ⟨r, List.mem_of_getElem? hr, rfl⟩)
                          exact Nat.le_trans (rise_length W.rise W.lt) hN1
                        have hpos : r.h.pos ≤ 1000 := by
                          have W := S11.out.inv.wf r.h (List.mem_map.2 ⟨r, List.mem_of_getElem? hr, rfl⟩)
                          have := W.pos
                          omega
                        have HDN := Aside0.mk (END.out.1 r.h (List.mem_map.2 ⟨r, List.mem_of_getElem? hr, rfl⟩))
                        clear hr
                        obtain ⟨ad9, e9, p9⟩ := S11.out.ptr HRR.out
                        subst e9
                        go_wp2_with fail
                        refine (done_calls (S11.out.all.each r (List.mem_of_getElem? HRR.out)).1 hset hpos).mono ?_
                        rw [HDN.out]
                        rintro e w8 ⟨rfl, nq, rfl⟩
                        have S12 := Aside0.mk (S11.out.drawn nq)
                        clear p9
                        obtain ⟨wq4, hw4⟩ : ∃ wo : World, wo = wr.drewN nq := ⟨_, rfl⟩
                        rw [← hw4] at S12 ⊢
                        clear hw4
                        go_wp2_with fail
                        go_loopw [26, 28] (fun v22 v24 wr => ∃ k V2 : Nat, k ≤ r.h.set.length ∧ V2 ≤ 10 * q + k ∧ v24 = .int .i64 k ∧ v22 = .int .i64 V2 ∧ Aside0 (V2 = wantTo s (rs'.map (·.h)) q + haveTo s r.h.set k) ∧ Aside0 (St w w2.heap.size wo.heap.size w1.heap.size (w1.heap.size + 1) N T (.slice (some ad9) L c9) (rs.map (·.a)) c xs rs' Q wr)) (fun _ v24 _ => r.h.set.length - (intOf v24).toNat)
                        case atStart => exact ⟨0, V, Nat.zero_le _, hV, rfl, rfl, ⟨EV.out⟩, S12⟩
                        case round =>
                          as_aux_lemma =>
                            obtain ⟨k, V2, hk, hV2, rfl, rfl, EV2, S13⟩ := hrel
                            obtain ⟨ad9, e9, p9⟩ := S13.out.ptr HRR.out
                            cases e9
                            obtain ⟨A8, c8, d0, hcap8, hcell8⟩ := S13.out.hand HRR.out
                            by_cases hkn : k < r.h.set.length
                            · obtain ⟨ad8, e8, d1⟩ := hcell8 k hkn
                              subst e8
                              clear hcell8
                              obtain ⟨y, hy⟩ : ∃ y : Nat, r.h.set.getD k 0 = y := ⟨_, rfl⟩
                              rw [hy] at d1
                              have HY := Aside0.mk hy
                              clear hy
                              by_cases hys : y = s
                              · have hyb : ((y : Int) == s) = true := by rw [hys]; simp
                                have HYS := Aside0.mk hys
                                clear hys
                                go_wp2_with fail
                                go_roundw
                                case rel => exact ⟨k + 1, V2 + 1, by omega, by omega, by go_num, by go_num, ⟨by rw [EV2.out, haveTo, HY.out, HYS.out]; simp; omega⟩, S13⟩
                                case measure => simp [intOf]; omega
                              · have hyb : ((y : Int) == s) = false := by simpa using fun e : (y : Int) = s => hys (by omega)
                                have HYS := Aside0.mk hys
                                clear hys
                                go_wp2_with fail
                                go_roundw
                                case rel => exact ⟨k + 1, V2, by omega, by omega, by go_num, rfl, ⟨by rw [EV2.out, haveTo, HY.out]; simp [HYS.out]⟩, S13⟩
                                case measure => simp [intOf]; omega
                            · clear hcell8
                              have hkk : k = r.h.set.length := by omega
                              have HKK := Aside0.mk hkk
                              clear hkk
                              go_wp2_with fail
                              go_roundw
                              case rel =>
                                refine ⟨q + 1, V2, by omega, by omega, by go_num, rfl, ⟨?_⟩, S13⟩
                                have hg : (rs'.map (·.h)).getD q ⟨[], 0, []⟩ = r.h := by rw [List.getD_eq_getElem?_getD, List.getElem?_map, HRR.out]; rfl
                                rw [wantTo, hg, ← HKK.out]
                                exact EV2.out
                              case measure => simp [intOf]; omega
                      · have hwant : V = wantTo s (rs'.map (·.h)) (rs'.map (·.h)).length := by
                          rw [List.length_map, HLR.out, show L = q by omega]
                          exact EV.out
                        have HW := Aside0.mk (show seqF xs (s : Nat) = 2 * (V : Nat) ∧ waitingF xs (s : Nat) = 0 by rw [hwant]; exact END.out.2 s hsN)
                        clear hwant
                        go_wp2_with fail
                        refine (seq_calls _ _ xs s _ S11.out.tab).mono ?_
                        rw [HW.out.1]
                        rintro e w8 ⟨rfl, t8, g8⟩
                        have S12 := Aside0.mk (S11.out.beside (S11.out.all.beside S11.out.tab (Only.of_grown g8)) t8 (Only.of_grown g8))
                        clear t8 g8
                        go_wp2_with fail
                        refine (waiting_calls _ _ xs s _ S12.out.tab).mono ?_
                        rw [HW.out.2]
                        rintro e w9 ⟨rfl, t9, g9⟩
                        have S13 := Aside0.mk (S12.out.beside (S12.out.all.beside S12.out.tab (Only.of_grown g9)) t9 (Only.of_grown g9))
                        clear t9 g9
                        go_wp2_with fail
                        go_roundw
                        case rel => exact ⟨s + 1, by omega, by go_num, S13⟩
                        case measure => simp [intOf]; omega
                · go_wp2_with fail
                  go_ret
                  exact ⟨rfl, S10.out.below⟩
            -- } LAST
end Go.Proofs.Ytgklgicfgpemgaa.Lk
