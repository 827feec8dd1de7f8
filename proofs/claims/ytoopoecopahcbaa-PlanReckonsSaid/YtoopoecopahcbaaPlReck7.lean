/- PlanReckons: the contract of the law. No condition. -/
import Derived.Test.YtoopoecopahcbaaPlReck6
namespace Go.Proofs.Ytoopoecopahcbaa.Fl
open Go Go.RowKit Ieee Go.Proofs.YtoopoecopahcbaaW.PrintWords Go.Proofs.YtoopoecopahcbaaW.PrintLast Go.Proofs.YtoopoecopahcbaaW.PrintMore
set_option linter.unusedVariables false
set_option linter.unusedSimpArgs false
attribute [local go_sem] run_store_fl run_store_cx

theorem infoI : (Try.prog.info? 3).map (fun i => (i.zero, i.size, i.bytes)) = some (some (.int .i64 0), 1, 8) := by kernel_rfl
theorem cut_cap {P : Program} (t e : TypeId) {i : TypeInfo} (ht : P.underlying t = some (.slice e)) (hi : P.info? e = some i) (A : Option Addr) (n c m : Nat) (hm : m ≤ c) :
    ∀ W : World, (Instr.slice t (.slice A n c) none (some (.int .i64 (m : Int))) none).run P W = .ok (.slice A m c) W := by
  intro W
  have hel : P.elem t = e := by simp [Program.elem, ht]
  have hu : P.underlying t = some (.slice (P.elem t)) := by rw [hel]; exact ht
  have ha : (A.map fun x => x.add 0) = A := by cases A <;> simp [Addr.add]
  rw [run_slice_h W t A n c hu .i64 (m : Int) (by omega) (by omega), hel]
  simp [sizeOf, typeInfo, hi, sliced, Result.andThen, ha]
theorem C_frontI {w : World} {A : Option Addr} {xs ys : List Int} (h : Kd.C (Kd.int .i64) w A (xs ++ ys).length (xs ++ ys)) : Kd.C (Kd.int .i64) w A xs.length xs := by
  obtain ⟨h1, h2, h3⟩ := h
  rw [List.length_append] at h2
  refine ⟨rfl, by omega, fun hp => ?_⟩
  obtain ⟨ad, e, hc⟩ := h3 (by rw [List.length_append]; omega)
  refine ⟨ad, e, fun j p hj => hc j p ?_⟩
  rw [List.getElem?_append_left (List.getElem?_eq_some_iff.1 hj).1]
  exact hj
def half (zs : List Int) : List Int := zs.map (fun z => z.tdiv 2)
theorem half_len (zs : List Int) : (half zs).length = zs.length := List.length_map _
theorem half_at {zs : List Int} {k : Nat} (hk : k < zs.length) : (half zs).take (k + 1) = (half zs).take k ++ [zs[k].tdiv 2] := by
  rw [List.take_succ_eq_append_getElem (by rw [half_len]; exact hk)]
  congr 1
  unfold half
  rw [List.getElem_map]
/-- What the list is, so far written over. -/
def mixed (zs : List Int) (k : Nat) : List Int := ((half zs).take k ++ zs.drop k) ++ [77]
theorem mixed_len {zs : List Int} {k : Nat} (h : k ≤ zs.length) : (mixed zs k).length = zs.length + 1 := by
  unfold mixed
  rw [List.length_append, List.length_append, List.length_take, List.length_drop, half_len, Nat.min_eq_left h]
  simp only [List.length_cons, List.length_nil]
  omega
theorem mixed_zero (zs : List Int) : mixed zs 0 = zs ++ [77] := rfl
theorem mixed_all (zs : List Int) : mixed zs zs.length = half zs ++ [77] := by
  unfold mixed
  rw [List.drop_length, List.append_nil, List.take_of_length_le (by rw [half_len]; omega)]
theorem mixed_set {zs : List Int} {k : Nat} (hk : k < zs.length) : (mixed zs k).set k (zs[k].tdiv 2) = mixed zs (k + 1) := by
  unfold mixed
  rw [half_at hk, List.drop_eq_getElem_cons hk]
  have hl : ((half zs).take k).length = k := by rw [List.length_take, half_len]; omega
  rw [List.append_assoc, List.set_append_right _ _ (by omega), hl, Nat.sub_self, List.cons_append, List.set_cons_zero, List.append_assoc, List.append_assoc]
  rfl
theorem wf_tdiv {z : Int} (h1 : -9223372036854775808 ≤ z) (h2 : z ≤ 9223372036854775807) : IntKind.i64.wrap (z.tdiv 2) = z.tdiv 2 := by
  have : -9223372036854775808 ≤ z.tdiv 2 ∧ z.tdiv 2 ≤ 9223372036854775807 := by
    rcases Int.lt_or_le z 0 with h | h
    · obtain ⟨n, hn⟩ := Int.eq_ofNat_of_zero_le (show 0 ≤ -z by omega)
      rw [show z = -(n : Int) by omega, Int.neg_tdiv, Int.tdiv_eq_ediv_of_nonneg (by omega)]
      omega
    · rw [Int.tdiv_eq_ediv_of_nonneg h]; omega
  exact Go.IntWalk.i64_in _ (by omega)

theorem blk_under {W w1 : World} {g : Nat} {o : Obj} (hb : Below W.heap.size W w1) (h : W.heap[g]? = some o) : w1.heap[g]? = some o := (hb.block g (blk_lt h)).trans h
theorem at_last {w : World} {base g cap : Nat} {ok : Nat → Prop} {xs : List Int} (h : (Kd.int .i64).R 3 w base ok (.slice (some ⟨g, 0, none⟩) (xs.length + 1) cap) (xs ++ [77])) : w.cell? ⟨g, xs.length, none⟩ = some (.int .i64 77) ∧ w.frozen? ⟨g, xs.length, none⟩ = false := by
  have hl : (xs ++ [77]).length = xs.length + 1 := by simp
  rw [← hl] at h
  obtain ⟨h1, h2⟩ := Kd.R_cell (0 : Int) h (xs.length : Int) (by omega) (by rw [hl]; omega)
  rw [Int.toNat_natCast] at h1 h2
  refine ⟨h1.trans ?_, h2⟩
  have : rdOf (0 : Int) (xs ++ [77]) (xs.length : Int) = 77 := by
    unfold rdOf
    rw [Int.toNat_natCast, List.getD_eq_getElem?_getD, List.getElem?_append_right (Nat.le_refl _), Nat.sub_self]
    rfl
  rw [this]
section
variable {P : Program} {ops : Array Oper} {Q : Exit → Act → World → Prop} {o : Oper} {rest : List Oper} {a : Act} {w : World}
theorem gate_store {ty : TypeId} {x y : Operand} (_ho : o.op = .store ty x y) (h : wpList P ops Q (o :: rest) a w) : wpList P ops Q (o :: rest) a w := h
end
theorem below_row {w W W' : World} {g : Nat} (h : Below w.heap.size w W) (hs : W'.heap.size = W.heap.size) (h1 : W'.os = W.os) (h2 : W'.tape = W.tape) (h3 : W'.output = W.output) (hg : w.heap.size ≤ g) (hf : ∀ k, k ≠ g → W'.heap[k]? = W.heap[k]?) : Below w.heap.size w W' :=
  h.trans ⟨h1, h2, h3, by omega, fun k hk => hf k (by omega)⟩
theorem set4 {w w' : World} {b : Nat} {T : TypeId} {c0 c1 c2 c3 v0 v1 v2 v3 : Value} (h : w.heap[b]? = some (.cells #[c0, c1, c2, c3] T (0, 0))) (e : ((((w).setCell ⟨b, 0, none⟩ v0).setCell ⟨b, 1, none⟩ v1).setCell ⟨b, 2, none⟩ v2).setCell ⟨b, 3, none⟩ v3 = w') :
    w'.heap[b]? = some (.cells #[v0, v1, v2, v3] T (0, 0)) ∧ (∀ k, k ≠ b → w'.heap[k]? = w.heap[k]?) ∧ w'.heap.size = w.heap.size ∧ w'.os = w.os ∧ w'.tape = w.tape ∧ w'.output = w.output := by
  subst e
  refine ⟨blk_set (blk_set (blk_set (blk_set (h) 0 v0) 1 v1) 2 v2) 3 v3, fun k hk => ?_, by simp [World.setCell], rfl, rfl, rfl⟩
  rw [Below.heap_setCell _ _ _ k hk]
  rw [Below.heap_setCell _ _ _ k hk]
  rw [Below.heap_setCell _ _ _ k hk]
  rw [Below.heap_setCell _ _ _ k hk]
theorem run_storeAt_row {P : Program} (w : World) (g : Nat) (t ty : TypeId) (old : Array Value) (l : List Value) (hg : w.heap[g]? = some (.cells old t (0, 0))) (hi : (P.info? ty).map (·.size) = some l.length) (ho : l.length = old.size) (h1 : l.all (·.oneCell') = true) :
    (Instr.storeAt ty (.pointer (some ⟨g, 0, none⟩)) (.agg l.toArray)).run P w = .ok () (w.setRow g l.toArray) := by
  simp only [Instr.storeAt, Instr.sureAddr, Sem.run_bind, Sem.run_pure, Result.andThen_ok, run_storeVar_row (P := P) w g t ty old l.toArray hg (by simpa using hi) (by simpa using ho.symm) (by simpa using h1)]
theorem all4c (k : FloatKind) (a0 b0 a1 b1 a2 b2 a3 b3 : Nat) : [Value.complex k a0 b0, .complex k a1 b1, .complex k a2 b2, .complex k a3 b3].all (·.oneCell') = true := by simp [Value.oneCell']
theorem all8f (k : FloatKind) (a0 b0 a1 b1 a2 b2 a3 b3 : Nat) : [Value.float k a0, .float k b0, .float k a1, .float k b1, .float k a2, .float k b2, .float k a3, .float k b3].all (·.oneCell') = true := by simp [Value.oneCell']
theorem wpList_store_list {P : Program} {ops : Array Oper} {Q : Exit → Act → World → Prop} {o : Oper} {rest : List Oper} {a : Act} {w : World} (hgd : o.guard = none) (ty : TypeId) (x y : Operand) (ho : o.op = .store ty x y) (g : Nat) (l : List Value)
    (hx : a.eval x = .pointer (some ⟨g, 0, none⟩)) (hy : a.eval y = .agg l.toArray) (t : TypeId) (old : Array Value) (hg : w.heap[g]? = some (.cells old t (0, 0))) (n : Nat) (hi : (P.info? ty).map (·.size) = some n) (hn : l.length = n) (hold : old.size = n) (h1 : l.all (·.oneCell') = true)
    (h : wpList P ops Q rest (a.put o.dst undef) (w.setRow g l.toArray)) : wpList P ops Q (o :: rest) a w :=
  wpList_store_row hgd ty x y ho g l.toArray hx hy t old hg (by simpa [hn] using hi) (by simpa [hn] using hold) (by simpa using h1) h
theorem row_facts {w w' : World} {b : Nat} {T : TypeId} {old cs : Array Value} (h : w.heap[b]? = some (.cells old T (0, 0))) (e : w.setRow b cs = w') :
    w'.heap[b]? = some (.cells cs T (0, 0)) ∧ (∀ k, k ≠ b → w'.heap[k]? = w.heap[k]?) ∧ w'.heap.size = w.heap.size ∧ w'.os = w.os ∧ w'.tape = w.tape ∧ w'.output = w.output := by
  subst e
  exact ⟨setRow_heap w b old cs T (0, 0) h, fun k hk => setRow_other w b k cs hk, setRow_size w b cs, rfl, rfl, rfl⟩
theorem infoP : (Try.prog.info? 38).map (·.size) = some 4 := by kernel_rfl
theorem infoQ : (Try.prog.info? 41).map (·.size) = some 8 := by kernel_rfl
theorem set_os (w : World) (p : Addr) (u : Value) : (w.setCell p u).os = w.os := rfl
theorem set_tape (w : World) (p : Addr) (u : Value) : (w.setCell p u).tape = w.tape := rfl
theorem set_output (w : World) (p : Addr) (u : Value) : (w.setCell p u).output = w.output := rfl
theorem size_set (w : World) (p : Addr) (u : Value) : (w.setCell p u).heap.size = w.heap.size := by simp [World.setCell]
theorem set8 {w w' : World} {b : Nat} {T : TypeId} {c0 c1 c2 c3 c4 c5 c6 c7 v0 v1 v2 v3 v4 v5 v6 v7 : Value} (h : w.heap[b]? = some (.cells #[c0, c1, c2, c3, c4, c5, c6, c7] T (0, 0))) (e : ((((((((w).setCell ⟨b, 0, none⟩ v0).setCell ⟨b, 1, none⟩ v1).setCell ⟨b, 2, none⟩ v2).setCell ⟨b, 3, none⟩ v3).setCell ⟨b, 4, none⟩ v4).setCell ⟨b, 5, none⟩ v5).setCell ⟨b, 6, none⟩ v6).setCell ⟨b, 7, none⟩ v7 = w') :
    w'.heap[b]? = some (.cells #[v0, v1, v2, v3, v4, v5, v6, v7] T (0, 0)) ∧ (∀ k, k ≠ b → w'.heap[k]? = w.heap[k]?) ∧ w'.heap.size = w.heap.size ∧ w'.os = w.os ∧ w'.tape = w.tape ∧ w'.output = w.output := by
  subst e
  have h1 : ((w).setCell ⟨b, 0, none⟩ v0).heap[b]? = some (.cells #[v0, c1, c2, c3, c4, c5, c6, c7] T (0, 0)) := by
    have h' := blk_set h 0 v0
    simp only [List.setIfInBounds_toArray, List.set_cons_succ, List.set_cons_zero] at h'
    exact h'
  have h2 : (((w).setCell ⟨b, 0, none⟩ v0).setCell ⟨b, 1, none⟩ v1).heap[b]? = some (.cells #[v0, v1, c2, c3, c4, c5, c6, c7] T (0, 0)) := by
    have h' := blk_set h1 1 v1
    simp only [List.setIfInBounds_toArray, List.set_cons_succ, List.set_cons_zero] at h'
    exact h'
  have h3 : ((((w).setCell ⟨b, 0, none⟩ v0).setCell ⟨b, 1, none⟩ v1).setCell ⟨b, 2, none⟩ v2).heap[b]? = some (.cells #[v0, v1, v2, c3, c4, c5, c6, c7] T (0, 0)) := by
    have h' := blk_set h2 2 v2
    simp only [List.setIfInBounds_toArray, List.set_cons_succ, List.set_cons_zero] at h'
    exact h'
  have h4 : (((((w).setCell ⟨b, 0, none⟩ v0).setCell ⟨b, 1, none⟩ v1).setCell ⟨b, 2, none⟩ v2).setCell ⟨b, 3, none⟩ v3).heap[b]? = some (.cells #[v0, v1, v2, v3, c4, c5, c6, c7] T (0, 0)) := by
    have h' := blk_set h3 3 v3
    simp only [List.setIfInBounds_toArray, List.set_cons_succ, List.set_cons_zero] at h'
    exact h'
  have h5 : ((((((w).setCell ⟨b, 0, none⟩ v0).setCell ⟨b, 1, none⟩ v1).setCell ⟨b, 2, none⟩ v2).setCell ⟨b, 3, none⟩ v3).setCell ⟨b, 4, none⟩ v4).heap[b]? = some (.cells #[v0, v1, v2, v3, v4, c5, c6, c7] T (0, 0)) := by
    have h' := blk_set h4 4 v4
    simp only [List.setIfInBounds_toArray, List.set_cons_succ, List.set_cons_zero] at h'
    exact h'
  have h6 : (((((((w).setCell ⟨b, 0, none⟩ v0).setCell ⟨b, 1, none⟩ v1).setCell ⟨b, 2, none⟩ v2).setCell ⟨b, 3, none⟩ v3).setCell ⟨b, 4, none⟩ v4).setCell ⟨b, 5, none⟩ v5).heap[b]? = some (.cells #[v0, v1, v2, v3, v4, v5, c6, c7] T (0, 0)) := by
    have h' := blk_set h5 5 v5
    simp only [List.setIfInBounds_toArray, List.set_cons_succ, List.set_cons_zero] at h'
    exact h'
  have h7 : ((((((((w).setCell ⟨b, 0, none⟩ v0).setCell ⟨b, 1, none⟩ v1).setCell ⟨b, 2, none⟩ v2).setCell ⟨b, 3, none⟩ v3).setCell ⟨b, 4, none⟩ v4).setCell ⟨b, 5, none⟩ v5).setCell ⟨b, 6, none⟩ v6).heap[b]? = some (.cells #[v0, v1, v2, v3, v4, v5, v6, c7] T (0, 0)) := by
    have h' := blk_set h6 6 v6
    simp only [List.setIfInBounds_toArray, List.set_cons_succ, List.set_cons_zero] at h'
    exact h'
  have h8 : (((((((((w).setCell ⟨b, 0, none⟩ v0).setCell ⟨b, 1, none⟩ v1).setCell ⟨b, 2, none⟩ v2).setCell ⟨b, 3, none⟩ v3).setCell ⟨b, 4, none⟩ v4).setCell ⟨b, 5, none⟩ v5).setCell ⟨b, 6, none⟩ v6).setCell ⟨b, 7, none⟩ v7).heap[b]? = some (.cells #[v0, v1, v2, v3, v4, v5, v6, v7] T (0, 0)) := by
    have h' := blk_set h7 7 v7
    simp only [List.setIfInBounds_toArray, List.set_cons_succ, List.set_cons_zero] at h'
    exact h'
  refine ⟨h8, fun k hk => ?_, by simp only [size_set], by simp only [set_os], by simp only [set_tape], by simp only [set_output]⟩
  rw [Below.heap_setCell _ _ _ k hk]
  rw [Below.heap_setCell _ _ _ k hk]
  rw [Below.heap_setCell _ _ _ k hk]
  rw [Below.heap_setCell _ _ _ k hk]
  rw [Below.heap_setCell _ _ _ k hk]
  rw [Below.heap_setCell _ _ _ k hk]
  rw [Below.heap_setCell _ _ _ k hk]
  rw [Below.heap_setCell _ _ _ k hk]
theorem smooth_len {zs : List Int} {wt : Nat} {l : List Nat} {e : Int} (h : smoothR zs wt = (l, e)) : l.length ≤ zs.length := by
  unfold smoothR at h
  split at h
  · split at h
    · obtain ⟨rfl, rfl⟩ := Prod.mk.inj h
      rw [smF_len]
      exact Nat.le_refl _
    · obtain ⟨rfl, rfl⟩ := Prod.mk.inj h
      exact Nat.zero_le _
  · obtain ⟨rfl, rfl⟩ := Prod.mk.inj h
    exact Nat.zero_le _

set_option maxRecDepth 100000 in
set_option maxHeartbeats 16000000 in
theorem reckons_true (A : Option Addr) (c : Nat) (zs : List Int) (wt : Nat) (hw : wt < 18446744073709551616) (w : World) (ha : Kd.C (Kd.int .i64) w A zs.length zs) (hc : zs.length ≤ c) (hg : zs.length * 8 ≤ 140737488351232) (hz : ∀ z ∈ zs, (Lit.int .i64 z).wf = true) :
    Calls Try.prog 8 #[.slice A zs.length c, .float .f64 wt] w fun e w' => e = .returned (.bool true) ∧ Below w.heap.size w w' := by
  have HA := Aside0.mk ha
  have HC := Aside0.mk hc
  have HZ := Aside0.mk hz
  have HW := Aside0.mk hw
  have hl : zs.length < 4611686018427387904 := by omega
  clear ha hc hz hw
  go_enter Try.func8, Try.ntmps8
  go_upto_region 3 with (first | ((with_reducible refine gate_builtin (b := .append) (xs := #[.tmp 23, .tmp 24]) rfl ?_); at_builtin; refine Kd.R_append_rows (Kd.int .i64) (Rr := (Kd.int .i64).K w) (w0 := w) w.heap.size rfl (.tmp 23) (.tmp 24) 48 3 (.int .i64 0) 8 rfl Try.underlying48 infoI rfl (by decide) (by omega) (.slice none 0 0) ([]) (zs) (A) ((zs).length) (c) (fun _ => True) (fun _ => False) ?aV ?aX ?aO ?aR ?aK (fun _ hk => hk.elim) (fun _ _ => trivial) ?aB ?aS ?aL ?_; (case aV => rfl); (case aX => rfl); (case aO => exact Kd.R_nil _ _ _ _ _); (case aR => exact HA.out); (case aK => exact fun x cs h => h); (case aB => exact Below.refl _ _); (case aS => exact Nat.le_refl _); (case aL => (first | omega | (simp; omega))); intro v1 w1 ho hb hgr hat; rw [List.nil_append] at ho; obtain ⟨A1, c1, rfl, hc1, hC1⟩ := Kd.R_reads ho; clear hC1; have R1 := Aside0.mk ho; have B1 := Aside0.mk hb; clear ho hb hgr hat))
  go_upto_region 4 with (first | ((with_reducible refine gate_builtin (b := .append) (xs := #[.tmp 26, .tmp 27]) rfl ?_); at_builtin; refine Kd.R_append (Kd.int .i64) (w0 := w) w.heap.size rfl (.tmp 26) (.tmp 27) 48 3 (.int .i64 0) 8 rfl Try.underlying48 infoI rfl (by decide) (by omega) (.slice A1 zs.length c1) (zs) ((77 : Int)) ([.int .i64 77]) (fun _ => True) (fun _ => False) ?aV ?aX ?aP (fun _ hk => hk.elim) (fun _ _ => trivial) ?aO ?aB ?aS ?aL ?_; (case aV => rfl); (case aX => rfl); (case aP => exact rfl); (case aO => exact R1.out); (case aB => exact B1.out); (case aS => exact B1.out.size); (case aL => omega); intro v2 w2 ho hb hgr hat; have R2 := Aside0.mk ho; have B2 := Aside0.mk hb; clear ho hb hgr hat))
  obtain ⟨g, cap, rfl, hg1, hg2, cells, hcells⟩ := Kd.R_form R2.out (by rw [List.length_append]; simp)
  clear hcells
  have hln : (zs ++ [77]).length = zs.length + 1 := by simp
  have hcap : zs.length + 1 ≤ cap := by have := (Kd.R_reads' R2.out).2.1; omega
  have OW2 := Aside0.mk (C_frontI (Kd.R_reads' R2.out).2.2)
  rw [hln] at R2
  obtain ⟨i3, hi3, _⟩ := info_parts infoI
  have hcut := cut_cap (P := Try.prog) 48 3 Try.underlying48 hi3 (some ⟨g, 0, none⟩) (zs.length + 1) cap zs.length (by omega)
  rw [hln]
  go_upto_region 5 with fail
  have SV := Aside0.mk (show statsV zs = .tuple #[.float .f64 (statsR zs).1, .float .f64 (statsR zs).2.1, .int .i64 (statsR zs).2.2] from rfl)
  have S1 := Aside0.mk (stats_calls (some ⟨g, 0, none⟩) cap zs w2 OW2.out (by omega) hl)
  have S2 := Aside0.mk (refstats_calls A c zs w2 (Kd.C_below HA.out B2.out) HC.out hl)
  rw [SV.out] at S1 S2
  generalize statsR zs = SR at *
  obtain ⟨sr1, sr2, sr3⟩ := SR
  simp only at S1 S2
  go_upto_region 6 with (first | (go_at_call 27; refine (S1.out).mono ?_; rintro e w3 ⟨rfl, rfl⟩))
  go_upto_region 7 with (first | (go_at_call 28; refine (S2.out).mono ?_; rintro e w3 ⟨rfl, rfl⟩))
  clear S1 S2 SV
  have M1 := Aside0.mk (smooth_calls (some ⟨g, 0, none⟩) cap zs wt HW.out w2 OW2.out (by omega) hl)
  have M2 := Aside0.mk (fun w' (hb : Below w.heap.size w w') => refsmooth_calls A c zs wt HW.out w' (Kd.C_below HA.out hb) HC.out hl)
  unfold SmPost at M1 M2
  generalize hSM : smoothR zs wt = SM at *
  obtain ⟨sm, sme⟩ := SM
  have hsm : sm.length ≤ zs.length := smooth_len hSM
  clear hSM
  simp only at M1 M2
  go_upto_region 8 with (first | (go_at_call 29; refine (M1.out).mono ?_; rintro e w3 ⟨v3, rfl, hr3, hb3⟩; obtain ⟨A3, c3, rfl, hc3, hC3⟩ := Kd.R_reads hr3; have C3 := Aside0.mk hC3; have B3 := Aside0.mk hb3; clear hr3 hb3 hC3))
  have BW3 := Aside0.mk (below_then B2.out B2.out.size B3.out)
  have M3 := Aside0.mk (M2.out w3 BW3.out)
  go_upto_region 9 with (first | (go_at_call 30; refine (M3.out).mono ?_; rintro e w4 ⟨v4, rfl, hr4, hb4⟩; obtain ⟨A4, c4, rfl, hc4, hC4⟩ := Kd.R_reads hr4; have C4 := Aside0.mk hC4; have B4 := Aside0.mk hb4; clear hr4 hb4 hC4))
  clear M1 M2 M3
  have BW4 := Aside0.mk (below_then BW3.out BW3.out.size B4.out)
  have OW4 := Aside0.mk (Kd.C_below (Kd.C_below OW2.out B3.out) B4.out)
  have K1 := Aside0.mk (quarters_calls (some ⟨g, 0, none⟩) cap zs w4 OW4.out (by omega) hl)
  have QV := Aside0.mk (show quV zs = .tuple #[.agg #[.complex .f64 (quA zs 0) (quB zs 0), .complex .f64 (quA zs 1) (quB zs 1), .complex .f64 (quA zs 2) (quB zs 2), .complex .f64 (quA zs 3) (quB zs 3)], .int .i64 (faultF zs)] from rfl)
  rw [QV.out] at K1
  go_upto_region 10 with (first | (go_at_call 31; refine (K1.out).mono ?_; rintro e w5 ⟨rfl, hb5⟩; have B5 := Aside0.mk hb5; clear hb5))
  clear K1 QV
  have BW5 := Aside0.mk (below_then BW4.out BW4.out.size B5.out)
  have hgw : w.heap.size ≤ w5.heap.size := BW5.out.size
  have K2 := Aside0.mk (refquarters_calls A c zs (w5.alloc (.cells #[.complex .f64 (quA zs 0) (quB zs 0), .complex .f64 (quA zs 1) (quB zs 1), .complex .f64 (quA zs 2) (quB zs 2), .complex .f64 (quA zs 3) (quB zs 3)] 38 (0, 0))) (Kd.C_below HA.out (below_alloc BW5.out _)) HC.out hl)
  have QV := Aside0.mk (show requV zs = .tuple #[.agg #[.float .f64 (quA zs 0), .float .f64 (quB zs 0), .float .f64 (quA zs 1), .float .f64 (quB zs 1), .float .f64 (quA zs 2), .float .f64 (quB zs 2), .float .f64 (quA zs 3), .float .f64 (quB zs 3)], .int .i64 (faultF zs)] from rfl)
  rw [QV.out] at K2
  go_upto_region 11 with (first | (go_at_call 32; refine (K2.out).mono ?_; rintro e w6 ⟨rfl, hb6⟩; have B6 := Aside0.mk hb6; clear hb6))
  clear K2 QV
  generalize faultF zs = fz at *
  have BP6 := Aside0.mk (blk_under B6.out (heap_alloc_new w5 (.cells #[.complex .f64 (quA zs 0) (quB zs 0), .complex .f64 (quA zs 1) (quB zs 1), .complex .f64 (quA zs 2) (quB zs 2), .complex .f64 (quA zs 3) (quB zs 3)] 38 (0, 0))))
  have BW6 := Aside0.mk (below_then (below_alloc BW5.out (.cells #[.complex .f64 (quA zs 0) (quB zs 0), .complex .f64 (quA zs 1) (quB zs 1), .complex .f64 (quA zs 2) (quB zs 2), .complex .f64 (quA zs 3) (quB zs 3)] 38 (0, 0))) (below_alloc BW5.out _).size B6.out)
  have hs56 : w5.heap.size < w6.heap.size := by have := B6.out.size; rw [World.size_alloc] at this; omega
  have BW := Aside0.mk (below_alloc BW6.out (.cells #[.float .f64 (quA zs 0), .float .f64 (quB zs 0), .float .f64 (quA zs 1), .float .f64 (quB zs 1), .float .f64 (quA zs 2), .float .f64 (quB zs 2), .float .f64 (quA zs 3), .float .f64 (quB zs 3)] 41 (0, 0)))
  have C3' := Aside0.mk (Kd.C_below (Kd.C_below (Kd.C_below (Kd.C_below (Kd.C_below C3.out B4.out) B5.out) (below_alloc (Below.refl _ _) (.cells #[.complex .f64 (quA zs 0) (quB zs 0), .complex .f64 (quA zs 1) (quB zs 1), .complex .f64 (quA zs 2) (quB zs 2), .complex .f64 (quA zs 3) (quB zs 3)] 38 (0, 0)))) B6.out) (below_alloc (Below.refl _ _) (.cells #[.float .f64 (quA zs 0), .float .f64 (quB zs 0), .float .f64 (quA zs 1), .float .f64 (quB zs 1), .float .f64 (quA zs 2), .float .f64 (quB zs 2), .float .f64 (quA zs 3), .float .f64 (quB zs 3)] 41 (0, 0))))
  have C4' := Aside0.mk (Kd.C_below (Kd.C_below (Kd.C_below (Kd.C_below C4.out B5.out) (below_alloc (Below.refl _ _) (.cells #[.complex .f64 (quA zs 0) (quB zs 0), .complex .f64 (quA zs 1) (quB zs 1), .complex .f64 (quA zs 2) (quB zs 2), .complex .f64 (quA zs 3) (quB zs 3)] 38 (0, 0)))) B6.out) (below_alloc (Below.refl _ _) (.cells #[.float .f64 (quA zs 0), .float .f64 (quB zs 0), .float .f64 (quA zs 1), .float .f64 (quB zs 1), .float .f64 (quA zs 2), .float .f64 (quB zs 2), .float .f64 (quA zs 3), .float .f64 (quB zs 3)] 41 (0, 0))))
  have R6 := Aside0.mk (Kd.R_below (Kd.R_below (Kd.R_below (Kd.R_below (Kd.R_below (Kd.R_below R2.out B3.out) B4.out) B5.out) (below_alloc (Below.refl _ _) (.cells #[.complex .f64 (quA zs 0) (quB zs 0), .complex .f64 (quA zs 1) (quB zs 1), .complex .f64 (quA zs 2) (quB zs 2), .complex .f64 (quA zs 3) (quB zs 3)] 38 (0, 0)))) B6.out) (below_alloc (Below.refl _ _) (.cells #[.float .f64 (quA zs 0), .float .f64 (quB zs 0), .float .f64 (quA zs 1), .float .f64 (quB zs 1), .float .f64 (quA zs 2), .float .f64 (quB zs 2), .float .f64 (quA zs 3), .float .f64 (quB zs 3)] 41 (0, 0))))
  have BQ := Aside0.mk (heap_alloc_new w6 (.cells #[.float .f64 (quA zs 0), .float .f64 (quB zs 0), .float .f64 (quA zs 1), .float .f64 (quB zs 1), .float .f64 (quA zs 2), .float .f64 (quB zs 2), .float .f64 (quA zs 3), .float .f64 (quB zs 3)] 41 (0, 0)))
  have BP := Aside0.mk (blk_under (below_alloc (Below.refl w6.heap.size w6) (.cells #[.float .f64 (quA zs 0), .float .f64 (quB zs 0), .float .f64 (quA zs 1), .float .f64 (quB zs 1), .float .f64 (quA zs 2), .float .f64 (quB zs 2), .float .f64 (quA zs 3), .float .f64 (quB zs 3)] 41 (0, 0))) BP6.out)
  have NB := Aside0.mk (numbers_calls A3 A4 c3 c4 sm _ C3'.out C4'.out hc3 hc4 (by omega))
  have hz7 : (w6.alloc (.cells #[.float .f64 (quA zs 0), .float .f64 (quB zs 0), .float .f64 (quA zs 1), .float .f64 (quB zs 1), .float .f64 (quA zs 2), .float .f64 (quB zs 2), .float .f64 (quA zs 3), .float .f64 (quB zs 3)] 41 (0, 0))).heap.size = w6.heap.size + 1 := World.size_alloc _ _
  clear C3 C4 OW4 BP6 C3' C4'
  go_wp2_with fail
  refine (number_same _ _).mono ?_
  rintro e wx ⟨rfl, rfl⟩
  go_wp2_with fail
  refine (number_same _ _).mono ?_
  rintro e wx ⟨rfl, rfl⟩
  go_wp2_with fail
  refine (NB.out).mono ?_
  rintro e w7 ⟨rfl, hb7⟩
  have R7 := Aside0.mk (Kd.R_below R6.out hb7)
  have BP7 := Aside0.mk (blk_under hb7 BP.out)
  have BQ7 := Aside0.mk (blk_under hb7 BQ.out)
  have BW7 := Aside0.mk (below_then BW.out BW.out.size hb7)
  have hs67 : w6.heap.size < w7.heap.size := by have := hb7.size; rw [hz7] at this; omega
  clear hb7 NB R6 BP BQ BW hz7 B6
  have cp0 : w7.cell? ⟨w5.heap.size, 0, none⟩ = some (.complex .f64 (quA zs 0) (quB zs 0)) := (blk_cell BP7.out 0).trans rfl
  have cp1 : w7.cell? ⟨w5.heap.size, 1, none⟩ = some (.complex .f64 (quA zs 1) (quB zs 1)) := (blk_cell BP7.out 1).trans rfl
  have cp2 : w7.cell? ⟨w5.heap.size, 2, none⟩ = some (.complex .f64 (quA zs 2) (quB zs 2)) := (blk_cell BP7.out 2).trans rfl
  have cp3 : w7.cell? ⟨w5.heap.size, 3, none⟩ = some (.complex .f64 (quA zs 3) (quB zs 3)) := (blk_cell BP7.out 3).trans rfl
  have cq0 : w7.cell? ⟨w6.heap.size, 0, none⟩ = some (.float .f64 (quA zs 0)) := (blk_cell BQ7.out 0).trans rfl
  have cq1 : w7.cell? ⟨w6.heap.size, 1, none⟩ = some (.float .f64 (quB zs 0)) := (blk_cell BQ7.out 1).trans rfl
  have cq2 : w7.cell? ⟨w6.heap.size, 2, none⟩ = some (.float .f64 (quA zs 1)) := (blk_cell BQ7.out 2).trans rfl
  have cq3 : w7.cell? ⟨w6.heap.size, 3, none⟩ = some (.float .f64 (quB zs 1)) := (blk_cell BQ7.out 3).trans rfl
  have cq4 : w7.cell? ⟨w6.heap.size, 4, none⟩ = some (.float .f64 (quA zs 2)) := (blk_cell BQ7.out 4).trans rfl
  have cq5 : w7.cell? ⟨w6.heap.size, 5, none⟩ = some (.float .f64 (quB zs 2)) := (blk_cell BQ7.out 5).trans rfl
  have cq6 : w7.cell? ⟨w6.heap.size, 6, none⟩ = some (.float .f64 (quA zs 3)) := (blk_cell BQ7.out 6).trans rfl
  have cq7 : w7.cell? ⟨w6.heap.size, 7, none⟩ = some (.float .f64 (quB zs 3)) := (blk_cell BQ7.out 7).trans rfl
  go_wp2_with fail
  refine (quart_calls (quA zs) (quB zs) (fun j => (qu_ok zs j).1) (fun j => (qu_ok zs j).2) _).mono ?_
  rintro e w8 ⟨rfl, hb8⟩
  clear cp0 cp1 cp2 cp3 cq0 cq1 cq2 cq3 cq4 cq5 cq6 cq7
  have R8 := Aside0.mk (Kd.R_below R7.out hb8)
  have BP8 := Aside0.mk (blk_under hb8 BP7.out)
  have BX8 := Aside0.mk (blk_under hb8 BQ7.out)
  have BW8 := Aside0.mk (below_then BW7.out BW7.out.size hb8)
  have hs68 : w6.heap.size < w8.heap.size := Nat.lt_of_lt_of_le hs67 hb8.size
  clear hb8 R7 BP7 BQ7
  have IC := Aside0.mk (ints_calls (some ⟨g, 0, none⟩) A cap c zs w8 (C_frontI (show Kd.C (Kd.int .i64) w8 (some ⟨g, 0, none⟩) (zs ++ [77]).length (zs ++ [77]) from (Kd.R_reads' R8.out).2.2)) (Kd.C_below HA.out BW8.out) (by omega) HC.out hl)
  go_wp2_with fail
  refine (IC.out).mono ?_
  rintro e w9 ⟨rfl, hb9⟩
  have R9 := Aside0.mk (Kd.R_below R8.out hb9)
  have BP9 := Aside0.mk (blk_under hb9 BP8.out)
  have BQ9 := Aside0.mk (blk_under hb9 BX8.out)
  have BW9 := Aside0.mk (below_then BW8.out BW8.out.size hb9)
  have hs69 : w6.heap.size < w9.heap.size := Nat.lt_of_lt_of_le hs68 hb9.size
  clear hb9 IC R8 BP8 BX8 BW8
  obtain ⟨c77, _⟩ := at_last R9.out
  have i0 : (0 : Int) ≤ (zs.length : Int) := by omega
  have i1 : (zs.length : Int) < ((zs.length + 1 : Nat) : Int) := by omega
  go_wp2_with fail
  clear c77 i0 i1
  have hgg : g < w9.heap.size := Kd.R_lt R9.out g rfl
  have R9' := Aside0.mk (Kd.R_mono (Kd.R_tight rfl R9.out) (ok' := fun b => b = g) (fun b hb => by simpa [Value.ownBlock] using hb))
  clear R9
  have BW9s := Aside0.mk BW9.out.size
  have hg5 := Aside0.mk (show g < w5.heap.size by have := Kd.R_lt R2.out g rfl; have h1 := B3.out.size; have h2 := B4.out.size; have h3 := B5.out.size; omega)
  go_loopw [21, 22] (fun v21 v22 wr => ∃ k : Nat, k ≤ zs.length ∧ v22 = .int .i64 k ∧ Aside0 ((Kd.int .i64).R 3 wr w9.heap.size (fun b => w9.heap.size ≤ b) v21 ((half zs).take k)) ∧ Aside0 ((Kd.int .i64).R 3 wr w.heap.size (fun b => b = g) (.slice (some ⟨g, 0, none⟩) (zs.length + 1) cap) (mixed zs k)) ∧ Aside0 (Below w.heap.size w wr) ∧ Aside0 (w9.heap.size ≤ wr.heap.size) ∧ Aside0 (wr.heap[w5.heap.size]? = some (.cells #[.complex .f64 (quA zs 0) (quB zs 0), .complex .f64 (quA zs 1) (quB zs 1), .complex .f64 (quA zs 2) (quB zs 2), .complex .f64 (quA zs 3) (quB zs 3)] 38 (0, 0))) ∧ Aside0 (wr.heap[w6.heap.size]? = some (.cells #[.float .f64 (quA zs 0), .float .f64 (quB zs 0), .float .f64 (quA zs 1), .float .f64 (quB zs 1), .float .f64 (quA zs 2), .float .f64 (quB zs 2), .float .f64 (quA zs 3), .float .f64 (quB zs 3)] 41 (0, 0)))) (fun _ v22 _ => zs.length - (intOf v22).toNat)
  case atStart => exact ⟨0, Nat.zero_le _, rfl, ⟨Kd.R_nil _ _ _ _ _⟩, R9', BW9, ⟨Nat.le_refl _⟩, BP9, BQ9⟩
  case round =>
    clear R9' BW9 BP9 BQ9
    obtain ⟨k, hk, rfl, RT, RO, BWk, GE, BPk, BQk⟩ := hrel
    by_cases hlt : k < zs.length
    · as_aux_lemma =>
      obtain ⟨ad, eA, hcA⟩ := at_num (Kd.C_below HA.out BWk.out) k hlt
      obtain ⟨z1, z2⟩ := bounds_i64 (HZ.out zs[k] (List.getElem_mem hlt))
      have HT := Aside0.mk (half_at hlt)
      have HM := Aside0.mk (mixed_set hlt)
      have hml := mixed_len (zs := zs) (k := k) (by omega)
      have htl : ((half zs).take k).length = k := by rw [List.length_take, half_len]; omega
      have HM1 := Aside0.mk (Kd.R_cell (0 : Int) (show (Kd.int .i64).R 3 wr w.heap.size (fun b => b = g) (.slice (some ⟨g, 0, none⟩) (mixed zs k).length cap) (mixed zs k) by rw [hml]; exact RO.out) (k : Int) (by omega) (by omega))
      generalize zs[k] = z at *
      subst eA
      have i0 : (0 : Int) ≤ (k : Int) := by omega
      have i1 : (k : Int) < (zs.length : Int) := by omega
      have hwr := wf_tdiv z1 z2
      go_upto_region 18 with (first | ((with_reducible refine gate_builtin (b := .append) (xs := #[.tmp 124, .tmp 130]) rfl ?_); at_builtin; refine Kd.R_append (Kd.int .i64) (w0 := wr) w9.heap.size rfl (.tmp 124) (.tmp 130) 48 3 (.int .i64 0) 8 rfl Try.underlying48 infoI rfl (by decide) (by omega) (u21) ((half zs).take k) (z.tdiv 2) ([.int .i64 (z.tdiv 2)]) (fun b => w9.heap.size ≤ b) (fun _ => False) ?aV ?aX ?aP (fun _ hk => hk.elim) (fun b hb => Nat.le_trans GE.out hb) ?aO ?aB ?aS ?aL ?_; (case aV => rfl); (case aX => rfl); (case aP => exact rfl); (case aO => exact RT.out); (case aB => exact Below.refl _ _); (case aS => exact GE.out); (case aL => omega); intro v10 w10 ho hb hgr hat; have R10 := Aside0.mk ho; have B10 := Aside0.mk hb; clear ho hb hgr hat))
      generalize z.tdiv 2 = h at *
      clear hwr
      rw [← HT.out] at R10
      have htl2 : ((half zs).take (k + 1)).length = k + 1 := by rw [List.length_take, half_len]; omega
      have htk : ((half zs).take (k + 1))[k]? = some h := by rw [HT.out, List.getElem?_append_right (by omega), htl, Nat.sub_self]; rfl
      obtain ⟨A10, c10, rfl, hc10, hC10⟩ := Kd.R_reads R10.out
      have hk2 : k < ((half zs).take (k + 1)).length := by omega
      obtain ⟨bd, eB, hcB⟩ := at_num hC10 k hk2
      rw [show ((half zs).take (k + 1))[k]'hk2 = h from Option.some.inj ((List.getElem?_eq_getElem hk2).symm.trans htk)] at hcB
      subst eB
      have HL := Aside0.mk htl2
      clear htl2 htk hC10
      have RO10 := Aside0.mk (Kd.R_step RO.out (fun b hb _ => B10.out.block b (by rw [hb]; exact hgg)))
      have hm2 := mixed_len (zs := zs) (k := k) (by omega)
      have RO10' : (Kd.int .i64).R 3 w10 w.heap.size (fun b => b = g) (.slice (some ⟨g, 0, none⟩) (mixed zs k).length cap) (mixed zs k) := by rw [hm2]; exact RO10.out
      obtain ⟨co, fo⟩ := Kd.R_cell (0 : Int) RO10' (k : Int) (by omega) (by omega)
      obtain ⟨po, pg⟩ := Kd.R_put RO10' (k : Int) h
      rw [Int.toNat_natCast] at co fo po pg
      rw [HM.out] at po
      rw [hm2] at po
      have PO := Aside0.mk po
      have RTN := Aside0.mk (Kd.R_step (w1 := w10.setCell ⟨g, k, none⟩ (.int .i64 h)) R10.out (fun b hb _ => Below.heap_setCell w10 _ _ b (by show b ≠ g; omega)))
      have BWN := Aside0.mk ((BWk.out.trans (B10.out.mono BW9s.out)).setCell (p := ⟨g, k, none⟩) hg1 (.int .i64 h))
      have GEN := Aside0.mk (show w9.heap.size ≤ (w10.setCell ⟨g, k, none⟩ (.int .i64 h)).heap.size by rw [size_set]; exact Nat.le_trans GE.out B10.out.size)
      have BPN := Aside0.mk ((Below.heap_setCell w10 ⟨g, k, none⟩ (.int .i64 h) w5.heap.size (show w5.heap.size ≠ g by have := hg5.out; omega)).trans ((B10.out.block _ (by omega)).trans BPk.out))
      have BQN := Aside0.mk ((Below.heap_setCell w10 ⟨g, k, none⟩ (.int .i64 h) w6.heap.size (show w6.heap.size ≠ g by have := hg5.out; omega)).trans ((B10.out.block _ (by omega)).trans BQk.out))
      have hco : ∃ x, w10.cell? ⟨g, k, none⟩ = some x := ⟨_, co⟩
      obtain ⟨x0, hx0⟩ := hco
      generalize hL10 : (half zs).take (k + 1) = L10 at *
      have i2 : (k : Int) < (L10.length : Int) := by rw [HL.out]; omega
      have HL10 := Aside0.mk hL10
      clear po pg co RO10' RO10 hm2 hL10 hk2 HM1 hml
      go_wp2_with fail
      go_roundw
      case rel => exact ⟨k + 1, by omega, by go_num, ⟨by rw [HL10.out]; exact RTN.out⟩, PO, BWN, GEN, BPN, BQN⟩
      case measure => simp [intOf]; omega
    · as_aux_lemma =>
      obtain rfl : k = zs.length := by omega
      have hth : (half zs).take zs.length = half zs := List.take_of_length_le (by rw [half_len]; omega)
      have hhl := half_len zs
      rw [hth] at RT
      rw [mixed_all] at RO
      have hlh : (half zs).length < 4611686018427387904 := by omega
      rw [← hhl] at RO
      clear hth
      obtain ⟨A21, c21, rfl, hc21, hC21⟩ := Kd.R_reads RT.out
      have T0 := Aside0.mk hC21
      have O0 := Aside0.mk (C_frontI (show Kd.C (Kd.int .i64) wr (some ⟨g, 0, none⟩) (half zs ++ [77]).length (half zs ++ [77]) from (Kd.R_reads' RO.out).2.2))
      clear hC21
      have hch : (half zs).length ≤ cap := by omega
      have SV := Aside0.mk (show statsV (half zs) = .tuple #[.float .f64 (statsR (half zs)).1, .float .f64 (statsR (half zs)).2.1, .int .i64 (statsR (half zs)).2.2] from rfl)
      have S1 := Aside0.mk (stats_calls (some ⟨g, 0, none⟩) cap (half zs) wr O0.out hch hlh)
      have S2 := Aside0.mk (refstats_calls A21 c21 (half zs) wr T0.out hc21 hlh)
      rw [SV.out] at S1 S2
      generalize statsR (half zs) = SR at *
      obtain ⟨tr1, tr2, tr3⟩ := SR
      simp only at S1 S2
      rw [hhl] at S1
      have M1 := Aside0.mk (smooth_calls (some ⟨g, 0, none⟩) cap (half zs) wt HW.out wr O0.out hch hlh)
      have M2 := Aside0.mk (fun w' (hb : Below wr.heap.size wr w') => refsmooth_calls A21 c21 (half zs) wt HW.out w' (Kd.C_below T0.out hb) hc21 hlh)
      unfold SmPost at M1 M2
      generalize hSM2 : smoothR (half zs) wt = SM2 at *
      obtain ⟨tm, tme⟩ := SM2
      have htm : tm.length ≤ (half zs).length := smooth_len hSM2
      clear hSM2
      simp only at M1 M2
      rw [hhl] at M1
      have HHL := Aside0.mk hhl
      clear hhl
      go_wp2_with fail
      refine (S1.out).mono ?_
      rintro e wx ⟨rfl, rfl⟩
      go_wp2_with fail
      refine (S2.out).mono ?_
      rintro e wx ⟨rfl, rfl⟩
      clear S1 S2 SV
      go_wp2_with fail
      refine (M1.out).mono ?_
      rintro e w11 ⟨v11, rfl, hr11, hb11⟩
      obtain ⟨A11, c11, rfl, hc11, hC11⟩ := Kd.R_reads hr11
      have B11 := Aside0.mk hb11
      have R11 := Aside0.mk (Kd.R_mono (Kd.R_bound hr11) (ok' := fun b => wr.heap.size ≤ b) (fun b h => h.2.1))
      clear hr11 hb11 hC11
      have M3 := Aside0.mk (M2.out w11 B11.out)
      go_wp2_with fail
      refine (M3.out).mono ?_
      rintro e w12 ⟨v12, rfl, hr12, hb12⟩
      obtain ⟨A12, c12, rfl, hc12, hC12⟩ := Kd.R_reads hr12
      have B12 := Aside0.mk (below_then B11.out B11.out.size hb12)
      have R12 := Aside0.mk (Kd.R_mono (Kd.R_bound hr12) (ok' := fun b => wr.heap.size ≤ b) (fun b h => Nat.le_trans B11.out.size h.2.1))
      have R11' := Aside0.mk (Kd.R_below R11.out hb12)
      clear hr12 hb12 hC12 M1 M2 M3 R11
      have K1 := Aside0.mk (quarters_calls (some ⟨g, 0, none⟩) cap (half zs) w12 (Kd.C_below O0.out B12.out) hch hlh)
      have QV := Aside0.mk (show quV (half zs) = .tuple #[.agg #[.complex .f64 (quA (half zs) 0) (quB (half zs) 0), .complex .f64 (quA (half zs) 1) (quB (half zs) 1), .complex .f64 (quA (half zs) 2) (quB (half zs) 2), .complex .f64 (quA (half zs) 3) (quB (half zs) 3)], .int .i64 (faultF (half zs))] from rfl)
      rw [QV.out] at K1
      rw [HHL.out] at K1
      go_wp2_with fail
      refine (K1.out).mono ?_
      rintro e w13 ⟨rfl, hb13⟩
      have B13 := Aside0.mk (below_then B12.out B12.out.size hb13)
      have R11s := Aside0.mk (Kd.R_below R11'.out hb13)
      have R12s := Aside0.mk (Kd.R_below R12.out hb13)
      clear hb13 K1 QV R11' R12
      have BP13 := Aside0.mk (blk_under B13.out BPk.out)
      have BQ13 := Aside0.mk (blk_under B13.out BQk.out)
      have RT13 := Aside0.mk (Kd.R_below RT.out B13.out)
      have s5 : w5.heap.size < wr.heap.size := by have := GE.out; omega
      have s6 : w6.heap.size < wr.heap.size := by have := GE.out; omega
      have BW13 := Aside0.mk (below_then BWk.out BWk.out.size B13.out)
      have hw6 : w.heap.size ≤ w6.heap.size := Nat.le_trans hgw (Nat.le_of_lt hs56)
      have ne56 : w6.heap.size ≠ w5.heap.size := by omega
      go_wp2_with (first | (refine wpList_store_list rfl 38 (.tmp 17) (.tmp 166) rfl w5.heap.size [.complex .f64 (quA (half zs) 0) (quB (half zs) 0), .complex .f64 (quA (half zs) 1) (quB (half zs) 1), .complex .f64 (quA (half zs) 2) (quB (half zs) 2), .complex .f64 (quA (half zs) 3) (quB (half zs) 3)] (by rfl) (by rfl) 38 _ BP13.out 4 infoP rfl rfl (all4c _ _ _ _ _ _ _ _ _) ?_))
      generalize hw14 : w13.setRow w5.heap.size #[.complex .f64 (quA (half zs) 0) (quB (half zs) 0), .complex .f64 (quA (half zs) 1) (quB (half zs) 1), .complex .f64 (quA (half zs) 2) (quB (half zs) 2), .complex .f64 (quA (half zs) 3) (quB (half zs) 3)] = w14
      obtain ⟨bp14, far14, sz14, o14, t14, u14⟩ := row_facts BP13.out hw14
      have BP14 := Aside0.mk bp14
      have BQ14 := Aside0.mk ((far14 _ ne56).trans BQ13.out)
      have BW14 := Aside0.mk (below_row BW13.out sz14 o14 t14 u14 hgw far14)
      have RT14 := Aside0.mk (Kd.R_step RT13.out (fun b hb _ => far14 b (by omega)))
      have R11t := Aside0.mk (Kd.R_step R11s.out (fun b hb _ => far14 b (by omega)))
      have R12t := Aside0.mk (Kd.R_step R12s.out (fun b hb _ => far14 b (by omega)))
      have z14 := Aside0.mk (show wr.heap.size ≤ w14.heap.size by have := B13.out.size; omega)
      clear far14 R11s R12s RT13 BQ13 BP13 B12 B11 bp14 sz14 o14 t14 u14 hw14 B13 BW13
      have K2 := Aside0.mk (refquarters_calls A21 c21 (half zs) w14 (Kd.R_reads' RT14.out).2.2 hc21 hlh)
      have QV := Aside0.mk (show requV (half zs) = .tuple #[.agg #[.float .f64 (quA (half zs) 0), .float .f64 (quB (half zs) 0), .float .f64 (quA (half zs) 1), .float .f64 (quB (half zs) 1), .float .f64 (quA (half zs) 2), .float .f64 (quB (half zs) 2), .float .f64 (quA (half zs) 3), .float .f64 (quB (half zs) 3)], .int .i64 (faultF (half zs))] from rfl)
      rw [QV.out] at K2
      generalize faultF (half zs) = fh at *
      refine (K2.out).mono ?_
      rintro e w15 ⟨rfl, hb15⟩
      have BP15 := Aside0.mk (blk_under hb15 BP14.out)
      have BQ15 := Aside0.mk (blk_under hb15 BQ14.out)
      have BW15 := Aside0.mk (below_then BW14.out BW14.out.size hb15)
      have R11u := Aside0.mk (Kd.R_below R11t.out hb15)
      have R12u := Aside0.mk (Kd.R_below R12t.out hb15)
      have z15 := Aside0.mk (Nat.le_trans z14.out hb15.size)
      clear hb15 K2 QV BP14 BQ14 BW14 RT14 R11t R12t z14
      go_wp2_with (first | (refine wpList_store_list rfl 41 (.tmp 19) (.tmp 171) rfl w6.heap.size [.float .f64 (quA (half zs) 0), .float .f64 (quB (half zs) 0), .float .f64 (quA (half zs) 1), .float .f64 (quB (half zs) 1), .float .f64 (quA (half zs) 2), .float .f64 (quB (half zs) 2), .float .f64 (quA (half zs) 3), .float .f64 (quB (half zs) 3)] (by rfl) (by rfl) 41 _ BQ15.out 8 infoQ rfl rfl (all8f _ _ _ _ _ _ _ _ _) ?_))
      generalize hw16 : w15.setRow w6.heap.size #[.float .f64 (quA (half zs) 0), .float .f64 (quB (half zs) 0), .float .f64 (quA (half zs) 1), .float .f64 (quB (half zs) 1), .float .f64 (quA (half zs) 2), .float .f64 (quB (half zs) 2), .float .f64 (quA (half zs) 3), .float .f64 (quB (half zs) 3)] = w16
      obtain ⟨bq16, far16, sz16, o16, t16, u16⟩ := row_facts BQ15.out hw16
      have BQ16 := Aside0.mk bq16
      have BP16 := Aside0.mk ((far16 _ ne56.symm).trans BP15.out)
      have BW16 := Aside0.mk (below_row BW15.out sz16 o16 t16 u16 hw6 far16)
      have R11v := Aside0.mk (Kd.R_step R11u.out (fun b hb _ => far16 b (by omega)))
      have R12v := Aside0.mk (Kd.R_step R12u.out (fun b hb _ => far16 b (by omega)))
      clear far16 R11u R12u BP15 BQ15 BW15 bq16 sz16 o16 t16 u16 hw16
      have NB := Aside0.mk (numbers_calls A11 A12 c11 c12 tm w16 (Kd.R_reads' R11v.out).2.2 (Kd.R_reads' R12v.out).2.2 hc11 hc12 (by omega))
      go_wp2_with fail
      refine (number_same _ _).mono ?_
      rintro e wx ⟨rfl, rfl⟩
      go_wp2_with fail
      refine (number_same _ _).mono ?_
      rintro e wx ⟨rfl, rfl⟩
      go_wp2_with fail
      refine (NB.out).mono ?_
      rintro e w17 ⟨rfl, hb17⟩
      have BP17 := Aside0.mk (blk_under hb17 BP16.out)
      have BQ17 := Aside0.mk (blk_under hb17 BQ16.out)
      have BW17 := Aside0.mk (below_then BW16.out BW16.out.size hb17)
      clear hb17 NB BP16 BQ16 BW16 R11v R12v
      have cp0 : w17.cell? ⟨w5.heap.size, 0, none⟩ = some (.complex .f64 (quA (half zs) 0) (quB (half zs) 0)) := (blk_cell BP17.out 0).trans rfl
      have cp1 : w17.cell? ⟨w5.heap.size, 1, none⟩ = some (.complex .f64 (quA (half zs) 1) (quB (half zs) 1)) := (blk_cell BP17.out 1).trans rfl
      have cp2 : w17.cell? ⟨w5.heap.size, 2, none⟩ = some (.complex .f64 (quA (half zs) 2) (quB (half zs) 2)) := (blk_cell BP17.out 2).trans rfl
      have cp3 : w17.cell? ⟨w5.heap.size, 3, none⟩ = some (.complex .f64 (quA (half zs) 3) (quB (half zs) 3)) := (blk_cell BP17.out 3).trans rfl
      have cq0 : w17.cell? ⟨w6.heap.size, 0, none⟩ = some (.float .f64 (quA (half zs) 0)) := (blk_cell BQ17.out 0).trans rfl
      have cq1 : w17.cell? ⟨w6.heap.size, 1, none⟩ = some (.float .f64 (quB (half zs) 0)) := (blk_cell BQ17.out 1).trans rfl
      have cq2 : w17.cell? ⟨w6.heap.size, 2, none⟩ = some (.float .f64 (quA (half zs) 1)) := (blk_cell BQ17.out 2).trans rfl
      have cq3 : w17.cell? ⟨w6.heap.size, 3, none⟩ = some (.float .f64 (quB (half zs) 1)) := (blk_cell BQ17.out 3).trans rfl
      have cq4 : w17.cell? ⟨w6.heap.size, 4, none⟩ = some (.float .f64 (quA (half zs) 2)) := (blk_cell BQ17.out 4).trans rfl
      have cq5 : w17.cell? ⟨w6.heap.size, 5, none⟩ = some (.float .f64 (quB (half zs) 2)) := (blk_cell BQ17.out 5).trans rfl
      have cq6 : w17.cell? ⟨w6.heap.size, 6, none⟩ = some (.float .f64 (quA (half zs) 3)) := (blk_cell BQ17.out 6).trans rfl
      have cq7 : w17.cell? ⟨w6.heap.size, 7, none⟩ = some (.float .f64 (quB (half zs) 3)) := (blk_cell BQ17.out 7).trans rfl
      go_wp2_with fail
      refine (quart_calls (quA (half zs)) (quB (half zs)) (fun j => (qu_ok (half zs) j).1) (fun j => (qu_ok (half zs) j).2) _).mono ?_
      rintro e w18 ⟨rfl, hb18⟩
      have BW18 := Aside0.mk (below_then BW17.out BW17.out.size hb18)
      clear cp0 cp1 cp2 cp3 cq0 cq1 cq2 cq3 cq4 cq5 cq6 cq7
      go_wp2_with fail
      go_ret
      exact ⟨rfl, BW18.out⟩
theorem reckons_row (A : Option Addr) (c : Nat) (zs : List Int) (wt : Nat) (w : World) (ha : Kd.C (Kd.int .i64) w A zs.length zs) (hc : zs.length ≤ c) (hg : (∀ z ∈ zs, (Lit.int .i64 z).wf = true) ∧ zs.length * 8 ≤ 140737488351232 ∧ zs.length ≤ maxLen) (hw : wt < 18446744073709551616) :
    Calls Try.prog 8 #[.slice A zs.length c, .float .f64 wt] w fun e w' => e = .returned (.bool true) ∧ Below w.heap.size w w' :=
  reckons_true A c zs wt hw w ha hc hg.2.1 hg.1
end Go.Proofs.Ytoopoecopahcbaa.Fl
