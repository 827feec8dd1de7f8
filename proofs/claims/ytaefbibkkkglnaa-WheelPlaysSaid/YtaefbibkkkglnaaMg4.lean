/- Wheel's laws: walked. No condition. -/
import Derived.Test.YtaefbibkkkglnaaMg3
import Derived.OpenShut
namespace Go.Proofs.Ytaefbibkkkglnaa.Wh
open Go Go.RowKit Go.Shelf Go.Proofs.YtaefbibkkkglnaaW.PrintWords Go.Proofs.Ytaefbibkkkglnaa.Fr
set_option linter.unusedVariables false
set_option linter.unusedSimpArgs false
attribute [local go_sem] Oper.semAt_some
theorem infoT : (Try.prog.info? 46).map (fun i => (i.zero, i.size, i.bytes)) = some (some (.agg #[.string ⟨#[]⟩, .int .i64 0]), 2, 24) := by kernel_rfl
theorem cell_two_new (w : World) (x y : Value) (t : TypeId) : ∀ j u, [x, y][j]? = some u → (w.alloc (.cells #[x, y] t)).cell? ((⟨w.heap.size, 0, none⟩ : Addr).add j) = some u := by
  intro j u hj
  match j, hj with
  | 0, hj => simp at hj; subst hj; simp [Addr.add]
  | 1, hj => simp at hj; subst hj; simp [Addr.add]
  | n + 2, hj => simp at hj
theorem each_nn (b : Nat) (w : World) : (binOp BinOp.eql 40 (.func (.func 39) #[] #[.pointer (some ⟨b, 0, none⟩)]) .nilFunc).run Try.prog w = .ok (.bool false) w := by kernel_rfl
theorem box_kept {W w1 : World} {B B' t e : Nat} {u v : Value} {base size k : Nat} {xs : List Value} {o : Obj} (h3 : Boxed W B t u) (hte : t ≠ e) (hrow : W.ownsRow base e size v k xs) (hg : (W.alloc o).grownBy w1 v.ownBlock) (hne : B ≠ B') (x : Value) : Boxed (w1.setCell ⟨B', 0, none⟩ x) B t u :=
  Boxed.other ((h3.alloc o).kept hg ((h3.alloc o).not_row hte (hrow.alloc o))) hne x
theorem row_put {W w1 : World} {base B t e size k m : Nat} {v v' : Value} {xs ys : List Value} {o : Obj} (hv : Boxed W B t v) (hrow : W.ownsRow base e size v k xs) (hown : w1.ownsRow base e size v' m ys) (hg : (W.alloc o).grownBy w1 v.ownBlock) : t ≠ e → (w1.setCell ⟨B, 0, none⟩ v').ownsRow base e size v' m ys ∧ Only (fun b => b = B ∨ base ≤ b) W (w1.setCell ⟨B, 0, none⟩ v') := fun hte => by
  have hv1 : Boxed w1 B t v := (hv.alloc o).kept hg (hv.not_row hte hrow)
  refine ⟨hown.kept (grownBy_setCell' w1 B v') (.inr (hv1.not_row hte hown).symm), ?_⟩
  have o1 : Only (fun b => b = B ∨ base ≤ b) W (W.alloc o) := (Only.refl _ W).alloc o
  have o2 : Only (fun b => b = B ∨ base ≤ b) (W.alloc o) w1 := (Only.of_grown hg).mono (fun b _ hb => .inr (own_base hrow b hb.symm))
  exact (o1.trans o2).set (fun _ => .inl rfl) v'
theorem Only.of_grown' {S : Nat → Prop} {w w' : World} {r : Nat} (h : w.grownBy w' (some r)) (hr : S r) : Only S w w' := (Only.of_grown h).mono (fun k _ e => by cases e; exact hr)
set_option maxRecDepth 100000 in
set_option maxHeartbeats 2000000 in
theorem walked_main {w : World} {O : Nat → Prop} {p : Nat} {now : Int} {l : List E} (h : Whl w O p now l) (most : Int) (hm1 : 1 ≤ most) (hm2 : most ≤ 9223372036854775807) :
    CallsIn Fence.wide 6 Try.prog 20 #[.pointer (some ⟨p, 0, none⟩), .int .i64 most] w fun e w' =>
      ∃ v, e = .returned v ∧ w'.ownsRow w.heap.size 46 2 v (l.take most.toNat).length ((l.take most.toNat).flatMap encE) ∧ Below w.heap.size w w' := by
  obtain ⟨i0, hi, hz0, hz1, hz2⟩ := info_parts infoT
  have hw2 : Whl ((w.alloc (.cells #[.int .i64 most] 3 (0, 0))).alloc (.cells #[.slice none 0 0] 42 (0, 0))) O p now l := (h.below (below_alloc (Below.refl _ _) _)).below (below_alloc (Below.refl _ _) _)
  have hE := each_calls hw2
  have hfew := h.few
  have HE := Aside0.mk hE
  have e1 : decide (most < 1) = false := by simp; omega
  clear h hw2 hE
  refine callsIn_of_wp_marks Try.func20 rfl trivial ?_ rfl
  simp only [Try.ntmps20, List.size_toArray, List.length_cons, List.length_nil, Nat.reduceAdd, Nat.reduceSub, Array.replicate_succ, Array.replicate_zero, List.push_toArray, List.append_toArray, List.nil_append, List.cons_append]
  gi_wp2
  refine ⟨trivial, (callsIn_wide.2 HE.out).mono ?_⟩
  rintro e w3 ⟨A, c, rfl, hbox, hsz, hC, hB3⟩
  simp only [World.size_alloc] at hbox hsz hB3 ⊢
  have b3 : Boxed w3 w.heap.size 3 (.int .i64 most) := (hB3.block _ (by omega)).trans ((Boxed.new w 3 _).alloc _)
  have b5 : Boxed w3 (w.heap.size + 1) 42 (.slice none 0 0) := by
    have h := Boxed.new (w.alloc (.cells #[.int .i64 most] 3 (0, 0))) 42 (.slice none 0 0)
    rw [World.size_alloc] at h
    exact (hB3.block _ (by omega)).trans h
  have c3 := b3.cell
  have c5 := b5.cell
  have hB0 : Below w.heap.size w w3 := (below_alloc (below_alloc (Below.refl _ w) _) _).trans (hB3.mono (by omega))
  have hnn := each_nn (w.heap.size + 1 + 1) w3
  gi_wp2
  have hb5 := b5
  have hns : ∀ b : Nat, b < w3.heap.size → b ≠ w.heap.size + 1 → ¬ (b = w.heap.size + 1 ∨ w3.heap.size ≤ b) := fun b h1 h2 h3 => by omega
  refine wpIn_rangeFunc_ownG rfl (by omega) (gf := 39) (lb := #[.pointer (some ⟨w.heap.size + 1 + 1, 0, none⟩)]) rfl trivial (enters_of Try.func39 (by kernel_rfl) rfl)
    (each2_stops Fence.wide 5 trivial rfl (by omega) (w.heap.size + 1 + 1) A c l w3 hbox hC hfew (fun b => b = w.heap.size + 1 ∨ w3.heap.size ≤ b) (hns _ hsz (by omega)) (fun hne ad e => by subst e; exact hns _ (C_ne hC hne b5).2 (C_ne hC hne b5).1))
    (fun h k => h.trans k) (fun W l o o' hl h _ _ => Only.of_grown' (grownBy_putObj' W l o') (.inr hl)) (Below.refl _ _) (fun _ => rfl)
    (fun pre W => (∃ v, Boxed W (w.heap.size + 1) 42 v ∧ W.ownsRow w3.heap.size 46 2 v pre.length (pre.flatMap encE) ∧ True) ∧ (Boxed W w.heap.size 3 (.int .i64 most) ∧ ((pre.length : Int) < most ∧ (Below w.heap.size w W ∧ w3.heap.size ≤ W.heap.size))))
    (fun c pre W => (∃ v, Boxed W (w.heap.size + 1) 42 v ∧ W.ownsRow w3.heap.size 46 2 v pre.length (pre.flatMap encE) ∧ True) ∧ (Boxed W w.heap.size 3 (.int .i64 most) ∧ ((c = .exit 0 ∧ (pre.length : Int) = most) ∧ (Below w.heap.size w W ∧ w3.heap.size ≤ W.heap.size))))
    (OwnFrom.and (Own.from (holdsRow_own w3.heap.size (w.heap.size + 1) 42 46 2 (fun pre : List E => pre.length) (fun pre : List E => pre.flatMap encE) (fun _ _ => True)) _) (OwnFrom.and (Own.from (boxed_own _ _ _) _) (OwnFrom.and (ownFrom_pure _ _) (OwnFrom.and (ownFrom_below (Nat.le_refl _) (by omega)) (fun _ _ _ _ hs hg _ => Nat.le_trans hs hg.size)))))
    (fun c => OwnFrom.and (Own.from (holdsRow_own w3.heap.size (w.heap.size + 1) 42 46 2 (fun pre : List E => pre.length) (fun pre : List E => pre.flatMap encE) (fun _ _ => True)) _) (OwnFrom.and (Own.from (boxed_own _ _ _) _) (OwnFrom.and (ownFrom_pure _ _) (OwnFrom.and (ownFrom_below (Nat.le_refl _) (by omega)) (fun _ _ _ _ hs hg _ => Nat.le_trans hs hg.size)))))
    ⟨⟨_, b5, World.ownsRow_nil _ _ _ _, trivial⟩, b3, by simp; omega, hB0, Nat.le_refl _⟩
    (fun x => { tmps := #[.pointer (some ⟨p, 0, none⟩), .int .i64 most, undef, .pointer (some ⟨w.heap.size, 0, none⟩), .slice none 0 0, .pointer (some ⟨w.heap.size + 1, 0, none⟩), .func (.func 39) #[] #[.pointer (some ⟨w.heap.size + 1 + 1, 0, none⟩)], .string x.1, .int .i64 x.2, .pointer (some ⟨p, 0, none⟩), .func (.func 39) #[] #[.pointer (some ⟨w.heap.size + 1 + 1, 0, none⟩)], .func (.func 39) #[] #[.pointer (some ⟨w.heap.size + 1 + 1, 0, none⟩)], .bool false, .bool false, .int .i64 most, .bool false, .bool false, undef, .func (.func 39) #[] #[.pointer (some ⟨w.heap.size + 1 + 1, 0, none⟩)], .string x.1, .int .i64 x.2, undef, undef, undef, undef, undef, undef, undef, undef, undef, undef, undef], defers := [] }) ?assign ?body ?done ?stop
  case assign =>
    intro l x W K hK
    gi_wp2
    exact hK
  case body =>
    rintro l2 pre x W ⟨⟨v, hv, hrow, -⟩, h3, hlt, hB, hwz⟩ hpl
    have hc := hv.cell
    have hc3 := h3.cell
    have hml : 4096 ≤ maxLen := by decide
    have hzb := hB.size
    gi_wp2_with (gi_at_builtin; go_must ((refine wpListIn_append_own _ rfl _ _ 42 rfl w3.heap.size 46 i0 (.agg #[.string ⟨#[]⟩, .int .i64 0]) 2 24 Try.underlying42 hi hz0 hz1 hz2 rfl (by decide) v pre.length (pre.flatMap encE) rfl (hrow.alloc _) ⟨W.heap.size, 0, none⟩ 1 1 [.string x.1, .int .i64 x.2] rfl rfl (cell_two_new W (.string x.1) (.int .i64 x.2) 46) (by simp [Value.oneCell']) (by omega) (by omega) (by simp; omega) ?_; intro v' w1 hown' hgrow _; obtain ⟨g', cap', rfl⟩ := ownsRow_succ hown'; obtain ⟨hv1, hv2, -, hk2, hb2⟩ := hv.appended (by decide) (own_weaken hrow (base' := w.heap.size) (by omega)) hB.size (by omega) (own_weaken hown' (base' := w.heap.size) (by omega)) hgrow; have HX := Aside0.mk (row_put (B := w.heap.size + 1) hv hrow hown' hgrow);  have h32 := box_kept (B' := w.heap.size + 1) h3 (show (3 : Nat) ≠ 46 by decide) hrow hgrow (by omega) (.slice (some ⟨g', 0, none⟩) (pre.length + 1) cap'); have hc1 := hv1.cell; have hf1 := hv1.frozen; have hc2 := hv2.cell; have hc32 := h32.cell)))
    · have hge : most ≤ (pre.length : Int) + 1 := by assumption
      obtain ⟨hr2, hk3⟩ := HX.out (show (42 : Nat) ≠ 46 by decide)
      have e2 : (pre ++ [x]).length = pre.length + 1 := by simp
      refine ⟨hk2.from _, ⟨_, hv2, by rw [e2, List.flatMap_append]; exact hr2, trivial⟩, h32, ⟨rfl, by rw [e2]; omega⟩, hB.trans hb2, Nat.le_trans hwz hk3.size⟩
    · have hge : (pre.length : Int) + 1 < most := by assumption
      obtain ⟨hr2, hk3⟩ := HX.out (show (42 : Nat) ≠ 46 by decide)
      have e2 : (pre ++ [x]).length = pre.length + 1 := by simp
      refine ⟨hk2.from _, hk3, ⟨_, hv2, by rw [e2, List.flatMap_append]; exact hr2, trivial⟩, h32, by rw [e2]; omega, hB.trans hb2, Nat.le_trans hwz hk3.size⟩
  case done =>
    rintro D ys W hD rfl ⟨⟨v, hv, hrow, -⟩, h3, hlt, hB, hwz⟩ hK
    have hc := hv.cell
    gi_wp2
    refine ⟨by simp, .inl ⟨_, _, rfl, run_takeDeferred hK, ?_⟩⟩
    have e2 : ys.take most.toNat = ys := List.take_of_length_le (by omega)
    rw [e2]
    exact ⟨_, results_tmp rfl _ _ _, v, rfl, own_weaken (ownsRow_putObj hrow _ hK rfl) (by omega), hB.trans (belowK_b (w := w) (Nat.le_refl _) W D _ _ (by omega) hK rfl rfl)⟩
  case stop =>
    rintro D c pre W hD ⟨k, hk, rfl⟩ ⟨⟨v, hv, hrow, -⟩, h3, ⟨rfl, hlen⟩, hB, hwz⟩ hK
    have hc := hv.cell
    have e2 : l.take most.toNat = l.take (k + 1) := by
      rw [List.length_take] at hlen
      congr 1
      omega
    gi_wp2
    refine ⟨by simp, .inl ⟨_, _, rfl, run_takeDeferred hK, ?_⟩⟩
    rw [e2]
    exact ⟨_, results_tmp rfl _ _ _, v, rfl, own_weaken (ownsRow_putObj hrow _ hK rfl) (by omega), hB.trans (belowK_b (w := w) (Nat.le_refl _) W D _ _ (by omega) hK rfl rfl)⟩
end Go.Proofs.Ytaefbibkkkglnaa.Wh
/- WheelMoved: the plain law. No condition. -/
namespace Go.Proofs.Ytaefbibkkkglnaa.Wh
open Go Go.RowKit Go.Proofs.YtaefbibkkkglnaaW.PrintWords
set_option linter.unusedVariables false
set_option linter.unusedSimpArgs false
theorem putF_filter_neg {e : E} {l : List E} {p : E → Bool} (h : p e = false) : (putF e l).filter p = l.filter p := by
  unfold putF
  rw [List.filter_append, List.filter_cons_of_neg (by rw [h]; simp), ← List.filter_append, List.takeWhile_append_dropWhile]
theorem putF_filter_pos {e : E} {l : List E} {p : E → Bool} (h : p e = true) (hs : Sorted l) (hne : ∀ f ∈ l, f.1 ≠ e.1) : (putF e l).filter p = putF e (l.filter p) := by
  refine sorted_ext ((putF_sorted hs (fun f hf q => hne f hf (by rw [q]))).sublist List.filter_sublist) (putF_sorted (hs.sublist List.filter_sublist) (fun f hf q => hne f (List.mem_filter.1 hf).1 (by rw [q]))) ?_
  refine ((putF_perm e l).filter p).trans ?_
  rw [List.filter_cons_of_pos h]
  exact (putF_perm e (l.filter p)).symm
theorem cutF_len {id : ByteArray} : ∀ {l : List E}, (l.map Prod.fst).Nodup → id ∈ l.map Prod.fst → (cutF id l).length + 1 = l.length
  | [], _, h => by simp at h
  | e :: l, hn, h => by
    rw [List.map_cons, List.nodup_cons] at hn
    unfold cutF
    by_cases he : e.1 = id
    · subst he
      have : (l.filter fun f => decide (f.1 ≠ e.1)) = l := by
        rw [List.filter_eq_self]
        intro f hf
        simp
        intro q
        exact hn.1 (q ▸ List.mem_map.2 ⟨f, hf, rfl⟩)
      rw [List.filter_cons_of_neg (by simp), this]
      rfl
    · have h' : id ∈ l.map Prod.fst := by
        rw [List.map_cons, List.mem_cons] at h
        rcases h with h | h
        · exact absurd h.symm he
        · exact h
      rw [List.filter_cons_of_pos (by simpa using he)]
      have := cutF_len hn.2 h'
      unfold cutF at this
      simp only [List.length_cons]
      omega
theorem putF_len (e : E) (l : List E) : (putF e l).length = l.length + 1 := (putF_perm e l).length_eq
theorem cutF_ne {id : ByteArray} {l : List E} : ∀ f ∈ cutF id l, f.1 ≠ id := fun f hf => (cutF_mem.1 hf).2
theorem hasB_cut (id : ByteArray) (l : List E) : hasB (cutF id l) id = false := by
  rw [Bool.eq_false_iff]
  intro h
  obtain ⟨f, hf, e⟩ := List.mem_map.1 (hasB_iff.1 h)
  exact cutF_ne f hf e
theorem fillL_in {now : Int} {fs : List Int} {n k : Nat} (hk : k < n) : hasB (fillL now fs n) (nm k) = true := by
  refine hasB_iff.2 (((fillL_perm now fs n).map Prod.fst).mem_iff.2 ?_)
  rw [List.map_map]
  exact List.mem_map.2 ⟨k, List.mem_range.2 hk, rfl⟩
/-- What the two wheels hold and tell. -/
structure Moved (now t : Int) (id : ByteArray) (L LW LX : List E) (T0 : List ByteArray) (ys zs : List ByteArray) : Prop where
  ce : changeE now L id t = 0
  cl : changeL now L id t = LW
  re : findE L id = 0
  rl : removeL L id = LX
  ae : findE LW id = 0
  av : atV LW id = t
  xe : findE LX id = 7
  lw : LW.length = L.length
  lx : LX.length + 1 = L.length
  tw : (toldF (t - 1) LW).map Prod.fst = T0
  tx : (toldF (t - 1) LX).map Prod.fst = T0
  uw : (toldF t (leftF (t - 1) LW)).map Prod.fst = ys ++ id :: zs
  ux : (toldF t (leftF (t - 1) LX)).map Prod.fst = ys ++ zs
  ny : id ∉ ys
  nz : id ∉ zs
  ll : leftF t (leftF (t - 1) LW) = leftF t (leftF (t - 1) LX)
  t0 : T0.length ≤ L.length
  yz : (ys ++ zs).length ≤ L.length
theorem moved_ok {now t : Int} {id : ByteArray} {L : List E} (hs : Sorted L) (hnd : (L.map Prod.fst).Nodup) (hid : nameB id = true) (hin : hasB L id = true) (h0 : 0 ≤ now) (ht : now < t) (ht1 : t ≤ 1099511627776) : ∃ T0 ys zs, Moved now t id L (putF (id, t) (cutF id L)) (cutF id L) T0 ys zs := by
  have hfe : findE L id = 0 := by unfold findE; rw [if_pos hid, if_pos hin]
  have hte : timeE now t = 0 := by unfold timeE; rw [if_pos (by omega), if_neg (by omega)]
  have hce : changeE now L id t = 0 := by unfold changeE; rw [if_pos hfe]; exact hte
  have hsx : Sorted (cutF id L) := cutF_sorted _ hs
  have hmem : ((id, t) : E) ∈ putF (id, t) (cutF id L) := (putF_perm _ _).mem_iff.2 List.mem_cons_self
  have hinw : hasB (putF (id, t) (cutF id L)) id = true := hasB_iff.2 (List.mem_map.2 ⟨_, hmem, rfl⟩)
  have haw : findE (putF (id, t) (cutF id L)) id = 0 := by unfold findE; rw [if_pos hid, if_pos hinw]
  have hndx : ((cutF id L).map Prod.fst).Nodup := hnd.sublist (List.filter_sublist.map _)
  have hndw : ((putF (id, t) (cutF id L)).map Prod.fst).Nodup := by
    refine ((putF_perm (id, t) (cutF id L)).map Prod.fst).nodup_iff.2 ?_
    rw [List.map_cons, List.nodup_cons]
    exact ⟨fun h => by obtain ⟨f, hf, e⟩ := List.mem_map.1 h; exact cutF_ne f hf e, hndx⟩
  have hll : leftF (t - 1) (putF (id, t) (cutF id L)) = putF (id, t) (leftF (t - 1) (cutF id L)) := putF_filter_pos (by simp; omega) hsx cutF_ne
  have hsl : Sorted (leftF (t - 1) (cutF id L)) := hsx.sublist List.filter_sublist
  have hnel : ∀ f ∈ leftF (t - 1) (cutF id L), f.1 ≠ id := fun f hf => cutF_ne f (List.mem_filter.1 hf).1
  have htl : toldF t (putF (id, t) (leftF (t - 1) (cutF id L))) = putF (id, t) (toldF t (leftF (t - 1) (cutF id L))) := putF_filter_pos (by simp) hsl hnel
  have hneB : ∀ f ∈ toldF t (leftF (t - 1) (cutF id L)), f.1 ≠ id := fun f hf => hnel f (List.mem_filter.1 hf).1
  have hlen := cutF_len hnd (hasB_iff.1 hin)
  have hBl : (toldF t (leftF (t - 1) (cutF id L))).length ≤ L.length := by
    have e1 : (toldF t (leftF (t - 1) (cutF id L))).length ≤ (leftF (t - 1) (cutF id L)).length := List.length_filter_le _ _
    have e2 : (leftF (t - 1) (cutF id L)).length ≤ (cutF id L).length := List.length_filter_le _ _
    omega
  refine ⟨(toldF (t - 1) (cutF id L)).map Prod.fst, ((toldF t (leftF (t - 1) (cutF id L))).takeWhile (fun f => lt f (id, t))).map Prod.fst, ((toldF t (leftF (t - 1) (cutF id L))).dropWhile (fun f => lt f (id, t))).map Prod.fst, hce, ?_, hfe, ?_, haw, ?_, ?_, ?_, hlen, ?_, rfl, ?_, ?_, ?_, ?_, ?_, ?_, ?_⟩
  · unfold changeL; rw [if_pos hce]
  · unfold removeL; rw [if_pos hfe]
  · unfold atV; rw [if_pos haw]; exact timeOf_eq (e := (id, t)) hndw hmem
  · unfold findE; rw [if_pos hid, if_neg (by rw [hasB_cut]; simp)]
  · rw [putF_len]; exact hlen
  · exact congrArg (List.map Prod.fst) (putF_filter_neg (p := fun e : E => decide (e.2 ≤ t - 1)) (by simp; omega))
  · rw [hll, htl]
    unfold putF
    rw [List.map_append, List.map_cons]
  · rw [← List.map_append, List.takeWhile_append_dropWhile]
  · intro h
    obtain ⟨f, hf, e⟩ := List.mem_map.1 h
    exact hneB f ((List.takeWhile_sublist _).subset hf) e
  · intro h
    obtain ⟨f, hf, e⟩ := List.mem_map.1 h
    exact hneB f ((List.dropWhile_sublist _).subset hf) e
  · rw [hll]
    exact putF_filter_neg (p := fun e : E => decide (t < e.2)) (by simp)
  · rw [List.length_map]
    have e1 : (toldF (t - 1) (cutF id L)).length ≤ (cutF id L).length := List.length_filter_le _ _
    omega
  · rw [← List.map_append, List.takeWhile_append_dropWhile, List.length_map]
    exact hBl
def jAt (n i : Nat) : Nat := if i ≤ n then i else i - 1
theorem walk_at {id : ByteArray} {ys zs : List ByteArray} (h1 : id ∉ ys) (h2 : id ∉ zs) (i : Nat) (hi : i < (ys ++ id :: zs).length) :
    (i = ys.length ∧ (ys ++ id :: zs)[i] = id) ∨ (i ≠ ys.length ∧ ∃ hj : jAt ys.length i < (ys ++ zs).length, (ys ++ id :: zs)[i] = (ys ++ zs)[jAt ys.length i] ∧ (ys ++ id :: zs)[i] ≠ id) := by
  unfold jAt
  have hl : (ys ++ id :: zs).length = ys.length + zs.length + 1 := by simp; omega
  have hl2 : (ys ++ zs).length = ys.length + zs.length := by simp
  rcases Nat.lt_trichotomy i ys.length with h | h | h
  · have e1 : (ys ++ id :: zs)[i] = ys[i] := List.getElem_append_left h
    refine .inr ⟨by omega, by rw [if_pos (by omega)]; omega, ?_, ?_⟩
    · rw [e1]
      simp only [if_pos (show i ≤ ys.length by omega)]
      exact (List.getElem_append_left h).symm
    · rw [e1]
      intro q
      exact h1 (q ▸ List.getElem_mem h)
  · subst h
    exact .inl ⟨rfl, by simp⟩
  · obtain ⟨m, rfl⟩ : ∃ m, i = ys.length + 1 + m := ⟨i - (ys.length + 1), by omega⟩
    have hm : m < zs.length := by omega
    have e1 : (ys ++ id :: zs)[ys.length + 1 + m] = zs[m] := by
      rw [List.getElem_append_right (by omega)]
      simp only [show ys.length + 1 + m - ys.length = m + 1 by omega, List.getElem_cons_succ]
    refine .inr ⟨by omega, by rw [if_neg (by omega)]; omega, ?_, ?_⟩
    · rw [e1]
      simp only [if_neg (show ¬ ys.length + 1 + m ≤ ys.length by omega)]
      rw [List.getElem_append_right (by omega)]
      simp only [show ys.length + 1 + m - 1 - ys.length = m by omega]
    · rw [e1]
      intro q
      exact h2 (q ▸ List.getElem_mem hm)
theorem toList_ne {a b : ByteArray} (h : a ≠ b) : (a.toList == b.toList) = false := by
  rw [beq_eq_false_iff_ne]
  intro q
  exact h (str_inj q)
end Go.Proofs.Ytaefbibkkkglnaa.Wh
/- The reference wheel: find, At, List, cut, put. No condition. -/
namespace Go.Proofs.Ytaefbibkkkglnaa.Wh
open Go Go.RowKit Go.Proofs.YtaefbibkkkglnaaW.PrintWords Go.Proofs.Ytaefbibkkkglnaa.Fr
set_option linter.unusedVariables false
set_option linter.unusedSimpArgs false
/-- Where a name stands. -/
def idxF (l : List E) (id : ByteArray) : Int := match l.findIdx? (fun e => decide (e.1 = id)) with | some k => (k : Int) | none => -1
section
variable {w w' : World} {R : Nat → Prop} {r : Nat} {now : Int} {l : List E}
theorem rfind_calls (h : Ref w R r now l) (id : ByteArray) (hl : l.length ≤ 4611686018427387904) : Calls Try.prog 61 #[.pointer (some ⟨r, 0, none⟩), .string id] w fun e w' => e = .returned (.int .i64 (idxF l id)) ∧ w = w' := by
  obtain ⟨A, c, h1, h2, h3, h4⟩ := h.hd
  have c1 : w.cell? ⟨r, 1, none⟩ = some (.slice A l.length c) := blk_cell h1 1
  have H3 := Aside0.mk h3
  clear h h1 h4 h3
  go_enter Try.func61, Try.ntmps61
  go_wp2_with fail
  go_loopg [5] l.length (fun g v5 wx => ∃ i : Nat, g = l.length - i ∧ i ≤ l.length ∧ v5 = .int .i64 i ∧ Aside0 (∀ j (hj : j < l.length), j < i → l[j].1 ≠ id) ∧ w = wx)
  case atStart => exact ⟨0, rfl, by omega, rfl, ⟨fun j hj h => by omega⟩, rfl⟩
  case round =>
    obtain ⟨i, rfl, hi, rfl, HN, rfl⟩ := hrel
    by_cases hil : i < l.length
    · obtain ⟨ad, rfl, x1, x2⟩ := at_E H3.out i hil
      have i0 : (0 : Int) ≤ (i : Int) := by omega
      have i1 : (i : Int) < (l.length : Int) := by omega
      by_cases he : l[i].1 = id
      · have e1 : (l[i].1.toList == id.toList) = true := by rw [he]; simp
        have hidx : idxF l id = (i : Int) := by
          have : l.findIdx? (fun e => decide (e.1 = id)) = some i := by
            rw [List.findIdx?_eq_some_iff_getElem]
            exact ⟨hil, by simpa using he, fun j hj => by simpa using HN.out j (by omega) hj⟩
          unfold idxF
          rw [this]
        have HI := Aside0.mk hidx
        clear he hidx
        generalize l[i].1 = s at *
        go_wp2_with fail
        go_ret
        exact ⟨(by rw [HI.out]; rfl), rfl⟩
      · have e1 : (l[i].1.toList == id.toList) = false := toList_ne he
        have HE := Aside0.mk he
        clear he
        generalize hs : l[i].1 = s at *
        have HS := Aside0.mk hs
        clear hs
        go_wp2_with fail
        go_roundg (l.length - (i + 1))
        case measure => omega
        case rel =>
          refine ⟨i + 1, rfl, by omega, by go_num, ⟨fun j hj hji => ?_⟩, rfl⟩
          rcases Nat.lt_or_ge j i with h | h
          · exact HN.out j hj h
          · obtain rfl : j = i := by omega
            rw [HS.out]
            exact HE.out
    · obtain rfl : i = l.length := by omega
      have hidx : idxF l id = -1 := by
        have : l.findIdx? (fun e => decide (e.1 = id)) = none := by
          rw [List.findIdx?_eq_none_iff]
          intro e he
          obtain ⟨j, hj, rfl⟩ := List.getElem_of_mem he
          simpa using HN.out j hj hj
        unfold idxF
        rw [this]
      have HI := Aside0.mk hidx
      clear hidx
      go_wp2_with fail
      go_ret
      exact ⟨(by rw [HI.out]; rfl), rfl⟩
/-- find, in the words of the list. -/
theorem idx_none {id : ByteArray} (h : hasB l id = false) : idxF l id = -1 := by
  have : l.findIdx? (fun e => decide (e.1 = id)) = none := by
    rw [List.findIdx?_eq_none_iff]
    intro e he
    simp only [decide_eq_false_iff_not]
    intro q
    have := hasB_iff.2 (List.mem_map.2 ⟨e, he, q⟩)
    rw [h] at this
    cases this
  unfold idxF
  rw [this]
theorem idx_some {id : ByteArray} (hn : (l.map Prod.fst).Nodup) (h : hasB l id = true) : ∃ k, ∃ hk : k < l.length, idxF l id = (k : Int) ∧ l[k].1 = id ∧ timeOf l id = l[k].2 ∧ cutF id l = l.take k ++ l.drop (k + 1) := by
  obtain ⟨e, he, hid⟩ := List.mem_map.1 (hasB_iff.1 h)
  cases hf : l.findIdx? (fun e => decide (e.1 = id)) with
  | none =>
    rw [List.findIdx?_eq_none_iff] at hf
    have := hf e he
    simp [hid] at this
  | some k =>
    obtain ⟨hk, h1, h2⟩ := List.findIdx?_eq_some_iff_getElem.1 hf
    have h1' : l[k].1 = id := by simpa using h1
    refine ⟨k, hk, by unfold idxF; rw [hf], h1', ?_, ?_⟩
    · rw [← h1']
      exact timeOf_eq hn (List.getElem_mem hk)
    · have hsp : l = l.take k ++ l[k] :: l.drop (k + 1) := by
        rw [← List.drop_eq_getElem_cons hk, List.take_append_drop]
      have hnd : ((l.take k ++ l[k] :: l.drop (k + 1)).map Prod.fst).Nodup := by rw [← hsp]; exact hn
      rw [List.map_append, List.map_cons, List.nodup_append] at hnd
      obtain ⟨n1, n2, n3⟩ := hnd
      rw [List.nodup_cons] at n2
      unfold cutF
      conv => lhs; rw [hsp]
      rw [List.filter_append, List.filter_cons_of_neg (by simp [h1'])]
      congr 1
      · rw [List.filter_eq_self]
        intro f hf
        simp only [decide_eq_true_eq]
        intro q
        exact n3 _ (List.mem_map.2 ⟨f, hf, rfl⟩) _ List.mem_cons_self (by rw [q, h1'])
      · rw [List.filter_eq_self]
        intro f hf
        simp only [decide_eq_true_eq]
        intro q
        exact n2.1 (h1' ▸ q ▸ List.mem_map.2 ⟨f, hf, rfl⟩)
end
end Go.Proofs.Ytaefbibkkkglnaa.Wh
/- The reference wheel: At, List, cut. No condition. -/
namespace Go.Proofs.Ytaefbibkkkglnaa.Wh
open Go Go.RowKit Go.Proofs.YtaefbibkkkglnaaW.PrintWords Go.Proofs.Ytaefbibkkkglnaa.Fr
set_option linter.unusedVariables false
set_option linter.unusedSimpArgs false
section
variable {w w' : World} {R : Nat → Prop} {r : Nat} {now : Int} {l : List E}
theorem rat_calls (h : Ref w R r now l) (id : ByteArray) (hs : id.size < 4611686018427387904) (hl : l.length ≤ 4611686018427387904) (hn : (l.map Prod.fst).Nodup) : Calls Try.prog 47 #[.pointer (some ⟨r, 0, none⟩), .string id] w fun e w' => e = .returned (.tuple #[.int .i64 (atV l id), .int .i64 (findE l id)]) ∧ w = w' := by
  have HN := Aside0.mk (rname_calls id w hs)
  have HF := Aside0.mk (rfind_calls h id hl)
  obtain ⟨A, c, h1, h2, h3, h4⟩ := h.hd
  have c1 : w.cell? ⟨r, 1, none⟩ = some (.slice A l.length c) := blk_cell h1 1
  unfold atV
  by_cases hb : nameB id = true
  · rw [hb] at HN
    by_cases hx : hasB l id = true
    · obtain ⟨k, hk, e1, e2, e3, e4⟩ := idx_some hn hx
      have hfe : findE l id = 0 := by unfold findE; rw [if_pos hb, if_pos hx]
      rw [hfe, if_pos rfl, e3]
      rw [e1] at HF
      obtain ⟨ad, rfl, x1, x2⟩ := at_E h3 k hk
      have k0 : (0 : Int) ≤ (k : Int) := by omega
      have k1 : (k : Int) < (l.length : Int) := by omega
      have k2 : decide ((k : Int) < 0) = false := by simp
      clear h h1 h3 h4 e1 e2 e3 e4 hx hb hfe x1
      go_enter Try.func47, Try.ntmps47
      go_wp2_with fail
      refine (HN.out).mono ?_
      rintro e w' ⟨rfl, rfl⟩
      go_wp2_with fail
      refine (HF.out).mono ?_
      rintro e w' ⟨rfl, rfl⟩
      go_wp2_with fail
      go_ret2
      exact ⟨rfl, rfl⟩
    · have hx' : hasB l id = false := by simpa using hx
      have hfe : findE l id = 7 := by unfold findE; rw [if_pos hb, if_neg hx]
      rw [hfe, if_neg (by decide)]
      rw [idx_none hx'] at HF
      clear h h1 h3 h4 hx hx' hb hfe
      go_enter Try.func47, Try.ntmps47
      go_wp2_with fail
      refine (HN.out).mono ?_
      rintro e w' ⟨rfl, rfl⟩
      go_wp2_with fail
      refine (HF.out).mono ?_
      rintro e w' ⟨rfl, rfl⟩
      go_wp2_with fail
      go_ret2
      exact ⟨rfl, rfl⟩
  · have hfe : findE l id = 111 := by unfold findE; rw [if_neg hb]
    rw [hfe, if_neg (by decide)]
    rw [show nameB id = false by simpa using hb] at HN
    clear h h1 h3 h4 hb hfe HF
    go_enter Try.func47, Try.ntmps47
    go_wp2_with fail
    refine (HN.out).mono ?_
    rintro e w' ⟨rfl, rfl⟩
    go_wp2_with fail
    go_ret2
    exact ⟨rfl, rfl⟩
theorem infoTi : ∃ i, Try.prog.info? 46 = some i ∧ i.size = 2 := by
  obtain ⟨i, h1, _, h2, _⟩ := info_parts infoT
  exact ⟨i, h1, h2⟩
theorem sl_to (A : Option Addr) (n c : Nat) (k : Nat) (hk : k ≤ n) (hc : n ≤ c) : ∀ W : World, (Instr.slice 42 (.slice A n c) none (some (.int .i64 (k : Int))) none).run Try.prog W = .ok (.slice A k c) W := fun W => by
  obtain ⟨i, h1, h2⟩ := infoTi
  have := cut_to 42 46 .i64 Try.underlying42 h1 A n c (k : Int) (by omega) (by omega) hc W
  rw [Int.toNat_natCast] at this
  exact this
def fromA (A : Option Addr) (c k : Nat) : Option Addr := if c = k then A else A.map (·.add (k * 2))
theorem sl_from (A : Option Addr) (n c : Nat) (k : Nat) (hk : k ≤ n) : ∀ W : World, (Instr.slice 42 (.slice A n c) (some (.int .i64 (k : Int))) none none).run Try.prog W = .ok (.slice (fromA A c k) (n - k) (c - k)) W := fun W => by
  obtain ⟨i, h1, h2⟩ := infoTi
  have := cut_from 42 46 .i64 Try.underlying42 h1 2 h2 A n c (k : Int) (by omega) (by omega) W
  rw [Int.toNat_natCast] at this
  exact this
theorem fromA_blk {A : Option Addr} {c k : Nat} {ad : Addr} (h : fromA A c k = some ad) : ∃ a0, A = some a0 ∧ a0.block = ad.block := by
  unfold fromA at h
  split at h
  · exact ⟨ad, h, rfl⟩
  · cases A with
    | none => cases h
    | some a0 =>
      injection h with h
      exact ⟨a0, rfl, by rw [← h, add_blk2]⟩
theorem C_from {A : Option Addr} {c k : Nat} (h : kE.C w A l.length l) (hk : k ≤ l.length) (hc : l.length ≤ c) : kE.C w (fromA A c k) (l.drop k).length (l.drop k) := Kd.C_drop h hk hc
theorem rlist_calls (h : Ref w R r now l) (hl : l.length ≤ 4096) : Calls Try.prog 52 #[.pointer (some ⟨r, 0, none⟩)] w fun e w' =>
    ∃ v, e = .returned v ∧ kE.R 46 w' w.heap.size (fun _ => True) v l ∧ Below w.heap.size w w' := by
  obtain ⟨A, c, h1, h2, h3, h4⟩ := h.hd
  have c1 : w.cell? ⟨r, 1, none⟩ = some (.slice A l.length c) := blk_cell h1 1
  have H3 := Aside0.mk h3
  clear h h1 h4 h3
  go_enter Try.func52, Try.ntmps52
  go_wp2_with (first | ((with_reducible refine gate_builtin (b := .append) (xs := #[.tmp 7, .tmp 11]) rfl ?_); at_builtin; refine Kd.R_append_rows kE (Rr := kE.K w) (w0 := w) w.heap.size rfl (.tmp 7) (.tmp 11) 42 46 (.agg #[.string ⟨#[]⟩, .int .i64 0]) 24 rfl Try.underlying42 infoT rfl (by decide) (by omega) (.slice none 0 0) [] l A l.length c (fun _ => True) (fun _ => False) ?aV ?aX ?aO ?aR ?aK (fun _ hk => hk.elim) (fun _ _ => trivial) ?aB ?aS ?aL ?_; (case aV => rfl); (case aX => rfl); (case aO => exact Kd.R_nil _ _ _ _ _); (case aR => exact H3.out); (case aK => exact fun x cs h => kE_K.1 h ▸ kE_M); (case aB => exact Below.refl _ _); (case aS => exact Nat.le_refl _); (case aL => (simp; omega)); intro v6 w6 hR6 hB6 hg6 hat6; have HR6 := Aside0.mk hR6; have HB6 := Aside0.mk hB6; clear hR6 hB6 hg6 hat6) | fail)
  go_ret
  exact ⟨_, rfl, HR6.out, HB6.out⟩
/-- The list is replaced. -/
theorem Ref.stored {v : Value} {l' : List E} {w6 : World} (h : Ref w R r now l) (hB : Below w.heap.size w w6) (hR : kE.R 46 w6 w.heap.size (fun _ => True) v l') : RAfter w R r now l' (w6.setCell ⟨r, 1, none⟩ v) := by
  obtain ⟨A, c, h1, h2, h3, h4⟩ := h.hd
  obtain ⟨A', c', rfl, hc', hC'⟩ := Kd.R_reads hR
  have hr := h.lt r h.own
  have hb : w6.heap[r]? = some (.cells #[.int .i64 now, .slice A l.length c] 94 (0, 0)) := (hB.block r hr).trans h1
  have hbnd := Kd.R_bound hR
  have hown : ∀ ad, A' = some ad → w.heap.size ≤ ad.block ∧ ad.block < w6.heap.size := fun ad e => by
    subst e
    obtain ⟨_, q1, q2, _⟩ := hbnd.1 ad.block rfl
    exact ⟨q1, q2⟩
  refine ⟨fun b => R b ∨ (w.heap.size ≤ b ∧ b < w6.heap.size), ⟨⟨A', c', ?_, hc', C_move hC' (fun ad e => Below.heap_setCell _ _ _ _ (by have := hown ad e; show ad.block ≠ r; omega)), fun ad e => ⟨.inr (hown ad e), by have := hown ad e; omega⟩⟩, .inl h.own, fun b hb => ?_⟩, fun b hb => hb.imp_right (fun q => q.1), Only.set (S := fun b => b = r) (Only.of_below hB) (p := ⟨r, 1, none⟩) (fun _ => rfl) _⟩
  · rw [blk_set hb 1]
    rfl
  · rw [World.size_setCell]
    rcases hb with hb | hb
    · exact Nat.lt_of_lt_of_le (h.lt b hb) hB.size
    · exact hb.2
end
end Go.Proofs.Ytaefbibkkkglnaa.Wh
/- The reference wheel: cut. No condition. -/
namespace Go.Proofs.Ytaefbibkkkglnaa.Wh
open Go Go.RowKit Go.Proofs.YtaefbibkkkglnaaW.PrintWords Go.Proofs.Ytaefbibkkkglnaa.Fr
set_option linter.unusedVariables false
set_option linter.unusedSimpArgs false
section
variable {w w' : World} {R : Nat → Prop} {r : Nat} {now : Int} {l : List E}
theorem rcut_calls (h : Ref w R r now l) (k : Nat) (hk : k < l.length) (hl : l.length ≤ 4096) : Calls Try.prog 64 #[.pointer (some ⟨r, 0, none⟩), .int .i64 k] w fun e w' =>
    e = .returned (.tuple #[]) ∧ RAfter w R r now (l.take k ++ l.drop (k + 1)) w' := by
  have HH := Aside0.mk h
  obtain ⟨A, c, h1, h2, h3, h4⟩ := h.hd
  have hrl := h.lt r h.own
  have c1 : w.cell? ⟨r, 1, none⟩ = some (.slice A l.length c) := blk_cell h1 1
  have hfz := h.fz 1
  have s1 := sl_to A l.length c k (by omega) h2
  have s2 := sl_from A l.length c (k + 1) (by omega)
  have e1 : ((k + 1 : Nat) : Int) = (k : Int) + 1 := by omega
  rw [e1] at s2
  have htk : (l.take k).length = k := by rw [List.length_take]; omega
  have hdk : (l.drop (k + 1)).length = l.length - (k + 1) := List.length_drop
  have HT := Aside0.mk (show kE.C w A k (l.take k) from by have := Kd.C_take (m := k) h3 (by omega); rw [htk] at this; exact this)
  have HD := Aside0.mk (show kE.C w (fromA A c (k + 1)) (l.length - (k + 1)) (l.drop (k + 1)) from by have := C_from (k := k + 1) h3 (by omega) h2; rw [hdk] at this; exact this)
  have hlt : (l.take k).length + (l.length - (k + 1)) ≤ 4096 := by omega
  have ew : IntKind.i64.wrap ((k : Int) + 1) = (k : Int) + 1 := IntWalk.i64_in _ (by omega)
  generalize hX : l.take k = X at *
  generalize hY : l.drop (k + 1) = Y at *
  generalize hnY : l.length - (k + 1) = nY at *
  generalize hnL : l.length = nL at *
  have HNN := Aside0.mk (And.intro htk (And.intro hdk (And.intro hX (And.intro hY (And.intro hnY hnL)))))
  generalize fromA A c (k + 1) = A2 at *
  clear h h1 h3 h4 e1 htk hdk hX hY hnY hnL
  go_enter Try.func64, Try.ntmps64
  go_wp2_with (first | ((with_reducible refine gate_builtin (b := .append) (xs := #[.tmp 5, .tmp 11]) rfl ?_); at_builtin; refine Kd.R_append_rows kE (Rr := kE.K w) (w0 := w) w.heap.size rfl (.tmp 5) (.tmp 11) 42 46 (.agg #[.string ⟨#[]⟩, .int .i64 0]) 24 rfl Try.underlying42 infoT rfl (by decide) (by omega) (.slice none 0 0) [] X A k c (fun _ => True) (fun _ => False) ?aV ?aX ?aO ?aR ?aK (fun _ hk => hk.elim) (fun _ _ => trivial) ?aB ?aS ?aL ?_; (case aV => rfl); (case aX => rfl); (case aO => exact Kd.R_nil _ _ _ _ _); (case aR => exact HT.out); (case aK => exact fun x cs h => kE_K.1 h ▸ kE_M); (case aB => exact Below.refl _ _); (case aS => exact Nat.le_refl _); (case aL => (simp; omega)); intro v6 w6 hR6 hB6 hg6 hat6; have c1' : w6.cell? ⟨r, 1, none⟩ = some (.slice A nL c) := pw_cell_below hB6 c1; have HR6 := Aside0.mk hR6; have HB6 := Aside0.mk hB6; clear hR6 hB6 hg6 hat6) | ((with_reducible refine gate_builtin (b := .append) (xs := #[.tmp 14, .tmp 21]) rfl ?_); at_builtin; refine Kd.R_append_rows kE (Rr := kE.K w) (w0 := w) w.heap.size rfl (.tmp 14) (.tmp 21) 42 46 (.agg #[.string ⟨#[]⟩, .int .i64 0]) 24 rfl Try.underlying42 infoT rfl (by decide) (by omega) v6 X Y A2 nY (c - (k + 1)) (fun _ => True) (fun _ => False) ?aV ?aX ?aO ?aR ?aK (fun _ hk => hk.elim) (fun _ _ => trivial) ?aB ?aS ?aL ?_; (case aV => rfl); (case aX => rfl); (case aO => exact HR6.out); (case aR => exact Kd.C_below HD.out HB6.out); (case aK => exact fun x cs h => kE_K.1 h ▸ kE_M); (case aB => exact HB6.out); (case aS => exact HB6.out.size); (case aL => omega); intro v7 w7 hR7 hB7 hg7 hat7; obtain ⟨A7, c7, rfl⟩ := Kd.R_slice hR7; have f7 : w7.frozen? ⟨r, 1, none⟩ = false := (by unfold World.frozen? at hfz ⊢; rw [hB7.block r hrl]; exact hfz); have c7' : w7.cell? ⟨r, 1, none⟩ = some (.slice A nL c) := pw_cell_below hB7 c1; have HR7 := Aside0.mk hR7; have HB7 := Aside0.mk hB7; clear hR7 hB7 hg7 hat7) | fail)
  go_end0
  refine ⟨rfl, ?_⟩
  have hs := Ref.stored HH.out HB7.out HR7.out
  rw [List.length_append] at hs
  exact hs
end
end Go.Proofs.Ytaefbibkkkglnaa.Wh
/- WheelMoved: the contract of the law. No condition but the reach. -/
namespace Go.Proofs.Ytaefbibkkkglnaa.Wh
open Go Go.RowKit Go.Proofs.YtaefbibkkkglnaaW.PrintWords Go.Proofs.Ytaefbibkkkglnaa.Mp Go.Proofs.Ytaefbibkkkglnaa.Fr
set_option linter.unusedVariables false
set_option linter.unusedSimpArgs false
theorem dr_step {w w1 : World} (h : ∃ q, w1 = w.drewN q) : ∃ q, w1.drew = w.drewN q := by
  obtain ⟨q, rfl⟩ := h
  exact ⟨q + 1, rfl⟩
theorem dr_stepN {w w1 : World} {n : Nat} (h : ∃ q, w1 = w.drewN q) : ∃ q, w1.drewN n = w.drewN q := by
  obtain ⟨q, rfl⟩ := h
  exact drewN_of rfl rfl rfl rfl (by show w.drawn ≤ w.drawn + q + n; omega)
theorem dr_ex {w w1 : World} (h : ∃ q, w1 = w.drewN q) : ∃ q, w1 = w.drewN q := h
set_option maxRecDepth 100000 in
set_option maxHeartbeats 4000000 in
theorem moved_true (x0 : Int) (A1 : Option Addr) (c1 : Nat) (far : List Int) (x2 x3 : Int) (w : World) (h1 : Kd.C (Kd.int .i64) w A1 far.length far) (hc1 : far.length ≤ c1)
    (hx0 : -9223372036854775808 ≤ x0 ∧ x0 ≤ 9223372036854775807) (hx2 : -9223372036854775808 ≤ x2 ∧ x2 ≤ 9223372036854775807) (hx3 : -9223372036854775808 ≤ x3 ∧ x3 ≤ 9223372036854775807) (hf : ∀ x ∈ far, -9223372036854775808 ≤ x ∧ x ≤ 9223372036854775807) (hcc : far.length ≤ 4611686018427387904) :
    Calls Try.prog 6 #[.int .i64 x0, .slice A1 far.length c1, .int .i64 x2, .int .i64 x3] w fun e w' => e = .returned (.bool true) ∧ Below w.heap.size w w' := by
  have hb0 := winF_bd (lo := 0) (hi := 549755813887) hx0.1 hx0.2 (by omega)
  have hb3 := winF_bd (lo := 0) (hi := 549755813888) hx3.1 hx3.2 (by omega)
  have hfl : (far.take 400).length = min far.length 400 := by rw [List.length_take]; omega
  have h1' := Kd.C_take (m := min far.length 400) h1 (by omega)
  rw [show far.take (min far.length 400) = far.take 400 from by rw [List.take_eq_take_iff]; omega] at h1'
  have hf' : ∀ x ∈ far.take 400, -9223372036854775808 ≤ x ∧ x ≤ 9223372036854775807 := fun x hx => hf x (List.mem_of_mem_take hx)
  have HF := Aside0.mk (show ∀ w, Calls Try.prog 11 #[.slice A1 far.length c1] w fun e w' => e = .returned (.slice A1 (far.take 400).length c1) ∧ w = w' from fun w => by rw [hfl]; exact few_calls A1 far.length c1 w hc1 hcc)
  generalize hfs : far.take 400 = fs at *
  have hfs4 : fs.length ≤ 400 := by omega
  have hfsc : fs.length ≤ c1 := by omega
  have H1 := Aside0.mk h1'
  have HN := Aside0.mk (show ∀ w, Calls Try.prog 10 #[.int .i64 x0, .int .i64 0, .int .i64 549755813887] w fun e w' => e = .returned (.int .i64 (winF x0 0 549755813887)) ∧ w = w' from fun w => within_calls x0 0 549755813887 w hx0.1 hx0.2 (by omega) (by omega) (by omega))
  have HT := Aside0.mk (show ∀ w, Calls Try.prog 10 #[.int .i64 x3, .int .i64 0, .int .i64 549755813888] w fun e w' => e = .returned (.int .i64 (winF x3 0 549755813888)) ∧ w = w' from fun w => within_calls x3 0 549755813888 w hx3.1 hx3.2 (by omega) (by omega) (by omega))
  generalize winF x0 0 549755813887 = now at *
  generalize winF x3 0 549755813888 = to' at *
  obtain ⟨n0, n1⟩ := hb0
  obtain ⟨t0, t1⟩ := hb3
  have HFS := Aside0.mk hf'
  clear h1 h1' hf hf' hfs hfl hc1 hx0 hx3 hcc
  have ew1 : IntKind.i64.wrap (now + 1) = now + 1 := IntWalk.i64_in _ (by omega)
  go_enter Try.func6, Try.ntmps6
  go_wp2_with fail
  refine (HN.out _).mono ?_
  rintro e w' ⟨rfl, rfl⟩
  go_wp2_with fail
  refine (HF.out _).mono ?_
  rintro e w' ⟨rfl, rfl⟩
  go_wp2_with fail
  refine (filled_calls now A1 c1 fs w n0 (by omega) HFS.out H1.out hfs4 hfsc).mono ?_
  rintro e w1 hF1
  obtain ⟨p1, O1, rfl, -, -, hB1⟩ := id hF1
  have HF1 := Aside0.mk hF1
  have HB1 := Aside0.mk hB1
  clear hF1 hB1
  go_wp2_with fail
  refine (filled_calls now A1 c1 fs _ n0 (by omega) HFS.out (Kd.C_below H1.out HB1.out) hfs4 hfsc).mono ?_
  rintro e w2 hF2
  obtain ⟨q1, q2, e1, e2, hT⟩ := filled_two HF1.out hF2
  injection e1 with e1
  injection e1 with e1
  injection e1 with e1
  injection e1 with e1
  subst e1
  subst e2
  have HT2 := Aside0.mk hT
  clear hF2 hT HF1 HB1
  rcases Nat.eq_zero_or_pos fs.length with hz | hz
  · have hL : fillL now fs fs.length = [] := List.eq_nil_of_length_eq_zero (by rw [fillL_len]; exact hz)
    rw [hL] at HT2
    have ef : findE [] ⟨#[97]⟩ = 7 := by decide
    have ec : changeE now [] ⟨#[97]⟩ (now + 1) = 7 := by unfold changeE; rw [if_neg (by rw [ef]; decide)]; exact ef
    have hlz : (fs.length : Int) = 0 := by omega
    have EF := Aside0.mk ef
    have EC := Aside0.mk ec
    clear ef ec
    go_wp2_with fail
    refine (HT2.out.change ⟨#[97]⟩ (now + 1) (by decide)).mono ?_
    rintro e w3 ⟨rfl, hT3⟩
    rw [EC.out]
    have hcl : changeL now [] ⟨#[97]⟩ (now + 1) = [] := by unfold changeL; rw [if_neg (by rw [EC.out]; decide)]
    rw [hcl] at hT3
    have HT3 := Aside0.mk hT3
    clear hT3 hcl
    go_wp2_with fail
    refine (HT3.out.remove ⟨#[97]⟩ (by decide)).mono ?_
    rintro e w4 ⟨rfl, hT4⟩
    rw [EF.out]
    have HT4 := Aside0.mk hT4
    clear hT4
    go_wp2_with fail
    go_ret
    obtain ⟨_, _, _, _, _, _, _, hb⟩ := HT4.out
    exact ⟨rfl, hb⟩
  · have hsort : Sorted (fillL now fs fs.length) := by obtain ⟨_, _, a, _⟩ := HT2.out; exact a.sorted
    have hnd : ((fillL now fs fs.length).map Prod.fst).Nodup := by obtain ⟨_, _, a, _⟩ := HT2.out; exact a.nodup
    have hb2 := winF_bd (lo := 0) (hi := (fs.length : Int) - 1) hx2.1 hx2.2 (by omega)
    have HK := Aside0.mk (show ∀ w, Calls Try.prog 10 #[.int .i64 x2, .int .i64 0, .int .i64 ((fs.length : Int) - 1)] w fun e w' => e = .returned (.int .i64 (winF x2 0 ((fs.length : Int) - 1))) ∧ w = w' from fun w => within_calls x2 0 _ w hx2.1 hx2.2 (by omega) (by omega) (by omega))
    obtain ⟨k, hk⟩ : ∃ k : Nat, winF x2 0 ((fs.length : Int) - 1) = (k : Int) := ⟨(winF x2 0 ((fs.length : Int) - 1)).toNat, by omega⟩
    rw [hk] at HK hb2
    clear hk
    have hkn : k < fs.length := by omega
    have hin := fillL_in (now := now) (fs := fs) hkn
    obtain ⟨T0, ys, zs, hM⟩ := moved_ok (t := now + 1 + to') hsort hnd (nm_good (n := k) (by omega)) hin n0 (by omega) (by omega)
    have hLlen := fillL_len now fs fs.length
    have hlate := fillL_late (now := now) (k := fs.length) (Nat.le_refl _) HFS.out
    have hids : (nm k).size = 3 := (nm_ok (n := k) (by omega)).1
    have HNM := Aside0.mk (show ∀ w, Calls Try.prog 15 #[.int .i64 k] w fun e w' => e = .returned (.string (nm k)) ∧ ∃ q, w' = w.drewN q from fun w => name_calls k w (by omega))
    generalize fillL now fs fs.length = L at *
    generalize nm k = id at *
    generalize putF (id, now + 1 + to') (cutF id L) = LW at *
    generalize cutF id L = LX at *
    have e3 : IntKind.i64.wrap (now + 1 + to') = now + 1 + to' := IntWalk.i64_in _ (by omega)
    have htn : now < now + 1 + to' ∧ now + 1 + to' ≤ 1099511627776 := by omega
    have e5 : IntKind.i64.wrap ((fs.length : Int) - 1) = (fs.length : Int) - 1 := IntWalk.i64_in _ (by omega)
    have e6 : ((fs.length : Int) == 0) = false := by rw [beq_eq_false_iff_ne]; omega
    have HM := Aside0.mk hM
    have l1 := hM.lw
    have l2 := hM.lx
    clear hM hsort hnd hin hlate
    go_wp2_with fail
    refine (HK.out _).mono ?_
    rintro e w' ⟨rfl, rfl⟩
    go_wp2_with fail
    refine (HT.out _).mono ?_
    rintro e w' ⟨rfl, rfl⟩
    go_wp2_with fail
    generalize now + 1 + to' = t at *
    obtain ⟨tn0, tn1⟩ := htn
    have e4 : IntKind.i64.wrap (t - 1) = t - 1 := IntWalk.i64_in _ (by omega)
    refine (HNM.out _).mono ?_
    rintro e w' ⟨rfl, n2, rfl⟩
    go_wp2_with fail
    refine ((HT2.out.drewN n2).change id t (by omega)).mono ?_
    rintro e w3 ⟨rfl, hT3⟩
    rw [HM.out.cl] at hT3
    rw [HM.out.ce]
    have HT3 := Aside0.mk hT3
    clear hT3 HT2
    go_wp2_with fail
    refine (HNM.out _).mono ?_
    rintro e w' ⟨rfl, n3, rfl⟩
    go_wp2_with fail
    refine ((HT3.out.drewN n3).at id (by omega)).mono ?_
    rintro e w4 ⟨rfl, hT4⟩
    rw [HM.out.ae, HM.out.av]
    have HT4 := Aside0.mk hT4
    clear hT4 HT3
    go_wp2_with fail
    refine (HNM.out _).mono ?_
    rintro e w' ⟨rfl, n4, rfl⟩
    go_wp2_with fail
    refine ((HT4.out.drewN n4).swap.remove id (by omega)).mono ?_
    rintro e w5 ⟨rfl, hT5⟩
    rw [HM.out.rl] at hT5
    rw [HM.out.re]
    have HT5 := Aside0.mk hT5
    clear hT5 HT4
    go_wp2_with fail
    refine (HNM.out _).mono ?_
    rintro e w' ⟨rfl, n5, rfl⟩
    go_wp2_with fail
    refine ((HT5.out.drewN n5).at id (by omega)).mono ?_
    rintro e w6 ⟨rfl, hT6⟩
    rw [HM.out.xe]
    generalize atV LX id = av at *
    have HT6 := Aside0.mk hT6
    clear hT6 HT5
    have l3 : (LW.length : Int) = fs.length := by omega
    have l4 : (LX.length : Int) = (fs.length : Int) - 1 := by omega
    go_wp2_with fail
    refine (HT6.out.swap.len).mono ?_
    rintro e w' ⟨rfl, rfl⟩
    rw [l3]
    go_wp2_with fail
    refine (HT6.out.len).mono ?_
    rintro e w' ⟨rfl, rfl⟩
    rw [l4]
    go_wp2_with fail
    obtain ⟨OX, OW, hX, hW, hdis, hoX, hoW, hB⟩ := HT6.out
    have HB := Aside0.mk hB
    have HD := Aside0.mk hdis
    have HGX := Aside0.mk hoX
    have HGW := Aside0.mk hoW
    have HX := Aside0.mk hX
    have HLW := Aside0.mk hW.lt
    have HLX := Aside0.mk hX.lt
    clear hdis hoX hoW hX hB HT6
    have HW := Aside0.mk hW
    have h1t := HM.out.tw
    have h2t := HM.out.tx
    clear hW
    have lt0 := HM.out.t0
    have lyz := HM.out.yz
    refine (advance_calls HW.out (t - 1) (by omega) (by omega) (by omega)).mono ?_
    rintro e w7 ⟨v20, rfl, hR7, hW7, hO7⟩
    rw [h1t] at hR7
    have HR7 := Aside0.mk hR7
    have HW7 := Aside0.mk hW7
    have HO7 := Aside0.mk hO7
    clear hR7 hW7 hO7 h1t
    go_wp2_with fail
    refine (advance_calls (HX.out.only HO7.out (fun b h1 _ h2 => HD.out b h1 h2)) (t - 1) (by omega) (by omega) (by omega)).mono ?_
    rintro e w8 ⟨v21, rfl, hR8, hX8, hO8⟩
    rw [h2t] at hR8
    have hr7 := R_over HR7.out hO8 HLX.out
    have HX8 := Aside0.mk hX8
    have HW8 := Aside0.mk (HW7.out.only hO8 (fun b h1 _ h2 => HD.out b h2 h1))
    have HB8 := Aside0.mk (show Below w.heap.size w w8 from hO8.below_of (HO7.out.below_of HB.out HB.out.size (fun k hk h => by have := HGW.out k h; omega)) (Nat.le_trans HB.out.size HO7.out.size) (fun k hk h => by have := HGX.out k h; omega))
    have HS8 := Aside0.mk (Nat.le_trans HO7.out.size hO8.size)
    obtain ⟨A7, c7, rfl, hc7, hC7⟩ := Kd.R_reads hr7
    obtain ⟨A8, c8, rfl, hc8, hC8⟩ := Kd.R_reads hR8
    have HC8 := Aside0.mk (And.intro hC7 hC8)
    clear hR8 hr7 hX8 hO8 hC7 hC8 HR7 h2t HX HW HW7 HO7
    go_wp2_with fail
    refine (texts_calls A7 A8 c7 c8 T0 _ HC8.out.1 HC8.out.2 hc7 hc8 (by omega)).mono ?_
    rintro e w' ⟨rfl, n8, rfl⟩
    go_wp2_with fail
    refine (advance_calls (HW8.out.drewN n8) t (by omega) (by omega) (by omega)).mono ?_
    rintro e w9 ⟨v20, rfl, hR9, hW9, hO9⟩
    rw [HM.out.uw] at hR9
    have HR9 := Aside0.mk hR9
    have HW9 := Aside0.mk hW9
    have HO9 := Aside0.mk (((Only.refl OW w8).drewN n8).trans hO9)
    clear hR9 hW9 hO9
    go_wp2_with fail
    refine (advance_calls (HX8.out.only HO9.out (fun b h1 _ h2 => HD.out b h1 h2)) t (by omega) (by omega) (by omega)).mono ?_
    rintro e w10 ⟨v21, rfl, hR10, hX10, hO10⟩
    rw [HM.out.ux] at hR10
    have hr9 := R_over HR9.out hO10 (fun b hb => Nat.lt_of_lt_of_le (HLX.out b hb) HS8.out)
    have HX10 := Aside0.mk hX10
    have HW10 := Aside0.mk (show Whl w10 OW p1 t (leftF t (leftF (t - 1) LX)) from HM.out.ll ▸ HW9.out.only hO10 (fun b h1 _ h2 => HD.out b h2 h1))
    have HB10 := Aside0.mk (show Below w.heap.size w w10 from hO10.below_of (HO9.out.below_of HB8.out HB8.out.size (fun k hk h => by have := HGW.out k h; omega)) (Nat.le_trans HB8.out.size HO9.out.size) (fun k hk h => by have := HGX.out k h; omega))
    have hxl : (ys ++ id :: zs).length = (ys ++ zs).length + 1 := by simp; omega
    have hyl : (ys ++ zs).length = ys.length + zs.length := by simp
    have HWK := Aside0.mk (walk_at HM.out.ny HM.out.nz)
    generalize hxs : ys ++ id :: zs = xs at *
    generalize hbs : ys ++ zs = bs at *
    obtain ⟨A9, c9, rfl, hc9, hC9⟩ := Kd.R_reads hr9
    obtain ⟨A10, c10, rfl, hc10, hC10⟩ := Kd.R_reads hR10
    have HC9 := Aside0.mk hC9
    have HC10 := Aside0.mk hC10
    generalize ys.length = m at *
    clear hR10 hr9 hX10 hO10 hC9 hC10 HR9 HW9 HO9 HC8 HX8 HW8
    have e10 : IntKind.i64.wrap ((bs.length : Int) + 1) = (bs.length : Int) + 1 := IntWalk.i64_in _ (by omega)
    have e11 : ((xs.length : Int) != (bs.length : Int) + 1) = false := by rw [bne_eq_false_iff_eq]; omega
    have HLL := Aside0.mk (And.intro hxl hyl)
    have hx4 : xs.length ≤ 401 ∧ bs.length ≤ 400 := by omega
    obtain ⟨hx41, hx42⟩ := hx4
    clear hxl hyl
    go_wp2_with fail
    go_loopg [22, 23] xs.length (fun g v22 v23 wx => ∃ (i : Nat), g = xs.length - i ∧ i ≤ xs.length ∧ v23 = .int .i64 i ∧ v22 = .int .i64 (jAt m i : Nat) ∧ Aside0 (∃ q, wx = w10.drewN q))
    case atStart => exact ⟨0, rfl, by omega, rfl, rfl, ⟨0, rfl⟩⟩
    case round =>
      obtain ⟨i, rfl, hi, rfl, rfl, HQ⟩ := hrel
      by_cases h : i < xs.length
      · obtain ⟨ad, rfl, cc1⟩ := at_S HC9.out i h
        have d0 : (0 : Int) ≤ (i : Int) := by omega
        have d1 : (i : Int) < (xs.length : Int) := by omega
        rcases HWK.out i h with ⟨hm, hx⟩ | ⟨hm, hj, hx, hne⟩
        · have cc2 : wr.cell? (ad.add i) = some (.string id) := by obtain ⟨q, hq⟩ := HQ.out; rw [hq]; exact hx ▸ cc1
          have hj : jAt m i = i ∧ jAt m (i + 1) = i := by have := HLL.out.1; unfold jAt; rw [if_pos (by omega), if_neg (by omega)]; omega
          have hee : (id.toList == id.toList) = true := by simp
          clear hx cc1 hm
          go_wp2_with fail
          go_region_held3 (fun w' => w'.cell? (ad.add i) = some (.string id)) (go_keep) (first
            | (go_at_call 15; refine (HNM.out _).mono ?_; rintro e w2 ⟨rfl, n1, rfl⟩))
          go_wp2_with fail
          go_roundg (xs.length - (i + 1))
          case measure => omega
          case rel =>
            refine ⟨i + 1, rfl, by omega, by go_num, by simp only [hj.1, hj.2], ⟨?_⟩⟩
            exact dr_ex (by repeat (first | exact HQ.out | apply dr_step | apply dr_stepN))
        · have cc2 : wr.cell? (ad.add i) = some (.string xs[i]) := by obtain ⟨q, hq⟩ := HQ.out; rw [hq]; exact cc1
          obtain ⟨bd, rfl, cb1⟩ := at_S HC10.out (jAt m i) hj
          have cb2 : wr.cell? (bd.add (jAt m i)) = some (.string xs[i]) := by obtain ⟨q, hq⟩ := HQ.out; rw [hq]; exact hx ▸ cb1
          have hjj : jAt m (i + 1) = jAt m i + 1 := by unfold jAt; split <;> split <;> omega
          have hen : (xs[i].toList == id.toList) = false := toList_ne hne
          have hee : (xs[i].toList == xs[i].toList) = true := by simp
          have hen2 : (xs[i].toList != xs[i].toList) = false := by simp
          generalize xs[i] = x at *
          clear hx cc1 cb1 hne
          have d2 : (0 : Int) ≤ (jAt m i : Int) := by omega
          have d3 : (jAt m i : Int) < (bs.length : Int) := by omega
          have d4 : decide ((bs.length : Int) ≤ (jAt m i : Int)) = false := by simp; omega
          generalize jAt m i = jj at *
          have e12 : IntKind.i64.wrap ((jj : Int) + 1) = ((jj + 1 : Nat) : Int) := by rw [IntWalk.i64_in _ (by omega)]; omega
          go_wp2_with fail
          go_region_held3 (fun w' => w'.cell? (ad.add i) = some (.string x) ∧ w'.cell? (bd.add jj) = some (.string x)) (go_keep) (first
            | (go_at_call 15; refine (HNM.out _).mono ?_; rintro e w2 ⟨rfl, n1, rfl⟩))
          go_wp2_with fail
          go_quiet (fail)
          go_wp2_with fail
          go_roundg (xs.length - (i + 1))
          case measure => omega
          case rel =>
            refine ⟨i + 1, rfl, by omega, by go_num, by rw [hjj]; rfl, ⟨?_⟩⟩
            exact dr_ex (by repeat (first | exact HQ.out | apply dr_step | apply dr_stepN))
      · obtain rfl : i = xs.length := by omega
        have hj : jAt m xs.length = bs.length := by have := HLL.out.1; have := HLL.out.2; unfold jAt; rw [if_neg (by omega)]; omega
        rw [hj]
        have HX11 : ∀ q, Whl (w10.drewN q) OX q2 t (leftF t (leftF (t - 1) LX)) := fun q => HX10.out.drewN q
        have HW11 : ∀ q, Whl (w10.drewN q) OW p1 t (leftF t (leftF (t - 1) LX)) := fun q => HW10.out.drewN q
        obtain ⟨q, hq⟩ := HQ.out
        have HXa := Aside0.mk (HX11 q)
        have HWa := Aside0.mk (HW11 q)
        have HBa := Aside0.mk (show Below w.heap.size w (w10.drewN q) from pw_below_drewN HB10.out q)
        rw [← hq] at HXa HWa HBa
        clear HX11 HW11 hq
        go_wp2_with fail
        refine (spread_calls HWa.out).mono ?_
        rintro e w12 ⟨rfl, hB12⟩
        have HB12 := Aside0.mk hB12
        clear hB12
        go_wp2_with fail
        refine (spread_calls (HXa.out.below HB12.out)).mono ?_
        rintro e w13 ⟨rfl, hB13⟩
        have HB13 := Aside0.mk hB13
        clear hB13
        generalize spr t (leftF t (leftF (t - 1) LX)) = sf at *
        have hq7 := eq7_same sf
        unfold sprV at hq7 ⊢
        go_wp2_with fail
        go_ret
        exact ⟨rfl, (HBa.out.trans (HB12.out.mono HBa.out.size)).trans (HB13.out.mono (Nat.le_trans HBa.out.size HB12.out.size))⟩
theorem moved_row (x0 : Int) (A1 : Option Addr) (c1 : Nat) (far : List Int) (x2 x3 : Int) (w : World) (h1 : Kd.C (Kd.int .i64) w A1 far.length far) (hc1 : far.length ≤ c1)
    (g0 : (Lit.int .i64 x0).wf = true) (g1 : (∀ z ∈ far, (Lit.int .i64 z).wf = true) ∧ far.length * 8 ≤ 140737488351232 ∧ far.length ≤ maxLen) (g2 : (Lit.int .i64 x2).wf = true) (g3 : (Lit.int .i64 x3).wf = true) :
    Calls Try.prog 6 #[.int .i64 x0, .slice A1 far.length c1, .int .i64 x2, .int .i64 x3] w fun e w' => e = .returned (.bool true) ∧ Below w.heap.size w w' :=
  moved_true x0 A1 c1 far x2 x3 w h1 hc1 (bounds_i64 g0) (bounds_i64 g2) (bounds_i64 g3) (fun x hx => bounds_i64 (g1.1 x hx)) (by have := g1.2.1; omega)
end Go.Proofs.Ytaefbibkkkglnaa.Wh
/- The reference wheel: put. No condition. -/
namespace Go.Proofs.Ytaefbibkkkglnaa.Wh
open Go Go.RowKit Go.Proofs.YtaefbibkkkglnaaW.PrintWords Go.Proofs.Ytaefbibkkkglnaa.Fr
set_option linter.unusedVariables false
set_option linter.unusedSimpArgs false
theorem split_at (t : E) : ∀ (l : List E) (k : Nat), k ≤ l.length → (∀ j (hj : j < l.length), j < k → lt l[j] t = true) → (∀ hk : k < l.length, lt l[k] t = false) → l.takeWhile (fun f => lt f t) = l.take k ∧ l.dropWhile (fun f => lt f t) = l.drop k
  | [], k, hk, _, _ => by simp
  | e :: l, 0, _, _, h => by
    have := h (by simp)
    simp only [List.getElem_cons_zero] at this
    rw [List.takeWhile_cons_of_neg (by rw [this]; simp), List.dropWhile_cons_of_neg (by rw [this]; simp)]
    simp
  | e :: l, k + 1, hk, h1, h2 => by
    have h0 := h1 0 (by simp) (by omega)
    simp only [List.getElem_cons_zero] at h0
    have hk' : k ≤ l.length := by simpa using hk
    obtain ⟨a, b⟩ := split_at t l k hk' (fun j hj hjk => by have := h1 (j + 1) (by simpa using hj) (by omega); simpa using this) (fun hk2 => by have := h2 (by simpa using hk2); simpa using this)
    rw [List.takeWhile_cons_of_pos (p := fun f => lt f t) h0, List.dropWhile_cons_of_pos (p := fun f => lt f t) h0, a, b]
    exact ⟨rfl, rfl⟩
section
variable {w w' : World} {R : Nat → Prop} {r : Nat} {now : Int} {l : List E}
theorem Ref.after_below {l' : List E} {w1 w2 : World} (hb : Below w.heap.size w w1) (h : RAfter w1 R r now l' w2) : RAfter w R r now l' w2 := by
  obtain ⟨R', h1, h2, h3⟩ := h
  exact ⟨R', h1, fun b hq => (h2 b hq).imp_right (fun q => Nat.le_trans hb.size q), (Only.of_below hb).trans h3⟩
set_option maxRecDepth 100000 in
set_option maxHeartbeats 2000000 in
theorem rput_calls (h : Ref w R r now l) (t : E) (hl : l.length ≤ 4096) : Calls Try.prog 63 #[.pointer (some ⟨r, 0, none⟩), .agg #[.string t.1, .int .i64 t.2]] w fun e w' =>
    e = .returned (.tuple #[]) ∧ RAfter w R r now (putF t l) w' := by
  have hb1 : Below w.heap.size w (w.alloc (.cells #[.string t.1, .int .i64 t.2] 46 (0, 0))) := below_alloc (Below.refl _ w) _
  have HB1 := Aside0.mk hb1
  have HH := Aside0.mk (h.below hb1)
  have x0 : (w.alloc (.cells #[.string t.1, .int .i64 t.2] 46 (0, 0))).cell? ⟨w.heap.size, 0, none⟩ = some (.string t.1) := blk_cell (heap_alloc_new w _) 0
  have x1 : (w.alloc (.cells #[.string t.1, .int .i64 t.2] 46 (0, 0))).cell? ⟨w.heap.size, 1, none⟩ = some (.int .i64 t.2) := blk_cell (heap_alloc_new w _) 1
  have hrs : r < w.heap.size := h.lt r h.own
  clear h hb1
  go_enter Try.func63, Try.ntmps63
  go_upto_block 0 with fail
  generalize (w.alloc (.cells #[.string t.1, .int .i64 t.2] 46 (0, 0))) = w1 at *
  generalize hg0 : w.heap.size = g0 at *
  have HG0 := Aside0.mk hg0
  clear hg0
  obtain ⟨A, c, h1, h2, h3, h4⟩ := HH.out.hd
  have c1 : w1.cell? ⟨r, 1, none⟩ = some (.slice A l.length c) := blk_cell h1 1
  have hrl1 := HH.out.lt r HH.out.own
  have hfz1 := HH.out.fz 1
  have H3 := Aside0.mk h3
  clear h1 h3 h4
  go_cut [5] (fun s5 wx => ∃ k : Nat, s5 = .int .i64 k ∧ k ≤ l.length ∧ Aside0 (l.takeWhile (fun f => lt f t) = l.take k ∧ l.dropWhile (fun f => lt f t) = l.drop k) ∧ Aside0 (∃ q, wx = w1.drewN q))
  case first =>
    go_wp2_with fail
    go_loopg [5] l.length (fun g v5 wx => ∃ k : Nat, g = l.length - k ∧ k ≤ l.length ∧ v5 = .int .i64 k ∧ Aside0 (∀ j (hj : j < l.length), j < k → lt l[j] t = true) ∧ Aside0 (∃ q, wx = w1.drewN q))
    case atStart => exact ⟨0, rfl, by omega, rfl, ⟨fun j hj h => by omega⟩, ⟨0, rfl⟩⟩
    case round =>
      obtain ⟨k, rfl, hk, rfl, HN, HQ⟩ := hrel
      have y0 : wr.cell? ⟨g0, 0, none⟩ = some (.string t.1) := by obtain ⟨q, hq⟩ := HQ.out; rw [hq]; exact x0
      have y1 : wr.cell? ⟨g0, 1, none⟩ = some (.int .i64 t.2) := by obtain ⟨q, hq⟩ := HQ.out; rw [hq]; exact x1
      have yc : wr.cell? ⟨r, 1, none⟩ = some (.slice A l.length c) := by obtain ⟨q, hq⟩ := HQ.out; rw [hq]; exact c1
      have k0 : (0 : Int) ≤ (k : Int) := by omega
      by_cases hkl : k < l.length
      · obtain ⟨ad, rfl, z1', z2'⟩ := at_E H3.out k hkl
        have z1 : wr.cell? (ad.add (k * 2)) = some (.string l[k].1) := by obtain ⟨q, hq⟩ := HQ.out; rw [hq]; exact z1'
        have z2 : wr.cell? ⟨(ad.add (k * 2)).block, (ad.add (k * 2)).off + 1, none⟩ = some (.int .i64 l[k].2) := by obtain ⟨q, hq⟩ := HQ.out; rw [hq]; exact z2'
        clear z1' z2' c1 x0 x1
        have k1 : (k : Int) < (l.length : Int) := by omega
        rcases Int.lt_trichotomy l[k].2 t.2 with h | h | h
        · have HLT := Aside0.mk (show lt l[k] t = true from by unfold lt; simp [h])
          have d1 : decide (l[k].2 < t.2) = true := by simpa using h
          clear h
          generalize l[k].2 = et at *
          generalize l[k].1 = es at *
          go_wp2_with fail
          go_quiet (fail)
          go_wp2_with fail
          go_roundg (l.length - (k + 1))
          case measure => omega
          case rel =>
            refine ⟨k + 1, rfl, by omega, by go_num, ⟨fun j hj hjk => ?_⟩, ⟨dr_ex (by repeat (first | exact HQ.out | apply dr_step | apply dr_stepN))⟩⟩
            rcases Nat.lt_or_ge j k with h | h
            · exact HN.out j hj h
            · obtain rfl : j = k := by omega
              exact HLT.out
        · have d1 : decide (l[k].2 < t.2) = false := by simp; omega
          have d2 : (l[k].2 == t.2) = true := by simp [h]
          cases hbl : Op.bytesLess l[k].1.toList t.1.toList with
          | true =>
            have HLT := Aside0.mk (show lt l[k] t = true from by unfold lt; simp [h, hbl])
            clear h
            generalize l[k].2 = et at *
            generalize l[k].1 = es at *
            go_wp2_with fail
            go_quiet (fail)
            go_wp2_with fail
            go_roundg (l.length - (k + 1))
            case measure => omega
            case rel =>
              refine ⟨k + 1, rfl, by omega, by go_num, ⟨fun j hj hjk => ?_⟩, ⟨dr_ex (by repeat (first | exact HQ.out | apply dr_step | apply dr_stepN))⟩⟩
              rcases Nat.lt_or_ge j k with h | h
              · exact HN.out j hj h
              · obtain rfl : j = k := by omega
                exact HLT.out
          | false =>
            have HLT := Aside0.mk (show lt l[k] t = false from by unfold lt; simp [h, hbl])
            clear h
            generalize l[k].2 = et at *
            generalize l[k].1 = es at *
            go_wp2_with fail
            go_quiet (fail)
            go_wp2_with fail
            go_meet
            refine ⟨k, rfl, hk, ⟨split_at t l k hk HN.out (fun h => ?_)⟩, ⟨dr_ex (by repeat (first | exact HQ.out | apply dr_step | apply dr_stepN))⟩⟩
            exact HLT.out
        · have HLT := Aside0.mk (show lt l[k] t = false from by unfold lt; simp; omega)
          have d1 : decide (l[k].2 < t.2) = false := by simp; omega
          have d2 : (l[k].2 == t.2) = false := by rw [beq_eq_false_iff_ne]; omega
          clear h
          generalize l[k].2 = et at *
          generalize l[k].1 = es at *
          go_wp2_with fail
          go_quiet (fail)
          go_wp2_with fail
          go_meet
          refine ⟨k, rfl, hk, ⟨split_at t l k hk HN.out (fun h => ?_)⟩, ⟨dr_ex (by repeat (first | exact HQ.out | apply dr_step | apply dr_stepN))⟩⟩
          exact HLT.out
      · obtain rfl : k = l.length := by omega
        have k1 : decide ((l.length : Int) < (l.length : Int)) = false := by simp
        go_wp2_with fail
        go_quiet (fail)
        go_wp2_with fail
        go_meet
        exact ⟨l.length, rfl, Nat.le_refl _, ⟨split_at t l l.length (Nat.le_refl _) HN.out (fun h => by omega)⟩, ⟨dr_ex (by repeat (first | exact HQ.out | apply dr_step | apply dr_stepN))⟩⟩
  case rest =>
    obtain ⟨k, rfl, hk, HSP, HQ⟩ := hcut
    obtain ⟨q, rfl⟩ := HQ.out
    obtain ⟨W1, hW1⟩ : ∃ W1, W1 = w1.drewN q := ⟨_, rfl⟩
    have y0 : W1.cell? ⟨g0, 0, none⟩ = some (.string t.1) := by rw [hW1]; exact x0
    have y1 : W1.cell? ⟨g0, 1, none⟩ = some (.int .i64 t.2) := by rw [hW1]; exact x1
    have yc : W1.cell? ⟨r, 1, none⟩ = some (.slice A l.length c) := by rw [hW1]; exact c1
    have hrl : r < W1.heap.size := by rw [hW1]; exact hrl1
    have hfz : W1.frozen? ⟨r, 1, none⟩ = false := by rw [hW1]; exact hfz1
    have h3 : kE.C W1 A l.length l := by rw [hW1]; exact C_move H3.out (fun _ _ => rfl)
    have HH1 := Aside0.mk (show Ref W1 R r now l from by rw [hW1]; exact HH.out.drewN q)
    have HB1' := Aside0.mk (show Below g0 w W1 from by rw [hW1]; exact pw_below_drewN HB1.out q)
    rw [← hW1]
    clear x0 x1 c1 hrl1 hfz1 H3 hW1 HQ
    have s1 := sl_to A l.length c k (by omega) h2
    have s2 := sl_from A l.length c k (by omega)
    have htk : (l.take k).length = k := by rw [List.length_take]; omega
    have hdk : (l.drop k).length = l.length - k := List.length_drop
    have HT := Aside0.mk (show kE.C W1 A k (l.take k) from by have := Kd.C_take (m := k) h3 (by omega); rw [htk] at this; exact this)
    have HD := Aside0.mk (show kE.C W1 (fromA A c k) (l.length - k) (l.drop k) from by have := C_from (k := k) h3 (by omega) h2; rw [hdk] at this; exact this)
    have hlt : (l.take k).length + (l.length - k) ≤ 4096 := by omega
    have HPF := Aside0.mk (show putF t l = l.take k ++ t :: l.drop k from by unfold putF; rw [HSP.out.1, HSP.out.2])
    generalize hX : l.take k = X at *
    generalize hY : l.drop k = Y at *
    generalize hnY : l.length - k = nY at *
    generalize hnL : l.length = nL at *
    generalize fromA A c k = A2 at *
    clear h3 htk hdk hX hY hnY hnL
    go_wp2_with (first | ((with_reducible refine gate_builtin (b := .append) (xs := #[.tmp 54, .tmp 60]) rfl ?_); at_builtin; refine Kd.R_append_rows kE (Rr := kE.K W1) (w0 := W1) W1.heap.size rfl (.tmp 54) (.tmp 60) 42 46 (.agg #[.string ⟨#[]⟩, .int .i64 0]) 24 rfl Try.underlying42 infoT rfl (by decide) (by omega) (.slice none 0 0) [] X A k c (fun _ => True) (fun _ => False) ?aV ?aX ?aO ?aR ?aK (fun _ hk => hk.elim) (fun _ _ => trivial) ?aB ?aS ?aL ?_; (case aV => rfl); (case aX => rfl); (case aO => exact Kd.R_nil _ _ _ _ _); (case aR => exact HT.out); (case aK => exact fun x cs h => kE_K.1 h ▸ kE_M); (case aB => exact Below.refl _ _); (case aS => exact Nat.le_refl _); (case aL => (simp; omega)); intro v6 w6 hR6 hB6 hg6 hat6; have q0 : w6.cell? ⟨g0, 0, none⟩ = some (.string t.1) := pw_cell_below hB6 y0; have q1 : w6.cell? ⟨g0, 1, none⟩ = some (.int .i64 t.2) := pw_cell_below hB6 y1; have c1' : w6.cell? ⟨r, 1, none⟩ = some (.slice A nL c) := pw_cell_below hB6 yc; have HR6 := Aside0.mk hR6; have HB6 := Aside0.mk hB6; clear hR6 hB6 hg6 hat6) | ((with_reducible refine gate_builtin (b := .append) (xs := #[.tmp 62, .tmp 64]) rfl ?_); at_builtin; refine Kd.R_append kE (w0 := W1) W1.heap.size rfl (.tmp 62) (.tmp 64) 42 46 (.agg #[.string ⟨#[]⟩, .int .i64 0]) 24 rfl Try.underlying42 infoT rfl (by decide) (by omega) v6 X t (encE t) (fun _ => True) (fun _ => False) ?aV ?aX ?aP (fun _ hk => hk.elim) (fun _ _ => trivial) ?aO ?aB ?aS ?aL ?_; (case aV => rfl); (case aX => rfl); (case aP => exact kE_M); (case aO => exact HR6.out); (case aB => exact HB6.out); (case aS => exact HB6.out.size); (case aL => omega); intro v8 w8 hR8 hB8 hg8 hat8; have c8' : w8.cell? ⟨r, 1, none⟩ = some (.slice A nL c) := pw_cell_below hB8 yc; have HR8 := Aside0.mk hR8; have HB8 := Aside0.mk hB8; clear hR8 hB8 hg8 hat8) | ((with_reducible refine gate_builtin (b := .append) (xs := #[.tmp 67, .tmp 73]) rfl ?_); at_builtin; refine Kd.R_append_rows kE (Rr := kE.K W1) (w0 := W1) W1.heap.size rfl (.tmp 67) (.tmp 73) 42 46 (.agg #[.string ⟨#[]⟩, .int .i64 0]) 24 rfl Try.underlying42 infoT rfl (by decide) (by omega) v8 (X ++ [t]) Y A2 nY (c - k) (fun _ => True) (fun _ => False) ?aV ?aX ?aO ?aR ?aK (fun _ hk => hk.elim) (fun _ _ => trivial) ?aB ?aS ?aL ?_; (case aV => rfl); (case aX => rfl); (case aO => exact HR8.out); (case aR => exact Kd.C_below HD.out HB8.out); (case aK => exact fun x cs h => kE_K.1 h ▸ kE_M); (case aB => exact HB8.out); (case aS => exact HB8.out.size); (case aL => (simp; omega)); intro v7 w7 hR7 hB7 hg7 hat7; obtain ⟨A7, c7, rfl⟩ := Kd.R_slice hR7; have f7 : w7.frozen? ⟨r, 1, none⟩ = false := (by unfold World.frozen? at hfz ⊢; rw [hB7.block r hrl]; exact hfz); have c7' : w7.cell? ⟨r, 1, none⟩ = some (.slice A nL c) := pw_cell_below hB7 yc; have HR7 := Aside0.mk hR7; have HB7 := Aside0.mk hB7; clear hR7 hB7 hg7 hat7) | fail)
    go_end0
    refine ⟨rfl, ?_⟩
    have hs := Ref.stored HH1.out HB7.out HR7.out
    rw [HPF.out]
    have e1 : X ++ [t] ++ Y = X ++ t :: Y := by simp
    have e2 : (X ++ [t] ++ Y).length = X.length + (Y.length + 1) := by simp
    rw [e2, e1] at hs
    have hs2 := Ref.after_below (w := w) (by rw [HG0.out]; exact HB1'.out) hs
    exact hs2
end
end Go.Proofs.Ytaefbibkkkglnaa.Wh
/- The reference wheel: Add, Change, Remove. No condition. -/
namespace Go.Proofs.Ytaefbibkkkglnaa.Wh
open Go Go.RowKit Go.Proofs.YtaefbibkkkglnaaW.PrintWords Go.Proofs.Ytaefbibkkkglnaa.Fr
set_option linter.unusedVariables false
set_option linter.unusedSimpArgs false
section
variable {w w' : World} {R : Nat → Prop} {r : Nat} {now : Int} {l : List E}
theorem build_Ti (id : ByteArray) (t : Int) (w : World) : (Instr.build 46 #[(0, .string id), (1, .int .i64 t)]).run Try.prog w = .ok (.agg #[.string id, .int .i64 t]) w := by kernel_rfl
theorem RAfter.trans {l1 l2 : List E} {w1 w2 : World} (h : RAfter w R r now l1 w1) (k : ∀ R1, Ref w1 R1 r now l1 → RAfter w1 R1 r now l2 w2) : RAfter w R r now l2 w2 := by
  obtain ⟨R1, h1, h2, h3⟩ := h
  obtain ⟨R2, k1, k2, k3⟩ := k R1 h1
  exact ⟨R2, k1, fun b hb => (k2 b hb).elim (h2 b) (fun q => .inr (Nat.le_trans h3.size q)), h3.trans k3⟩
theorem radd_calls (h : Ref w R r now l) (id : ByteArray) (t : Int) (hs : id.size < 4611686018427387904) (hl : l.length ≤ 4096) (hn : (l.map Prod.fst).Nodup) : Calls Try.prog 44 #[.pointer (some ⟨r, 0, none⟩), .string id, .int .i64 t] w fun e w' =>
    e = .returned (.int .i64 (addE now l id t)) ∧ RAfter w R r now (addL now l id t) w' := by
  have HN := Aside0.mk (rname_calls id w hs)
  have HF := Aside0.mk (rfind_calls h id (by omega))
  have HT := Aside0.mk (rtime_calls h t)
  have HP := Aside0.mk (rput_calls h (id, t) hl)
  have HH := Aside0.mk h
  obtain ⟨A, c, h1, h2, h3, h4⟩ := h.hd
  have c1 : w.cell? ⟨r, 1, none⟩ = some (.slice A l.length c) := blk_cell h1 1
  have hbt := build_Ti id t
  clear h h1 h2 h3 h4
  by_cases hb : nameB id = true
  · rw [hb] at HN
    by_cases hx : hasB l id = true
    · obtain ⟨k, hk, e1, -⟩ := idx_some hn hx
      rw [e1] at HF
      have hfe : addE now l id t = 8 := by unfold addE; rw [if_pos hb, if_pos hx]
      have hL : addL now l id t = l := by unfold addL; rw [hfe, if_neg (by decide)]
      rw [hfe, hL]
      have k0 : (0 : Int) ≤ (k : Int) := by omega
      clear e1 hx hb hfe hL hn
      go_enter Try.func44, Try.ntmps44
      go_wp2_with fail
      refine (HN.out).mono ?_
      rintro e w' ⟨rfl, rfl⟩
      go_wp2_with fail
      refine (HF.out).mono ?_
      rintro e w' ⟨rfl, rfl⟩
      go_wp2_with fail
      go_ret
      exact ⟨rfl, HH.out.same 0⟩
    · have hx' : hasB l id = false := by simpa using hx
      rw [idx_none hx'] at HF
      by_cases ht : timeE now t = 0
      · rw [ht] at HT
        by_cases hf : 4096 ≤ l.length
        · have hfe : addE now l id t = 5 := by unfold addE; rw [if_pos hb, if_neg hx, if_pos ht, if_pos hf]
          have hL : addL now l id t = l := by unfold addL; rw [hfe, if_neg (by decide)]
          rw [hfe, hL]
          have d1 : decide ((4096 : Int) ≤ (l.length : Int)) = true := by simp; omega
          clear hx hx' hb hfe hL ht hf
          go_enter Try.func44, Try.ntmps44
          go_wp2_with fail
          refine (HN.out).mono ?_
          rintro e w' ⟨rfl, rfl⟩
          go_wp2_with fail
          refine (HF.out).mono ?_
          rintro e w' ⟨rfl, rfl⟩
          go_wp2_with fail
          refine (HT.out).mono ?_
          rintro e w' ⟨rfl, rfl⟩
          go_wp2_with fail
          go_ret
          exact ⟨rfl, HH.out.same 0⟩
        · have hfe : addE now l id t = 0 := by unfold addE; rw [if_pos hb, if_neg hx, if_pos ht, if_neg hf]
          have hL : addL now l id t = putF (id, t) l := by unfold addL; rw [if_pos hfe]
          rw [hfe, hL]
          have d1 : decide ((4096 : Int) ≤ (l.length : Int)) = false := by simp; omega
          clear hx hx' hb hfe hL ht
          go_enter Try.func44, Try.ntmps44
          go_wp2_with fail
          refine (HN.out).mono ?_
          rintro e w' ⟨rfl, rfl⟩
          go_wp2_with fail
          refine (HF.out).mono ?_
          rintro e w' ⟨rfl, rfl⟩
          go_wp2_with fail
          refine (HT.out).mono ?_
          rintro e w' ⟨rfl, rfl⟩
          go_wp2_with fail
          refine (HP.out).mono ?_
          rintro e w' ⟨rfl, hA⟩
          have HA := Aside0.mk hA
          clear hA
          go_wp2_with fail
          go_ret
          exact ⟨rfl, HA.out⟩
      · have hfe : addE now l id t = timeE now t := by unfold addE; rw [if_pos hb, if_neg hx, if_neg ht]
        have hL : addL now l id t = l := by unfold addL; rw [hfe, if_neg ht]
        rw [hfe, hL]
        have hv : (timeE now t != 0) = true := by rw [bne_iff_ne]; exact ht
        generalize timeE now t = v at *
        clear hx hx' hb hfe hL ht
        go_enter Try.func44, Try.ntmps44
        go_wp2_with fail
        refine (HN.out).mono ?_
        rintro e w' ⟨rfl, rfl⟩
        go_wp2_with fail
        refine (HF.out).mono ?_
        rintro e w' ⟨rfl, rfl⟩
        go_wp2_with fail
        refine (HT.out).mono ?_
        rintro e w' ⟨rfl, rfl⟩
        go_wp2_with fail
        go_ret
        exact ⟨rfl, HH.out.same 0⟩
  · rw [show nameB id = false by simpa using hb] at HN
    have hfe : addE now l id t = 111 := by unfold addE; rw [if_neg hb]
    have hL : addL now l id t = l := by unfold addL; rw [hfe, if_neg (by decide)]
    rw [hfe, hL]
    clear hb hfe hL
    go_enter Try.func44, Try.ntmps44
    go_wp2_with fail
    refine (HN.out).mono ?_
    rintro e w' ⟨rfl, rfl⟩
    go_wp2_with fail
    go_ret
    exact ⟨rfl, HH.out.same 0⟩
theorem rremove_calls (h : Ref w R r now l) (id : ByteArray) (hs : id.size < 4611686018427387904) (hl : l.length ≤ 4096) (hn : (l.map Prod.fst).Nodup) : Calls Try.prog 46 #[.pointer (some ⟨r, 0, none⟩), .string id] w fun e w' =>
    e = .returned (.int .i64 (findE l id)) ∧ RAfter w R r now (removeL l id) w' := by
  have HN := Aside0.mk (rname_calls id w hs)
  have HF := Aside0.mk (rfind_calls h id (by omega))
  have HH := Aside0.mk h
  clear h
  by_cases hb : nameB id = true
  · rw [hb] at HN
    by_cases hx : hasB l id = true
    · obtain ⟨k, hk, e1, _, _, e2⟩ := idx_some hn hx
      rw [e1] at HF
      have hfe : findE l id = 0 := by unfold findE; rw [if_pos hb, if_pos hx]
      have hL : removeL l id = l.take k ++ l.drop (k + 1) := by unfold removeL; rw [if_pos hfe, e2]
      rw [hfe, hL]
      have HC := Aside0.mk (rcut_calls HH.out k hk hl)
      have k0 : decide ((k : Int) < 0) = false := by simp
      clear e1 e2 hx hb hfe hL hn
      go_enter Try.func46, Try.ntmps46
      go_wp2_with fail
      refine (HN.out).mono ?_
      rintro e w' ⟨rfl, rfl⟩
      go_wp2_with fail
      refine (HF.out).mono ?_
      rintro e w' ⟨rfl, rfl⟩
      go_wp2_with fail
      refine (HC.out).mono ?_
      rintro e w' ⟨rfl, hA⟩
      have HA := Aside0.mk hA
      clear hA
      go_wp2_with fail
      go_ret
      exact ⟨rfl, HA.out⟩
    · have hx' : hasB l id = false := by simpa using hx
      rw [idx_none hx'] at HF
      have hfe : findE l id = 7 := by unfold findE; rw [if_pos hb, if_neg hx]
      have hL : removeL l id = l := by unfold removeL; rw [hfe, if_neg (by decide)]
      rw [hfe, hL]
      clear hx hx' hb hfe hL
      go_enter Try.func46, Try.ntmps46
      go_wp2_with fail
      refine (HN.out).mono ?_
      rintro e w' ⟨rfl, rfl⟩
      go_wp2_with fail
      refine (HF.out).mono ?_
      rintro e w' ⟨rfl, rfl⟩
      go_wp2_with fail
      go_ret
      exact ⟨rfl, HH.out.same 0⟩
  · rw [show nameB id = false by simpa using hb] at HN
    have hfe : findE l id = 111 := by unfold findE; rw [if_neg hb]
    have hL : removeL l id = l := by unfold removeL; rw [hfe, if_neg (by decide)]
    rw [hfe, hL]
    clear hb hfe hL
    go_enter Try.func46, Try.ntmps46
    go_wp2_with fail
    refine (HN.out).mono ?_
    rintro e w' ⟨rfl, rfl⟩
    go_wp2_with fail
    go_ret
    exact ⟨rfl, HH.out.same 0⟩
theorem rchange_calls (h : Ref w R r now l) (id : ByteArray) (t : Int) (hs : id.size < 4611686018427387904) (hl : l.length ≤ 4096) (hn : (l.map Prod.fst).Nodup) : Calls Try.prog 45 #[.pointer (some ⟨r, 0, none⟩), .string id, .int .i64 t] w fun e w' =>
    e = .returned (.int .i64 (changeE now l id t)) ∧ RAfter w R r now (changeL now l id t) w' := by
  have HN := Aside0.mk (rname_calls id w hs)
  have HF := Aside0.mk (rfind_calls h id (by omega))
  have HT := Aside0.mk (rtime_calls h t)
  have HH := Aside0.mk h
  have hbt := build_Ti id t
  clear h
  by_cases hb : nameB id = true
  · rw [hb] at HN
    by_cases hx : hasB l id = true
    · obtain ⟨k, hk, e1, _, _, e2⟩ := idx_some hn hx
      rw [e1] at HF
      have hfe : findE l id = 0 := by unfold findE; rw [if_pos hb, if_pos hx]
      have k0 : decide ((k : Int) < 0) = false := by simp
      by_cases ht : timeE now t = 0
      · rw [ht] at HT
        have hce : changeE now l id t = 0 := by unfold changeE; rw [if_pos hfe]; exact ht
        have hL : changeL now l id t = putF (id, t) (cutF id l) := by unfold changeL; rw [if_pos hce]
        rw [hce, hL, e2]
        have HC := Aside0.mk (rcut_calls HH.out k hk hl)
        have hl2 : (l.take k ++ l.drop (k + 1)).length ≤ 4096 := by rw [List.length_append, List.length_take, List.length_drop]; omega
        clear e1 e2 hx hb hfe hL hn hce ht
        go_enter Try.func45, Try.ntmps45
        go_wp2_with fail
        refine (HN.out).mono ?_
        rintro e w' ⟨rfl, rfl⟩
        go_wp2_with fail
        refine (HF.out).mono ?_
        rintro e w' ⟨rfl, rfl⟩
        go_wp2_with fail
        refine (HT.out).mono ?_
        rintro e w' ⟨rfl, rfl⟩
        go_wp2_with fail
        refine (HC.out).mono ?_
        rintro e w2 ⟨rfl, hA⟩
        have HA := Aside0.mk hA
        obtain ⟨R2, hR2, hR2a, hR2o⟩ := hA
        have HP := Aside0.mk (rput_calls hR2 (id, t) hl2)
        have HX := Aside0.mk (And.intro hR2a hR2o)
        clear hR2 hR2a hR2o
        go_wp2_with fail
        refine (HP.out).mono ?_
        rintro e w3 ⟨rfl, hA3⟩
        have HA3 := Aside0.mk hA3
        clear hA3
        go_wp2_with fail
        go_ret
        obtain ⟨R3, k1, k2, k3⟩ := HA3.out
        exact ⟨rfl, R3, k1, fun b hb => (k2 b hb).elim (HX.out.1 b) (fun q => .inr (Nat.le_trans HX.out.2.size q)), HX.out.2.trans k3⟩
      · have hce : changeE now l id t = timeE now t := by unfold changeE; rw [if_pos hfe]
        have hL : changeL now l id t = l := by unfold changeL; rw [hce, if_neg ht]
        rw [hce, hL]
        have hv : (timeE now t != 0) = true := by rw [bne_iff_ne]; exact ht
        generalize timeE now t = v at *
        clear hx hb hfe hL ht hce e1 e2
        go_enter Try.func45, Try.ntmps45
        go_wp2_with fail
        refine (HN.out).mono ?_
        rintro e w' ⟨rfl, rfl⟩
        go_wp2_with fail
        refine (HF.out).mono ?_
        rintro e w' ⟨rfl, rfl⟩
        go_wp2_with fail
        refine (HT.out).mono ?_
        rintro e w' ⟨rfl, rfl⟩
        go_wp2_with fail
        go_ret
        exact ⟨rfl, HH.out.same 0⟩
    · have hx' : hasB l id = false := by simpa using hx
      rw [idx_none hx'] at HF
      have hfe : findE l id = 7 := by unfold findE; rw [if_pos hb, if_neg hx]
      have hce : changeE now l id t = 7 := by unfold changeE; rw [hfe, if_neg (by decide)]
      have hL : changeL now l id t = l := by unfold changeL; rw [hce, if_neg (by decide)]
      rw [hce, hL]
      clear hx hx' hb hfe hL hce
      go_enter Try.func45, Try.ntmps45
      go_wp2_with fail
      refine (HN.out).mono ?_
      rintro e w' ⟨rfl, rfl⟩
      go_wp2_with fail
      refine (HF.out).mono ?_
      rintro e w' ⟨rfl, rfl⟩
      go_wp2_with fail
      go_ret
      exact ⟨rfl, HH.out.same 0⟩
  · rw [show nameB id = false by simpa using hb] at HN
    have hfe : findE l id = 111 := by unfold findE; rw [if_neg hb]
    have hce : changeE now l id t = 111 := by unfold changeE; rw [hfe, if_neg (by decide)]
    have hL : changeL now l id t = l := by unfold changeL; rw [hce, if_neg (by decide)]
    rw [hce, hL]
    clear hb hfe hL hce
    go_enter Try.func45, Try.ntmps45
    go_wp2_with fail
    refine (HN.out).mono ?_
    rintro e w' ⟨rfl, rfl⟩
    go_wp2_with fail
    go_ret
    exact ⟨rfl, HH.out.same 0⟩
end
end Go.Proofs.Ytaefbibkkkglnaa.Wh
/- The reference wheel: Advance. No condition. -/
namespace Go.Proofs.Ytaefbibkkkglnaa.Wh
open Go Go.RowKit Go.Proofs.YtaefbibkkkglnaaW.PrintWords Go.Proofs.Ytaefbibkkkglnaa.Fr
set_option linter.unusedVariables false
set_option linter.unusedSimpArgs false
theorem told_take {l : List E} (hs : Sorted l) (t : Int) (k : Nat) (hk : k ≤ l.length) (h1 : ∀ j (hj : j < l.length), j < k → l[j].2 ≤ t) (h2 : ∀ hk : k < l.length, t < l[k].2) : toldF t l = l.take k ∧ leftF t l = l.drop k := by
  have hsp : l = l.take k ++ l.drop k := (List.take_append_drop k l).symm
  have ht : ∀ e ∈ l.take k, e.2 ≤ t := fun e he => by
    obtain ⟨j, hj, rfl⟩ := List.getElem_of_mem he
    rw [List.length_take] at hj
    rw [List.getElem_take]
    exact h1 j (by omega) (by omega)
  have hd : ∀ e ∈ l.drop k, t < e.2 := fun e he => by
    obtain ⟨j, hj, rfl⟩ := List.getElem_of_mem he
    rw [List.length_drop] at hj
    rw [List.getElem_drop]
    have hk2 : k < l.length := by omega
    have h3 := h2 hk2
    rcases Nat.eq_zero_or_pos j with h0 | h0
    · subst h0
      exact h3
    · have h4 : lt l[k] l[k + j] = true := List.pairwise_iff_getElem.1 hs k (k + j) hk2 (by omega) (by omega)
      unfold lt at h4
      simp only [Bool.or_eq_true, decide_eq_true_eq, Bool.and_eq_true, beq_iff_eq] at h4
      omega
  constructor
  · unfold toldF
    conv => lhs; rw [hsp]
    rw [List.filter_append, List.filter_eq_self.2 (fun e he => by simpa using ht e he), List.filter_eq_nil_iff.2 (fun e he => by have := hd e he; simp; omega), List.append_nil]
  · unfold leftF
    conv => lhs; rw [hsp]
    rw [List.filter_append, List.filter_eq_nil_iff.2 (fun e he => by have := ht e he; simp; omega), List.filter_eq_self.2 (fun e he => by simpa using hd e he), List.nil_append]
section
variable {w w' : World} {R : Nat → Prop} {r : Nat} {now : Int} {l : List E}
theorem radv_bad (t : Int) (a : Nat) (w : World) (h : ¬ (0 ≤ t ∧ t ≤ 1099511627776)) : Calls Try.prog 48 #[.pointer (some ⟨a, 0, none⟩), .int .i64 t] w fun e w' => e = .returned (.tuple #[.slice none 0 0, .int .i64 2]) ∧ w = w' := by
  by_cases h0 : t < 0
  · have d0 : decide (t < 0) = true := by simpa using h0
    clear h
    go_enter Try.func48, Try.ntmps48
    go_wp2_with fail
    go_ret2
    exact ⟨rfl, rfl⟩
  · have d0 : decide (t < 0) = false := by simpa using h0
    have d1 : decide (1099511627776 < t) = true := by simp; omega
    clear h
    go_enter Try.func48, Try.ntmps48
    go_wp2_with fail
    go_ret2
    exact ⟨rfl, rfl⟩
theorem radv_past (h : Ref w R r now l) (t : Int) (ht : 0 ≤ t ∧ t ≤ 1099511627776) (h2 : t < now) : Calls Try.prog 48 #[.pointer (some ⟨r, 0, none⟩), .int .i64 t] w fun e w' => e = .returned (.tuple #[.slice none 0 0, .int .i64 110]) ∧ w = w' := by
  have c0 := h.c0
  have d0 : decide (t < 0) = false := by simp; omega
  have d1 : decide (1099511627776 < t) = false := by simp; omega
  have d2 : decide (t < now) = true := by simpa using h2
  clear h
  go_enter Try.func48, Try.ntmps48
  go_wp2_with fail
  go_ret2
  exact ⟨rfl, rfl⟩
set_option maxRecDepth 100000 in
set_option maxHeartbeats 2000000 in
theorem radv_ok (h : Ref w R r now l) (hsort : Sorted l) (hl : l.length ≤ 4096) (t : Int) (ht : 0 ≤ t ∧ t ≤ 1099511627776) (h2 : now ≤ t) : Calls Try.prog 48 #[.pointer (some ⟨r, 0, none⟩), .int .i64 t] w fun e w' =>
    ∃ v, e = .returned (.tuple #[v, .int .i64 0]) ∧ Kd.string.R 9 w' w.heap.size (fun _ => True) v ((toldF t l).map Prod.fst) ∧ RAfter w R r t (leftF t l) w' := by
  have c0 := h.c0
  have f0 := h.fz 0
  have d0 : decide (t < 0) = false := by simp; omega
  have d1 : decide (1099511627776 < t) = false := by simp; omega
  have d2 : decide (t < now) = false := by simp; omega
  have hrw := h.lt r h.own
  have HS := Aside0.mk hsort
  have H1 := Aside0.mk (show Ref (w.setCell ⟨r, 0, none⟩ (.int .i64 t)) R r t l from by
    obtain ⟨⟨A, c, h1, h2, h3, h4⟩, h5, h6⟩ := h
    refine ⟨⟨A, c, ?_, h2, C_move h3 (fun ad e => Below.heap_setCell _ _ _ _ (h4 ad e).2), h4⟩, h5, fun b hb => by rw [World.size_setCell]; exact h6 b hb⟩
    rw [blk_set h1 0]
    rfl)
  have HO1 := Aside0.mk (show Only (fun b => b = r) w (w.setCell ⟨r, 0, none⟩ (.int .i64 t)) from Only.set (S := fun b => b = r) (Only.refl _ w) (p := ⟨r, 0, none⟩) (fun _ => rfl) _)
  have hz1 : (w.setCell ⟨r, 0, none⟩ (.int .i64 t)).heap.size = w.heap.size := World.size_setCell _ _ _
  have HZ1 := Aside0.mk hz1
  clear h hsort hz1
  go_enter Try.func48, Try.ntmps48
  go_upto_block 0 with fail
  generalize (w.setCell ⟨r, 0, none⟩ (.int .i64 t)) = w1 at *
  obtain ⟨A, c, h1, h2', h3, h4⟩ := H1.out.hd
  have c1 : w1.cell? ⟨r, 1, none⟩ = some (.slice A l.length c) := blk_cell h1 1
  have H3 := Aside0.mk h3
  have hfz := H1.out.fz 1
  have hrl : r < w1.heap.size := H1.out.lt r H1.out.own
  have HBK := Aside0.mk (And.intro h1 h4)
  clear h1 h3 h4 c0 f0
  go_cut [6, 7] (fun s6 s7 wx => ∃ wy : World, wy = wx ∧ ∃ k : Nat, s7 = .int .i64 k ∧ k ≤ l.length ∧ Aside0 (toldF t l = l.take k ∧ leftF t l = l.drop k) ∧ Aside0 (Kd.string.R 9 wx w1.heap.size (fun _ => True) s6 ((l.take k).map Prod.fst)) ∧ Aside0 (Below w1.heap.size w1 wx))
  case first =>
    go_wp2_with fail
    go_loopg [6, 7] l.length (fun g v6 v7 wx => ∃ k : Nat, g = l.length - k ∧ k ≤ l.length ∧ v7 = .int .i64 k ∧ Aside0 (∀ j (hj : j < l.length), j < k → l[j].2 ≤ t) ∧ Aside0 (Kd.string.R 9 wx w1.heap.size (fun _ => True) v6 ((l.take k).map Prod.fst)) ∧ Aside0 (Below w1.heap.size w1 wx))
    case atStart => exact ⟨0, rfl, by omega, rfl, ⟨fun j hj h => by omega⟩, ⟨Kd.R_nil _ _ _ _ _⟩, ⟨Below.refl _ _⟩⟩
    case round =>
      obtain ⟨k, rfl, hk, rfl, HN, HR, HB⟩ := hrel
      have yc : wr.cell? ⟨r, 1, none⟩ = some (.slice A l.length c) := pw_cell_below HB.out c1
      have k0 : (0 : Int) ≤ (k : Int) := by omega
      by_cases hkl : k < l.length
      · obtain ⟨ad, rfl, z1, z2⟩ := at_E (Kd.C_below H3.out HB.out) k hkl
        have k1 : (k : Int) < (l.length : Int) := by omega
        by_cases hle : l[k].2 ≤ t
        · have d3 : decide (l[k].2 ≤ t) = true := by simpa using hle
          have HL := Aside0.mk hle
          have hSZ := HB.out.size
          clear hle
          go_wp2_with (first | ((with_reducible refine gate_builtin (b := .append) (xs := #[.tmp 48, .tmp 57]) rfl ?_); at_builtin; refine Kd.R_append Kd.string (w0 := wr) w1.heap.size rfl (.tmp 48) (.tmp 57) 29 9 (.string ⟨#[]⟩) 16 rfl Try.underlying29 infoS rfl (by decide) (by omega) (u6) ((l.take k).map Prod.fst) (l[k].1) ([.string l[k].1]) (fun _ => True) (fun _ => False) ?aV ?aX ?aP (fun _ hk => hk.elim) (fun _ _ => trivial) ?aO ?aB ?aS ?aL ?_; (case aV => rfl); (case aX => rfl); (case aP => exact rfl); (case aO => exact HR.out); (case aB => exact Below.refl _ _); (case aS => exact hSZ); (case aL => (rw [List.length_map, List.length_take]; omega)); intro v2 w2 hR2 hB2 hg2 hat2) | fail)
          go_roundg (l.length - (k + 1))
          case measure => omega
          case rel =>
            refine ⟨k + 1, rfl, by omega, by go_num, ⟨fun j hj hjk => ?_⟩, ⟨?_⟩, ⟨HB.out.trans hB2⟩⟩
            · rcases Nat.lt_or_ge j k with h | h
              · exact HN.out j hj h
              · obtain rfl : j = k := by omega
                exact HL.out
            · rw [List.take_succ_eq_append_getElem hkl, List.map_append]
              exact hR2
        · have d3 : decide (l[k].2 ≤ t) = false := by simpa using hle
          have HL := Aside0.mk hle
          clear hle
          go_wp2_with fail
          go_meet
          exact ⟨_, rfl, k, rfl, hk, ⟨told_take HS.out t k hk HN.out (fun h => by have := HL.out; omega)⟩, HR, HB⟩
      · obtain rfl : k = l.length := by omega
        have k1 : decide ((l.length : Int) < (l.length : Int)) = false := by simp
        go_wp2_with fail
        go_meet
        exact ⟨_, rfl, l.length, rfl, Nat.le_refl _, ⟨told_take HS.out t l.length (Nat.le_refl _) HN.out (fun h => by omega)⟩, HR, HB⟩
  case rest =>
    obtain ⟨wr, rfl, k, rfl, hk, HT, HR, HB⟩ := hcut
    have yc : wr.cell? ⟨r, 1, none⟩ = some (.slice A l.length c) := pw_cell_below HB.out c1
    have yf : wr.frozen? ⟨r, 1, none⟩ = false := by unfold World.frozen? at hfz ⊢; rw [HB.out.block r hrl]; exact hfz
    have s2 := sl_from A l.length c k hk
    have HC := Aside0.mk (C_from (k := k) H3.out hk h2')
    have hdk : (l.drop k).length = l.length - k := List.length_drop
    have HDK := Aside0.mk hdk
    have HA := Aside0.mk (show ∀ ad, fromA A c k = some ad → R ad.block ∧ ad.block ≠ r from fun ad e => by
      obtain ⟨a0, e0, e1⟩ := fromA_blk e
      have := HBK.out.2 a0 e0
      rw [← e1]
      exact this)
    have hck : l.length - k ≤ c - k := by omega
    generalize fromA A c k = A2 at *
    obtain ⟨A6, c6, rfl, hc6, hC6⟩ := Kd.R_reads HR.out
    clear hdk hC6
    go_wp2_with fail
    go_ret2
    have hR := HR.out
    have hwr : wr.heap[r]? = some (.cells #[.int .i64 t, .slice A l.length c] 94 (0, 0)) := (HB.out.block r hrl).trans HBK.out.1
    have hzz := HZ1.out
    refine ⟨_, rfl, ?_, R, ⟨⟨A2, c - k, ?_, ?_, ?_, HA.out⟩, H1.out.own, fun b hb => ?_⟩, fun b hb => .inl hb, ?_⟩
    · have hR2 := R_over (R_base hR (Nat.le_of_eq hzz.symm)) (Only.set (S := fun b => b = r) (Only.refl _ wr) (p := ⟨r, 1, none⟩) (fun _ => rfl) (.slice A2 (l.length - k) (c - k))) (fun b hb => by rw [hb]; exact hrw)
      rw [HT.out.1]
      exact hR2
    · rw [blk_set hwr 1, HT.out.2, HDK.out]
      rfl
    · rw [HT.out.2, HDK.out]
      exact hck
    · rw [HT.out.2]
      exact C_move (Kd.C_below HC.out HB.out) (fun ad e => Below.heap_setCell _ _ _ _ (HA.out ad e).2)
    · rw [World.size_setCell]
      exact Nat.lt_of_lt_of_le (H1.out.lt b hb) HB.out.size
    · exact (HO1.out.trans (Only.of_below HB.out)).set (fun _ => rfl) _
end
end Go.Proofs.Ytaefbibkkkglnaa.Wh
/- WheelOnce: the plain law. No condition. -/
namespace Go.Proofs.Ytaefbibkkkglnaa.Wh
open Go Go.RowKit Go.Proofs.YtaefbibkkkglnaaW.PrintWords
set_option linter.unusedVariables false
set_option linter.unusedSimpArgs false
/-- Who has been told: those whose time is past, and those of ids. -/
def seen (now : Int) (fs : List Int) (T : Int) (ids : List ByteArray) (x : Nat) : Bool := decide (x < fs.length ∧ farT now fs x ≤ T) || ids.any (fun s => decide (s = nm x))
theorem seen_cons (now : Int) (fs : List Int) (T : Int) (ids : List ByteArray) (s : ByteArray) (x : Nat) : seen now fs T (ids ++ [s]) x = (seen now fs T ids x || decide (s = nm x)) := by
  unfold seen
  rw [List.any_append]
  simp [Bool.or_assoc]
structure Due (now : Int) (fs : List Int) (was T : Int) (D : List E) : Prop where
  sorted : Sorted D
  ids : (D.map Prod.fst).Nodup
  mem : ∀ e, e ∈ D ↔ ∃ k < fs.length, e = (nm k, farT now fs k) ∧ was < farT now fs k ∧ farT now fs k ≤ T
theorem due_ok {now : Int} {fs : List Int} {was T : Int} {L : List E} (hs : Sorted L) (hn : (L.map Prod.fst).Nodup) (hp : L.Perm ((List.range fs.length).map fun i => (nm i, farT now fs i))) : Due now fs was T (toldF T (leftF was L)) := by
  refine ⟨(hs.sublist List.filter_sublist).sublist List.filter_sublist, (hn.sublist (List.filter_sublist.map _)).sublist (List.filter_sublist.map _), fun e => ?_⟩
  unfold toldF leftF
  rw [List.mem_filter, List.mem_filter, hp.mem_iff, List.mem_map]
  constructor
  · rintro ⟨⟨⟨k, hk, rfl⟩, h1⟩, h2⟩
    exact ⟨k, List.mem_range.1 hk, rfl, by simpa using h1, by simpa using h2⟩
  · rintro ⟨k, hk, rfl, h1, h2⟩
    exact ⟨⟨⟨k, List.mem_range.2 hk, rfl⟩, by simpa using h1⟩, by simpa using h2⟩
section
variable {now : Int} {fs : List Int} {was T : Int} {D : List E}
theorem Due.new (h : Due now fs was T D) (hl : fs.length ≤ 400) (hw : was ≤ T) (x : Nat) (hx : x < 400) : seen now fs was (D.map Prod.fst) x = seen now fs T [] x := by
  unfold seen
  rw [Bool.eq_iff_iff]
  simp only [Bool.or_eq_true, decide_eq_true_eq, List.any_eq_true, List.mem_map, List.not_mem_nil, false_and, exists_false, or_false]
  constructor
  · rintro (⟨h1, h2⟩ | ⟨s, ⟨e, he, rfl⟩, h2⟩)
    · exact ⟨h1, by omega⟩
    · obtain ⟨k, hk, rfl, h3, h4⟩ := (h.mem e).1 he
      have := nm_inj (a := k) (b := x) (by omega) (by omega) h2
      subst this
      exact ⟨hk, h4⟩
  · rintro ⟨h1, h2⟩
    by_cases h3 : farT now fs x ≤ was
    · exact .inl ⟨h1, h3⟩
    · exact .inr ⟨_, ⟨_, (h.mem _).2 ⟨x, h1, rfl, by omega, h2⟩, rfl⟩, rfl⟩
theorem Due.at_ (h : Due now fs was T D) (hl : fs.length ≤ 400) (j : Nat) (hj : j < D.length) :
    ∃ k < fs.length, D[j] = (nm k, farT now fs k) ∧ was < farT now fs k ∧ farT now fs k ≤ T ∧ seen now fs was ((D.take j).map Prod.fst) k = false ∧ (∀ x < 400, seen now fs was ((D.take (j + 1)).map Prod.fst) x = if x = k then true else seen now fs was ((D.take j).map Prod.fst) x) := by
  obtain ⟨k, hk, e, h3, h4⟩ := (h.mem _).1 (List.getElem_mem hj)
  refine ⟨k, hk, e, h3, h4, ?_, fun x hx => ?_⟩
  · unfold seen
    rw [Bool.or_eq_false_iff]
    refine ⟨by simp; intro _; omega, ?_⟩
    rw [List.any_eq_false]
    intro s hs q
    simp at q
    subst q
    obtain ⟨i, hi, e2⟩ := List.getElem_of_mem hs
    have hi2 : i < j := by rw [List.length_map, List.length_take] at hi; omega
    rw [List.getElem_map, List.getElem_take] at e2
    have h5 : (D.map Prod.fst)[i]'(by rw [List.length_map]; omega) = (D.map Prod.fst)[j]'(by rw [List.length_map]; omega) := by
      rw [List.getElem_map, List.getElem_map, e2, e]
    have := (List.getElem_inj h.ids).1 h5
    omega
  · rw [List.take_succ_eq_append_getElem hj, List.map_append, List.map_cons, List.map_nil, seen_cons, e]
    by_cases hxk : x = k
    · subst hxk
      simp
    · rw [if_neg hxk]
      have : decide ((nm k, farT now fs k).1 = nm x) = false := decide_eq_false fun q => hxk (nm_inj (a := k) (b := x) (by omega) (by omega) q).symm
      rw [this, Bool.or_false]
end
/-- The last time and name told. -/
def lastT (D : List E) (j : Nat) : Int := if j = 0 then -1 else (D.getD (j - 1) (⟨#[]⟩, 0)).2
def lastN (D : List E) (j : Nat) : ByteArray := if j = 0 then ⟨#[]⟩ else (D.getD (j - 1) (⟨#[]⟩, 0)).1
theorem last_succ (D : List E) (j : Nat) (hj : j < D.length) : lastT D (j + 1) = D[j].2 ∧ lastN D (j + 1) = D[j].1 := by
  unfold lastT lastN
  rw [if_neg (by omega), if_neg (by omega), Nat.add_sub_cancel, List.getD_eq_getElem?_getD, List.getElem?_eq_getElem hj]
  exact ⟨rfl, rfl⟩
theorem last_ok {D : List E} (hs : Sorted D) (j : Nat) (hj : j < D.length) (h0 : 0 ≤ D[j].2) : lastT D j ≤ D[j].2 ∧ (lastT D j = D[j].2 → Op.bytesLess (lastN D j).toList D[j].1.toList = true) := by
  rcases Nat.eq_zero_or_pos j with h | h
  · subst h
    unfold lastT lastN
    rw [if_pos rfl, if_pos rfl]
    exact ⟨by omega, fun q => by omega⟩
  · obtain ⟨i, rfl⟩ : ∃ i, j = i + 1 := ⟨j - 1, by omega⟩
    obtain ⟨e1, e2⟩ := last_succ D i (by omega)
    rw [e1, e2]
    have h1 : lt D[i] D[i + 1] = true := List.pairwise_iff_getElem.1 hs i (i + 1) (by omega) hj (by omega)
    unfold lt at h1
    simp only [Bool.or_eq_true, decide_eq_true_eq, Bool.and_eq_true, beq_iff_eq] at h1
    rcases h1 with h1 | ⟨h1, h2⟩
    · exact ⟨by omega, fun q => by omega⟩
    · exact ⟨by omega, fun _ => h2⟩
/-- A table of 400 bools. -/
def Tab (w : World) (g : Nat) (f : Nat → Bool) : Prop := ∃ cs : Array Value, w.heap[g]? = some (.cells cs 28 (0, 0)) ∧ cs.size = 400 ∧ ∀ x < 400, cs[x]? = some (.bool (f x))
section
variable {w w' : World} {g : Nat} {f f' : Nat → Bool}
theorem Tab.get (h : Tab w g f) {x : Nat} (hx : x < 400) : w.cell? ⟨g, x, none⟩ = some (.bool (f x)) ∧ w.frozen? ⟨g, x, none⟩ = false := by
  obtain ⟨cs, h1, _, h3⟩ := h
  exact ⟨(blk_cell h1 x).trans (h3 x hx), blk_frozen h1 x⟩
theorem Tab.put (h : Tab w g f) {k : Nat} (hk : k < 400) (hf : ∀ x < 400, f' x = if x = k then true else f x) : Tab (w.setCell ⟨g, k, none⟩ (.bool true)) g f' := by
  obtain ⟨cs, h1, h2, h3⟩ := h
  refine ⟨_, blk_set h1 k _, by simp [h2], fun x hx => ?_⟩
  rw [hf x hx]
  by_cases hxk : x = k
  · subst hxk
    rw [Array.getElem?_setIfInBounds_self_of_lt (by omega), if_pos rfl]
  · rw [Array.getElem?_setIfInBounds_ne (Ne.symm hxk), if_neg hxk, h3 x hx]
theorem Tab.move (h : Tab w g f) (hb : w'.heap[g]? = w.heap[g]?) : Tab w' g f := by
  obtain ⟨cs, h1, h2, h3⟩ := h
  exact ⟨cs, hb.trans h1, h2, h3⟩
theorem Tab.same (h : Tab w g f) (hf : ∀ x < 400, f x = f' x) : Tab w g f' := by
  obtain ⟨cs, h1, h2, h3⟩ := h
  exact ⟨cs, h1, h2, fun x hx => by rw [h3 x hx, hf x hx]⟩
theorem Tab.lt (h : Tab w g f) : g < w.heap.size := by
  obtain ⟨cs, h1, _⟩ := h
  exact blk_lt h1
end
/-- What an Advance of WheelOnce tells, as the law reads it. -/
structure Steps (now : Int) (fs : List Int) (was T : Int) (ids : List ByteArray) (lT : Nat → Int) (lN : Nat → ByteArray) : Prop where
  z1 : lT 0 = -1
  z2 : lN 0 = ⟨#[]⟩
  step : ∀ j (h : j < ids.length), ∃ k < fs.length, ids[j] = nm k ∧ was < farT now fs k ∧ farT now fs k ≤ T ∧ seen now fs was (ids.take j) k = false ∧ (∀ x < 400, seen now fs was (ids.take (j + 1)) x = if x = k then true else seen now fs was (ids.take j) x) ∧ lT j ≤ farT now fs k ∧ (lT j = farT now fs k → Op.bytesLess (lN j).toList (nm k).toList = true) ∧ lT (j + 1) = farT now fs k ∧ lN (j + 1) = nm k
  new : ∀ x < 400, seen now fs was ids x = seen now fs T [] x
  few : ids.length ≤ fs.length
theorem steps_ok {now : Int} {fs : List Int} {was T : Int} {L : List E} (hs : Sorted L) (hn : (L.map Prod.fst).Nodup) (hp : L.Perm ((List.range fs.length).map fun i => (nm i, farT now fs i))) (hl : fs.length ≤ 400) (hw : was ≤ T) (h0 : 0 ≤ now) (h1 : now ≤ was) :
    ∃ lT lN, Steps now fs was T ((toldF T (leftF was L)).map Prod.fst) lT lN := by
  have hd := due_ok (was := was) (T := T) hs hn hp
  have hll : (toldF T (leftF was L)).length ≤ fs.length := by
    have e1 : (toldF T (leftF was L)).length ≤ (leftF was L).length := List.length_filter_le _ _
    have e2 : (leftF was L).length ≤ L.length := List.length_filter_le _ _
    have e3 := hp.length_eq
    simp at e3
    omega
  generalize toldF T (leftF was L) = D at *
  refine ⟨lastT D, lastN D, rfl, rfl, fun j h => ?_, fun x hx => hd.new hl hw x hx, by rw [List.length_map]; exact hll⟩
  have hj : j < D.length := by rw [List.length_map] at h; exact h
  obtain ⟨k, hk, e, h3, h4, h5, h6⟩ := hd.at_ hl j hj
  have e2 : D[j].2 = farT now fs k := by rw [e]
  have e1 : D[j].1 = nm k := by rw [e]
  have h7 := last_ok hd.sorted j hj (by omega)
  have h8 := last_succ D j hj
  rw [e1, e2] at h7 h8
  rw [← List.map_take, ← List.map_take]
  exact ⟨k, hk, by rw [List.getElem_map, e1], h3, h4, h5, h6, h7.1, h7.2, h8.1, h8.2⟩
theorem zeros400 : Try.zeroCells28 = Array.replicate 400 (.bool false) := by kernel_rfl
theorem tab_new {now : Int} {fs : List Int} (w : World) (h : ∀ x < fs.length, now < farT now fs x) : Tab (w.alloc (.cells Try.zeroCells28 28 (0, 0))) w.heap.size (seen now fs now []) := by
  refine ⟨_, heap_alloc_new _ _, by rw [zeros400]; simp, fun x hx => ?_⟩
  rw [zeros400]
  have : seen now fs now [] x = false := by
    unfold seen
    rw [Bool.or_eq_false_iff]
    refine ⟨decide_eq_false fun q => ?_, rfl⟩
    have := h x q.1
    omega
  rw [this, Array.getElem?_replicate, if_pos hx]
theorem nm_eq {m k : Nat} (hm : m ≤ 400) (hk : k ≤ 400) : ((nm m).toList == (nm k).toList) = decide (m = k) := by
  by_cases h : m = k
  · subst h
    simp
  · rw [toList_ne (fun q => h (nm_inj hm hk q))]
    simp [h]
end Go.Proofs.Ytaefbibkkkglnaa.Wh
/- WheelRings: the plain law. No condition. -/
namespace Go.Proofs.Ytaefbibkkkglnaa.Wh
open Go Go.RowKit Go.Proofs.YtaefbibkkkglnaaW.PrintWords
set_option linter.unusedVariables false
set_option linter.unusedSimpArgs false
theorem ring_mono {a n1 n2 : Nat} (h1 : n1 ≤ n2) (h2 : n2 < a) : ring a n2 ≤ ring a n1 := by
  rw [ring_le]
  have h := @ring_up a n1
  have h3 : n1 / 64 ^ (ring a n1 + 1) ≤ n2 / 64 ^ (ring a n1 + 1) := Nat.div_le_div_right h1
  have h4 : n2 / 64 ^ (ring a n1 + 1) ≤ a / 64 ^ (ring a n1 + 1) := Nat.div_le_div_right (by omega)
  omega
theorem rg_mono2 {a n1 n2 : Int} (h0 : 0 ≤ n1) (h1 : n1 ≤ n2) (h2 : n2 < a) : rg a n2 ≤ rg a n1 := ring_mono (by omega) (by omega)
/-- How many lie in the rings below k; from k on. -/
def lowC (now : Int) (l : List E) (k : Nat) : Nat := (l.filter fun e => decide (rg e.2 now < k)).length
def upC (now : Int) (l : List E) (k : Nat) : Nat := (l.filter fun e => decide (k ≤ rg e.2 now)).length
theorem lowC_zero (now : Int) (l : List E) : lowC now l 0 = 0 := by
  unfold lowC
  rw [List.length_eq_zero_iff, List.filter_eq_nil_iff]
  intro e _
  simp
theorem lowC_succ (now : Int) (k : Nat) : ∀ l : List E, lowC now l (k + 1) = lowC now l k + spr now l k
  | [] => rfl
  | e :: l => by
    have ih := lowC_succ now k l
    unfold lowC spr at *
    rcases Nat.lt_trichotomy (rg e.2 now) k with h | h | h
    · rw [List.filter_cons_of_pos (by simp; omega), List.filter_cons_of_pos (p := fun e : E => decide (rg e.2 now < k)) (by simpa using h), List.filter_cons_of_neg (p := fun e : E => decide (rg e.2 now = k)) (by simp; omega)]
      simp only [List.length_cons]
      omega
    · rw [List.filter_cons_of_pos (by simp; omega), List.filter_cons_of_neg (p := fun e : E => decide (rg e.2 now < k)) (by simp; omega), List.filter_cons_of_pos (p := fun e : E => decide (rg e.2 now = k)) (by simpa using h)]
      simp only [List.length_cons]
      omega
    · rw [List.filter_cons_of_neg (by simp; omega), List.filter_cons_of_neg (p := fun e : E => decide (rg e.2 now < k)) (by simp; omega), List.filter_cons_of_neg (p := fun e : E => decide (rg e.2 now = k)) (by simp; omega)]
      exact ih
theorem upC_step (now : Int) (k : Nat) : ∀ l : List E, upC now l k = upC now l (k + 1) + spr now l k
  | [] => rfl
  | e :: l => by
    have ih := upC_step now k l
    unfold upC spr at *
    rcases Nat.lt_trichotomy (rg e.2 now) k with h | h | h
    · rw [List.filter_cons_of_neg (by simp; omega), List.filter_cons_of_neg (p := fun e : E => decide (k + 1 ≤ rg e.2 now)) (by simp; omega), List.filter_cons_of_neg (p := fun e : E => decide (rg e.2 now = k)) (by simp; omega)]
      exact ih
    · rw [List.filter_cons_of_pos (by simp; omega), List.filter_cons_of_neg (p := fun e : E => decide (k + 1 ≤ rg e.2 now)) (by simp; omega), List.filter_cons_of_pos (p := fun e : E => decide (rg e.2 now = k)) (by simpa using h)]
      simp only [List.length_cons]
      omega
    · rw [List.filter_cons_of_pos (by simp; omega), List.filter_cons_of_pos (p := fun e : E => decide (k + 1 ≤ rg e.2 now)) (by simp; omega), List.filter_cons_of_neg (p := fun e : E => decide (rg e.2 now = k)) (by simp; omega)]
      simp only [List.length_cons]
      omega
theorem rg_lt7 {a now : Int} (h0 : 0 ≤ now) (h1 : now < a) (h2 : a ≤ 1099511627776) : rg a now < 7 := ring_lt (by omega) (by omega)
theorem lowC_all {now : Int} {l : List E} (h0 : 0 ≤ now) (h : ∀ e ∈ l, now < e.2 ∧ e.2 ≤ 1099511627776) : lowC now l 7 = l.length := by
  unfold lowC
  rw [List.filter_eq_self.2]
  intro e he
  have := rg_lt7 h0 (h e he).1 (h e he).2
  simpa using this
theorem upC_seven {now : Int} {l : List E} (h0 : 0 ≤ now) (h : ∀ e ∈ l, now < e.2 ∧ e.2 ≤ 1099511627776) : upC now l 7 = 0 := by
  unfold upC
  rw [List.length_eq_zero_iff, List.filter_eq_nil_iff]
  intro e he
  have := rg_lt7 h0 (h e he).1 (h e he).2
  simp
  omega
theorem upC_falls {n1 n2 : Int} (h0 : 0 ≤ n1) (h1 : n1 ≤ n2) (k : Nat) : ∀ l : List E, upC n2 (leftF n2 l) k ≤ upC n1 l k
  | [] => Nat.le_refl _
  | e :: l => by
    have ih := upC_falls h0 h1 k l
    unfold upC leftF at *
    by_cases he : n2 < e.2
    · rw [List.filter_cons_of_pos (p := fun e : E => decide (n2 < e.2)) (by simpa using he)]
      have hm := rg_mono2 h0 h1 he
      by_cases h2 : k ≤ rg e.2 n2
      · rw [List.filter_cons_of_pos (by simpa using h2), List.filter_cons_of_pos (by simp; omega)]
        simp only [List.length_cons]
        omega
      · rw [List.filter_cons_of_neg (by simpa using h2)]
        refine Nat.le_trans ih ?_
        exact (List.Sublist.filter _ (List.sublist_cons_self e l)).length_le
    · rw [List.filter_cons_of_neg (p := fun e : E => decide (n2 < e.2)) (by simpa using he)]
      refine Nat.le_trans ih ?_
      exact (List.Sublist.filter _ (List.sublist_cons_self e l)).length_le
theorem told_left (t : Int) : ∀ l : List E, (toldF t l).length + (leftF t l).length = l.length
  | [] => rfl
  | e :: l => by
    have ih := told_left t l
    unfold toldF leftF at *
    by_cases he : e.2 ≤ t
    · rw [List.filter_cons_of_pos (by simpa using he), List.filter_cons_of_neg (p := fun e : E => decide (t < e.2)) (by simp; omega)]
      simp only [List.length_cons]
      omega
    · rw [List.filter_cons_of_neg (by simpa using he), List.filter_cons_of_pos (p := fun e : E => decide (t < e.2)) (by simp; omega)]
      simp only [List.length_cons]
      omega
theorem left_late {t : Int} {l : List E} (h : ∀ e ∈ l, e.2 ≤ 1099511627776) : ∀ e ∈ leftF t l, t < e.2 ∧ e.2 ≤ 1099511627776 := fun e he => by
  obtain ⟨h1, h2⟩ := List.mem_filter.1 he
  exact ⟨by simpa using h2, h e h1⟩
/-- Seven numbers in a block of their own. -/
def Arr7 (w : World) (g : Nat) (f : Nat → Nat) : Prop := w.heap[g]? = some (.cells #[.int .i64 (f 0), .int .i64 (f 1), .int .i64 (f 2), .int .i64 (f 3), .int .i64 (f 4), .int .i64 (f 5), .int .i64 (f 6)] 36 (0, 0))
theorem Arr7.get {w : World} {g : Nat} {f : Nat → Nat} (h : Arr7 w g f) {k : Nat} (hk : k < 7) : w.cell? ⟨g, k, none⟩ = some (.int .i64 (f k)) := by
  refine (blk_cell h k).trans ?_
  match k, hk with
  | 0, _ => rfl
  | 1, _ => rfl
  | 2, _ => rfl
  | 3, _ => rfl
  | 4, _ => rfl
  | 5, _ => rfl
  | 6, _ => rfl
theorem Arr7.move {w w' : World} {g : Nat} {f : Nat → Nat} (h : Arr7 w g f) (hb : w'.heap[g]? = w.heap[g]?) : Arr7 w' g f := hb.trans h
theorem Arr7.lt {w : World} {g : Nat} {f : Nat → Nat} (h : Arr7 w g f) : g < w.heap.size := blk_lt h
/-- One name alone. -/
theorem spr_one (now t : Int) (id : ByteArray) (k : Nat) : spr now [(id, t)] k = if rg t now = k then 1 else 0 := by
  unfold spr
  by_cases h : rg t now = k
  · rw [List.filter_cons_of_pos (by simpa using h), if_pos h]; rfl
  · rw [List.filter_cons_of_neg (by simpa using h), if_neg h]; rfl
theorem shift_ne {t now : Int} (h0 : 0 ≤ t) (h1 : 0 ≤ now) (k : Nat) : (t / 2 ^ (6 * k + 6) != now / 2 ^ (6 * k + 6)) = decide (k < rg t now) := by
  have e1 : t / 2 ^ (6 * k + 6) = ((t.toNat / 64 ^ (k + 1) : Nat) : Int) := by
    rw [show (64 : Nat) ^ (k + 1) = 2 ^ (6 * k + 6) by rw [show 6 * k + 6 = 6 * (k + 1) by omega, Nat.pow_mul]]
    rw [Int.natCast_ediv, Int.toNat_of_nonneg h0]
    simp
  have e2 : now / 2 ^ (6 * k + 6) = ((now.toNat / 64 ^ (k + 1) : Nat) : Int) := by
    rw [show (64 : Nat) ^ (k + 1) = 2 ^ (6 * k + 6) by rw [show 6 * k + 6 = 6 * (k + 1) by omega, Nat.pow_mul]]
    rw [Int.natCast_ediv, Int.toNat_of_nonneg h1]
    simp
  rw [e1, e2]
  have h := ring_le t.toNat now.toNat k
  unfold rg
  rw [Bool.eq_iff_iff, bne_iff_ne, decide_eq_true_eq]
  constructor
  · intro hne
    rcases Nat.lt_or_ge k (ring t.toNat now.toNat) with h3 | h3
    · exact h3
    · exact absurd (by rw [h.1 h3]) hne
  · intro hlt e
    have := h.2 (by omega)
    omega
end Go.Proofs.Ytaefbibkkkglnaa.Wh
/- The reference wheel: Ring, Spread. No condition. -/
namespace Go.Proofs.Ytaefbibkkkglnaa.Wh
open Go Go.RowKit Go.Proofs.YtaefbibkkkglnaaW.PrintWords Go.Proofs.Ytaefbibkkkglnaa.Fr
set_option linter.unusedVariables false
set_option linter.unusedSimpArgs false
/-- Ring: the loop divides both by 64 until all but the last digit agree. -/
theorem ring_div {a b k : Nat} (hk : k < ring a b) : a / 64 ^ (k + 1) ≠ b / 64 ^ (k + 1) := ring_ne hk
theorem div_step (a k : Nat) : a / 64 ^ k / 64 = a / 64 ^ (k + 1) := by rw [Nat.div_div_eq_div_mul, Nat.pow_succ]
theorem Ring_calls (a b : Nat) (w : World) (ha : a ≤ 1099511627776) (hb : b ≤ 1099511627776) :
    Calls Try.prog 65 #[.int .i64 a, .int .i64 b] w fun e w' => e = .returned (.int .i64 (ring a b)) ∧ ∃ n, w' = w.drewN n := by
  go_enter Try.func65, Try.ntmps65
  go_wp2_with fail
  go_loopg [0, 1, 5] (ring a b) (fun g v0 v1 v5 wx => ∃ k : Nat, g = ring a b - k ∧ k ≤ ring a b ∧ v0 = .int .i64 ((a / 64 ^ k : Nat) : Int) ∧ v1 = .int .i64 ((b / 64 ^ k : Nat) : Int) ∧ v5 = .int .i64 k ∧ Aside0 (∃ n, wx = w.drewN n))
  case atStart => exact ⟨0, rfl, by omega, by simp, by simp, rfl, ⟨0, rfl⟩⟩
  case round =>
    obtain ⟨k, rfl, hk, rfl, rfl, rfl, HQ⟩ := hrel
    have hr7 : ring a b < 7 := ring_lt ha hb
    have HK := Aside0.mk (show k < ring a b → a / 64 ^ (k + 1) ≠ b / 64 ^ (k + 1) from fun h => ring_div h)
    have HE := Aside0.mk (show k = ring a b → a / 64 ^ (k + 1) = b / 64 ^ (k + 1) from fun h => by rw [h]; exact ring_up)
    have q1 : a / 64 ^ k / 64 = a / 64 ^ (k + 1) := div_step a k
    have q2 : b / 64 ^ k / 64 = b / 64 ^ (k + 1) := div_step b k
    have hak : a / 64 ^ k ≤ a := Nat.div_le_self _ _
    have hbk : b / 64 ^ k ≤ b := Nat.div_le_self _ _
    generalize hA1 : a / 64 ^ (k + 1) = a1 at *
    generalize hB1 : b / 64 ^ (k + 1) = b1 at *
    generalize a / 64 ^ k = a0 at *
    generalize b / 64 ^ k = b0 at *
    have HAB := Aside0.mk (And.intro hA1 hB1)
    have l1 : a1 ≤ 1099511627776 := by omega
    have l2 : b1 ≤ 1099511627776 := by omega
    have ea : Int.tdiv (a0 : Int) 64 = (a1 : Int) := by rw [Int.tdiv_eq_ediv_of_nonneg (by omega)]; omega
    have eb : Int.tdiv (b0 : Int) 64 = (b1 : Int) := by rw [Int.tdiv_eq_ediv_of_nonneg (by omega)]; omega
    have wa : IntKind.i64.wrap (a1 : Int) = (a1 : Int) := IntWalk.i64_in _ (by omega)
    have wb : IntKind.i64.wrap (b1 : Int) = (b1 : Int) := IntWalk.i64_in _ (by omega)
    clear hA1 hB1 q1 q2 hak hbk
    by_cases h : k < ring a b
    · have hd : ((a1 : Int) != (b1 : Int)) = true := by have := HK.out h; rw [bne_iff_ne]; omega
      go_wp2_with fail
      go_roundg (ring a b - (k + 1))
      case measure => omega
      case rel => exact ⟨k + 1, rfl, by omega, by rw [HAB.out.1], by rw [HAB.out.2], by go_num, HQ⟩
    · have hkk : k = ring a b := by omega
      have hd : ((a1 : Int) != (b1 : Int)) = false := by have := HE.out hkk; rw [bne_eq_false_iff_eq]; omega
      have HKK := Aside0.mk hkk
      clear hkk
      go_wp2_with fail
      go_ret
      exact ⟨by rw [← HKK.out]; rfl, HQ.out⟩
end Go.Proofs.Ytaefbibkkkglnaa.Wh
