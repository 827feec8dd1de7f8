/- Wheel's laws: walked. No condition. -/
import Derived.Test.YtaefbibkkkglnaaWhEb
namespace Go.Proofs.Ytaefbibkkkglnaa.Wh
open Go Go.RowKit Go.Shelf Go.Proofs.YtaefbibkkkglnaaW.PrintWords Go.Proofs.Ytaefbibkkkglnaa.Fr
set_option linter.unusedVariables false
set_option linter.unusedSimpArgs false
attribute [local go_sem] Oper.semAt_some
theorem infoT : (Try.prog.info? 46).map (fun i => (i.zero, i.size, i.bytes)) = some (some (.agg #[.string ⟨#[]⟩, .int .i64 0]), 2, 24) := by kernel_rfl
theorem cell_two_new (w : World) (x y : Value) (t : TypeId) : ∀ j u, [x, y][j]? = some u → (w.alloc (.cells #[x, y] t)).cell? ((⟨w.heap.size, 0, none⟩ : Addr).add j) = some u := by
  intro j u hj
  match j, hj with
  | 0, hj => simp at hj; subst hj; simp [Addr.add]
  | 1, hj => simp at hj; subst hj; simp [Addr.add]
  | n + 2, hj => simp at hj
theorem each_nn (b : Nat) (w : World) : (binOp BinOp.eql 40 (.func (.func 39) #[] #[.pointer (some ⟨b, 0, none⟩)]) .nilFunc).run Try.prog w = .ok (.bool false) w := by kernel_rfl
theorem box_kept {W w1 : World} {B B' t e : Nat} {u v : Value} {base size k : Nat} {xs : List Value} {o : Obj} (h3 : Boxed W B t u) (hte : t ≠ e) (hrow : W.ownsRow base e size v k xs) (hg : (W.alloc o).grownBy w1 v.ownBlock) (hne : B ≠ B') (x : Value) : Boxed (w1.setCell ⟨B', 0, none⟩ x) B t u :=
  Boxed.other ((h3.alloc o).kept hg ((h3.alloc o).not_row hte (hrow.alloc o))) hne x
theorem row_put {W w1 : World} {base B t e size k m : Nat} {v v' : Value} {xs ys : List Value} {o : Obj} (hv : Boxed W B t v) (hrow : W.ownsRow base e size v k xs) (hown : w1.ownsRow base e size v' m ys) (hg : (W.alloc o).grownBy w1 v.ownBlock) : t ≠ e → (w1.setCell ⟨B, 0, none⟩ v').ownsRow base e size v' m ys ∧ Only (fun b => b = B ∨ base ≤ b) W (w1.setCell ⟨B, 0, none⟩ v') := fun hte => by
  have hv1 : Boxed w1 B t v := (hv.alloc o).kept hg (hv.not_row hte hrow)
  refine ⟨hown.kept (grownBy_setCell' w1 B v') (.inr (hv1.not_row hte hown).symm), ?_⟩
  have o1 : Only (fun b => b = B ∨ base ≤ b) W (W.alloc o) := (Only.refl _ W).alloc o
  have o2 : Only (fun b => b = B ∨ base ≤ b) (W.alloc o) w1 := (Only.of_grown hg).mono (fun b _ hb => .inr (own_base hrow b hb.symm))
  exact (o1.trans o2).set (fun _ => .inl rfl) v'
theorem Only.of_grown' {S : Nat → Prop} {w w' : World} {r : Nat} (h : w.grownBy w' (some r)) (hr : S r) : Only S w w' := (Only.of_grown h).mono (fun k _ e => by cases e; exact hr)
set_option maxRecDepth 100000 in
set_option maxHeartbeats 2000000 in
theorem walked_main {w : World} {O : Nat → Prop} {p : Nat} {now : Int} {l : List E} (h : Whl w O p now l) (most : Int) (hm1 : 1 ≤ most) (hm2 : most ≤ 9223372036854775807) :
    CallsIn Fence.wide 6 Try.prog 20 #[.pointer (some ⟨p, 0, none⟩), .int .i64 most] w fun e w' =>
      ∃ v, e = .returned v ∧ w'.ownsRow w.heap.size 46 2 v (l.take most.toNat).length ((l.take most.toNat).flatMap encE) ∧ Below w.heap.size w w' := by
  obtain ⟨i0, hi, hz0, hz1, hz2⟩ := info_parts infoT
  have hw2 : Whl ((w.alloc (.cells #[.int .i64 most] 3 (0, 0))).alloc (.cells #[.slice none 0 0] 42 (0, 0))) O p now l := (h.below (below_alloc (Below.refl _ _) _)).below (below_alloc (Below.refl _ _) _)
  have hE := each_calls hw2
  have hfew := h.few
  have HE := Aside0.mk hE
  have e1 : decide (most < 1) = false := by simp; omega
  clear h hw2 hE
  refine callsIn_of_wp_marks Try.func20 rfl trivial ?_ rfl
  simp only [Try.ntmps20, List.size_toArray, List.length_cons, List.length_nil, Nat.reduceAdd, Nat.reduceSub, Array.replicate_succ, Array.replicate_zero, List.push_toArray, List.append_toArray, List.nil_append, List.cons_append]
  gi_wp2
  refine ⟨trivial, (callsIn_wide.2 HE.out).mono ?_⟩
  rintro e w3 ⟨A, c, rfl, hbox, hsz, hC, hB3⟩
  simp only [World.size_alloc] at hbox hsz hB3 ⊢
  have b3 : Boxed w3 w.heap.size 3 (.int .i64 most) := (hB3.block _ (by omega)).trans ((Boxed.new w 3 _).alloc _)
  have b5 : Boxed w3 (w.heap.size + 1) 42 (.slice none 0 0) := by
    have h := Boxed.new (w.alloc (.cells #[.int .i64 most] 3 (0, 0))) 42 (.slice none 0 0)
    rw [World.size_alloc] at h
    exact (hB3.block _ (by omega)).trans h
  have c3 := b3.cell
  have c5 := b5.cell
  have hB0 : Below w.heap.size w w3 := (below_alloc (below_alloc (Below.refl _ w) _) _).trans (hB3.mono (by omega))
  have hnn := each_nn (w.heap.size + 1 + 1) w3
  gi_wp2
  have hb5 := b5
  have hns : ∀ b : Nat, b < w3.heap.size → b ≠ w.heap.size + 1 → ¬ (b = w.heap.size + 1 ∨ w3.heap.size ≤ b) := fun b h1 h2 h3 => by omega
  refine wpIn_rangeFunc_ownG rfl (by omega) (gf := 39) (lb := #[.pointer (some ⟨w.heap.size + 1 + 1, 0, none⟩)]) rfl trivial (enters_of Try.func39 (by kernel_rfl) rfl)
    (each2_stops Fence.wide 5 trivial rfl (by omega) (w.heap.size + 1 + 1) A c l w3 hbox hC hfew (fun b => b = w.heap.size + 1 ∨ w3.heap.size ≤ b) (hns _ hsz (by omega)) (fun hne ad e => by subst e; exact hns _ (C_ne hC hne b5).2 (C_ne hC hne b5).1))
    (fun h k => h.trans k) (fun W l o o' hl h _ _ => Only.of_grown' (grownBy_putObj' W l o') (.inr hl)) (Below.refl _ _) (fun _ => rfl)
    (fun pre W => (∃ v, Boxed W (w.heap.size + 1) 42 v ∧ W.ownsRow w3.heap.size 46 2 v pre.length (pre.flatMap encE) ∧ True) ∧ (Boxed W w.heap.size 3 (.int .i64 most) ∧ ((pre.length : Int) < most ∧ (Below w.heap.size w W ∧ w3.heap.size ≤ W.heap.size))))
    (fun c pre W => (∃ v, Boxed W (w.heap.size + 1) 42 v ∧ W.ownsRow w3.heap.size 46 2 v pre.length (pre.flatMap encE) ∧ True) ∧ (Boxed W w.heap.size 3 (.int .i64 most) ∧ ((c = .exit 0 ∧ (pre.length : Int) = most) ∧ (Below w.heap.size w W ∧ w3.heap.size ≤ W.heap.size))))
    (OwnFrom.and (Own.from (holdsRow_own w3.heap.size (w.heap.size + 1) 42 46 2 (fun pre : List E => pre.length) (fun pre : List E => pre.flatMap encE) (fun _ _ => True)) _) (OwnFrom.and (Own.from (boxed_own _ _ _) _) (OwnFrom.and (ownFrom_pure _ _) (OwnFrom.and (ownFrom_below (Nat.le_refl _) (by omega)) (fun _ _ _ _ hs hg _ => Nat.le_trans hs hg.size)))))
    (fun c => OwnFrom.and (Own.from (holdsRow_own w3.heap.size (w.heap.size + 1) 42 46 2 (fun pre : List E => pre.length) (fun pre : List E => pre.flatMap encE) (fun _ _ => True)) _) (OwnFrom.and (Own.from (boxed_own _ _ _) _) (OwnFrom.and (ownFrom_pure _ _) (OwnFrom.and (ownFrom_below (Nat.le_refl _) (by omega)) (fun _ _ _ _ hs hg _ => Nat.le_trans hs hg.size)))))
    ⟨⟨_, b5, World.ownsRow_nil _ _ _ _, trivial⟩, b3, by simp; omega, hB0, Nat.le_refl _⟩
    (fun x => { tmps := #[.pointer (some ⟨p, 0, none⟩), .int .i64 most, undef, .pointer (some ⟨w.heap.size, 0, none⟩), .slice none 0 0, .pointer (some ⟨w.heap.size + 1, 0, none⟩), .func (.func 39) #[] #[.pointer (some ⟨w.heap.size + 1 + 1, 0, none⟩)], .string x.1, .int .i64 x.2, .pointer (some ⟨p, 0, none⟩), .func (.func 39) #[] #[.pointer (some ⟨w.heap.size + 1 + 1, 0, none⟩)], .func (.func 39) #[] #[.pointer (some ⟨w.heap.size + 1 + 1, 0, none⟩)], .bool false, .bool false, .int .i64 most, .bool false, .bool false, undef, .func (.func 39) #[] #[.pointer (some ⟨w.heap.size + 1 + 1, 0, none⟩)], .string x.1, .int .i64 x.2, undef, undef, undef, undef, undef, undef, undef, undef, undef, undef, undef], defers := [] }) ?assign ?body ?done ?stop
  case assign =>
    intro l x W K hK
    gi_wp2
    exact hK
  case body =>
    rintro l2 pre x W ⟨⟨v, hv, hrow, -⟩, h3, hlt, hB, hwz⟩ hpl
    have hc := hv.cell
    have hc3 := h3.cell
    have hml : 4096 ≤ maxLen := by decide
    have hzb := hB.size
    gi_wp2_with (gi_at_builtin; go_must ((refine wpListIn_append_own _ rfl _ _ 42 rfl w3.heap.size 46 i0 (.agg #[.string ⟨#[]⟩, .int .i64 0]) 2 24 Try.underlying42 hi hz0 hz1 hz2 rfl (by decide) v pre.length (pre.flatMap encE) rfl (hrow.alloc _) ⟨W.heap.size, 0, none⟩ 1 1 [.string x.1, .int .i64 x.2] rfl rfl (cell_two_new W (.string x.1) (.int .i64 x.2) 46) (by simp [Value.oneCell']) (by omega) (by omega) (by simp; omega) ?_; intro v' w1 hown' hgrow _; obtain ⟨g', cap', rfl⟩ := ownsRow_succ hown'; obtain ⟨hv1, hv2, -, hk2, hb2⟩ := hv.appended (by decide) (own_weaken hrow (base' := w.heap.size) (by omega)) hB.size (by omega) (own_weaken hown' (base' := w.heap.size) (by omega)) hgrow; have HX := Aside0.mk (row_put (B := w.heap.size + 1) hv hrow hown' hgrow);  have h32 := box_kept (B' := w.heap.size + 1) h3 (show (3 : Nat) ≠ 46 by decide) hrow hgrow (by omega) (.slice (some ⟨g', 0, none⟩) (pre.length + 1) cap'); have hc1 := hv1.cell; have hf1 := hv1.frozen; have hc2 := hv2.cell; have hc32 := h32.cell)))
    · have hge : most ≤ (pre.length : Int) + 1 := by assumption
      obtain ⟨hr2, hk3⟩ := HX.out (show (42 : Nat) ≠ 46 by decide)
      have e2 : (pre ++ [x]).length = pre.length + 1 := by simp
      refine ⟨hk2.from _, ⟨_, hv2, by rw [e2, List.flatMap_append]; exact hr2, trivial⟩, h32, ⟨rfl, by rw [e2]; omega⟩, hB.trans hb2, Nat.le_trans hwz hk3.size⟩
    · have hge : (pre.length : Int) + 1 < most := by assumption
      obtain ⟨hr2, hk3⟩ := HX.out (show (42 : Nat) ≠ 46 by decide)
      have e2 : (pre ++ [x]).length = pre.length + 1 := by simp
      refine ⟨hk2.from _, hk3, ⟨_, hv2, by rw [e2, List.flatMap_append]; exact hr2, trivial⟩, h32, by rw [e2]; omega, hB.trans hb2, Nat.le_trans hwz hk3.size⟩
  case done =>
    rintro D ys W hD rfl ⟨⟨v, hv, hrow, -⟩, h3, hlt, hB, hwz⟩ hK
    have hc := hv.cell
    gi_wp2
    refine ⟨by simp, .inl ⟨_, _, rfl, run_takeDeferred hK, ?_⟩⟩
    have e2 : ys.take most.toNat = ys := List.take_of_length_le (by omega)
    rw [e2]
    exact ⟨_, results_tmp rfl _ _ _, v, rfl, own_weaken (ownsRow_putObj hrow _ hK rfl) (by omega), hB.trans (belowK_b (w := w) (Nat.le_refl _) W D _ _ (by omega) hK rfl rfl)⟩
  case stop =>
    rintro D c pre W hD ⟨k, hk, rfl⟩ ⟨⟨v, hv, hrow, -⟩, h3, ⟨rfl, hlen⟩, hB, hwz⟩ hK
    have hc := hv.cell
    have e2 : l.take most.toNat = l.take (k + 1) := by
      rw [List.length_take] at hlen
      congr 1
      omega
    gi_wp2
    refine ⟨by simp, .inl ⟨_, _, rfl, run_takeDeferred hK, ?_⟩⟩
    rw [e2]
    exact ⟨_, results_tmp rfl _ _ _, v, rfl, own_weaken (ownsRow_putObj hrow _ hK rfl) (by omega), hB.trans (belowK_b (w := w) (Nat.le_refl _) W D _ _ (by omega) hK rfl rfl)⟩
end Go.Proofs.Ytaefbibkkkglnaa.Wh
