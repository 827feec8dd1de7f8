/- Wheel: order, and the sort of timers. No condition. -/
import Derived.Test.YtaefbibkkkglnaaWhY
import Derived.Test.YtaefbibkkkglnaaWhLay
import Derived.Test.YtaefbibkkkglnaaWMore
import Derived.Test.YtaefbibkkkglnaaStr
import Derived.Lib.OwnBridge
import Derived.Lib.SortBridge
namespace Go.Proofs.Ytaefbibkkkglnaa.Wh
open Go Go.RowKit Go.Lib Go.Sort Go.Shelf Go.Proofs.YtaefbibkkkglnaaW.PrintWords Go.Proofs.Ytaefbibkkkglnaa.Mp Go.Proofs.Ytaefbibkkkglnaa.Fr
set_option linter.unusedVariables false
set_option linter.unusedSimpArgs false

def cmpS (a b : ByteArray) : Int := if Op.bytesLess a.toList b.toList = true then -1 else if Op.bytesLess b.toList a.toList = true then 1 else 0
def cmpI (a b : Int) : Int := if a < b then -1 else if b < a then 1 else 0
def ordF (e f : E) : Int := if e.2 = f.2 then cmpS e.1 f.1 else cmpI e.2 f.2
theorem ord_lt (e f : E) : decide (ordF e f < 0) = lt e f := by
  unfold ordF lt
  by_cases h : e.2 = f.2
  · rw [if_pos h]
    unfold cmpS
    by_cases h1 : Op.bytesLess e.1.toList f.1.toList = true
    · simp [h1, h]
    · by_cases h2 : Op.bytesLess f.1.toList e.1.toList = true <;> simp [h1, h2, h]
  · rw [if_neg h]
    unfold cmpI
    by_cases h1 : e.2 < f.2
    · simp [h1]
    · by_cases h2 : f.2 < e.2 <;> simp [h1, h2, h]

theorem isNaN_i (x : Int) (w : World) : Calls Try.prog 58 #[.int .i64 x] w fun e w' => e = .returned (.bool false) ∧ w = w' := by
  go_enter Try.func58, Try.ntmps58
  go_wp2
  go_ret
  exact ⟨by simp, rfl⟩
theorem isNaN_s (x : ByteArray) (w : World) : Calls Try.prog 59 #[.string x] w fun e w' => e = .returned (.bool false) ∧ w = w' := by
  go_enter Try.func59, Try.ntmps59
  go_wp2
  go_ret
  exact ⟨by simp, rfl⟩
theorem compare_i (x y : Int) (w : World) : Calls Try.prog 37 #[.int .i64 x, .int .i64 y] w fun e w' => e = .returned (.int .i64 (cmpI x y)) ∧ w = w' := by
  unfold cmpI
  rcases Int.lt_trichotomy x y with h | h | h
  · have d1 : decide (x < y) = true := by simpa using h
    rw [if_pos h]
    go_enter Try.func37, Try.ntmps37
    go_wp2_with (go_at_call 58; refine (isNaN_i _ _).mono ?_; rintro e w' ⟨rfl, rfl⟩)
    go_ret
    exact ⟨rfl, rfl⟩
  · have d1 : decide (x < y) = false := by simp; omega
    have d2 : decide (y < x) = false := by simp; omega
    rw [if_neg (by omega), if_neg (by omega)]
    clear h
    go_enter Try.func37, Try.ntmps37
    go_wp2_with (go_at_call 58; refine (isNaN_i _ _).mono ?_; rintro e w' ⟨rfl, rfl⟩)
    go_ret
    exact ⟨rfl, rfl⟩
  · have d1 : decide (x < y) = false := by simp; omega
    have d2 : decide (y < x) = true := by simpa using h
    rw [if_neg (by omega), if_pos h]
    go_enter Try.func37, Try.ntmps37
    go_wp2_with (go_at_call 58; refine (isNaN_i _ _).mono ?_; rintro e w' ⟨rfl, rfl⟩)
    go_ret
    exact ⟨rfl, rfl⟩
theorem compare_s (x y : ByteArray) (w : World) : Calls Try.prog 38 #[.string x, .string y] w fun e w' => e = .returned (.int .i64 (cmpS x y)) ∧ w = w' := by
  unfold cmpS
  by_cases h1 : Op.bytesLess x.toList y.toList = true
  · rw [if_pos h1]
    go_enter Try.func38, Try.ntmps38
    go_wp2_with (go_at_call 59; refine (isNaN_s _ _).mono ?_; rintro e w' ⟨rfl, rfl⟩)
    go_ret
    exact ⟨rfl, rfl⟩
  · rw [if_neg h1]
    have g1 : Op.bytesLess x.toList y.toList = false := by simpa using h1
    clear h1
    by_cases h2 : Op.bytesLess y.toList x.toList = true
    · rw [if_pos h2]
      have h3 : (x.toList == y.toList) = false := by
        rw [beq_eq_false_iff_ne]
        intro e
        rw [e, bl_irrefl] at h2
        cases h2
      go_enter Try.func38, Try.ntmps38
      go_wp2_with (go_at_call 59; refine (isNaN_s _ _).mono ?_; rintro e w' ⟨rfl, rfl⟩)
      go_ret
      exact ⟨rfl, rfl⟩
    · rw [if_neg h2]
      have g2 : Op.bytesLess y.toList x.toList = false := by simpa using h2
      have h3 : x.toList = y.toList := Classical.byContradiction fun hne => by
        rcases bl_total _ _ hne with h | h
        · rw [h] at g1; cases g1
        · rw [h] at g2; cases g2
      have h4 : (x.toList == y.toList) = true := by rw [h3]; simp
      clear h2 h3
      go_enter Try.func38, Try.ntmps38
      go_wp2_with (go_at_call 59; refine (isNaN_s _ _).mono ?_; rintro e w' ⟨rfl, rfl⟩)
      go_ret
      exact ⟨rfl, rfl⟩

theorem quiet_left2 {P : Program} {f : FuncId} {args : Array Value} {w : World} {a n : Nat} {v : Value} (h : Calls P f args (w.drewN (a + n)) fun e w' => e = .returned v ∧ w.drewN (a + n) = w') :
    Calls P f args (w.drewN (a + n)) fun e w'' => e = .returned v ∧ ∃ m, w'' = w.drewN (a + m) := h.mono fun _ _ ⟨he, hm⟩ => ⟨he, n, hm.symm⟩
theorem order_calls (a b : Node) (w : World) (a0 : w.cell? ⟨a.b, 0, none⟩ = some (.string a.id)) (a1 : w.cell? ⟨a.b, 1, none⟩ = some (.int .i64 a.tm)) (b0 : w.cell? ⟨b.b, 0, none⟩ = some (.string b.id)) (b1 : w.cell? ⟨b.b, 1, none⟩ = some (.int .i64 b.tm)) :
    Calls Try.prog 34 #[.pointer (some ⟨a.b, 0, none⟩), .pointer (some ⟨b.b, 0, none⟩)] w fun e w' => e = .returned (.int .i64 (ordF (ent a) (ent b))) ∧ ∃ n, w' = w.drewN n := by
  unfold ordF ent
  by_cases h : a.tm = b.tm
  · rw [if_pos h]
    have hd : (a.tm != b.tm) = false := by simp [h]
    have HS := Aside0.mk (fun w => compare_s a.id b.id w)
    simp only
    generalize cmpS a.id b.id = v at HS ⊢
    clear h
    go_enter Try.func34, Try.ntmps34
    go_wp2_with fail
    go_quiet (fail)
    go_wp2_with fail
    go_quiet ((go_at_call 38; exact quiet_left2 (HS.out _)))
    go_wp2_with fail
    go_ret
    exact ⟨rfl, _, World.drewN_drewN _ _ _⟩
  · rw [if_neg h]
    have hd : (a.tm != b.tm) = true := by simp [h]
    have HS := Aside0.mk (fun w => compare_i a.tm b.tm w)
    simp only
    generalize cmpI a.tm b.tm = v at HS ⊢
    clear h
    go_enter Try.func34, Try.ntmps34
    go_wp2_with fail
    go_quiet (fail)
    go_wp2_with fail
    go_quiet ((go_at_call 37; exact quiet_left2 (HS.out _)))
    go_wp2_with fail
    go_ret
    exact ⟨rfl, _, World.drewN_drewN _ _ _⟩

/-! ### slices.SortFunc of timers -/
def kN : Kd Node := Kd.scalar (fun n => ptr (some n.b)) (fun _ => rfl)
theorem heap_sortWorld {α : Type} [Inhabited α] {enc : α → Value} {w : World} {blk off m : Nat} {dk : Array α} {os : Array Obj} {b : Nat} (hb : b < w.heap.size) (hne : b ≠ blk) : (sortWorld enc w blk off m dk os).heap[b]? = w.heap[b]? := by
  unfold sortWorld
  rw [heap_grow_old _ _ (by unfold putRow mapBlock; simpa [Sort.ahead] using hb)]
  unfold putRow mapBlock
  show (w.heap.modify blk _)[b]? = _
  rw [Array.getElem?_modify, if_neg (fun e => hne e.symm)]
theorem own_grow {w : World} {base n size : Nat} {e : TypeId} {v : Value} {xs : List Value} (h : w.ownsRow base e size v n xs) (os : Array Obj) : (grow w os).ownsRow base e size v n xs := by
  refine ⟨h.1, ?_⟩
  rcases h.2 with h0 | ⟨g, cap, cur, hv, hb, hg, h4, h5, h6, h7⟩
  · exact .inl h0
  · refine .inr ⟨g, cap, cur, hv, hb, ?_, h4, h5, h6, h7⟩
    rw [heap_grow_old w os (blk_lt hg)]
    exact hg
theorem grown_sort {α : Type} [Inhabited α] {enc : α → Value} {w : World} {blk off m : Nat} {dk : Array α} {os : Array Obj} : w.grownBy (sortWorld enc w blk off m dk os) (some blk) :=
  ⟨rfl, rfl, rfl, by unfold sortWorld; rw [size_grow]; unfold putRow mapBlock; simp [Sort.ahead], fun k hk hne => heap_sortWorld hk (fun e => hne (by rw [e]))⟩

def sortN (l : List Node) : List Node := l.mergeSort fun x y => !lt (ent y) (ent x)
theorem le_trans (x y z : Node) : (!lt (ent y) (ent x)) = true → (!lt (ent z) (ent y)) = true → (!lt (ent z) (ent x)) = true := by
  simp only [Bool.not_eq_true']
  intro h1 h2
  cases h : lt (ent z) (ent x)
  · rfl
  · by_cases e : ent x = ent y
    · rw [← e, h] at h2; cases h2
    · rcases lt_total e with h3 | h3
      · rw [lt_trans h h3] at h2; cases h2
      · rw [h3] at h1; cases h1
theorem le_total (x y : Node) : (!lt (ent y) (ent x) || !lt (ent x) (ent y)) = true := by
  cases h : lt (ent y) (ent x)
  · rfl
  · rw [lt_asymm h]; rfl
theorem sortN_perm (l : List Node) : (sortN l).Perm l := List.mergeSort_perm _ _
theorem sortN_nil : sortN [] = [] := List.eq_nil_of_length_eq_zero (sortN_perm []).length_eq
theorem sortN_sorted {l : List Node} (hn : (l.map ent).Nodup) : Sorted ((sortN l).map ent) := by
  have h1 : (sortN l).Pairwise fun x y => (!lt (ent y) (ent x)) = true := List.pairwise_mergeSort le_trans le_total l
  have h2 : ((sortN l).map ent).Nodup := ((sortN_perm l).map ent).nodup_iff.2 hn
  unfold Sorted
  rw [List.pairwise_map]
  have h3 := List.pairwise_map.1 h2
  refine (h1.and h3).imp ?_
  rintro x y ⟨h4, h5⟩
  rcases lt_total h5 with h | h
  · exact h
  · rw [h] at h4; cases h4

theorem sort_calls {B : Nat} {v : Value} {D : List Node} {w : World} (hR : kN.R 65 w B (fun _ => True) v D) (hl : D.length < 4611686018427387904) (hB : B ≤ w.heap.size)
    (hc : ∀ n ∈ D, n.b < B ∧ w.cell? ⟨n.b, 0, none⟩ = some (.string n.id) ∧ w.cell? ⟨n.b, 1, none⟩ = some (.int .i64 n.tm)) (hn : (D.map ent).Nodup) :
    Calls Try.prog 33 #[v, .func (.func 34) #[] #[]] w fun e w' => e = .returned (.tuple #[]) ∧ kN.R 65 w' B (fun _ => True) v (sortN D) ∧ Below B w w' := by
  have hown : w.ownsRow B 65 1 v D.length (D.map fun n => ptr (some n.b)) := Kd.own_of_R hR
  by_cases hv : v = .slice none 0 0
  · subst hv
    have hD : D = [] := by
      have := (Kd.R_reads' hR).1
      exact List.eq_nil_of_length_eq_zero this.symm
    subst hD
    refine (AnyF.slices_SortFunc_none (P := Try.prog) (ρ := Try.sortT_ren) { Try.sortT with } none 0 _ w).mono ?_
    rintro e w' ⟨rfl, rfl⟩
    exact ⟨rfl, by rw [sortN_nil]; exact hR, Below.refl _ _⟩
  · cases hD : D with
    | nil =>
      subst hD
      obtain ⟨A, c, rfl, _, _⟩ := Kd.R_reads hR
      refine (AnyF.slices_SortFunc_none (P := Try.prog) (ρ := Try.sortT_ren) { Try.sortT with } A c _ w).mono ?_
      rintro e w' ⟨rfl, rfl⟩
      exact ⟨rfl, by rw [sortN_nil]; exact hR, Below.refl _ _⟩
    | cons d0 D0 =>
      rw [← hD]
      let α := { n : Node // n ∈ D }
      have d0m : d0 ∈ D := by rw [hD]; simp
      letI : Inhabited α := ⟨⟨d0, d0m⟩⟩
      let enc : α → Value := fun n => ptr (some n.1.b)
      let zs : List α := D.attach
      have hzm : zs.map enc = D.map fun n => ptr (some n.b) := by
        show (D.attach.map fun n : { n // n ∈ D } => ptr (some n.1.b)) = _
        conv => rhs; rw [← List.attach_map_subtype_val D]
        rw [List.map_map]
        rfl
      have hzl : zs.length = D.length := List.length_attach
      have hown' : w.ownsRow B 65 1 v zs.length (zs.map enc) := by rw [hzm, hzl]; exact hown
      obtain ⟨g, cap, rfl, hBg, hlt, hncap, hcm, _, hH⟩ := holds_of_ownsRow hown' hv
      have hdis : ∀ x y : α, ent x.1 = ent y.1 → x = y := fun x y e => by
        obtain ⟨i, hi⟩ := List.getElem?_of_mem x.2
        obtain ⟨j, hj⟩ := List.getElem?_of_mem y.2
        have h1 : (D.map ent)[i]? = some (ent x.1) := by simp [hi]
        have h2 : (D.map ent)[j]? = some (ent x.1) := by simp [hj, e]
        have := (List.getElem?_inj (List.getElem?_eq_some_iff.1 h1).1 hn).1 (h1.trans h2.symm)
        subst this
        rw [hi] at hj
        exact Subtype.ext (Option.some.inj hj)
      let cf : α → α → Int := fun x y => ordF (ent x.1) (ent y.1)
      have hcf : ∀ x y : α, ltOf cf x y = lt (ent x.1) (ent y.1) := fun x y => ord_lt _ _
      have hswo : SWO (ltOf cf) := ⟨fun x => by rw [hcf]; exact lt_irrefl _, fun x y z h1 h2 => by rw [hcf] at *; exact lt_trans h1 h2, fun x y z h1 h2 => by
        rw [hcf] at *
        have a1 := le_trans z.1 y.1 x.1
        simp only [Bool.not_eq_true'] at a1
        exact a1 h2 h1⟩
      have hT : ∀ x y : α, ltOf cf x y = false → ltOf cf y x = false → x = y := fun x y h1 h2 => by
        rw [hcf] at h1 h2
        refine hdis x y (Classical.byContradiction fun hne => ?_)
        rcases lt_total hne with h | h
        · rw [h] at h1; cases h1
        · rw [h] at h2; cases h2
      have eg : ∀ args w, (callFunc 34 args).run Try.prog w = .ok (.enter 34 args) w := enters_of Try.func34 (by kernel_rfl) rfl
      have hcr : CmpReads Try.prog 34 #[] enc cf g 0 zs.toArray.size w := fun m os dk _ x y => by
        have cell : ∀ (n : α) (i : Nat) (u : Value), w.cell? ⟨n.1.b, i, none⟩ = some u → (sortWorld enc w g 0 m dk os).cell? ⟨n.1.b, i, none⟩ = some u := fun n i u h => by
          have h1 := (hc n.1 n.2).1
          rw [World.cell?_of_block (heap_sortWorld (show n.1.b < w.heap.size by omega) (show n.1.b ≠ g by omega))]
          exact h
        exact order_calls x.1 y.1 _ (cell x 0 _ (hc x.1 x.2).2.1) (cell x 1 _ (hc x.1 x.2).2.2) (cell y 0 _ (hc y.1 y.2).2.1) (cell y 1 _ (hc y.1 y.2).2.2)
      have hsz : zs.toArray.size = zs.length := by simp
      refine (Any.slices_SortFunc_total (P := Try.prog) (ρ := Try.sortT_ren) Try.sortT enc (fun _ => rfl) cf hswo 34 #[] g 0 cap zs.toArray w eg hcr.lays hH hlt (by rw [hsz, hzl]; exact hl) hT).mono ?_
      rintro e w' ⟨rfl, q, os, rfl⟩
      have hys : ((zs.toArray.toList.mergeSort fun x y => !ltOf cf y x).map Subtype.val) = sortN D := by
        unfold sortN
        have h1 : zs.toArray.toList = zs := by simp
        rw [h1, List.map_mergeSort (s := fun x y => !lt (ent y) (ent x)) (fun a _ b _ => by rw [hcf])]
        congr 1
        exact List.attach_map_subtype_val D
      generalize (zs.toArray.toList.mergeSort fun x y => !ltOf cf y x) = ys at hys ⊢
      have hyl : ys.length = zs.length := by
        have := congrArg List.length hys
        rw [List.length_map, (sortN_perm D).length_eq] at this
        rw [this, hzl]
      have h2 := ownsRow_putRow (q := q) (k := zs.length) (ys := ys) hown' hyl (Nat.le_refl _)
      rw [List.take_of_length_le (by omega)] at h2
      have h3 := own_grow h2 os
      have hym : ys.map enc = (sortN D).map fun n => ptr (some n.b) := by
        rw [← hys, List.map_map]
        rfl
      rw [hym] at h3
      have hzs : zs.length = (sortN D).length := by
        have := congrArg List.length hys
        rw [List.length_map] at this
        omega
      refine ⟨rfl, ?_, ?_⟩
      · have hcap : (Value.slice (some ⟨g, 0, none⟩) zs.length cap) = .slice (some ⟨g, 0, none⟩) (sortN D).length cap := by rw [hzs]
        have h4 := Kd.R_of_own (ok := fun _ => True) (h1 := fun _ => rfl) (xs := sortN D) (enc := fun n : Node => ptr (some n.b)) (by rw [hzs] at h3; exact h3) (fun _ _ => trivial)
        rw [← hzs] at h4
        exact h4
      · have hg := grown_sort (enc := enc) (w := w) (blk := g) (off := 0) (m := q) (dk := ys.toArray) (os := os)
        exact ⟨hg.os, hg.tape, hg.output, hg.size, fun k hk => hg.block k (by omega) (fun e => by injection e with e; omega)⟩
end Go.Proofs.Ytaefbibkkkglnaa.Wh
