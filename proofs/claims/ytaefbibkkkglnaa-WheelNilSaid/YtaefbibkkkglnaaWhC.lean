/- Wheel: hang and unhang, by a wheel in memory. No condition. -/
import Derived.Test.YtaefbibkkkglnaaWhR
namespace Go.Proofs.Ytaefbibkkkglnaa.Wh
open Go Go.RowKit Go.Proofs.YtaefbibkkkglnaaW.PrintWords Go.Proofs.Ytaefbibkkkglnaa.Mp Go.Proofs.Ytaefbibkkkglnaa.Fr
set_option linter.unusedVariables false
set_option linter.unusedSimpArgs false

section
variable {w w' : World} {O : Nat → Prop} {p m : Nat} {now : Int} {S : Slots} {F : List Node}
theorem set_here {cs : Array Value} {i : Nat} {v : Value} (h : cs[i]? = some v) : cs.setIfInBounds i v = cs := by
  apply Array.ext_getElem?
  intro j
  by_cases e : i = j
  · subst e
    have hl : i < cs.size := (Array.getElem?_eq_some_iff.1 h).1
    rw [Array.getElem?_setIfInBounds_self_of_lt hl, h]
  · rw [Array.getElem?_setIfInBounds_ne e]

theorem Tcell.c {n : Node} {r : Int} {a b : Option Nat} (h : Tcell w n r a b) : w.cell? ⟨n.b, 0, none⟩ = some (.string n.id) ∧ w.cell? ⟨n.b, 1, none⟩ = some (.int .i64 n.tm) ∧ w.cell? ⟨n.b, 2, none⟩ = some (.int .i64 r) ∧ w.cell? ⟨n.b, 3, none⟩ = some (ptr a) ∧ w.cell? ⟨n.b, 4, none⟩ = some (ptr b) ∧ ∀ i, w.frozen? ⟨n.b, i, none⟩ = false :=
  ⟨(blk_cell h 0).trans rfl, (blk_cell h 1).trans rfl, (blk_cell h 2).trans rfl, (blk_cell h 3).trans rfl, (blk_cell h 4).trans rfl, fun i => blk_frozen h i⟩

set_option maxHeartbeats 1000000 in
theorem hang_calls {t : Node} (h : Rep w O p m now S (t :: F)) (ht0 : 0 ≤ t.tm) (ht1 : t.tm ≤ 1099511627776) (hn0 : 0 ≤ now) (hn1 : now ≤ 1099511627776) (hlen : (nodes S).length ≤ 1000000) :
    Calls Try.prog 32 #[.pointer (some ⟨p, 0, none⟩), .pointer (some ⟨t.b, 0, none⟩)] w fun e w' =>
      e = .returned (.tuple #[]) ∧ Rep w' O p m now (upd S (rg t.tm now) (dg (rg t.tm now) t.tm) (t :: S (rg t.tm now) (dg (rg t.tm now) t.tm))) F ∧ Only O w w' := by
  have hr : rg t.tm now < 7 := ring_lt (by omega) (by omega)
  have hk : dg (rg t.tm now) t.tm < 64 := dig_lt _ _
  have htm : t ∈ (t :: F) ++ nodes S := by simp
  have hpb := h.pne htm
  obtain ⟨r0, a0, b0, h0⟩ := h.loose t (by simp)
  obtain ⟨c0, c1, c2, c3, c4, fz⟩ := h0.c
  have d1 := h.head.slot hr hk
  have d2 := h.head.count hr
  have hcl := cnt_le (S := S) hr
  obtain ⟨o1, o2, o3⟩ := h.own
  have ob : O t.b := o3 t htm
  cases hS : S (rg t.tm now) (dg (rg t.tm now) t.tm) with
  | nil =>
    rw [hS] at d1
    refine (hang_nil p t.b t.tm now _ w _ _ _ ht0 ht1 hn0 hn1 hr (Int.natCast_nonneg _) (by omega) hpb hpb.symm c1 c2 c3 c4 fz h.head.fz h.head.c0 d1 d2).mono ?_
    rintro e w' ⟨rfl, n, rfl⟩
    refine ⟨rfl, ?_, ?_⟩
    · rw [← hS]
      refine Rep.hang h hr hk (fun cs h1 => ?_) ?_ (fun y ys hy => ?_) (fun b hb1 hb2 _ => ?_)
      · exact blk_drewN (blk_set (blk_set (blk_far (blk_far (blk_far h1 hpb _) hpb _) hpb _) _ _) _ _) n
      · rw [hS]
        exact blk_drewN (blk_far (blk_far (blk_set (blk_set (blk_set h0 2 _) 3 _) 4 _) hpb.symm _) hpb.symm _) n
      · rw [hS] at hy; cases hy
      · rw [World.heap_drewN]
        rw [Below.heap_setCell _ _ _ _ hb1, Below.heap_setCell _ _ _ _ hb1, Below.heap_setCell _ _ _ _ hb2, Below.heap_setCell _ _ _ _ hb2, Below.heap_setCell _ _ _ _ hb2]
    · exact ((((((Only.refl O w).set (fun _ => ob) _).set (fun _ => ob) _).set (fun _ => ob) _).set (fun _ => o1) _).set (fun _ => o1) _).drewN n
  | cons y ys =>
    rw [hS] at d1
    have hyS : y ∈ S (rg t.tm now) (dg (rg t.tm now) t.tm) := by rw [hS]; simp
    have hyn : y ∈ nodes S := mem_nodes.2 ⟨_, _, hr, hk, hyS⟩
    have hym : y ∈ (t :: F) ++ nodes S := List.mem_append_right _ hyn
    have hpy := h.pne hym
    have hty : t.b ≠ y.b := fun e => (List.nodup_cons.1 (show (t.b :: (F ++ nodes S).map Node.b).Nodup from h.nodup)).1 (List.mem_map.2 ⟨y, List.mem_append_right _ hyn, e.symm⟩)
    have hseg := h.seg _ _ hr hk
    rw [hS] at hseg
    obtain ⟨hy, hys⟩ := hseg
    obtain ⟨_, _, _, y3, _, fy⟩ := hy.c
    have oy : O y.b := o3 y hym
    refine (hang_some p t.b y.b t.tm now _ w _ _ _ _ ht0 ht1 hn0 hn1 hr (Int.natCast_nonneg _) (by omega) hpb hpb.symm hty.symm hty hpy hpy.symm y3 fy c1 c2 c3 c4 fz h.head.fz h.head.c0 d1 d2).mono ?_
    rintro e w' ⟨rfl, n, rfl⟩
    refine ⟨rfl, ?_, ?_⟩
    · rw [← hS]
      refine Rep.hang h hr hk (fun cs h1 => ?_) ?_ (fun y' ys' hy' => ?_) (fun b hb1 hb2 hb3 => ?_)
      · exact blk_drewN (blk_set (blk_set (blk_far (blk_far (blk_far (blk_far h1 hpb _) hpb _) hpb _) hpy _) _ _) _ _) n
      · rw [hS]
        exact blk_drewN (blk_far (blk_far (blk_far (blk_set (blk_set (blk_set h0 2 _) 3 _) 4 _) hty _) hpb.symm _) hpb.symm _) n
      · rw [hS] at hy'
        obtain ⟨e1, e2⟩ := List.cons.inj hy'
        rw [← e1, ← e2]
        unfold Tcell
        rw [World.heap_drewN, Below.heap_setCell _ _ _ _ hpy.symm, Below.heap_setCell _ _ _ _ hpy.symm]
        exact blk_set (blk_far (blk_far (blk_far hy hty.symm _) hty.symm _) hty.symm _) 3 _
      · have hb4 := hb3 y ys hS
        rw [World.heap_drewN]
        rw [Below.heap_setCell _ _ _ _ hb1, Below.heap_setCell _ _ _ _ hb1, Below.heap_setCell _ _ _ _ hb4, Below.heap_setCell _ _ _ _ hb2, Below.heap_setCell _ _ _ _ hb2, Below.heap_setCell _ _ _ _ hb2]
    · exact (((((((Only.refl O w).set (fun _ => ob) _).set (fun _ => ob) _).set (fun _ => ob) _).set (fun _ => oy) _).set (fun _ => o1) _).set (fun _ => o1) _).drewN n

theorem last_snoc (pv : Option Nat) (x : Node) : ∀ xs : List Node, last pv (xs ++ [x]) = some x.b := fun xs => by rw [last_append]; rfl

set_option maxHeartbeats 2000000 in
theorem unhang_calls {t : Node} {r : Nat} {xs ys : List Node} (h : Rep w O p m now S F) (hr : r < 7) (ht0 : 0 ≤ t.tm) (ht1 : t.tm ≤ 1099511627776) (hS : S r (dg r t.tm) = xs ++ t :: ys) (hlen : (nodes S).length ≤ 1000000) :
    Calls Try.prog 31 #[.pointer (some ⟨p, 0, none⟩), .pointer (some ⟨t.b, 0, none⟩)] w fun e w' =>
      e = .returned (.tuple #[]) ∧ Rep w' O p m now (upd S r (dg r t.tm) (xs ++ ys)) (t :: F) ∧ Only O w w' := by
  have hk : dg r t.tm < 64 := dig_lt _ _
  generalize hkk : dg r t.tm = k at *
  obtain ⟨o1, o2, o3⟩ := h.own
  have hin : ∀ {n : Node}, n ∈ S r k → n ∈ F ++ nodes S := fun hn => List.mem_append_right _ (mem_nodes.2 ⟨_, _, hr, hk, hn⟩)
  have htS : t ∈ S r k := by rw [hS]; simp
  have hpb := h.pne (hin htS)
  have hseg := h.seg r k hr hk
  rw [hS, seg_append] at hseg
  obtain ⟨hxs, ht, hys⟩ := hseg
  obtain ⟨c0, c1, c2, c3, c4, fz⟩ := ht.c
  have d1 := h.head.slot hr hk
  have d2 := h.head.count hr
  have hcl := cnt_le (S := S) hr
  have hc1 : 1 ≤ cnt S r := by
    have := slot_le (S := S) (r := r) hk
    rw [hS] at this
    simp at this
    omega
  have hcc : ((cnt S r : Int) - 1) = ((cnt S r - 1 : Nat) : Int) := by omega
  -- the timers of the slot are apart
  have hnd : ((xs ++ t :: ys).map Node.b).Nodup := by
    have h0 := h.nodup
    rw [List.map_append] at h0
    have h1 := nodes_upd (S := S) (r := r) (k := k) [] hr hk
    rw [List.append_nil, hS] at h1
    have h2 := (h1.map Node.b).nodup_iff.2 (List.nodup_append.1 h0).2.1
    rw [List.map_append] at h2
    exact (List.nodup_append.1 h2).2.1
  have hS' : ∀ {n : Node}, n ∈ xs ++ t :: ys → n ∈ S r k := fun hn => by rw [hS]; exact hn
  rcases (by rcases List.eq_nil_or_concat xs with h0 | ⟨xs', x, h0⟩; exact .inl h0; exact .inr ⟨xs', x, by rw [h0, List.concat_eq_append]⟩ : xs = [] ∨ ∃ xs' x, xs = xs' ++ [x]) with rfl | ⟨xs', x, rfl⟩
  · cases ys with
    | nil =>
      refine (unhang_nn p t.b r t.tm _ w _ ht0 ht1 hr (Int.natCast_nonneg _) (by omega) hpb hpb.symm c1 c2 c3 c4 h.head.fz (by rw [hkk]; exact d1) d2).mono ?_
      rintro e w' ⟨rfl, n, rfl⟩
      rw [hkk, hcc]
      refine ⟨rfl, Rep.unhang h hr hk hS (fun cs h1 => ?_) trivial (fun b hb1 _ => ?_), ?_⟩
      · exact blk_drewN (blk_set (blk_set h1 _ _) _ _) n
      · rw [World.heap_drewN]
        rw [Below.heap_setCell _ _ _ _ hb1, Below.heap_setCell _ _ _ _ hb1]
      · exact (((Only.refl O w).set (fun _ => o1) _).set (fun _ => o1) _).drewN n
    | cons y ys =>
      have hyS : y ∈ S r k := hS' (by simp)
      have hpy := h.pne (hin hyS)
      have hty : t.b ≠ y.b := fun e => by
        have h1 := List.nodup_cons.1 (show (t.b :: (y :: ys).map Node.b).Nodup from hnd)
        exact h1.1 (by rw [e]; simp)
      obtain ⟨hy, hys⟩ := hys
      obtain ⟨_, _, _, y3, _, fy⟩ := hy.c
      refine (unhang_ns p t.b y.b r t.tm _ w _ _ ht0 ht1 hr (Int.natCast_nonneg _) (by omega) hpb hpb.symm hty.symm hty hpy hpy.symm y3 fy c1 c2 c3 c4 h.head.fz (by rw [hkk]; exact d1) d2).mono ?_
      rintro e w' ⟨rfl, n, rfl⟩
      rw [hkk, hcc]
      have hyy : ∀ q ∈ ys, q.b ≠ y.b := fun q hq e => by
        have h1 := (List.nodup_cons.1 (show (t.b :: (y :: ys).map Node.b).Nodup from hnd)).2
        exact (List.nodup_cons.1 (show (y.b :: ys.map Node.b).Nodup from h1)).1 (e ▸ List.mem_map.2 ⟨q, hq, rfl⟩)
      refine ⟨rfl, Rep.unhang h hr hk hS (fun cs h1 => ?_) ⟨?_, hys.move (fun q hq => ?_)⟩ (fun b hb1 hb2 => ?_), ?_⟩
      · exact blk_drewN (blk_set (blk_set (blk_far h1 hpy _) _ _) _ _) n
      · exact blk_drewN (blk_far (blk_far (blk_set hy 3 _) hpy.symm _) hpy.symm _) n
      · have hpq := (h.pne (hin (hS' (n := q) (by simp [hq])))).symm
        rw [World.heap_drewN]
        rw [Below.heap_setCell _ _ _ _ hpq, Below.heap_setCell _ _ _ _ hpq, Below.heap_setCell _ _ _ _ (hyy q hq)]
      · rw [World.heap_drewN]
        rw [Below.heap_setCell _ _ _ _ hb1, Below.heap_setCell _ _ _ _ hb1, Below.heap_setCell _ _ _ _ (hb2 y (by simp))]
      · exact ((((Only.refl O w).set (fun _ => o3 y (hin hyS)) _).set (fun _ => o1) _).set (fun _ => o1) _).drewN n
  · rw [last_snoc] at c3 ht
    have hxS : x ∈ S r k := hS' (by simp)
    have hpx := h.pne (hin hxS)
    have hnd' : ((xs' ++ x :: t :: ys).map Node.b).Nodup := by
      have : xs' ++ x :: t :: ys = (xs' ++ [x]) ++ t :: ys := by simp
      rw [this]; exact hnd
    rw [List.map_append] at hnd'
    obtain ⟨n1, n2, n3⟩ := List.nodup_append.1 hnd'
    obtain ⟨n4, n5⟩ := List.nodup_cons.1 (show (x.b :: (t :: ys).map Node.b).Nodup from n2)
    have hxb : x.b ≠ t.b := fun e => n4 (by rw [e]; simp)
    have hxx : ∀ q ∈ xs', q.b ≠ x.b := fun q hq => n3 _ (List.mem_map.2 ⟨q, hq, rfl⟩) _ (by simp)
    have hxy : ∀ q ∈ ys, q.b ≠ x.b := fun q hq e => n4 (by rw [← e]; simp; exact .inr ⟨q, hq, rfl⟩)
    rw [seg_append] at hxs
    obtain ⟨hxs, hx, _⟩ := hxs
    obtain ⟨_, _, _, _, x4, fx⟩ := hx.c
    have hd1 : ∀ L, hd none (xs' ++ [x] ++ L) = hd none (xs' ++ [x]) := fun L => by cases xs' <;> rfl
    cases ys with
    | nil =>
      refine (unhang_sn p t.b x.b r t.tm _ w _ ht0 ht1 hr (Int.natCast_nonneg _) (by omega) hpb hpb.symm hxb hxb.symm hpx hpx.symm x4 fx c1 c2 c3 c4 h.head.fz d2).mono ?_
      rintro e w' ⟨rfl, n, rfl⟩
      rw [hcc]
      refine ⟨rfl, Rep.unhang h hr hk hS (fun cs h1 => ?_) ?_ (fun b hb1 hb2 => ?_), ?_⟩
      · rw [hd1, set_here (i := 1 + 64 * r + k) (by
          have := (blk_cell h1 (1 + 64 * r + k)).symm.trans d1
          rw [hS, hd1] at this
          exact this)]
        exact blk_drewN (blk_set (blk_far h1 hpx _) _ _) n
      · rw [List.append_nil, seg_append]
        refine ⟨hxs.move (fun q hq => ?_), ?_, trivial⟩
        · have hpq := (h.pne (hin (hS' (n := q) (by simp [hq])))).symm
          rw [World.heap_drewN]
          rw [Below.heap_setCell _ _ _ _ hpq, Below.heap_setCell _ _ _ _ (hxx q hq)]
        · exact blk_drewN (blk_far (blk_set hx 4 _) hpx.symm _) n
      · rw [World.heap_drewN]
        rw [Below.heap_setCell _ _ _ _ hb1, Below.heap_setCell _ _ _ _ (hb2 x (by simp))]
      · exact (((Only.refl O w).set (fun _ => o3 x (hin hxS)) _).set (fun _ => o1) _).drewN n
    | cons y ys =>
      have hyS : y ∈ S r k := hS' (by simp)
      have hpy := h.pne (hin hyS)
      obtain ⟨n6, n7⟩ := List.nodup_cons.1 (show (t.b :: (y :: ys).map Node.b).Nodup from n5)
      have hty : t.b ≠ y.b := fun e => n6 (by rw [e]; simp)
      have hyx : y.b ≠ x.b := hxy y (by simp)
      have hyy : ∀ q ∈ ys, q.b ≠ y.b := fun q hq e => (List.nodup_cons.1 (show (y.b :: ys.map Node.b).Nodup from n7)).1 (e ▸ List.mem_map.2 ⟨q, hq, rfl⟩)
      obtain ⟨hy, hys⟩ := hys
      obtain ⟨_, _, _, y3, _, fy⟩ := hy.c
      refine (unhang_ss p t.b x.b y.b r t.tm _ w _ _ ht0 ht1 hr (Int.natCast_nonneg _) (by omega) hpb hpb.symm hxb hxb.symm hpx hpx.symm x4 fx hty.symm hty hpy hpy.symm y3 fy c1 c2 c3 c4 h.head.fz d2).mono ?_
      rintro e w' ⟨rfl, n, rfl⟩
      rw [hcc]
      refine ⟨rfl, Rep.unhang h hr hk hS (fun cs h1 => ?_) ?_ (fun b hb1 hb2 => ?_), ?_⟩
      · rw [hd1, set_here (i := 1 + 64 * r + k) (by
          have := (blk_cell h1 (1 + 64 * r + k)).symm.trans d1
          rw [hS, hd1] at this
          exact this)]
        exact blk_drewN (blk_set (blk_far (blk_far h1 hpy _) hpx _) _ _) n
      · rw [seg_append, seg_append]
        refine ⟨⟨hxs.move (fun q hq => ?_), ?_, trivial⟩, ?_, hys.move (fun q hq => ?_)⟩
        · have hpq := (h.pne (hin (hS' (n := q) (by simp [hq])))).symm
          have hqy : q.b ≠ y.b := n3 _ (List.mem_map.2 ⟨q, hq, rfl⟩) _ (by simp)
          rw [World.heap_drewN]
          rw [Below.heap_setCell _ _ _ _ hpq, Below.heap_setCell _ _ _ _ (hxx q hq), Below.heap_setCell _ _ _ _ hqy]
        · exact blk_drewN (blk_far (blk_set (blk_far hx hyx.symm _) 4 _) hpx.symm _) n
        · rw [last_snoc]
          exact blk_drewN (blk_far (blk_far (blk_set hy 3 _) hyx _) hpy.symm _) n
        · have hpq := (h.pne (hin (hS' (n := q) (by simp [hq])))).symm
          rw [World.heap_drewN]
          rw [Below.heap_setCell _ _ _ _ hpq, Below.heap_setCell _ _ _ _ (hxy q (by simp [hq])), Below.heap_setCell _ _ _ _ (hyy q hq)]
      · rw [World.heap_drewN]
        rw [Below.heap_setCell _ _ _ _ hb1, Below.heap_setCell _ _ _ _ (hb2 x (by simp)), Below.heap_setCell _ _ _ _ (hb2 y (by simp))]
      · exact ((((Only.refl O w).set (fun _ => o3 y (hin hyS)) _).set (fun _ => o3 x (hin hxS)) _).set (fun _ => o1) _).drewN n
end
end Go.Proofs.Ytaefbibkkkglnaa.Wh
