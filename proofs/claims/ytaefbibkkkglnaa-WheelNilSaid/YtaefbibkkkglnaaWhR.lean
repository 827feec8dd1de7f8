/- Wheel: a wheel in memory; what hang and unhang make of it. No condition. -/
import Derived.Test.YtaefbibkkkglnaaWhS
import Derived.Test.YtaefbibkkkglnaaWhJ
import Derived.Test.YtaefbibkkkglnaaMp
import Derived.Test.YtaefbibkkkglnaaFr
namespace Go.Proofs.Ytaefbibkkkglnaa.Wh
open Go Go.RowKit Go.Proofs.YtaefbibkkkglnaaW.PrintWords Go.Proofs.Ytaefbibkkkglnaa.Mp Go.Proofs.Ytaefbibkkkglnaa.Fr
set_option linter.unusedVariables false
set_option linter.unusedSimpArgs false

def ptr (o : Option Nat) : Value := .pointer (o.map fun b => ⟨b, 0, none⟩)
def tcells (n : Node) (r : Int) (pv nx : Option Nat) : Array Value := #[.string n.id, .int .i64 n.tm, .int .i64 r, ptr pv, ptr nx]
def Tcell (w : World) (n : Node) (r : Int) (pv nx : Option Nat) : Prop := w.heap[n.b]? = some (.cells (tcells n r pv nx) 79 (0, 0))
def Seg (w : World) (r : Nat) : Option Nat → List Node → Option Nat → Prop
  | _, [], _ => True
  | pv, n :: ns, nx => Tcell w n r pv (hd nx ns) ∧ Seg w r (some n.b) ns nx
theorem Seg.move {w w' : World} {r : Nat} : ∀ {l : List Node} {pv nx : Option Nat}, Seg w r pv l nx → (∀ n ∈ l, w'.heap[n.b]? = w.heap[n.b]?) → Seg w' r pv l nx
  | [], _, _, _, _ => trivial
  | n :: ns, _, _, h, hm => ⟨(hm n (by simp)).trans h.1, Seg.move h.2 (fun q hq => hm q (by simp [hq]))⟩
theorem seg_append {w : World} {r : Nat} {ys : List Node} : ∀ {xs : List Node} {pv nx : Option Nat}, Seg w r pv (xs ++ ys) nx ↔ Seg w r pv xs (hd nx ys) ∧ Seg w r (last pv xs) ys nx
  | [], _, _ => by simp [Seg, last]
  | n :: xs, pv, nx => by
    show Tcell w n r pv (hd nx (xs ++ ys)) ∧ Seg w r (some n.b) (xs ++ ys) nx ↔ (Tcell w n r pv (hd (hd nx ys) xs) ∧ Seg w r (some n.b) xs (hd nx ys)) ∧ Seg w r (last (some n.b) xs) ys nx
    rw [seg_append, hd_append]
    exact ⟨fun ⟨a, b, c⟩ => ⟨⟨a, b⟩, c⟩, fun ⟨⟨a, b⟩, c⟩ => ⟨a, b, c⟩⟩
theorem Seg.mem {w : World} {r : Nat} {n : Node} : ∀ {l : List Node} {pv nx : Option Nat}, Seg w r pv l nx → n ∈ l → ∃ a b, Tcell w n r a b
  | [], _, _, _, h => by simp at h
  | m :: ns, _, _, h, hm => by
    rcases List.mem_cons.1 hm with rfl | hm
    · exact ⟨_, _, h.1⟩
    · exact Seg.mem h.2 hm

structure Head (w : World) (p m : Nat) (now : Int) (S : Slots) : Prop where
  cs : ∃ cs : Array Value, w.heap[p]? = some (.cells cs 73 (0, 0)) ∧ cs.size = 457 ∧ cs[0]? = some (.int .i64 now) ∧ (∀ r k, r < 7 → k < 64 → cs[1 + 64 * r + k]? = some (ptr (hd none (S r k)))) ∧ (∀ r, r < 7 → cs[449 + r]? = some (.int .i64 (cnt S r))) ∧ cs[456]? = some (.map (some m))
/-- The wheel at the block p: its names' map in the block m, the timers that hang, S, and those that hang nowhere, F; all its blocks are among O. -/
structure Rep (w : World) (O : Nat → Prop) (p m : Nat) (now : Int) (S : Slots) (F : List Node) : Prop where
  head : Head w p m now S
  seg : ∀ r k, r < 7 → k < 64 → Seg w r none (S r k) none
  loose : ∀ n ∈ F, ∃ r a b, Tcell w n r a b
  names : ∃ es, IsM w m es ∧ es.Perm ((F ++ nodes S).map fun n => (n.id, ptr (some n.b)))
  nodup : ((F ++ nodes S).map Node.b).Nodup
  own : O p ∧ O m ∧ ∀ n ∈ F ++ nodes S, O n.b

section
variable {w w' : World} {O : Nat → Prop} {p m : Nat} {now : Int} {S : Slots} {F : List Node}
theorem Head.lt (h : Head w p m now S) : p < w.heap.size := by
  obtain ⟨cs, h1, _⟩ := h.cs
  exact blk_lt h1
theorem Head.c0 (h : Head w p m now S) : w.cell? ⟨p, 0, none⟩ = some (.int .i64 now) := by
  obtain ⟨cs, h1, h2, h3, _⟩ := h.cs
  exact (blk_cell h1 0).trans h3
theorem Head.slot (h : Head w p m now S) {r k : Nat} (hr : r < 7) (hk : k < 64) : w.cell? ⟨p, 1 + 64 * r + k, none⟩ = some (ptr (hd none (S r k))) := by
  obtain ⟨cs, h1, h2, h3, h4, _⟩ := h.cs
  exact (blk_cell h1 _).trans (h4 r k hr hk)
theorem Head.count (h : Head w p m now S) {r : Nat} (hr : r < 7) : w.cell? ⟨p, 449 + r, none⟩ = some (.int .i64 (cnt S r)) := by
  obtain ⟨cs, h1, h2, h3, h4, h5, _⟩ := h.cs
  exact (blk_cell h1 _).trans (h5 r hr)
theorem Head.map (h : Head w p m now S) : w.cell? ⟨p, 456, none⟩ = some (.map (some m)) := by
  obtain ⟨cs, h1, h2, h3, h4, h5, h6⟩ := h.cs
  exact (blk_cell h1 _).trans h6
theorem Head.fz (h : Head w p m now S) (i : Nat) : w.frozen? ⟨p, i, none⟩ = false := by
  obtain ⟨cs, h1, _⟩ := h.cs
  exact blk_frozen h1 i
theorem Head.move (h : Head w p m now S) (hm : w'.heap[p]? = w.heap[p]?) : Head w' p m now S := by
  obtain ⟨cs, h1, h2⟩ := h.cs
  exact ⟨cs, hm.trans h1, h2⟩
theorem tcell_ne {n : Node} {r : Int} {a b : Option Nat} (h : Head w p m now S) (ht : Tcell w n r a b) : p ≠ n.b := by
  obtain ⟨cs, h1, _⟩ := h.cs
  exact blk_ne h1 ht (by decide)
theorem tcell_map {n : Node} {r : Int} {a b : Option Nat} {es : List Ent} (h : IsM w m es) (ht : Tcell w n r a b) : m ≠ n.b := fun e => h.noCells _ _ _ (by rw [e]; exact ht)
theorem Rep.tm (h : Rep w O p m now S F) {n : Node} (hn : n ∈ F ++ nodes S) : ∃ r a b, Tcell w n r a b := by
  rcases List.mem_append.1 hn with h1 | h1
  · exact h.loose n h1
  · obtain ⟨r, k, hr, hk, h2⟩ := mem_nodes.1 h1
    obtain ⟨a, b, h3⟩ := (h.seg r k hr hk).mem h2
    exact ⟨r, a, b, h3⟩
theorem Rep.pne (h : Rep w O p m now S F) {n : Node} (hn : n ∈ F ++ nodes S) : p ≠ n.b := by
  obtain ⟨r, a, b, ht⟩ := h.tm hn
  exact tcell_ne h.head ht
theorem Rep.mne (h : Rep w O p m now S F) {n : Node} (hn : n ∈ F ++ nodes S) : m ≠ n.b := by
  obtain ⟨r, a, b, ht⟩ := h.tm hn
  obtain ⟨es, he, _⟩ := h.names
  exact tcell_map he ht
theorem Rep.pm (h : Rep w O p m now S F) : m ≠ p := fun e => by
  obtain ⟨es, he, _⟩ := h.names
  obtain ⟨cs, h1, _⟩ := h.head.cs
  exact he.noCells _ _ _ (by rw [e]; exact h1)
/-- Every block of the wheel's stays. -/
theorem Rep.move (h : Rep w O p m now S F) (hm : ∀ b, O b → b < w.heap.size → w'.heap[b]? = w.heap[b]?) : Rep w' O p m now S F := by
  obtain ⟨o1, o2, o3⟩ := h.own
  have hb : ∀ n ∈ F ++ nodes S, w'.heap[n.b]? = w.heap[n.b]? := fun n hn => by
    obtain ⟨r, a, b, ht⟩ := h.tm hn
    exact hm _ (o3 n hn) (blk_lt ht)
  refine ⟨h.head.move (hm p o1 h.head.lt), fun r k hr hk => (h.seg r k hr hk).move (fun n hn => hb n (List.mem_append_right _ (mem_nodes.2 ⟨r, k, hr, hk, hn⟩))), fun n hn => ?_, ?_, h.nodup, h.own⟩
  · obtain ⟨r, a, b, ht⟩ := h.loose n hn
    exact ⟨r, a, b, (hb n (List.mem_append_left _ hn)).trans ht⟩
  · obtain ⟨es, he, hp⟩ := h.names
    exact ⟨es, he.move (hm m o2 he.lt), hp⟩
theorem Rep.drewN (h : Rep w O p m now S F) (n : Nat) : Rep (w.drewN n) O p m now S F := h.move (fun _ _ _ => rfl)
theorem Rep.below (h : Rep w O p m now S F) (hb : Below w.heap.size w w') : Rep w' O p m now S F := h.move (fun b _ hl => hb.block b hl)
theorem Rep.weaken {O' : Nat → Prop} (h : Rep w O p m now S F) (ho : ∀ b, O b → O' b) : Rep w O' p m now S F :=
  ⟨h.head, h.seg, h.loose, h.names, h.nodup, ho _ h.own.1, ho _ h.own.2.1, fun n hn => ho _ (h.own.2.2 n hn)⟩

/-! ### hang -/
theorem nb_inj {l : List Node} (h : (l.map Node.b).Nodup) {n q : Node} (hn : n ∈ l) (hq : q ∈ l) (e : n.b = q.b) : n = q := by
  obtain ⟨i, hi⟩ := List.getElem?_of_mem hn
  obtain ⟨j, hj⟩ := List.getElem?_of_mem hq
  have h1 : (l.map Node.b)[i]? = some n.b := by simp [hi]
  have h2 : (l.map Node.b)[j]? = some n.b := by simp [hj, e]
  have hl := (List.getElem?_eq_some_iff.1 h1).1
  have : i = j := (List.getElem?_inj hl h).1 (h1.trans h2.symm)
  subst this
  rw [hi] at hj
  injection hj
theorem head_set {cs : Array Value} {r k : Nat} {L : List Node} (hr : r < 7) (hk : k < 64) (h2 : cs.size = 457) (h3 : cs[0]? = some (.int .i64 now)) (h4 : ∀ r k, r < 7 → k < 64 → cs[1 + 64 * r + k]? = some (ptr (hd none (S r k))))
    (h5 : ∀ r, r < 7 → cs[449 + r]? = some (.int .i64 (cnt S r))) (h6 : cs[456]? = some (.map (some m))) :
    (((cs.setIfInBounds (1 + 64 * r + k) (ptr (hd none L))).setIfInBounds (449 + r) (.int .i64 (cnt (upd S r k L) r))).size = 457) ∧
    ((cs.setIfInBounds (1 + 64 * r + k) (ptr (hd none L))).setIfInBounds (449 + r) (.int .i64 (cnt (upd S r k L) r)))[0]? = some (.int .i64 now) ∧
    (∀ r' k', r' < 7 → k' < 64 → ((cs.setIfInBounds (1 + 64 * r + k) (ptr (hd none L))).setIfInBounds (449 + r) (.int .i64 (cnt (upd S r k L) r)))[1 + 64 * r' + k']? = some (ptr (hd none (upd S r k L r' k')))) ∧
    (∀ r', r' < 7 → ((cs.setIfInBounds (1 + 64 * r + k) (ptr (hd none L))).setIfInBounds (449 + r) (.int .i64 (cnt (upd S r k L) r)))[449 + r']? = some (.int .i64 (cnt (upd S r k L) r'))) ∧
    ((cs.setIfInBounds (1 + 64 * r + k) (ptr (hd none L))).setIfInBounds (449 + r) (.int .i64 (cnt (upd S r k L) r)))[456]? = some (.map (some m)) := by
  refine ⟨by simp [h2], ?_, fun r' k' hr' hk' => ?_, fun r' hr' => ?_, ?_⟩
  · rw [Array.getElem?_setIfInBounds_ne (by omega), Array.getElem?_setIfInBounds_ne (by omega), h3]
  · rw [Array.getElem?_setIfInBounds_ne (by omega)]
    by_cases e : r' = r ∧ k' = k
    · obtain ⟨rfl, rfl⟩ := e
      rw [Array.getElem?_setIfInBounds_self_of_lt (by omega), upd_same]
    · rw [Array.getElem?_setIfInBounds_ne (by omega), h4 r' k' hr' hk', upd_other e]
  · by_cases e : r' = r
    · subst e
      rw [Array.getElem?_setIfInBounds_self_of_lt (by simp; omega)]
    · rw [Array.getElem?_setIfInBounds_ne (by omega), Array.getElem?_setIfInBounds_ne (by omega), h5 r' hr', cnt_other L e]
  · rw [Array.getElem?_setIfInBounds_ne (by omega), Array.getElem?_setIfInBounds_ne (by omega), h6]

/-- hang, by what becomes of the blocks. -/
theorem Rep.hang {t : Node} {r k : Nat} (h : Rep w O p m now S (t :: F)) (hr : r < 7) (hk : k < 64)
    (hp : ∀ cs, w.heap[p]? = some (.cells cs 73 (0, 0)) → w'.heap[p]? = some (.cells ((cs.setIfInBounds (1 + 64 * r + k) (ptr (some t.b))).setIfInBounds (449 + r) (.int .i64 (cnt S r + 1 : Nat))) 73 (0, 0)))
    (ht : Tcell w' t r none (hd none (S r k)))
    (hh : ∀ y ys, S r k = y :: ys → Tcell w' y r (some t.b) (hd none ys))
    (ho : ∀ b, b ≠ p → b ≠ t.b → (∀ y ys, S r k = y :: ys → b ≠ y.b) → w'.heap[b]? = w.heap[b]?) : Rep w' O p m now (upd S r k (t :: S r k)) F := by
  have hperm : ((F ++ nodes (upd S r k (t :: S r k)))).Perm ((t :: F) ++ nodes S) := ((nodes_in hr hk).append_left F).trans List.perm_middle
  have hin : ∀ {n : Node} {r' k'}, r' < 7 → k' < 64 → n ∈ S r' k' → n ∈ (t :: F) ++ nodes S := fun hr' hk' hn => List.mem_append_right _ (mem_nodes.2 ⟨_, _, hr', hk', hn⟩)
  have hinj : ∀ {n q : Node}, n ∈ (t :: F) ++ nodes S → q ∈ (t :: F) ++ nodes S → n.b = q.b → n = q := fun hn hq e => nb_inj h.nodup hn hq e
  have htn : ∀ {n : Node}, n ∈ F ++ nodes S → n.b ≠ t.b := fun {n} hn e => by
    have hnd : (t.b :: (F ++ nodes S).map Node.b).Nodup := h.nodup
    exact (List.nodup_cons.1 hnd).1 (e ▸ List.mem_map.2 ⟨n, hn, rfl⟩)
  have hslot : ∀ {n : Node} {r' k'}, r' < 7 → k' < 64 → n ∈ S r' k' → (r' = r ∧ k' = k) ∨ ∀ y ys, S r k = y :: ys → n.b ≠ y.b := fun {n r' k'} hr' hk' hn => by
    by_cases e : r' = r ∧ k' = k
    · exact .inl e
    · right
      intro y ys hy hb
      -- n and y would be one timer in two slots
      have hy' : y ∈ S r k := by rw [hy]; simp
      have hnd : ((nodes S).map Node.b).Nodup := by
        have := h.nodup
        rw [List.map_append] at this
        exact (List.nodup_append.1 this).2.1
      have hn' : n ∈ nodes (upd S r k []) := mem_nodes.2 ⟨r', k', hr', hk', by rw [upd_other e]; exact hn⟩
      have h1 := nodes_upd (S := S) (r := r) (k := k) [] hr hk
      rw [List.append_nil] at h1
      have h2 := (h1.map Node.b).nodup_iff.2 hnd
      rw [List.map_append] at h2
      exact (List.nodup_append.1 h2).2.2 _ (List.mem_map.2 ⟨n, hn', rfl⟩) _ (List.mem_map.2 ⟨y, hy', rfl⟩) hb
  refine ⟨⟨?_⟩, fun r' k' hr' hk' => ?_, fun n hn => ?_, ?_, ?_, h.own.1, h.own.2.1, fun n hn => h.own.2.2 n (hperm.mem_iff.1 hn)⟩
  · obtain ⟨cs, h1, h2, h3, h4, h5, h6⟩ := h.head.cs
    have hc : cnt (upd S r k (t :: S r k)) r = cnt S r + 1 := by
      have := cnt_upd (S := S) (r := r) (t :: S r k) hk
      simp at this
      omega
    have hs := head_set (L := t :: S r k) hr hk h2 h3 h4 h5 h6
    rw [hc] at hs
    exact ⟨_, hp cs h1, hs⟩
  · by_cases e : r' = r ∧ k' = k
    · obtain ⟨rfl, rfl⟩ := e
      rw [upd_same]
      refine ⟨ht, ?_⟩
      cases hS : S r' k' with
      | nil => trivial
      | cons y ys =>
        have hseg := h.seg r' k' hr' hk'
        rw [hS] at hseg
        refine ⟨hh y ys hS, hseg.2.move (fun n hn => ho _ (h.pne (hin hr' hk' (by rw [hS]; simp [hn]))).symm (htn (List.mem_append_right _ (mem_nodes.2 ⟨r', k', hr', hk', by rw [hS]; simp [hn]⟩))) (fun y' ys' hy' => ?_))⟩
        rw [hS] at hy'
        injection hy' with hy' _
        subst hy'
        -- n stands behind y in the slot
        have hnd : ((nodes S).map Node.b).Nodup := by
          have := h.nodup
          rw [List.map_append] at this
          exact (List.nodup_append.1 this).2.1
        have h1 := nodes_upd (S := S) (r := r') (k := k') [] hr' hk'
        rw [List.append_nil, hS] at h1
        have h2 := (h1.map Node.b).nodup_iff.2 hnd
        rw [List.map_append] at h2
        have h3 := (List.nodup_append.1 h2).2.1
        exact fun e => (List.nodup_cons.1 (show (y.b :: ys.map Node.b).Nodup from h3)).1 (e ▸ List.mem_map.2 ⟨n, hn, rfl⟩)
    · rw [upd_other e]
      refine (h.seg r' k' hr' hk').move (fun n hn => ho _ (h.pne (hin hr' hk' hn)).symm (htn (List.mem_append_right _ (mem_nodes.2 ⟨r', k', hr', hk', hn⟩))) ?_)
      rcases hslot hr' hk' hn with h1 | h1
      · exact absurd h1 e
      · exact h1
  · obtain ⟨r0, a, b, h0⟩ := h.loose n (by simp [hn])
    refine ⟨r0, a, b, (ho _ (tcell_ne h.head h0).symm (htn (List.mem_append_left _ hn)) (fun y ys hy hb => ?_)).trans h0⟩
    have hy' : y ∈ nodes S := mem_nodes.2 ⟨r, k, hr, hk, by rw [hy]; simp⟩
    have hnd : ((F ++ nodes S).map Node.b).Nodup := (List.nodup_cons.1 (show (t.b :: (F ++ nodes S).map Node.b).Nodup from h.nodup)).2
    rw [List.map_append] at hnd
    exact (List.nodup_append.1 hnd).2.2 _ (List.mem_map.2 ⟨n, hn, rfl⟩) _ (List.mem_map.2 ⟨y, hy', rfl⟩) hb
  · obtain ⟨es, he, hpm⟩ := h.names
    refine ⟨es, he.move (ho _ h.pm (h.mne (n := t) (by simp)) (fun y ys hy => h.mne (hin hr hk (by rw [hy]; simp)))), hpm.trans (hperm.map _).symm⟩
  · exact (hperm.map Node.b).nodup_iff.2 h.nodup
/-- unhang, by what becomes of the blocks. -/
theorem Rep.unhang {t : Node} {r k : Nat} {xs ys : List Node} (h : Rep w O p m now S F) (hr : r < 7) (hk : k < 64) (hS : S r k = xs ++ t :: ys)
    (hp : ∀ cs, w.heap[p]? = some (.cells cs 73 (0, 0)) → w'.heap[p]? = some (.cells ((cs.setIfInBounds (1 + 64 * r + k) (ptr (hd none (xs ++ ys)))).setIfInBounds (449 + r) (.int .i64 (cnt S r - 1 : Nat))) 73 (0, 0)))
    (hseg : Seg w' r none (xs ++ ys) none)
    (ho : ∀ b, b ≠ p → (∀ n ∈ xs ++ ys, b ≠ n.b) → w'.heap[b]? = w.heap[b]?) : Rep w' O p m now (upd S r k (xs ++ ys)) (t :: F) := by
  have hperm : ((t :: F) ++ nodes (upd S r k (xs ++ ys))).Perm (F ++ nodes S) := by
    refine List.Perm.trans ?_ ((nodes_out hr hk hS).append_left F)
    exact List.perm_middle.symm
  have hnd0 := h.nodup
  rw [List.map_append] at hnd0
  obtain ⟨hndF, hndS, hdis⟩ := List.nodup_append.1 hnd0
  have hsl : ∀ {n : Node}, n ∈ xs ++ ys → n ∈ S r k := fun {n} hn => by
    rw [hS]
    rcases List.mem_append.1 hn with h1 | h1
    · exact List.mem_append_left _ h1
    · exact List.mem_append_right _ (by simp [h1])
  have hts : t ∈ S r k := by rw [hS]; simp
  have hsub : ((xs ++ ys).map Node.b).Nodup ∧ ∀ n ∈ xs ++ ys, n.b ≠ t.b := by
    have h1 := nodes_upd (S := S) (r := r) (k := k) [] hr hk
    rw [List.append_nil, hS] at h1
    have h2 := (h1.map Node.b).nodup_iff.2 hndS
    rw [List.map_append] at h2
    have h3 := (List.nodup_append.1 h2).2.1
    have h4 : ((xs ++ t :: ys).map Node.b).Perm (t.b :: (xs ++ ys).map Node.b) := (List.perm_middle (l₁ := xs) (a := t) (l₂ := ys)).map Node.b
    have h5 := List.nodup_cons.1 (h4.nodup_iff.1 h3)
    exact ⟨h5.2, fun n hn e => h5.1 (e ▸ List.mem_map.2 ⟨n, hn, rfl⟩)⟩
  have hother : ∀ {n : Node} {r' k'}, r' < 7 → k' < 64 → n ∈ S r' k' → ¬ (r' = r ∧ k' = k) → ∀ q ∈ S r k, n.b ≠ q.b := fun {n r' k'} hr' hk' hn e q hq hb => by
    have hn' : n ∈ nodes (upd S r k []) := mem_nodes.2 ⟨r', k', hr', hk', by rw [upd_other e]; exact hn⟩
    have h1 := nodes_upd (S := S) (r := r) (k := k) [] hr hk
    rw [List.append_nil] at h1
    have h2 := (h1.map Node.b).nodup_iff.2 hndS
    rw [List.map_append] at h2
    exact (List.nodup_append.1 h2).2.2 _ (List.mem_map.2 ⟨n, hn', rfl⟩) _ (List.mem_map.2 ⟨q, hq, rfl⟩) hb
  refine ⟨⟨?_⟩, fun r' k' hr' hk' => ?_, fun n hn => ?_, ?_, ?_, h.own.1, h.own.2.1, fun n hn => h.own.2.2 n (hperm.mem_iff.1 hn)⟩
  · obtain ⟨cs, h1, h2, h3, h4, h5, h6⟩ := h.head.cs
    have hc : cnt (upd S r k (xs ++ ys)) r = cnt S r - 1 := by
      have := cnt_upd (S := S) (r := r) (xs ++ ys) hk
      rw [hS] at this
      simp at this
      omega
    have hs := head_set (L := xs ++ ys) hr hk h2 h3 h4 h5 h6
    rw [hc] at hs
    exact ⟨_, hp cs h1, hs⟩
  · by_cases e : r' = r ∧ k' = k
    · obtain ⟨rfl, rfl⟩ := e
      rw [upd_same]
      exact hseg
    · rw [upd_other e]
      exact (h.seg r' k' hr' hk').move (fun n hn => ho _ (h.pne (List.mem_append_right _ (mem_nodes.2 ⟨r', k', hr', hk', hn⟩))).symm (fun q hq => hother hr' hk' hn e q (hsl hq)))
  · rcases List.mem_cons.1 hn with rfl | hn
    · obtain ⟨a, b, h0⟩ := (h.seg r k hr hk).mem hts
      exact ⟨r, a, b, (ho _ (tcell_ne h.head h0).symm (fun q hq => (hsub.2 q hq).symm)).trans h0⟩
    · obtain ⟨r0, a, b, h0⟩ := h.loose n hn
      exact ⟨r0, a, b, (ho _ (tcell_ne h.head h0).symm (fun q hq hb => hdis _ (List.mem_map.2 ⟨n, hn, rfl⟩) _ (List.mem_map.2 ⟨q, mem_nodes.2 ⟨r, k, hr, hk, hsl hq⟩, rfl⟩) hb)).trans h0⟩
  · obtain ⟨es, he, hpm⟩ := h.names
    refine ⟨es, he.move (ho _ h.pm (fun q hq => h.mne (List.mem_append_right _ (mem_nodes.2 ⟨r, k, hr, hk, hsl hq⟩)))), hpm.trans (hperm.map _).symm⟩
  · exact (hperm.map Node.b).nodup_iff.2 h.nodup
end
end Go.Proofs.Ytaefbibkkkglnaa.Wh
