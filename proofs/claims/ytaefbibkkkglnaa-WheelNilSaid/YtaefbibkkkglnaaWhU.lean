/- Wheel: what Advance's second loop keeps. No condition. -/
import Derived.Test.YtaefbibkkkglnaaWhV
namespace Go.Proofs.Ytaefbibkkkglnaa.Wh
open Go Go.RowKit Go.Proofs.YtaefbibkkkglnaaW.PrintWords Go.Proofs.Ytaefbibkkkglnaa.Mp Go.Proofs.Ytaefbibkkkglnaa.Fr
set_option linter.unusedVariables false
set_option linter.unusedSimpArgs false

def gone (t : Int) (F : List Node) : List Node := F.filter fun n => decide (n.tm ≤ t)
def kept (t : Int) (F : List Node) : List Node := F.filter fun n => decide (t < n.tm)
theorem take_succ {F : List Node} {i : Nat} (h : i < F.length) : F.take (i + 1) = F.take i ++ [F[i]] := by
  rw [List.take_succ_eq_append_getElem h]
theorem drop_cons {F : List Node} {i : Nat} (h : i < F.length) : F.drop i = F[i] :: F.drop (i + 1) := List.drop_eq_getElem_cons h
structure InvB (w0 w : World) (O : Nat → Prop) (p m : Nat) (t : Int) (S1 : Slots) (F : List Node) (v7 v12 : Value) (i : Nat) (S' : Slots) : Prop where
  rep : Rep w O p m t S' (F.drop i)
  good : Good t S'
  row : kN.R 65 w w0.heap.size (fun _ => True) v7 F
  drow : kN.R 65 w w0.heap.size (fun _ => True) v12 (gone t (F.take i))
  perm : (nodes S').Perm (kept t (F.take i) ++ nodes S1)
  cells : ∀ n ∈ gone t (F.take i), (∃ r a b, Tcell w n r a b) ∧ O n.b
  nodup : ((gone t (F.take i) ++ (F.drop i ++ nodes S')).map Node.b).Nodup
  only : Only O w0 w
  apart : ∀ k, v12.ownBlock = some k → v7.ownBlock ≠ some k
section
variable {w w' w0 : World} {O : Nat → Prop} {p m : Nat} {t : Int} {S1 S' : Slots} {F : List Node} {v7 v12 : Value} {i : Nat}
theorem InvB.start (h1 : Rep w O p m t S1 F) (hg : Good t S1) (hr : kN.R 65 w w0.heap.size (fun _ => True) v7 F) (ho : Only O w0 w) : InvB w0 w O p m t S1 F v7 (.slice none 0 0) 0 S1 :=
  ⟨h1, hg, hr, Kd.R_nil _ _ _ _ _, List.Perm.refl _, fun n hn => by simp [gone] at hn, h1.nodup, ho, fun k hk => by simp [Value.ownBlock] at hk⟩
/-- A timer that hangs on. -/
theorem InvB.hung (h : InvB w0 w O p m t S1 F v7 v12 i S') (hi : i < F.length) (ht : t < F[i].tm) (ht1 : F[i].tm ≤ 1099511627776) (h0 : 0 ≤ t) (hlt : ∀ b, O b → b < w0.heap.size) {r k : Nat} (hrr : r = rg F[i].tm t) (hkk : k = dg r F[i].tm)
    (hrep : Rep w' (Blk p m (F.drop i ++ nodes S')) p m t (upd S' r k (F[i] :: S' r k)) (F.drop (i + 1))) (ho : Only (Blk p m (F.drop i ++ nodes S')) w w') : InvB w0 w' O p m t S1 F v7 v12 (i + 1) (upd S' r k (F[i] :: S' r k)) := by
  have hr : r < 7 := by rw [hrr]; exact ring_lt (by omega) (by omega)
  have hk : k < 64 := by rw [hkk]; exact dig_lt _ _
  have hBO : ∀ b, Blk p m (F.drop i ++ nodes S') b → O b := fun b hb => by
    obtain ⟨o1, o2, o3⟩ := h.rep.own
    rcases hb with rfl | rfl | ⟨n, hn, rfl⟩
    · exact o1
    · exact o2
    · exact o3 n hn
  have hg1 : gone t (F.take (i + 1)) = gone t (F.take i) := by
    rw [take_succ hi]
    unfold gone
    rw [List.filter_append, List.filter_cons_of_neg (by simpa using ht)]
    simp
  have hk1 : kept t (F.take (i + 1)) = kept t (F.take i) ++ [F[i]] := by
    rw [take_succ hi]
    unfold kept
    rw [List.filter_append, List.filter_cons_of_pos (by simpa using ht)]
    rfl
  have hin := nodes_in (S := S') (t := F[i]) hr hk
  have hnn : ((F.drop (i + 1) ++ nodes (upd S' r k (F[i] :: S' r k)))).Perm (F.drop i ++ nodes S') := by
    rw [drop_cons hi]
    refine (hin.append_left _).trans ?_
    exact List.perm_middle
  refine ⟨hrep.weaken hBO, ?_, R_keep h.row ho (fun b hb _ => hlt b (hBO b hb)), by rw [hg1]; exact R_keep h.drow ho (fun b hb _ => hlt b (hBO b hb)), ?_, ?_, ?_, h.only.step ho (fun b _ hb => hBO b hb), h.apart⟩
  · subst hkk hrr
    exact good_in h.good ht ht1
  · rw [hk1]
    refine hin.trans ?_
    refine (h.perm.cons _).trans ?_
    rw [List.append_assoc]
    exact List.perm_middle.symm
  · rw [hg1]
    intro n hn
    obtain ⟨⟨r0, a, b, hc⟩, hOn⟩ := h.cells n hn
    refine ⟨⟨r0, a, b, (ho.block _ (blk_lt hc) (fun hb => ?_)).trans hc⟩, hOn⟩
    rcases hb with e | e | ⟨q, hq, e⟩
    · exact tcell_ne h.rep.head hc e.symm
    · obtain ⟨es, he, _⟩ := h.rep.names
      exact tcell_map he hc e.symm
    · have h1 := h.nodup
      rw [List.map_append] at h1
      exact (List.nodup_append.1 h1).2.2 _ (List.mem_map.2 ⟨n, hn, rfl⟩) _ (List.mem_map.2 ⟨q, hq, rfl⟩) e.symm
  · rw [hg1]
    exact (((hnn.append_left (gone t (F.take i))).map Node.b)).nodup_iff.2 h.nodup
/-- A timer that is done: grown onto the list (w1), struck from the names (w2). -/
theorem InvB.done {v' : Value} {w1 w2 : World} {es : List Ent} (h : InvB w0 w O p m t S1 F v7 v12 i S') (hi : i < F.length) (ht : F[i].tm ≤ t) (hlt : ∀ b, O b → b < w0.heap.size)
    (hR : kN.R 65 w1 w0.heap.size (fun _ => True) v' (gone t (F.take i) ++ [F[i]])) (hg : w.grownBy w1 v12.ownBlock) (hat : v'.ownBlock = v12.ownBlock ∨ ∃ b, v'.ownBlock = some b ∧ w.heap.size ≤ b)
    (he : IsM w1 m es) (hp : es.Perm ((F.drop i ++ nodes S').map fun n => (n.id, ptr (some n.b)))) (hm : IsM w2 m (drop F[i].id es)) (hg2 : w1.grownBy w2 (some m)) : InvB w0 w2 O p m t S1 F v7 v' (i + 1) S' := by
  have hg1 : gone t (F.take (i + 1)) = gone t (F.take i) ++ [F[i]] := by
    rw [take_succ hi]
    unfold gone
    rw [List.filter_append, List.filter_cons_of_pos (by simpa using ht)]
    rfl
  have hk1 : kept t (F.take (i + 1)) = kept t (F.take i) := by
    rw [take_succ hi]
    unfold kept
    rw [List.filter_append, List.filter_cons_of_neg (by simp; omega)]
    simp
  have hv := own_ge h.drow
  have hOm := h.rep.own.2.1
  have hr1 : Rep w1 O p m t S' (F.drop i) := h.rep.grown hg (fun k hk hO => by have := hv k hk; have := hlt k hO; omega)
  rw [drop_cons hi] at hr1 hp
  have hr2 := hr1.del he hp hm (fun b hb hbm => hg2.block b hb (fun e => hbm (by injection e)))
  have hml := hlt m hOm
  have hrow1 : kN.R 65 w1 w0.heap.size (fun _ => True) v7 F := by
    refine Kd.R_mono (Kd.R_step (ok := fun b => True ∧ some b ≠ v12.ownBlock) ?_ (fun b hb hl => hg.block b hl hb.2)) (fun _ _ => trivial)
    obtain ⟨h0, hr⟩ := h.row
    refine ⟨fun k hk => ⟨trivial, fun e => h.apart k e.symm hk⟩, hr.imp_ (fun x cs hx => hx)⟩
  have keep2 : ∀ {v : Value} {xs : List Node}, kN.R 65 w1 w0.heap.size (fun _ => True) v xs → kN.R 65 w2 w0.heap.size (fun _ => True) v xs := fun hx =>
    R_keep hx (Only.of_grown hg2) (fun b hb _ => by injection hb with hb; rw [hb]; exact hml)
  have hsz : w.heap.size ≤ w1.heap.size := hg.size
  refine ⟨hr2, h.good, keep2 hrow1, by rw [hg1]; exact keep2 hR, by rw [hk1]; exact h.perm, ?_, ?_, ?_, ?_⟩
  · rw [hg1]
    have keepc : ∀ {n : Node}, (∃ r a b, Tcell w n r a b) → O n.b → (∃ r a b, Tcell w2 n r a b) := fun {n} hc hOn => by
      obtain ⟨r0, a, b, hc⟩ := hc
      have hnm : n.b ≠ m := by
        obtain ⟨es', he', _⟩ := h.rep.names
        exact fun e => tcell_map he' hc e.symm
      refine ⟨r0, a, b, (hg2.block _ (Nat.lt_of_lt_of_le (blk_lt hc) hsz) (fun e => hnm (by injection e))).trans ((hg.block _ (blk_lt hc) (fun e => ?_)).trans hc)⟩
      have := hv _ e.symm
      have := hlt _ hOn
      omega
    intro n hn
    rcases List.mem_append.1 hn with hn | hn
    · exact ⟨keepc (h.cells n hn).1 (h.cells n hn).2, (h.cells n hn).2⟩
    · rw [List.mem_singleton.1 hn]
      have hmem : F[i] ∈ F.drop i := by rw [drop_cons hi]; exact List.mem_cons_self
      have hOf : O F[i].b := h.rep.own.2.2 _ (List.mem_append_left _ hmem)
      exact ⟨keepc (h.rep.loose _ hmem) hOf, hOf⟩
  · rw [hg1]
    have := h.nodup
    rw [drop_cons hi] at this
    have hpm : ((gone t (F.take i) ++ [F[i]]) ++ (F.drop (i + 1) ++ nodes S')).Perm (gone t (F.take i) ++ (F[i] :: F.drop (i + 1) ++ nodes S')) := by
      rw [List.append_assoc]
      exact List.Perm.refl _
    exact (hpm.map Node.b).nodup_iff.2 this
  · have o1 := Wh.Only.of_grown2 h.only hg (fun k hk => hv k hk)
    exact o1.trans ((Only.of_grown hg2).mono (fun b _ hb => by injection hb with hb; rw [hb]; exact hOm))
  · intro k hk h7
    rcases hat with e | ⟨b, e, hb⟩
    · exact h.apart k (e ▸ hk) h7
    · rw [e] at hk
      injection hk with hk
      have := (Kd.R_bound h.row).1 k h7
      have := this.2.2.1
      omega
end
theorem at_N {w : World} {A : Option Addr} {xs : List Node} (h : Kd.C kN w A xs.length xs) (i : Nat) (hi : i < xs.length) : ∃ ad, A = some ad ∧ w.cell? (ad.add i) = some (.pointer (some ⟨xs[i].b, 0, none⟩)) := by
  obtain ⟨ad, c, e, hc, hK, hcell⟩ := Kd.C_get h xs[i] (i : Int) (by omega) (by omega)
  refine ⟨ad, e, ?_⟩
  have hg : xs.getD (i : Int).toNat xs[i] = xs[i] := by
    rw [Int.toNat_natCast, List.getD_eq_getElem?_getD, List.getElem?_eq_getElem hi]
    rfl
  rw [hg] at hK
  have hK' : c = [.pointer (some ⟨xs[i].b, 0, none⟩)] := hK
  have := hcell 0 _ (by rw [hK']; rfl)
  rw [Int.toNat_natCast] at this
  simpa [kN, Kd.scalar] using this
end Go.Proofs.Ytaefbibkkkglnaa.Wh
