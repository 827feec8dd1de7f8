/- Wheel: Remove, Change, At for every name and time. Two wheels side by side. No condition. -/
import Derived.Test.YtaefbibkkkglnaaWhM
import Derived.Test.YtaefbibkkkglnaaWhEq
namespace Go.Proofs.Ytaefbibkkkglnaa.Wh
open Go Go.RowKit Go.Proofs.YtaefbibkkkglnaaW.PrintWords Go.Proofs.Ytaefbibkkkglnaa.Mp Go.Proofs.Ytaefbibkkkglnaa.Fr
set_option linter.unusedVariables false
set_option linter.unusedSimpArgs false
def removeL (l : List E) (id : ByteArray) : List E := if findE l id = 0 then cutF id l else l
def changeL (now : Int) (l : List E) (id : ByteArray) (t : Int) : List E := if changeE now l id t = 0 then putF (id, t) (cutF id l) else l
def atV (l : List E) (id : ByteArray) : Int := if findE l id = 0 then timeOf l id else 0
section
variable {w w' : World} {O : Nat → Prop} {p : Nat} {now : Int} {l : List E}
theorem find_none (h : Whl w O p now l) (id : ByteArray) (hs : id.size < 4611686018427387904) (hv : findE l id ≠ 0) :
    Calls Try.prog 40 #[.pointer (some ⟨p, 0, none⟩), .string id] w fun e w' => e = .returned (.tuple #[.pointer none, .int .i64 (findE l id)]) ∧ ∃ n, w' = w.drewN n := by
  by_cases hn : nameB id = true
  · by_cases hx : hasB l id = true
    · exfalso
      apply hv
      unfold findE
      rw [if_pos hn, if_pos hx]
    · obtain ⟨⟨m, S, h1, h2, h3⟩, a1, a2, a3, a4, a5, a6⟩ := h
      obtain ⟨es, he, hp⟩ := h1.names
      have hxs : id ∉ es.map Prod.fst := fun q => hx (hasB_iff.2 ((ids_iff hp h3 id).1 q))
      have e : findE l id = 7 := by unfold findE; rw [if_pos hn, if_neg hx]
      rw [e]
      exact find_out id w hs hn h1.head.map he hxs
  · have e : findE l id = 111 := by unfold findE; rw [if_neg hn]
    rw [e]
    exact find_bad p id w hs (by simpa using hn)
theorem find_zero {id : ByteArray} (h : findE l id = 0) : nameB id = true ∧ hasB l id = true := by
  unfold findE at h
  split at h
  · split at h
    · exact ⟨‹_›, ‹_›⟩
    · cases h
  · cases h
theorem remove_calls (h : Whl w O p now l) (id : ByteArray) (hs : id.size < 4611686018427387904) :
    Calls Try.prog 22 #[.pointer (some ⟨p, 0, none⟩), .string id] w fun e w' => e = .returned (.int .i64 (findE l id)) ∧ After w O p now (removeL l id) w' := by
  unfold removeL
  by_cases hv : findE l id = 0
  · rw [if_pos hv, hv]
    exact remove_ok h id hs (find_zero hv).1 (find_zero hv).2
  · rw [if_neg hv]
    refine (remove_bad p id (findE l id) w (by rw [bne_iff_ne]; exact hv) (find_none h id hs hv)).mono ?_
    rintro e w' ⟨rfl, n, rfl⟩
    exact ⟨rfl, h.same n⟩
theorem change_calls (h : Whl w O p now l) (id : ByteArray) (t : Int) (hs : id.size < 4611686018427387904) :
    Calls Try.prog 21 #[.pointer (some ⟨p, 0, none⟩), .string id, .int .i64 t] w fun e w' => e = .returned (.int .i64 (changeE now l id t)) ∧ After w O p now (changeL now l id t) w' := by
  unfold changeL
  by_cases hv : findE l id = 0
  · by_cases ht : timeE now t = 0
    · have e : changeE now l id t = 0 := by unfold changeE; rw [if_pos hv]; exact ht
      rw [if_pos e, e]
      exact change_ok h id t hs (find_zero hv).1 (find_zero hv).2 ht
    · have e : changeE now l id t = timeE now t := by unfold changeE; rw [if_pos hv]
      rw [if_neg (by rw [e]; exact ht), e]
      refine (change_late h id t hs (find_zero hv).1 (find_zero hv).2 ht).mono ?_
      rintro e w' ⟨rfl, n, rfl⟩
      exact ⟨rfl, h.same n⟩
  · have e : changeE now l id t = findE l id := by unfold changeE; rw [if_neg hv]
    rw [if_neg (by rw [e]; exact hv), e]
    refine (change_bad p id t (findE l id) w (by rw [bne_iff_ne]; exact hv) (find_none h id hs hv)).mono ?_
    rintro e w' ⟨rfl, n, rfl⟩
    exact ⟨rfl, h.same n⟩
theorem at_calls (h : Whl w O p now l) (id : ByteArray) (hs : id.size < 4611686018427387904) :
    Calls Try.prog 23 #[.pointer (some ⟨p, 0, none⟩), .string id] w fun e w' => e = .returned (.tuple #[.int .i64 (atV l id), .int .i64 (findE l id)]) ∧ ∃ n, w' = w.drewN n := by
  unfold atV
  by_cases hv : findE l id = 0
  · rw [if_pos hv, hv]
    exact at_ok h id hs (find_zero hv).1 (find_zero hv).2
  · rw [if_neg hv]
    exact at_bad p id (findE l id) w (by rw [bne_iff_ne]; exact hv) (find_none h id hs hv)
end

/-- Two wheels side by side, both made since w0. -/
def Two (w0 w : World) (p1 : Nat) (t1 : Int) (l1 : List E) (p2 : Nat) (t2 : Int) (l2 : List E) : Prop :=
  ∃ O1 O2, Whl w O1 p1 t1 l1 ∧ Whl w O2 p2 t2 l2 ∧ (∀ b, O1 b → ¬ O2 b) ∧ (∀ b, O1 b → w0.heap.size ≤ b) ∧ (∀ b, O2 b → w0.heap.size ≤ b) ∧ Below w0.heap.size w0 w
section
variable {w0 w w' : World} {p1 p2 : Nat} {t1 t2 : Int} {l1 l2 : List E}
theorem Two.swap (h : Two w0 w p1 t1 l1 p2 t2 l2) : Two w0 w p2 t2 l2 p1 t1 l1 := by
  obtain ⟨O1, O2, a, b, c, d, e, f⟩ := h
  exact ⟨O2, O1, b, a, fun k h1 h2 => c k h2 h1, e, d, f⟩
theorem Two.drewN (h : Two w0 w p1 t1 l1 p2 t2 l2) (n : Nat) : Two w0 (w.drewN n) p1 t1 l1 p2 t2 l2 := by
  obtain ⟨O1, O2, a, b, c, d, e, f⟩ := h
  exact ⟨O1, O2, a.drewN n, b.drewN n, c, d, e, pw_below_drewN f n⟩
theorem Two.same (h : Two w0 w p1 t1 l1 p2 t2 l2) (hb : Below w.heap.size w w') : Two w0 w' p1 t1 l1 p2 t2 l2 := by
  obtain ⟨O1, O2, a, b, c, d, e, f⟩ := h
  exact ⟨O1, O2, a.below hb, b.below hb, c, d, e, f.trans (hb.mono f.size)⟩
theorem Two.after {O1 O2 : Nat → Prop} {t1' : Int} {l1' : List E} (b : Whl w O2 p2 t2 l2) (c : ∀ b, O1 b → ¬ O2 b) (d : ∀ b, O1 b → w0.heap.size ≤ b) (e : ∀ b, O2 b → w0.heap.size ≤ b) (f : Below w0.heap.size w0 w) (h : After w O1 p1 t1' l1' w') : Two w0 w' p1 t1' l1' p2 t2 l2 := by
  obtain ⟨O1', g1, g2, g3⟩ := h
  refine ⟨O1', O2, g1, b.only g3 (fun k h1 _ h2 => c k h2 h1), fun k h1 h2 => ?_, fun k h1 => ?_, e, g3.below_of f f.size (fun k hk h1 => by have := d k h1; omega)⟩
  · rcases g2 k h1 with h3 | h3
    · exact c k h3 h2
    · have := b.lt k h2
      omega
  · rcases g2 k h1 with h3 | h3
    · exact d k h3
    · exact Nat.le_trans f.size h3
theorem Two.change (h : Two w0 w p1 t1 l1 p2 t2 l2) (id : ByteArray) (t : Int) (hs : id.size < 4611686018427387904) :
    Calls Try.prog 21 #[.pointer (some ⟨p1, 0, none⟩), .string id, .int .i64 t] w fun e w' => e = .returned (.int .i64 (changeE t1 l1 id t)) ∧ Two w0 w' p1 t1 (changeL t1 l1 id t) p2 t2 l2 := by
  obtain ⟨O1, O2, a, b, c, d, e, f⟩ := h
  exact (change_calls a id t hs).mono fun e' w' hq => ⟨hq.1, Two.after b c d e f hq.2⟩
theorem Two.remove (h : Two w0 w p1 t1 l1 p2 t2 l2) (id : ByteArray) (hs : id.size < 4611686018427387904) :
    Calls Try.prog 22 #[.pointer (some ⟨p1, 0, none⟩), .string id] w fun e w' => e = .returned (.int .i64 (findE l1 id)) ∧ Two w0 w' p1 t1 (removeL l1 id) p2 t2 l2 := by
  obtain ⟨O1, O2, a, b, c, d, e, f⟩ := h
  exact (remove_calls a id hs).mono fun e' w' hq => ⟨hq.1, Two.after b c d e f hq.2⟩
theorem Two.add (h : Two w0 w p1 t1 l1 p2 t2 l2) (id : ByteArray) (t : Int) (hs : id.size < 4611686018427387904) :
    Calls Try.prog 26 #[.pointer (some ⟨p1, 0, none⟩), .string id, .int .i64 t] w fun e w' => e = .returned (.int .i64 (addE t1 l1 id t)) ∧ Two w0 w' p1 t1 (addL t1 l1 id t) p2 t2 l2 := by
  obtain ⟨O1, O2, a, b, c, d, e, f⟩ := h
  exact (add_calls a id t hs).mono fun e' w' hq => ⟨hq.1, Two.after b c d e f hq.2⟩
theorem Two.at (h : Two w0 w p1 t1 l1 p2 t2 l2) (id : ByteArray) (hs : id.size < 4611686018427387904) :
    Calls Try.prog 23 #[.pointer (some ⟨p1, 0, none⟩), .string id] w fun e w' => e = .returned (.tuple #[.int .i64 (atV l1 id), .int .i64 (findE l1 id)]) ∧ Two w0 w' p1 t1 l1 p2 t2 l2 := by
  have h' := h
  obtain ⟨O1, O2, a, b, c, d, e, f⟩ := h
  refine (at_calls a id hs).mono ?_
  rintro e' w' ⟨rfl, n, rfl⟩
  exact ⟨rfl, h'.drewN n⟩
theorem Two.len (h : Two w0 w p1 t1 l1 p2 t2 l2) : Calls Try.prog 13 #[.pointer (some ⟨p1, 0, none⟩)] w fun e w' => e = .returned (.int .i64 l1.length) ∧ w = w' := by
  obtain ⟨O1, O2, a, b, c, d, e, f⟩ := h
  exact len_calls a
theorem filled_two {w0 w1 w2 : World} {v1 v2 : Ending} (h1 : Filled w0 t1 l1 v1 w1) (h2 : Filled w1 t2 l2 v2 w2) : ∃ p1 p2, v1 = .returned (.pointer (some ⟨p1, 0, none⟩)) ∧ v2 = .returned (.pointer (some ⟨p2, 0, none⟩)) ∧ Two w0 w2 p1 t1 l1 p2 t2 l2 := by
  obtain ⟨p1, O1, e1, a1, b1, c1⟩ := h1
  obtain ⟨p2, O2, e2, a2, b2, c2⟩ := h2
  exact ⟨p1, p2, e1, e2, O1, O2, a1.below c2, a2, fun b x y => by have := a1.lt b x; have := b2 b y; omega, b1, fun b hb => Nat.le_trans c1.size (b2 b hb), c1.trans (c2.mono c1.size)⟩
end
end Go.Proofs.Ytaefbibkkkglnaa.Wh
