/- Wheel: Change, Remove, At, Now, Len. No condition. -/
import Derived.Test.YtaefbibkkkglnaaWhB
namespace Go.Proofs.Ytaefbibkkkglnaa.Wh
open Go Go.RowKit Go.Proofs.YtaefbibkkkglnaaW.PrintWords Go.Proofs.Ytaefbibkkkglnaa.Mp Go.Proofs.Ytaefbibkkkglnaa.Fr
set_option linter.unusedVariables false
set_option linter.unusedSimpArgs false
section
variable {w w' : World} {O : Nat → Prop} {p : Nat} {now : Int} {l : List E}

theorem cutF_perm {S : Slots} {t : Node} {xs : List Node} (hl : l.Perm ((t :: xs).map ent)) (hnd : (l.map Prod.fst).Nodup) : (cutF t.id l).Perm (xs.map ent) := by
  have h1 : (cutF t.id l).Perm (cutF t.id ((t :: xs).map ent)) := hl.filter _
  have h2 := (hl.map Prod.fst).nodup_iff.1 hnd
  have h3 : t.id ∉ (xs.map ent).map Prod.fst := (List.nodup_cons.1 (show (t.id :: (xs.map ent).map Prod.fst).Nodup from h2)).1
  refine h1.trans ?_
  show (List.filter _ (ent t :: xs.map ent)).Perm _
  rw [List.filter_cons_of_neg (by simp [ent]), List.filter_eq_self.2 (fun e he => by
    simp
    intro q
    exact h3 (List.mem_map.2 ⟨e, he, q⟩))]
theorem cutF_sorted (id : ByteArray) (h : Sorted l) : Sorted (cutF id l) := h.sublist List.filter_sublist
theorem cutF_mem {id : ByteArray} {e : E} : e ∈ cutF id l ↔ e ∈ l ∧ e.1 ≠ id := by
  unfold cutF
  simp [List.mem_filter]
theorem timeOf_eq {e : E} (hnd : (l.map Prod.fst).Nodup) (he : e ∈ l) : timeOf l e.1 = e.2 := by
  unfold timeOf
  induction l with
  | nil => simp at he
  | cons x l ih =>
    obtain ⟨h1, h2⟩ := List.nodup_cons.1 (show (x.1 :: l.map Prod.fst).Nodup from hnd)
    rcases List.mem_cons.1 he with rfl | he
    · simp
    · have hne : ¬ x.1 = e.1 := fun q => h1 (q ▸ List.mem_map.2 ⟨e, he, rfl⟩)
      rw [List.find?_cons_of_neg (by simpa using hne)]
      exact ih h2 he
/-- A name's timer: where it hangs. -/
theorem node_of {m : Nat} {S : Slots} (h2 : Good now S) (h3 : l.Perm ((nodes S).map ent)) {id : ByteArray} (hx : hasB l id = true) :
    ∃ (n : Node) (r : Nat) (xs ys : List Node), n.id = id ∧ r < 7 ∧ S r (dg r n.tm) = xs ++ n :: ys ∧ now < n.tm ∧ n.tm ≤ 1099511627776 ∧ n ∈ nodes S := by
  have := (h3.map Prod.fst).mem_iff.1 (hasB_iff.1 hx)
  rw [List.map_map] at this
  obtain ⟨n, hn, e⟩ := List.mem_map.1 this
  obtain ⟨r, k, hr, hk, hs⟩ := mem_nodes.1 hn
  obtain ⟨g1, g2, g3, g4⟩ := h2 r k hr hk n hs
  obtain ⟨xs, ys, hxy⟩ := List.append_of_mem hs
  exact ⟨n, r, xs, ys, e, hr, by rw [g4]; exact hxy, g1, g2, hn⟩

/-! ### Remove -/
theorem nil_remove (id : ByteArray) (w : World) : Calls Try.prog 22 #[.pointer none, .string id] w fun e w' => e = .returned (.int .i64 0) ∧ w = w' := by
  go_enter Try.func22, Try.ntmps22
  go_wp2
  go_ret
  exact ⟨rfl, rfl⟩
theorem remove_bad (a : Nat) (id : ByteArray) (v : Int) (w : World) (hv : (v != 0) = true) (hc : Calls Try.prog 40 #[.pointer (some ⟨a, 0, none⟩), .string id] w fun e w' => e = .returned (.tuple #[.pointer none, .int .i64 v]) ∧ ∃ n, w' = w.drewN n) :
    Calls Try.prog 22 #[.pointer (some ⟨a, 0, none⟩), .string id] w fun e w' => e = .returned (.int .i64 v) ∧ ∃ n, w' = w.drewN n := by
  have HC := Aside0.mk hc
  clear hc
  go_enter Try.func22, Try.ntmps22
  go_wp2_with fail
  refine (HC.out).mono ?_
  rintro e w' ⟨rfl, n, rfl⟩
  go_wp2_with fail
  go_ret
  exact ⟨rfl, n, rfl⟩
set_option maxRecDepth 100000 in
theorem remove_ok (h : Whl w O p now l) (id : ByteArray) (hs : id.size < 4611686018427387904) (hn : nameB id = true) (hx : hasB l id = true) :
    Calls Try.prog 22 #[.pointer (some ⟨p, 0, none⟩), .string id] w fun e w' => e = .returned (.int .i64 0) ∧ After w O p now (cutF id l) w' := by
  have hnd := h.nodup
  obtain ⟨⟨m, S, h1, h2, h3⟩, a1, a2, a3, a4, a5, a6⟩ := h
  obtain ⟨es, he, hp⟩ := h1.names
  obtain ⟨t, r, xs, ys, rfl, hr, hS, t1, t2, ht⟩ := node_of (m := m) h2 h3 hx
  have hf := find_in t.id t.b w hs hn h1.head.map he (ents_in hp ht)
  have hnl : (nodes S).length ≤ 4096 := by
    have := h3.length_eq
    simp at this
    omega
  have HU := Aside0.mk (fun n => unhang_calls (h1.drewN n) hr (by omega) t2 hS (by omega))
  have HF := Aside0.mk hf
  have HA := Aside0.mk (And.intro h1 (And.intro h2 (And.intro h3 (And.intro hS (And.intro hr hnd)))))
  clear hf hn hx h1 h2 h3 hp he hS hnd ht
  go_enter Try.func22, Try.ntmps22
  go_wp2_with fail
  refine (HF.out).mono ?_
  rintro e w' ⟨rfl, n, rfl⟩
  go_wp2_with fail
  refine (HU.out n).mono ?_
  rintro e w2 ⟨rfl, hR, hO⟩
  have c456 := hR.head.map
  obtain ⟨es, he, hp⟩ := hR.names
  have HR := Aside0.mk (And.intro hR (And.intro hO (And.intro he hp)))
  clear hR hO he hp HU HF
  go_wp2_with (first | (at_delete; refine wpList_del _ rfl _ _ 71 9 rfl Try.underlying71 Try.underlying9 rfl HR.out.2.2.1 t.id rfl ?_; intro w3 hm3 hg3 hz3) | fail)
  go_ret
  obtain ⟨hR, hO, he, hp⟩ := HR.out
  obtain ⟨h1, h2, h3, hS, hr, hnd⟩ := HA.out
  have hrep := hR.del he hp hm3 (fun b hb hbm => hg3.block b hb (fun e => hbm (by injection e)))
  have hout := nodes_out hr (show dg r _ < 64 from dig_lt _ _) hS
  have hl2 := cutF_perm (S := S) (h3.trans (hout.map ent).symm) hnd
  refine ⟨rfl, O, ⟨⟨m, _, hrep, good_out h2 hS, hl2⟩, a1, a2, cutF_sorted _ a3, fun e he => a4 e (cutF_mem.1 he).1, ?_, fun b hb => ?_⟩, fun b hb => .inl hb, ?_⟩
  · exact Nat.le_trans (List.length_filter_le _ _) a5
  · have := a6 b hb
    have := hO.size
    rw [hz3]
    exact Nat.lt_of_lt_of_le (a6 b hb) hO.size
  · have o1 : Only O w w2 := ((Only.refl O w).drewN n).trans hO
    exact o1.trans (Only.mono (Only.of_grown hg3) (fun b hb e => by injection e with e; rw [e]; exact h1.own.2.1))

/-! ### Change -/
theorem nil_change (id : ByteArray) (t : Int) (w : World) : Calls Try.prog 21 #[.pointer none, .string id, .int .i64 t] w fun e w' => e = .returned (.int .i64 0) ∧ w = w' := by
  go_enter Try.func21, Try.ntmps21
  go_wp2
  go_ret
  exact ⟨rfl, rfl⟩
theorem change_bad (a : Nat) (id : ByteArray) (t v : Int) (w : World) (hv : (v != 0) = true) (hc : Calls Try.prog 40 #[.pointer (some ⟨a, 0, none⟩), .string id] w fun e w' => e = .returned (.tuple #[.pointer none, .int .i64 v]) ∧ ∃ n, w' = w.drewN n) :
    Calls Try.prog 21 #[.pointer (some ⟨a, 0, none⟩), .string id, .int .i64 t] w fun e w' => e = .returned (.int .i64 v) ∧ ∃ n, w' = w.drewN n := by
  have HC := Aside0.mk hc
  clear hc
  go_enter Try.func21, Try.ntmps21
  go_wp2_with fail
  refine (HC.out).mono ?_
  rintro e w' ⟨rfl, n, rfl⟩
  go_wp2_with fail
  go_ret
  exact ⟨rfl, n, rfl⟩
theorem change_late (h : Whl w O p now l) (id : ByteArray) (t : Int) (hs : id.size < 4611686018427387904) (hn : nameB id = true) (hx : hasB l id = true) (ht : timeE now t ≠ 0) :
    Calls Try.prog 21 #[.pointer (some ⟨p, 0, none⟩), .string id, .int .i64 t] w fun e w' => e = .returned (.int .i64 (timeE now t)) ∧ ∃ n, w' = w.drewN n := by
  obtain ⟨⟨m, S, h1, h2, h3⟩, a1, a2, a3, a4, a5, a6⟩ := h
  obtain ⟨es, he, hp⟩ := h1.names
  obtain ⟨n, r, xs, ys, rfl, hr, hS, t1, t2, hnn⟩ := node_of (m := m) h2 h3 hx
  have HF := Aside0.mk (find_in n.id n.b w hs hn h1.head.map he (ents_in hp hnn))
  have c0 := h1.head.c0
  have hv : (timeE now t != 0) = true := by rw [bne_iff_ne]; exact ht
  have HA := Aside0.mk (fun n => ahead_calls (p := p) (now := now) t (w.drewN n) (show _ = _ from c0))
  generalize timeE now t = v at hv HA ⊢
  clear hn hx h1 h2 h3 hp he hnn hS ht
  go_enter Try.func21, Try.ntmps21
  go_wp2_with fail
  refine (HF.out).mono ?_
  rintro e w' ⟨rfl, n1, rfl⟩
  go_wp2_with fail
  refine (HA.out n1).mono ?_
  rintro e w' ⟨rfl, n2, rfl⟩
  go_wp2_with fail
  go_ret
  exact ⟨rfl, n1 + n2, rfl⟩
set_option maxRecDepth 100000 in
set_option maxHeartbeats 400000 in
theorem change_ok (h : Whl w O p now l) (id : ByteArray) (t : Int) (hs : id.size < 4611686018427387904) (hn : nameB id = true) (hx : hasB l id = true) (ht : timeE now t = 0) :
    Calls Try.prog 21 #[.pointer (some ⟨p, 0, none⟩), .string id, .int .i64 t] w fun e w' => e = .returned (.int .i64 0) ∧ After w O p now (putF (id, t) (cutF id l)) w' := by
  have hnd := h.nodup
  obtain ⟨⟨m, S, h1, h2, h3⟩, a1, a2, a3, a4, a5, a6⟩ := h
  obtain ⟨es, he, hp⟩ := h1.names
  obtain ⟨n, r, xs, ys, rfl, hr, hS, t1, t2, hnn⟩ := node_of (m := m) h2 h3 hx
  have HF := Aside0.mk (find_in n.id n.b w hs hn h1.head.map he (ents_in hp hnn))
  have c0 := h1.head.c0
  have HT := Aside0.mk ht
  have HA := Aside0.mk (fun n => ahead_calls (p := p) (now := now) t (w.drewN n) (show _ = _ from c0))
  have hnl : (nodes S).length ≤ 4096 := by
    have := h3.length_eq
    simp at this
    omega
  have HU := Aside0.mk (fun n => unhang_calls (h1.drewN n) hr (by omega) t2 hS (by omega))
  have htt : 0 ≤ t ∧ t ≤ 1099511627776 ∧ now < t := by
    unfold timeE at ht
    split at ht
    · split at ht
      · cases ht
      · exact ⟨by omega, by omega, by omega⟩
    · cases ht
  have hout := nodes_out hr (show dg r _ < 64 from dig_lt _ _) hS
  have hnl2 : (nodes (upd S r (dg r n.tm) (xs ++ ys))).length ≤ 4096 := by
    have := hout.length_eq
    simp at this
    omega
  have HB := Aside0.mk (And.intro h1 (And.intro h2 (And.intro h3 (And.intro hS (And.intro hr (And.intro hnd (And.intro hout hn)))))))
  clear hn hx h1 h2 h3 hp he hnn hS ht hnd hout
  go_enter Try.func21, Try.ntmps21
  go_wp2_with fail
  refine (HF.out).mono ?_
  rintro e w' ⟨rfl, n1, rfl⟩
  go_wp2_with fail
  refine (HA.out n1).mono ?_
  rintro e w' ⟨rfl, n2, rfl⟩
  rw [HT.out]
  go_wp2_with fail
  refine (HU.out (n1 + n2)).mono ?_
  rintro e w2 ⟨rfl, hR, hO⟩
  obtain ⟨r0, b0, b1, hc⟩ := hR.loose n (by simp)
  obtain ⟨_, k1, _, _, _, kf⟩ := hc.c
  have kf1 := kf 1
  have HR := Aside0.mk (And.intro hR hO)
  clear hR hO hc HU HF kf
  go_wp2_with fail
  refine (hang_calls (HR.out.1.retime t) htt.1 htt.2.1 a1 a2 (by omega)).mono ?_
  rintro e w3 ⟨rfl, hR3, hO3⟩
  have HR3 := Aside0.mk (And.intro hR3 hO3)
  clear hR3 hO3
  go_wp2_with fail
  go_ret
  obtain ⟨hR, hO⟩ := HR.out
  obtain ⟨hR3, hO3⟩ := HR3.out
  obtain ⟨h1, h2, h3, hS, hr, hnd, hout, hn⟩ := HB.out
  have hl2 := cutF_perm (S := S) (h3.trans (hout.map ent).symm) hnd
  refine ⟨rfl, O, ⟨⟨m, _, hR3, good_in (t := { n with tm := t }) (good_out h2 hS) htt.2.2 htt.2.1, ?_⟩, a1, a2, putF_sorted (cutF_sorted _ a3) (fun f hf e => ?_), fun e he => ?_, ?_, fun b hb => ?_⟩, fun b hb => .inl hb, ?_⟩
  · refine (putF_perm _ _).trans ?_
    refine List.Perm.trans ?_ ((nodes_in (ring_lt (by omega) (by omega)) (dig_lt _ _)).map ent).symm
    exact hl2.cons _
  · have := (cutF_mem.1 hf).2
    rw [e] at this
    exact this rfl
  · rcases List.mem_cons.1 ((putF_perm _ _).mem_iff.1 he) with rfl | he
    · unfold nameB at hn
      simpa using hn
    · exact a4 e (cutF_mem.1 he).1
  · have e1 := (putF_perm (n.id, t) (cutF n.id l)).length_eq
    have e2 := hl2.length_eq
    have e3 := hout.length_eq
    have e4 := h3.length_eq
    simp at e1 e2 e3 e4
    simp
    omega
  · have s1 := hO.size
    have s2 := hO3.size
    rw [World.size_setCell] at s2
    exact Nat.lt_of_lt_of_le (a6 b hb) (Nat.le_trans s1 s2)
  · have ob : O n.b := hR.own.2.2 n (by simp)
    exact ((((Only.refl O w).drewN (n1 + n2)).trans hO).set (fun _ => ob) _).trans hO3

/-! ### At -/
theorem nil_at (id : ByteArray) (w : World) : Calls Try.prog 23 #[.pointer none, .string id] w fun e w' => e = .returned (.tuple #[.int .i64 0, .int .i64 0]) ∧ w = w' := by
  go_enter Try.func23, Try.ntmps23
  go_wp2
  go_ret2
  exact ⟨rfl, rfl⟩
theorem at_bad (a : Nat) (id : ByteArray) (v : Int) (w : World) (hv : (v != 0) = true) (hc : Calls Try.prog 40 #[.pointer (some ⟨a, 0, none⟩), .string id] w fun e w' => e = .returned (.tuple #[.pointer none, .int .i64 v]) ∧ ∃ n, w' = w.drewN n) :
    Calls Try.prog 23 #[.pointer (some ⟨a, 0, none⟩), .string id] w fun e w' => e = .returned (.tuple #[.int .i64 0, .int .i64 v]) ∧ ∃ n, w' = w.drewN n := by
  have HC := Aside0.mk hc
  clear hc
  go_enter Try.func23, Try.ntmps23
  go_wp2_with fail
  refine (HC.out).mono ?_
  rintro e w' ⟨rfl, n, rfl⟩
  go_wp2_with fail
  go_ret2
  exact ⟨rfl, n, rfl⟩
theorem at_ok (h : Whl w O p now l) (id : ByteArray) (hs : id.size < 4611686018427387904) (hn : nameB id = true) (hx : hasB l id = true) :
    Calls Try.prog 23 #[.pointer (some ⟨p, 0, none⟩), .string id] w fun e w' => e = .returned (.tuple #[.int .i64 (timeOf l id), .int .i64 0]) ∧ ∃ n, w' = w.drewN n := by
  have hnd := h.nodup
  obtain ⟨⟨m, S, h1, h2, h3⟩, a1, a2, a3, a4, a5, a6⟩ := h
  obtain ⟨es, he, hp⟩ := h1.names
  obtain ⟨n, r, xs, ys, rfl, hr, hS, t1, t2, hnn⟩ := node_of (m := m) h2 h3 hx
  have HF := Aside0.mk (find_in n.id n.b w hs hn h1.head.map he (ents_in hp hnn))
  have htm : timeOf l n.id = n.tm := timeOf_eq (e := ent n) hnd (h3.mem_iff.2 (List.mem_map.2 ⟨n, hnn, rfl⟩))
  rw [htm]
  obtain ⟨r0, b0, b1, hc⟩ := h1.tm (n := n) (by simpa using hnn)
  obtain ⟨_, k1, _, _, _, kf⟩ := hc.c
  clear hn hx h1 h2 h3 hp he hnn hS hnd htm hc kf
  go_enter Try.func23, Try.ntmps23
  go_wp2_with fail
  refine (HF.out).mono ?_
  rintro e w' ⟨rfl, n1, rfl⟩
  go_wp2_with fail
  go_ret2
  exact ⟨rfl, n1, rfl⟩

/-! ### Now, Len -/
theorem nil_now (w : World) : Calls Try.prog 18 #[.pointer none] w fun e w' => e = .returned (.int .i64 0) ∧ w = w' := by
  go_enter Try.func18, Try.ntmps18
  go_wp2
  go_ret
  exact ⟨rfl, rfl⟩
theorem now_calls (h : Whl w O p now l) : Calls Try.prog 18 #[.pointer (some ⟨p, 0, none⟩)] w fun e w' => e = .returned (.int .i64 now) ∧ w = w' := by
  have c0 := h.c0
  clear h
  go_enter Try.func18, Try.ntmps18
  go_wp2
  go_ret
  exact ⟨rfl, rfl⟩
theorem nil_len (w : World) : Calls Try.prog 13 #[.pointer none] w fun e w' => e = .returned (.int .i64 0) ∧ w = w' := by
  go_enter Try.func13, Try.ntmps13
  go_wp2
  go_ret
  exact ⟨rfl, rfl⟩
theorem len_calls (h : Whl w O p now l) : Calls Try.prog 13 #[.pointer (some ⟨p, 0, none⟩)] w fun e w' => e = .returned (.int .i64 l.length) ∧ w = w' := by
  obtain ⟨⟨m, S, h1, h2, h3⟩, a1, a2, a3, a4, a5, a6⟩ := h
  obtain ⟨es, he, hp⟩ := h1.names
  have hlen : l.length = es.length := by
    have e1 := hp.length_eq
    have e2 := h3.length_eq
    simp at e1 e2
    omega
  rw [hlen]
  have hml := len_m (P := Try.prog) he Try.underlying71 3
  have c456 := h1.head.map
  clear h1 h2 h3 hp he hlen
  go_enter Try.func13, Try.ntmps13
  go_wp2
  go_ret
  exact ⟨rfl, rfl⟩
end
end Go.Proofs.Ytaefbibkkkglnaa.Wh
