/- Wheel: find, ahead, Add, Change, Remove, At, Now, Len. No condition. -/
import Derived.Test.YtaefbibkkkglnaaWhN
namespace Go.Proofs.Ytaefbibkkkglnaa.Wh
open Go Go.RowKit Go.Proofs.YtaefbibkkkglnaaW.PrintWords Go.Proofs.Ytaefbibkkkglnaa.Mp Go.Proofs.Ytaefbibkkkglnaa.Fr
set_option linter.unusedVariables false
set_option linter.unusedSimpArgs false

/-! ### what the calls answer -/
def nameB (s : ByteArray) : Bool := decide (1 ≤ s.size ∧ s.size ≤ 64)
def timeE (now t : Int) : Int := if 0 ≤ t ∧ t ≤ 1099511627776 then (if t ≤ now then 110 else 0) else 2
def hasB (l : List E) (id : ByteArray) : Bool := l.any fun e => decide (e.1 = id)
theorem hasB_iff {l : List E} {id : ByteArray} : hasB l id = true ↔ id ∈ l.map Prod.fst := by
  unfold hasB
  rw [List.any_eq_true, List.mem_map]
  constructor
  · rintro ⟨e, h1, h2⟩; exact ⟨e, h1, by simpa using h2⟩
  · rintro ⟨e, h1, h2⟩; exact ⟨e, h1, by simpa using h2⟩
def findE (l : List E) (id : ByteArray) : Int := if nameB id = true then (if hasB l id = true then 0 else 7) else 111
def addE (now : Int) (l : List E) (id : ByteArray) (t : Int) : Int :=
  if nameB id = true then (if hasB l id = true then 8 else if timeE now t = 0 then (if 4096 ≤ l.length then 5 else 0) else timeE now t) else 111
def cutF (id : ByteArray) (l : List E) : List E := l.filter fun e => decide (e.1 ≠ id)
def timeOf (l : List E) (id : ByteArray) : Int := ((l.find? fun e => decide (e.1 = id)).map Prod.snd).getD 0
def changeE (now : Int) (l : List E) (id : ByteArray) (t : Int) : Int := if findE l id = 0 then timeE now t else findE l id

section
variable {w w' : World} {O : Nat → Prop} {p m : Nat} {now : Int} {S : Slots} {F : List Node} {es : List Ent} {l : List E}
theorem lookW (h : IsM w m es) {id : ByteArray} {b : Nat} (hx : (id, ptr (some b)) ∈ es) (n : Nat) : (Instr.lookup 71 (.map (some m)) (.string id) false).run Try.prog (w.drewN n) = .ok (.pointer (some ⟨b, 0, none⟩)) (w.drewN n) :=
  look_in (P := Try.prog) (w := w.drewN n) (h.move rfl) Try.underlying71 Try.underlying9 hx false
theorem zero_ptr (w : World) : (zeroValue 65).run Try.prog w = .ok (.pointer none) w := by kernel_rfl
theorem lookO (h : IsM w m es) {id : ByteArray} (hx : id ∉ es.map Prod.fst) (n : Nat) : (Instr.lookup 71 (.map (some m)) (.string id) false).run Try.prog (w.drewN n) = .ok (.pointer none) (w.drewN n) :=
  look_out (P := Try.prog) (w := w.drewN n) (h.move rfl) Try.underlying71 Try.underlying9 hx false (zero_ptr _)

theorem find_bad (a : Nat) (id : ByteArray) (w : World) (hs : id.size < 4611686018427387904) (h : nameB id = false) :
    Calls Try.prog 40 #[.pointer (some ⟨a, 0, none⟩), .string id] w fun e w' => e = .returned (.tuple #[.pointer none, .int .i64 111]) ∧ ∃ n, w' = w.drewN n := by
  have HN := Aside0.mk h
  clear h
  go_enter Try.func40, Try.ntmps40
  go_wp2_with fail
  refine (isName_calls id _ hs).mono ?_
  rintro e w' ⟨rfl, n, rfl⟩
  rw [show decide (1 ≤ id.size ∧ id.size ≤ 64) = false from HN.out]
  go_wp2_with fail
  go_ret2
  exact ⟨rfl, n, rfl⟩
theorem find_out (id : ByteArray) (w : World) (hs : id.size < 4611686018427387904) (h : nameB id = true) (hm : w.cell? ⟨p, 456, none⟩ = some (.map (some m))) (he : IsM w m es) (hx : id ∉ es.map Prod.fst) :
    Calls Try.prog 40 #[.pointer (some ⟨p, 0, none⟩), .string id] w fun e w' => e = .returned (.tuple #[.pointer none, .int .i64 7]) ∧ ∃ n, w' = w.drewN n := by
  have HN := Aside0.mk h
  have hl := lookO he hx
  clear h hx
  go_enter Try.func40, Try.ntmps40
  go_wp2_with fail
  refine (isName_calls id _ hs).mono ?_
  rintro e w' ⟨rfl, n, rfl⟩
  rw [show decide (1 ≤ id.size ∧ id.size ≤ 64) = true from HN.out]
  go_wp2_with fail
  go_ret2
  exact ⟨rfl, n, rfl⟩
theorem find_in (id : ByteArray) (b : Nat) (w : World) (hs : id.size < 4611686018427387904) (h : nameB id = true) (hm : w.cell? ⟨p, 456, none⟩ = some (.map (some m))) (he : IsM w m es) (hx : (id, ptr (some b)) ∈ es) :
    Calls Try.prog 40 #[.pointer (some ⟨p, 0, none⟩), .string id] w fun e w' => e = .returned (.tuple #[.pointer (some ⟨b, 0, none⟩), .int .i64 0]) ∧ ∃ n, w' = w.drewN n := by
  have HN := Aside0.mk h
  have hl := lookW he hx
  clear h hx
  go_enter Try.func40, Try.ntmps40
  go_wp2_with fail
  refine (isName_calls id _ hs).mono ?_
  rintro e w' ⟨rfl, n, rfl⟩
  rw [show decide (1 ≤ id.size ∧ id.size ≤ 64) = true from HN.out]
  go_wp2_with fail
  go_ret2
  exact ⟨rfl, n, rfl⟩

theorem ahead_calls (t : Int) (w : World) (hc : w.cell? ⟨p, 0, none⟩ = some (.int .i64 now)) :
    Calls Try.prog 41 #[.pointer (some ⟨p, 0, none⟩), .int .i64 t] w fun e w' => e = .returned (.int .i64 (timeE now t)) ∧ ∃ n, w' = w.drewN n := by
  unfold timeE
  by_cases h : 0 ≤ t ∧ t ≤ 1099511627776
  · rw [if_pos h]
    have HT := Aside0.mk (decide_eq_true h)
    clear h
    by_cases h2 : t ≤ now
    · rw [if_pos h2]
      have hd : decide (t ≤ now) = true := by simpa using h2
      go_enter Try.func41, Try.ntmps41
      go_wp2_with fail
      refine (isTime_calls t _).mono ?_
      rintro e w' ⟨rfl, n, rfl⟩
      rw [HT.out]
      go_wp2_with fail
      (try go_quiet (fail))
      (try go_wp2_with fail)
      go_ret
      exact ⟨rfl, _, rfl⟩
    · rw [if_neg h2]
      have hd : decide (t ≤ now) = false := by simpa using h2
      go_enter Try.func41, Try.ntmps41
      go_wp2_with fail
      refine (isTime_calls t _).mono ?_
      rintro e w' ⟨rfl, n, rfl⟩
      rw [HT.out]
      go_wp2_with fail
      (try go_quiet (fail))
      (try go_wp2_with fail)
      go_ret
      exact ⟨rfl, _, rfl⟩
  · rw [if_neg h]
    have HT := Aside0.mk (decide_eq_false h)
    clear h
    go_enter Try.func41, Try.ntmps41
    go_wp2_with fail
    refine (isTime_calls t _).mono ?_
    rintro e w' ⟨rfl, n, rfl⟩
    rw [HT.out]
    go_wp2_with fail
    go_ret
    exact ⟨rfl, _, rfl⟩

/-! ### names laid in and taken out -/
theorem ents_in {n : Node} (hp : es.Perm ((nodes S).map fun n => (n.id, ptr (some n.b)))) (hn : n ∈ nodes S) : (n.id, ptr (some n.b)) ∈ es := hp.mem_iff.2 (List.mem_map.2 ⟨n, hn, rfl⟩)
theorem ids_iff (hp : es.Perm ((nodes S).map fun n => (n.id, ptr (some n.b)))) (hl : l.Perm ((nodes S).map ent)) (id : ByteArray) : id ∈ es.map Prod.fst ↔ id ∈ l.map Prod.fst := by
  rw [(hp.map Prod.fst).mem_iff, (hl.map Prod.fst).mem_iff]
  simp [ent]
theorem Rep.add {t : Node} {r : Int} {a b : Option Nat} (h : Rep w O p m now S F) (hp : es.Perm ((F ++ nodes S).map fun n => (n.id, ptr (some n.b)))) (ht : Tcell w' t r a b) (hb : w.heap.size ≤ t.b) (hm : IsM w' m (es ++ [(t.id, ptr (some t.b))]))
    (hk : ∀ b, b < w.heap.size → b ≠ m → w'.heap[b]? = w.heap[b]?) : Rep w' (fun b => O b ∨ b = t.b) p m now S (t :: F) := by
  have hlt : ∀ n ∈ F ++ nodes S, n.b < w.heap.size := fun n hn => by
    obtain ⟨_, _, _, hc⟩ := h.tm hn
    exact blk_lt hc
  have hbk : ∀ n ∈ F ++ nodes S, w'.heap[n.b]? = w.heap[n.b]? := fun n hn => hk _ (hlt n hn) (h.mne hn).symm
  refine ⟨h.head.move (hk p h.head.lt h.pm.symm), fun r k hr hk' => (h.seg r k hr hk').move (fun n hn => hbk n (List.mem_append_right _ (mem_nodes.2 ⟨r, k, hr, hk', hn⟩))), fun n hn => ?_, ⟨_, hm, ?_⟩, ?_, .inl h.own.1, .inl h.own.2.1, fun n hn => ?_⟩
  · rcases List.mem_cons.1 hn with rfl | hn
    · exact ⟨_, _, _, ht⟩
    · obtain ⟨r, a, b, hc⟩ := h.loose n hn
      exact ⟨r, a, b, (hbk n (List.mem_append_left _ hn)).trans hc⟩
  · refine List.perm_append_comm.trans ?_
    exact hp.cons _
  · refine List.nodup_cons.2 ⟨fun hm' => ?_, h.nodup⟩
    obtain ⟨n, hn, e⟩ := List.mem_map.1 hm'
    have := hlt n hn
    omega
  · rcases List.mem_cons.1 hn with rfl | hn
    · exact .inr rfl
    · exact .inl (h.own.2.2 n hn)
theorem Rep.del {t : Node} (h : Rep w O p m now S (t :: F)) (he : IsM w m es) (hp : es.Perm ((t :: F ++ nodes S).map fun n => (n.id, ptr (some n.b)))) (hm : IsM w' m (drop t.id es))
    (hk : ∀ b, b < w.heap.size → b ≠ m → w'.heap[b]? = w.heap[b]?) : Rep w' O p m now S F := by
  have hin : ∀ n ∈ F ++ nodes S, n ∈ t :: F ++ nodes S := fun n hn => List.mem_cons_of_mem _ hn
  have hbk : ∀ n ∈ F ++ nodes S, w'.heap[n.b]? = w.heap[n.b]? := fun n hn => by
    obtain ⟨_, _, _, hc⟩ := h.tm (hin n hn)
    exact hk _ (blk_lt hc) (h.mne (hin n hn)).symm
  refine ⟨h.head.move (hk p h.head.lt h.pm.symm), fun r k hr hk' => (h.seg r k hr hk').move (fun n hn => hbk n (List.mem_append_right _ (mem_nodes.2 ⟨r, k, hr, hk', hn⟩))), fun n hn => ?_, ⟨_, hm, ?_⟩, (List.nodup_cons.1 (show (t.b :: (F ++ nodes S).map Node.b).Nodup from h.nodup)).2, h.own.1, h.own.2.1, fun n hn => h.own.2.2 n (hin n hn)⟩
  · obtain ⟨r, a, b, hc⟩ := h.loose n (by simp [hn])
    exact ⟨r, a, b, (hbk n (List.mem_append_left _ hn)).trans hc⟩
  · have h1 : (drop t.id es).Perm (drop t.id ((t :: F ++ nodes S).map fun n => (n.id, ptr (some n.b)))) := hp.filter _
    have hnd := (hp.map Prod.fst).nodup_iff.1 he.nodup
    have h2 : t.id ∉ ((F ++ nodes S).map fun n => (n.id, ptr (some n.b))).map Prod.fst := (List.nodup_cons.1 (show (t.id :: ((F ++ nodes S).map fun n => (n.id, ptr (some n.b))).map Prod.fst).Nodup from hnd)).1
    refine h1.trans ?_
    show (List.filter _ ((t.id, ptr (some t.b)) :: (F ++ nodes S).map fun n => (n.id, ptr (some n.b)))).Perm _
    rw [List.filter_cons_of_neg (by simp)]
    have := drop_none (es := (F ++ nodes S).map fun n => (n.id, ptr (some n.b))) h2
    rw [show List.filter (fun p => decide (p.1 ≠ t.id)) ((F ++ nodes S).map fun n => (n.id, ptr (some n.b))) = drop t.id ((F ++ nodes S).map fun n => (n.id, ptr (some n.b))) from rfl, this]
theorem Rep.retime {t : Node} (h : Rep w O p m now S (t :: F)) (x : Int) : Rep (w.setCell ⟨t.b, 1, none⟩ (.int .i64 x)) O p m now S ({ t with tm := x } :: F) := by
  have hin : ∀ n ∈ F ++ nodes S, n ∈ t :: F ++ nodes S := fun n hn => List.mem_cons_of_mem _ hn
  have hnt : ∀ n ∈ F ++ nodes S, n.b ≠ t.b := fun n hn e => (List.nodup_cons.1 (show (t.b :: (F ++ nodes S).map Node.b).Nodup from h.nodup)).1 (e ▸ List.mem_map.2 ⟨n, hn, rfl⟩)
  have hbk : ∀ n ∈ F ++ nodes S, (w.setCell ⟨t.b, 1, none⟩ (.int .i64 x)).heap[n.b]? = w.heap[n.b]? := fun n hn => Below.heap_setCell _ _ _ _ (hnt n hn)
  obtain ⟨es, he, hp⟩ := h.names
  refine ⟨h.head.move (Below.heap_setCell _ _ _ _ (h.pne (n := t) (by simp))), fun r k hr hk' => (h.seg r k hr hk').move (fun n hn => hbk n (List.mem_append_right _ (mem_nodes.2 ⟨r, k, hr, hk', hn⟩))), fun n hn => ?_, ⟨es, he.move (Below.heap_setCell _ _ _ _ (h.mne (n := t) (by simp))), hp⟩, h.nodup, h.own.1, h.own.2.1, fun n hn => ?_⟩
  · rcases List.mem_cons.1 hn with rfl | hn
    · obtain ⟨r, a, b, hc⟩ := h.loose t (by simp)
      exact ⟨r, a, b, blk_set hc 1 _⟩
    · obtain ⟨r, a, b, hc⟩ := h.loose n (by simp [hn])
      exact ⟨r, a, b, (hbk n (List.mem_append_left _ hn)).trans hc⟩
  · rcases List.mem_cons.1 hn with rfl | hn
    · exact h.own.2.2 t (by simp)
    · exact h.own.2.2 n (hin n hn)
theorem good_in {t : Node} (hg : Good now S) (h1 : now < t.tm) (h2 : t.tm ≤ 1099511627776) : Good now (upd S (rg t.tm now) (dg (rg t.tm now) t.tm) (t :: S (rg t.tm now) (dg (rg t.tm now) t.tm))) := fun r k hr hk n hn => by
  by_cases e : r = rg t.tm now ∧ k = dg (rg t.tm now) t.tm
  · obtain ⟨rfl, rfl⟩ := e
    rw [upd_same] at hn
    rcases List.mem_cons.1 hn with rfl | hn
    · exact ⟨h1, h2, rfl, rfl⟩
    · exact hg _ _ hr hk n hn
  · rw [upd_other e] at hn
    exact hg r k hr hk n hn
theorem good_out {t : Node} {r k : Nat} {xs ys : List Node} (hg : Good now S) (hS : S r k = xs ++ t :: ys) : Good now (upd S r k (xs ++ ys)) := fun r' k' hr hk n hn => by
  by_cases e : r' = r ∧ k' = k
  · obtain ⟨rfl, rfl⟩ := e
    rw [upd_same] at hn
    refine hg r' k' hr hk n ?_
    rw [hS]
    rcases List.mem_append.1 hn with h | h
    · exact List.mem_append_left _ h
    · exact List.mem_append_right _ (by simp [h])
  · rw [upd_other e] at hn
    exact hg r' k' hr hk n hn
end
end Go.Proofs.Ytaefbibkkkglnaa.Wh
