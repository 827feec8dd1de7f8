/- Wheel: New, find, ahead, Now, Len. No condition. -/
import Derived.Test.YtaefbibkkkglnaaMg1
import Derived.Carry
import Derived.Deep.LoopGhost
import Derived.WalkKit
import Derived.Test.YtaefbibkkkglnaaWhLay
import Derived.Test.YtaefbibkkkglnaaWMore
import Derived.Lib.OwnBridge
import Derived.Lib.SortBridge
import Derived.Deep.DeepMust
import Derived.Deep.RegionLaw
import Derived.Deep.RegionHeld3
namespace Go.Proofs.Ytaefbibkkkglnaa.Wh
open Go Go.RowKit Go.Proofs.YtaefbibkkkglnaaW.PrintWords Go.Proofs.Ytaefbibkkkglnaa.Mp Go.Proofs.Ytaefbibkkkglnaa.Fr
set_option linter.unusedVariables false
set_option linter.unusedSimpArgs false

/-! ### a wheel, as the contracts speak of it -/
def Good (now : Int) (S : Slots) : Prop := ∀ r k, r < 7 → k < 64 → ∀ n ∈ S r k, now < n.tm ∧ n.tm ≤ 1099511627776 ∧ rg n.tm now = r ∧ dg r n.tm = k
structure Whl (w : World) (O : Nat → Prop) (p : Nat) (now : Int) (l : List E) : Prop where
  rep : ∃ m S, Rep w O p m now S [] ∧ Good now S ∧ l.Perm ((nodes S).map ent)
  now0 : 0 ≤ now
  now1 : now ≤ 1099511627776
  sorted : Sorted l
  ids : ∀ e ∈ l, 1 ≤ e.1.size ∧ e.1.size ≤ 64
  few : l.length ≤ 4096
  lt : ∀ b, O b → b < w.heap.size
section
variable {w w' : World} {O : Nat → Prop} {p : Nat} {now : Int} {l : List E}
theorem Whl.move (h : Whl w O p now l) (hz : w.heap.size ≤ w'.heap.size) (hm : ∀ b, O b → b < w.heap.size → w'.heap[b]? = w.heap[b]?) : Whl w' O p now l := by
  obtain ⟨⟨m, S, h1, h2, h3⟩, a, b, c, d, e, f⟩ := h
  exact ⟨⟨m, S, h1.move hm, h2, h3⟩, a, b, c, d, e, fun b hb => Nat.lt_of_lt_of_le (f b hb) hz⟩
theorem Whl.below (h : Whl w O p now l) (hb : Below w.heap.size w w') : Whl w' O p now l := h.move hb.size (fun b _ hl => hb.block b hl)
theorem Whl.drewN (h : Whl w O p now l) (n : Nat) : Whl (w.drewN n) O p now l := h.move (Nat.le_refl _) (fun _ _ _ => rfl)
theorem Whl.only {O' : Nat → Prop} (h : Whl w O p now l) (ho : Only O' w w') (hd : ∀ b, O b → b < w.heap.size → ¬ O' b) : Whl w' O p now l := h.move ho.size (fun b h1 h2 => ho.block b h2 (hd b h1 h2))
/-- The names' map: who is there, at which timer. -/
theorem Rep.ents {m : Nat} {S : Slots} (h : Rep w O p m now S []) : ∃ es, IsM w m es ∧ es.Perm ((nodes S).map fun n => (n.id, ptr (some n.b))) := h.names
theorem ids_nodup {m : Nat} {S : Slots} (h : Rep w O p m now S []) (hl : l.Perm ((nodes S).map ent)) : (l.map Prod.fst).Nodup := by
  obtain ⟨es, he, hp⟩ := h.names
  have h1 := (hp.map Prod.fst).nodup_iff.1 he.nodup
  have h2 := (hl.map Prod.fst).nodup_iff.2
  apply h2
  simpa [List.map_map, Function.comp_def, ent] using h1
theorem Whl.nodup (h : Whl w O p now l) : (l.map Prod.fst).Nodup := by
  obtain ⟨m, S, h1, h2, h3⟩ := h.rep
  exact ids_nodup h1 h3
end

/-! ### New -/
def wcells (a : Int) (b : Option Nat) : Array Value := ((Value.int .i64 a :: List.replicate 448 (Value.pointer none)) ++ (List.replicate 7 (Value.int .i64 0) ++ [Value.map b])).toArray
theorem build_W (a : Int) (b : Option Nat) (w : World) : (Instr.build 73 #[(0, .int .i64 a), (3, .map b)]).run Try.prog w = .ok (.agg (wcells a b)) w := by kernel_rfl
theorem cells_any (x y z u : Value) (n q : Nat) : ((x :: List.replicate n y) ++ (List.replicate q z ++ [u])).toArray.size = n + q + 2 ∧ ((x :: List.replicate n y) ++ (List.replicate q z ++ [u])).toArray[0]? = some x ∧
    (∀ i, i < n → ((x :: List.replicate n y) ++ (List.replicate q z ++ [u])).toArray[1 + i]? = some y) ∧ (∀ i, i < q → ((x :: List.replicate n y) ++ (List.replicate q z ++ [u])).toArray[1 + n + i]? = some z) ∧ ((x :: List.replicate n y) ++ (List.replicate q z ++ [u])).toArray[1 + n + q]? = some u := by
  refine ⟨by simp; omega, by simp, fun i hi => ?_, fun i hi => ?_, ?_⟩
  · rw [List.getElem?_toArray, List.getElem?_append_left (by simp; omega), Nat.add_comm, List.getElem?_cons_succ, List.getElem?_replicate, if_pos hi]
  · rw [List.getElem?_toArray, List.getElem?_append_right (by simp; omega), List.getElem?_append_left (by simp; omega), List.getElem?_replicate, if_pos (by simp; omega)]
  · rw [List.getElem?_toArray, List.getElem?_append_right (by simp; omega), List.getElem?_append_right (by simp; omega)]
    simp
    rw [show 1 + n + q - (n + 1) - q = 0 from by omega]
    rfl
theorem wcells_facts (a : Int) (m : Nat) : (wcells a (some m)).size = 457 ∧ (wcells a (some m))[0]? = some (.int .i64 a) ∧ (∀ r k, r < 7 → k < 64 → (wcells a (some m))[1 + 64 * r + k]? = some (ptr (hd none []))) ∧ (∀ r, r < 7 → (wcells a (some m))[449 + r]? = some (.int .i64 (0 : Nat))) ∧ (wcells a (some m))[456]? = some (.map (some m)) := by
  obtain ⟨f1, f2, f3, f4, f5⟩ := cells_any (.int .i64 a) (.pointer none) (.int .i64 0) (.map (some m)) 448 7
  exact ⟨f1, f2, fun r k hr hk => by rw [show 1 + 64 * r + k = 1 + (64 * r + k) from by omega]; exact f3 _ (by omega), fun r hr => f4 r hr, f5⟩

set_option maxRecDepth 100000 in
set_option maxHeartbeats 1000000 in
theorem new_good (now : Int) (w : World) (h0 : 0 ≤ now) (h1 : now ≤ 1099511627776) :
    Calls Try.prog 25 #[.int .i64 now] w fun e w' => e = .returned (.tuple #[.pointer (some ⟨w.heap.size + 1, 0, none⟩), .int .i64 0]) ∧ ∃ n, w' = ((w.alloc (.map #[] 0)).alloc (.cells (wcells now (some w.heap.size)) 73)).drewN n := by
  have ht : Aside0 (decide (0 ≤ now ∧ now ≤ 1099511627776) = true) := ⟨by simp [h0, h1]⟩
  have hmm := @run_makeMap Try.prog
  have hbw := build_W
  go_enter Try.func25, Try.ntmps25
  go_wp2_with fail
  refine (isTime_calls now _).mono ?_
  rintro e w' ⟨rfl, n, rfl⟩
  rw [ht.out]
  go_wp2_with fail
  go_ret2
  exact ⟨rfl, n, rfl⟩

theorem new_bad (now : Int) (w : World) (h : ¬ (0 ≤ now ∧ now ≤ 1099511627776)) :
    Calls Try.prog 25 #[.int .i64 now] w fun e w' => e = .returned (.tuple #[.pointer none, .int .i64 2]) ∧ ∃ n, w' = w.drewN n := by
  have ht : Aside0 (decide (0 ≤ now ∧ now ≤ 1099511627776) = false) := ⟨decide_eq_false h⟩
  clear h
  go_enter Try.func25, Try.ntmps25
  go_wp2_with fail
  refine (isTime_calls now _).mono ?_
  rintro e w' ⟨rfl, n, rfl⟩
  rw [ht.out]
  go_wp2_with fail
  go_ret2
  exact ⟨rfl, n, rfl⟩

/-- New: a wheel in blocks of its own. -/
theorem new_calls (now : Int) (w : World) (h0 : 0 ≤ now) (h1 : now ≤ 1099511627776) :
    Calls Try.prog 25 #[.int .i64 now] w fun e w' => e = .returned (.tuple #[.pointer (some ⟨w.heap.size + 1, 0, none⟩), .int .i64 0]) ∧ Whl w' (fun b => w.heap.size ≤ b ∧ b < w'.heap.size) (w.heap.size + 1) now [] ∧ Below w.heap.size w w' := by
  refine (new_good now w h0 h1).mono ?_
  rintro e w' ⟨rfl, n, rfl⟩
  have hb0 : Below w.heap.size w (((w.alloc (.map #[] 0)).alloc (.cells (wcells now (some w.heap.size)) 73)).drewN n) := pw_below_drewN (below_alloc (below_alloc (Below.refl _ _) _) _) n
  have hsz : ((((w.alloc (.map #[] 0)).alloc (.cells (wcells now (some w.heap.size)) 73)).drewN n)).heap.size = w.heap.size + 2 := by
    rw [World.heap_drewN, World.size_alloc, World.size_alloc]
  refine ⟨rfl, ⟨⟨w.heap.size, fun _ _ => [], ⟨⟨?_⟩, fun _ _ _ _ => trivial, fun n hn => by simp at hn, ⟨[], ?_, ?_⟩, ?_, ?_, ?_, fun n hn => ?_⟩, fun r k _ _ n hn => by simp at hn, ?_⟩, h0, h1, List.Pairwise.nil, fun e he => by simp at he, by simp, fun b hb => hb.2⟩, hb0⟩
  · have hc : ∀ r, cnt (fun _ _ => []) r = 0 := fun r => by
      have : ∀ n, ((List.range n).flatMap fun _ => ([] : List Node)) = [] := fun n => by simp
      unfold cnt row
      rw [this]
      rfl
    obtain ⟨f1, f2, f3, f4, f5⟩ := wcells_facts now w.heap.size
    refine ⟨_, blk_drewN (show _ = _ from ?_) n, f1, f2, f3, fun r hr => by rw [hc]; exact f4 r hr, f5⟩
    have := blk_new (w.alloc (.map #[] 0)) (.cells (wcells now (some w.heap.size)) 73)
    rwa [World.size_alloc] at this
  · exact ((isM_new w).move (Below.heap_alloc _ _ _ (by rw [World.size_alloc]; omega))).move rfl
  · have : nodes (fun _ _ => []) = [] := by simp [nodes, row]
    rw [this]
    exact List.Perm.refl _
  · have : nodes (fun _ _ => []) = [] := by simp [nodes, row]
    rw [this]
    exact List.nodup_nil
  · exact ⟨by omega, by rw [hsz]; omega⟩
  · exact ⟨by omega, by rw [hsz]; omega⟩
  · have : nodes (fun _ _ => []) = [] := by simp [nodes, row]
    rw [this] at hn
    simp at hn
  · have : nodes (fun _ _ => []) = [] := by simp [nodes, row]
    rw [this]
    exact List.Perm.refl _

/-! ### isName, find, ahead -/
theorem isName_calls (s : ByteArray) (w : World) (hs : s.size < 4611686018427387904) :
    Calls Try.prog 42 #[.string s] w fun e w' => e = .returned (.bool (decide (1 ≤ s.size ∧ s.size ≤ 64))) ∧ ∃ q, w' = w.drewN q := by
  by_cases h : 1 ≤ s.size
  · have hd : decide (1 ≤ s.size) = true := by simpa using h
    go_enter Try.func42, Try.ntmps42
    go_wp2
    all_goals
      (try go_quiet (fail))
      (try go_wp2)
      go_ret
      exact ⟨by simp [h] <;> omega, 0, rfl⟩
  · have hd : decide (1 ≤ s.size) = false := by simpa using h
    go_enter Try.func42, Try.ntmps42
    go_wp2
    all_goals
      (try go_quiet (fail))
      (try go_wp2)
      go_ret
      exact ⟨by simp [h] <;> omega, 0, rfl⟩
end Go.Proofs.Ytaefbibkkkglnaa.Wh
/- Wheel: find, ahead, Add, Change, Remove, At, Now, Len. No condition. -/
namespace Go.Proofs.Ytaefbibkkkglnaa.Wh
open Go Go.RowKit Go.Proofs.YtaefbibkkkglnaaW.PrintWords Go.Proofs.Ytaefbibkkkglnaa.Mp Go.Proofs.Ytaefbibkkkglnaa.Fr
set_option linter.unusedVariables false
set_option linter.unusedSimpArgs false

/-! ### what the calls answer -/
def nameB (s : ByteArray) : Bool := decide (1 ≤ s.size ∧ s.size ≤ 64)
def timeE (now t : Int) : Int := if 0 ≤ t ∧ t ≤ 1099511627776 then (if t ≤ now then 110 else 0) else 2
def hasB (l : List E) (id : ByteArray) : Bool := l.any fun e => decide (e.1 = id)
theorem hasB_iff {l : List E} {id : ByteArray} : hasB l id = true ↔ id ∈ l.map Prod.fst := by
  unfold hasB
  rw [List.any_eq_true, List.mem_map]
  constructor
  · rintro ⟨e, h1, h2⟩; exact ⟨e, h1, by simpa using h2⟩
  · rintro ⟨e, h1, h2⟩; exact ⟨e, h1, by simpa using h2⟩
def findE (l : List E) (id : ByteArray) : Int := if nameB id = true then (if hasB l id = true then 0 else 7) else 111
def addE (now : Int) (l : List E) (id : ByteArray) (t : Int) : Int :=
  if nameB id = true then (if hasB l id = true then 8 else if timeE now t = 0 then (if 4096 ≤ l.length then 5 else 0) else timeE now t) else 111
def cutF (id : ByteArray) (l : List E) : List E := l.filter fun e => decide (e.1 ≠ id)
def timeOf (l : List E) (id : ByteArray) : Int := ((l.find? fun e => decide (e.1 = id)).map Prod.snd).getD 0
def changeE (now : Int) (l : List E) (id : ByteArray) (t : Int) : Int := if findE l id = 0 then timeE now t else findE l id

section
variable {w w' : World} {O : Nat → Prop} {p m : Nat} {now : Int} {S : Slots} {F : List Node} {es : List Ent} {l : List E}
theorem lookW (h : IsM w m es) {id : ByteArray} {b : Nat} (hx : (id, ptr (some b)) ∈ es) (n : Nat) : (Instr.lookup 71 (.map (some m)) (.string id) false).run Try.prog (w.drewN n) = .ok (.pointer (some ⟨b, 0, none⟩)) (w.drewN n) :=
  look_in (P := Try.prog) (w := w.drewN n) (h.move rfl) Try.underlying71 Try.underlying9 hx false
theorem zero_ptr (w : World) : (zeroValue 65).run Try.prog w = .ok (.pointer none) w := by kernel_rfl
theorem lookO (h : IsM w m es) {id : ByteArray} (hx : id ∉ es.map Prod.fst) (n : Nat) : (Instr.lookup 71 (.map (some m)) (.string id) false).run Try.prog (w.drewN n) = .ok (.pointer none) (w.drewN n) :=
  look_out (P := Try.prog) (w := w.drewN n) (h.move rfl) Try.underlying71 Try.underlying9 hx false (zero_ptr _)

theorem find_bad (a : Nat) (id : ByteArray) (w : World) (hs : id.size < 4611686018427387904) (h : nameB id = false) :
    Calls Try.prog 40 #[.pointer (some ⟨a, 0, none⟩), .string id] w fun e w' => e = .returned (.tuple #[.pointer none, .int .i64 111]) ∧ ∃ n, w' = w.drewN n := by
  have HN := Aside0.mk h
  clear h
  go_enter Try.func40, Try.ntmps40
  go_wp2_with fail
  refine (isName_calls id _ hs).mono ?_
  rintro e w' ⟨rfl, n, rfl⟩
  rw [show decide (1 ≤ id.size ∧ id.size ≤ 64) = false from HN.out]
  go_wp2_with fail
  go_ret2
  exact ⟨rfl, n, rfl⟩
theorem find_out (id : ByteArray) (w : World) (hs : id.size < 4611686018427387904) (h : nameB id = true) (hm : w.cell? ⟨p, 456, none⟩ = some (.map (some m))) (he : IsM w m es) (hx : id ∉ es.map Prod.fst) :
    Calls Try.prog 40 #[.pointer (some ⟨p, 0, none⟩), .string id] w fun e w' => e = .returned (.tuple #[.pointer none, .int .i64 7]) ∧ ∃ n, w' = w.drewN n := by
  have HN := Aside0.mk h
  have hl := lookO he hx
  clear h hx
  go_enter Try.func40, Try.ntmps40
  go_wp2_with fail
  refine (isName_calls id _ hs).mono ?_
  rintro e w' ⟨rfl, n, rfl⟩
  rw [show decide (1 ≤ id.size ∧ id.size ≤ 64) = true from HN.out]
  go_wp2_with fail
  go_ret2
  exact ⟨rfl, n, rfl⟩
theorem find_in (id : ByteArray) (b : Nat) (w : World) (hs : id.size < 4611686018427387904) (h : nameB id = true) (hm : w.cell? ⟨p, 456, none⟩ = some (.map (some m))) (he : IsM w m es) (hx : (id, ptr (some b)) ∈ es) :
    Calls Try.prog 40 #[.pointer (some ⟨p, 0, none⟩), .string id] w fun e w' => e = .returned (.tuple #[.pointer (some ⟨b, 0, none⟩), .int .i64 0]) ∧ ∃ n, w' = w.drewN n := by
  have HN := Aside0.mk h
  have hl := lookW he hx
  clear h hx
  go_enter Try.func40, Try.ntmps40
  go_wp2_with fail
  refine (isName_calls id _ hs).mono ?_
  rintro e w' ⟨rfl, n, rfl⟩
  rw [show decide (1 ≤ id.size ∧ id.size ≤ 64) = true from HN.out]
  go_wp2_with fail
  go_ret2
  exact ⟨rfl, n, rfl⟩

theorem ahead_calls (t : Int) (w : World) (hc : w.cell? ⟨p, 0, none⟩ = some (.int .i64 now)) :
    Calls Try.prog 41 #[.pointer (some ⟨p, 0, none⟩), .int .i64 t] w fun e w' => e = .returned (.int .i64 (timeE now t)) ∧ ∃ n, w' = w.drewN n := by
  unfold timeE
  by_cases h : 0 ≤ t ∧ t ≤ 1099511627776
  · rw [if_pos h]
    have HT := Aside0.mk (decide_eq_true h)
    clear h
    by_cases h2 : t ≤ now
    · rw [if_pos h2]
      have hd : decide (t ≤ now) = true := by simpa using h2
      go_enter Try.func41, Try.ntmps41
      go_wp2_with fail
      refine (isTime_calls t _).mono ?_
      rintro e w' ⟨rfl, n, rfl⟩
      rw [HT.out]
      go_wp2_with fail
      (try go_quiet (fail))
      (try go_wp2_with fail)
      go_ret
      exact ⟨rfl, _, rfl⟩
    · rw [if_neg h2]
      have hd : decide (t ≤ now) = false := by simpa using h2
      go_enter Try.func41, Try.ntmps41
      go_wp2_with fail
      refine (isTime_calls t _).mono ?_
      rintro e w' ⟨rfl, n, rfl⟩
      rw [HT.out]
      go_wp2_with fail
      (try go_quiet (fail))
      (try go_wp2_with fail)
      go_ret
      exact ⟨rfl, _, rfl⟩
  · rw [if_neg h]
    have HT := Aside0.mk (decide_eq_false h)
    clear h
    go_enter Try.func41, Try.ntmps41
    go_wp2_with fail
    refine (isTime_calls t _).mono ?_
    rintro e w' ⟨rfl, n, rfl⟩
    rw [HT.out]
    go_wp2_with fail
    go_ret
    exact ⟨rfl, _, rfl⟩

/-! ### names laid in and taken out -/
theorem ents_in {n : Node} (hp : es.Perm ((nodes S).map fun n => (n.id, ptr (some n.b)))) (hn : n ∈ nodes S) : (n.id, ptr (some n.b)) ∈ es := hp.mem_iff.2 (List.mem_map.2 ⟨n, hn, rfl⟩)
theorem ids_iff (hp : es.Perm ((nodes S).map fun n => (n.id, ptr (some n.b)))) (hl : l.Perm ((nodes S).map ent)) (id : ByteArray) : id ∈ es.map Prod.fst ↔ id ∈ l.map Prod.fst := by
  rw [(hp.map Prod.fst).mem_iff, (hl.map Prod.fst).mem_iff]
  simp [ent]
theorem Rep.add {t : Node} {r : Int} {a b : Option Nat} (h : Rep w O p m now S F) (hp : es.Perm ((F ++ nodes S).map fun n => (n.id, ptr (some n.b)))) (ht : Tcell w' t r a b) (hb : w.heap.size ≤ t.b) (hm : IsM w' m (es ++ [(t.id, ptr (some t.b))]))
    (hk : ∀ b, b < w.heap.size → b ≠ m → w'.heap[b]? = w.heap[b]?) : Rep w' (fun b => O b ∨ b = t.b) p m now S (t :: F) := by
  have hlt : ∀ n ∈ F ++ nodes S, n.b < w.heap.size := fun n hn => by
    obtain ⟨_, _, _, hc⟩ := h.tm hn
    exact blk_lt hc
  have hbk : ∀ n ∈ F ++ nodes S, w'.heap[n.b]? = w.heap[n.b]? := fun n hn => hk _ (hlt n hn) (h.mne hn).symm
  refine ⟨h.head.move (hk p h.head.lt h.pm.symm), fun r k hr hk' => (h.seg r k hr hk').move (fun n hn => hbk n (List.mem_append_right _ (mem_nodes.2 ⟨r, k, hr, hk', hn⟩))), fun n hn => ?_, ⟨_, hm, ?_⟩, ?_, .inl h.own.1, .inl h.own.2.1, fun n hn => ?_⟩
  · rcases List.mem_cons.1 hn with rfl | hn
    · exact ⟨_, _, _, ht⟩
    · obtain ⟨r, a, b, hc⟩ := h.loose n hn
      exact ⟨r, a, b, (hbk n (List.mem_append_left _ hn)).trans hc⟩
  · refine List.perm_append_comm.trans ?_
    exact hp.cons _
  · refine List.nodup_cons.2 ⟨fun hm' => ?_, h.nodup⟩
    obtain ⟨n, hn, e⟩ := List.mem_map.1 hm'
    have := hlt n hn
    omega
  · rcases List.mem_cons.1 hn with rfl | hn
    · exact .inr rfl
    · exact .inl (h.own.2.2 n hn)
theorem Rep.del {t : Node} (h : Rep w O p m now S (t :: F)) (he : IsM w m es) (hp : es.Perm ((t :: F ++ nodes S).map fun n => (n.id, ptr (some n.b)))) (hm : IsM w' m (drop t.id es))
    (hk : ∀ b, b < w.heap.size → b ≠ m → w'.heap[b]? = w.heap[b]?) : Rep w' O p m now S F := by
  have hin : ∀ n ∈ F ++ nodes S, n ∈ t :: F ++ nodes S := fun n hn => List.mem_cons_of_mem _ hn
  have hbk : ∀ n ∈ F ++ nodes S, w'.heap[n.b]? = w.heap[n.b]? := fun n hn => by
    obtain ⟨_, _, _, hc⟩ := h.tm (hin n hn)
    exact hk _ (blk_lt hc) (h.mne (hin n hn)).symm
  refine ⟨h.head.move (hk p h.head.lt h.pm.symm), fun r k hr hk' => (h.seg r k hr hk').move (fun n hn => hbk n (List.mem_append_right _ (mem_nodes.2 ⟨r, k, hr, hk', hn⟩))), fun n hn => ?_, ⟨_, hm, ?_⟩, (List.nodup_cons.1 (show (t.b :: (F ++ nodes S).map Node.b).Nodup from h.nodup)).2, h.own.1, h.own.2.1, fun n hn => h.own.2.2 n (hin n hn)⟩
  · obtain ⟨r, a, b, hc⟩ := h.loose n (by simp [hn])
    exact ⟨r, a, b, (hbk n (List.mem_append_left _ hn)).trans hc⟩
  · have h1 : (drop t.id es).Perm (drop t.id ((t :: F ++ nodes S).map fun n => (n.id, ptr (some n.b)))) := hp.filter _
    have hnd := (hp.map Prod.fst).nodup_iff.1 he.nodup
    have h2 : t.id ∉ ((F ++ nodes S).map fun n => (n.id, ptr (some n.b))).map Prod.fst := (List.nodup_cons.1 (show (t.id :: ((F ++ nodes S).map fun n => (n.id, ptr (some n.b))).map Prod.fst).Nodup from hnd)).1
    refine h1.trans ?_
    show (List.filter _ ((t.id, ptr (some t.b)) :: (F ++ nodes S).map fun n => (n.id, ptr (some n.b)))).Perm _
    rw [List.filter_cons_of_neg (by simp)]
    have := drop_none (es := (F ++ nodes S).map fun n => (n.id, ptr (some n.b))) h2
    rw [show List.filter (fun p => decide (p.1 ≠ t.id)) ((F ++ nodes S).map fun n => (n.id, ptr (some n.b))) = drop t.id ((F ++ nodes S).map fun n => (n.id, ptr (some n.b))) from rfl, this]
theorem Rep.retime {t : Node} (h : Rep w O p m now S (t :: F)) (x : Int) : Rep (w.setCell ⟨t.b, 1, none⟩ (.int .i64 x)) O p m now S ({ t with tm := x } :: F) := by
  have hin : ∀ n ∈ F ++ nodes S, n ∈ t :: F ++ nodes S := fun n hn => List.mem_cons_of_mem _ hn
  have hnt : ∀ n ∈ F ++ nodes S, n.b ≠ t.b := fun n hn e => (List.nodup_cons.1 (show (t.b :: (F ++ nodes S).map Node.b).Nodup from h.nodup)).1 (e ▸ List.mem_map.2 ⟨n, hn, rfl⟩)
  have hbk : ∀ n ∈ F ++ nodes S, (w.setCell ⟨t.b, 1, none⟩ (.int .i64 x)).heap[n.b]? = w.heap[n.b]? := fun n hn => Below.heap_setCell _ _ _ _ (hnt n hn)
  obtain ⟨es, he, hp⟩ := h.names
  refine ⟨h.head.move (Below.heap_setCell _ _ _ _ (h.pne (n := t) (by simp))), fun r k hr hk' => (h.seg r k hr hk').move (fun n hn => hbk n (List.mem_append_right _ (mem_nodes.2 ⟨r, k, hr, hk', hn⟩))), fun n hn => ?_, ⟨es, he.move (Below.heap_setCell _ _ _ _ (h.mne (n := t) (by simp))), hp⟩, h.nodup, h.own.1, h.own.2.1, fun n hn => ?_⟩
  · rcases List.mem_cons.1 hn with rfl | hn
    · obtain ⟨r, a, b, hc⟩ := h.loose t (by simp)
      exact ⟨r, a, b, blk_set hc 1 _⟩
    · obtain ⟨r, a, b, hc⟩ := h.loose n (by simp [hn])
      exact ⟨r, a, b, (hbk n (List.mem_append_left _ hn)).trans hc⟩
  · rcases List.mem_cons.1 hn with rfl | hn
    · exact h.own.2.2 t (by simp)
    · exact h.own.2.2 n (hin n hn)
theorem good_in {t : Node} (hg : Good now S) (h1 : now < t.tm) (h2 : t.tm ≤ 1099511627776) : Good now (upd S (rg t.tm now) (dg (rg t.tm now) t.tm) (t :: S (rg t.tm now) (dg (rg t.tm now) t.tm))) := fun r k hr hk n hn => by
  by_cases e : r = rg t.tm now ∧ k = dg (rg t.tm now) t.tm
  · obtain ⟨rfl, rfl⟩ := e
    rw [upd_same] at hn
    rcases List.mem_cons.1 hn with rfl | hn
    · exact ⟨h1, h2, rfl, rfl⟩
    · exact hg _ _ hr hk n hn
  · rw [upd_other e] at hn
    exact hg r k hr hk n hn
theorem good_out {t : Node} {r k : Nat} {xs ys : List Node} (hg : Good now S) (hS : S r k = xs ++ t :: ys) : Good now (upd S r k (xs ++ ys)) := fun r' k' hr hk n hn => by
  by_cases e : r' = r ∧ k' = k
  · obtain ⟨rfl, rfl⟩ := e
    rw [upd_same] at hn
    refine hg r' k' hr hk n ?_
    rw [hS]
    rcases List.mem_append.1 hn with h | h
    · exact List.mem_append_left _ h
    · exact List.mem_append_right _ (by simp [h])
  · rw [upd_other e] at hn
    exact hg r' k' hr hk n hn
end
end Go.Proofs.Ytaefbibkkkglnaa.Wh
/- Wheel: Add, Change, Remove, At, Now, Len. No condition. -/
namespace Go.Proofs.Ytaefbibkkkglnaa.Wh
open Go Go.RowKit Go.Proofs.YtaefbibkkkglnaaW.PrintWords Go.Proofs.Ytaefbibkkkglnaa.Mp Go.Proofs.Ytaefbibkkkglnaa.Fr
set_option linter.unusedVariables false
set_option linter.unusedSimpArgs false

/-- The wheel behind a call. -/
def After (w : World) (O : Nat → Prop) (p : Nat) (now : Int) (l : List E) (w' : World) : Prop :=
  ∃ O', Whl w' O' p now l ∧ (∀ b, O' b → O b ∨ w.heap.size ≤ b) ∧ Only O w w'
section
variable {w w' : World} {O : Nat → Prop} {p : Nat} {now : Int} {l : List E}
theorem Whl.same (h : Whl w O p now l) (n : Nat) : After w O p now l (w.drewN n) := ⟨O, h.drewN n, fun _ hb => .inl hb, (Only.refl O w).drewN n⟩
theorem Whl.c0 (h : Whl w O p now l) : w.cell? ⟨p, 0, none⟩ = some (.int .i64 now) := by
  obtain ⟨m, S, h1, _⟩ := h.rep
  exact h1.head.c0

theorem build_T (id : ByteArray) (t : Int) (w : World) : (Instr.build 79 #[(0, .string id), (1, .int .i64 t)]).run Try.prog w = .ok (.agg #[.string id, .int .i64 t, .int .i64 0, .pointer none, .pointer none]) w := by kernel_rfl

theorem nil_add (id : ByteArray) (t : Int) (w : World) : Calls Try.prog 26 #[.pointer none, .string id, .int .i64 t] w fun e w' => e = .returned (.int .i64 0) ∧ w = w' := by
  go_enter Try.func26, Try.ntmps26
  go_wp2
  go_ret
  exact ⟨rfl, rfl⟩

set_option maxHeartbeats 1000000 in
set_option maxRecDepth 100000 in
theorem add_ok (h : Whl w O p now l) (id : ByteArray) (t : Int) (hs : id.size < 4611686018427387904) (hn : nameB id = true) (hx : hasB l id = false) (ht : timeE now t = 0) (hf : l.length < 4096) :
    Calls Try.prog 26 #[.pointer (some ⟨p, 0, none⟩), .string id, .int .i64 t] w fun e w' => e = .returned (.int .i64 0) ∧ After w O p now (putF (id, t) l) w' := by
  obtain ⟨⟨m, S, h1, h2, h3⟩, a1, a2, a3, a4, a5, a6⟩ := h
  obtain ⟨es, he, hp⟩ := h1.names
  have hxs : id ∉ es.map Prod.fst := fun q => by
    have := hasB_iff.2 ((ids_iff hp h3 id).1 q)
    rw [hx] at this
    cases this
  have hxl : id ∉ l.map Prod.fst := fun q => hxs ((ids_iff hp h3 id).2 q)
  have hlen : es.length = l.length := by
    have e1 := hp.length_eq
    have e2 := h3.length_eq
    simp at e1 e2
    omega
  have hl := lookO he hxs
  have hml := fun n => len_m (P := Try.prog) (w := w.drewN n) (he.move rfl) Try.underlying71 3
  have c0 := h1.head.c0
  have c456 := h1.head.map
  have HN := Aside0.mk hn
  have HT := Aside0.mk ht
  have HF := Aside0.mk (show l.length + 1 ≤ 4096 from hf)
  have hm456 : ∀ n : Nat, ((w.drewN n).alloc (.cells #[.string id, .int .i64 t, .int .i64 0, .pointer none, .pointer none] 79)).cell? ⟨p, 456, none⟩ = some (.map (some m)) := fun n => pw_cell_below (below_alloc (Below.refl (w.drewN n).heap.size (w.drewN n)) _) c456
  have hbt := build_T
  have hf' : decide ((4096 : Int) ≤ (es.length : Int)) = false := by simp; omega
  have HH := Aside0.mk (And.intro h1 (And.intro h2 (And.intro h3 (And.intro he (And.intro hp (And.intro hxs (And.intro hxl hlen)))))))
  clear hx hn ht hxs hxl hlen h1 h2 h3 hp hf
  go_enter Try.func26, Try.ntmps26
  go_wp2_with fail
  refine (isName_calls id _ hs).mono ?_
  rintro e w' ⟨rfl, n, rfl⟩
  rw [show decide (1 ≤ id.size ∧ id.size ≤ 64) = true from HN.out]
  go_wp2_with fail
  refine (ahead_calls (p := p) (now := now) t (w.drewN n) (show _ = _ from c0)).mono ?_
  rintro e w' ⟨rfl, n2, rfl⟩
  rw [HT.out]
  go_wp2_with (first | (at_mapUpdate; refine wpList_put_new _ rfl _ _ _ 71 rfl Try.underlying71 Try.underlying9 rfl (HH.out.2.2.2.1.move (show _ = _ from Below.heap_alloc w _ _ HH.out.2.2.2.1.lt)) id _ rfl rfl HH.out.2.2.2.2.2.1 ?_; intro w3 hm3 hg3 hz3) | fail)
  obtain ⟨h1, h2, h3, he, hp, hxs, hxl, hlen⟩ := HH.out
  have hmlt := he.lt
  have hrep : Rep w3 (fun b => O b ∨ b = w.heap.size) p m now S [⟨w.heap.size, id, t⟩] := by
    refine h1.add (t := ⟨w.heap.size, id, t⟩) (r := 0) (a := none) (b := none) hp ?_ (Nat.le_refl _) hm3 (fun b hb hbm => ?_)
    · refine (hg3.block _ (by simp) (fun e => absurd (Option.some.inj e) (show ¬ w.heap.size = m by omega))).trans (blk_new w _)
    · exact (hg3.block _ (by simp; omega) (fun e => hbm (by injection e))).trans (Below.heap_alloc w _ _ hb)
  have HT2 := HT.out
  unfold timeE at HT2
  have htt : 0 ≤ t ∧ t ≤ 1099511627776 ∧ now < t := by
    split at HT2
    · split at HT2
      · cases HT2
      · exact ⟨by omega, by omega, by omega⟩
    · cases HT2
  have hnl : (nodes S).length ≤ 4096 := by
    have := h3.length_eq
    simp at this
    omega
  refine (hang_calls hrep htt.1 htt.2.1 a1 a2 (by omega)).mono ?_
  rintro e w' ⟨rfl, hR, hO⟩
  have HR := Aside0.mk (And.intro hR hO)
  have HA := Aside0.mk (And.intro h1 (And.intro h2 (And.intro h3 (And.intro hg3 (And.intro hxl (And.intro hz3 (And.intro htt hmlt)))))))
  clear hR hO h1 h2 h3 he hp hxs hxl hlen hm3 hg3 hrep HH hml hl
  go_wp2_with fail
  go_ret
  obtain ⟨hR, hO⟩ := HR.out
  obtain ⟨h1, h2, h3, hg3, hxl, hz3, htt, hmlt⟩ := HA.out
  have hz3' : w3.heap.size = w.heap.size + 1 := by rw [hz3]; simp
  refine ⟨rfl, fun b => O b ∨ b = w.heap.size, ⟨⟨m, _, hR, good_in (t := ⟨w.heap.size, id, t⟩) h2 htt.2.2 htt.2.1, ?_⟩, a1, a2, putF_sorted a3 (fun f hf e => hxl (List.mem_map.2 ⟨f, hf, by rw [e]⟩)), fun e he => ?_, ?_, fun b hb => ?_⟩, fun b hb => ?_, ?_⟩
  · refine (putF_perm _ _).trans ?_
    refine List.Perm.trans ?_ ((nodes_in (ring_lt (by omega) (by omega)) (dig_lt _ _)).map ent).symm
    exact h3.cons _
  · rcases List.mem_cons.1 ((putF_perm _ _).mem_iff.1 he) with rfl | he
    · have := HN.out
      unfold nameB at this
      simpa using this
    · exact a4 e he
  · have e1 := (putF_perm (id, t) l).length_eq
    rw [List.length_cons] at e1
    rw [e1]
    exact HF.out
  · have := hO.size
    rcases hb with hb | rfl
    · have := a6 b hb
      omega
    · omega
  · rcases hb with hb | rfl
    · exact .inl hb
    · exact .inr (Nat.le_refl _)
  · have o1 : Only O w w3 := ⟨hg3.os, hg3.tape, hg3.output, by omega, fun k hk hn' => (hg3.block k (by simp; omega) (fun e => by injection e with e; exact hn' (e ▸ h1.own.2.1))).trans (Below.heap_alloc w _ _ hk)⟩
    exact o1.step hO (fun b hb hq => by
      rcases hq with hq | hq
      · exact hq
      · omega)

/-! ### Add that is refused -/
theorem add_name (h : Whl w O p now l) (id : ByteArray) (t : Int) (hs : id.size < 4611686018427387904) (hn : nameB id = false) :
    Calls Try.prog 26 #[.pointer (some ⟨p, 0, none⟩), .string id, .int .i64 t] w fun e w' => e = .returned (.int .i64 111) ∧ ∃ n, w' = w.drewN n := by
  have HN := Aside0.mk hn
  clear hn h
  go_enter Try.func26, Try.ntmps26
  go_wp2_with fail
  refine (isName_calls id _ hs).mono ?_
  rintro e w' ⟨rfl, n, rfl⟩
  rw [show decide (1 ≤ id.size ∧ id.size ≤ 64) = false from HN.out]
  go_wp2_with fail
  go_ret
  exact ⟨rfl, n, rfl⟩
theorem add_there (h : Whl w O p now l) (id : ByteArray) (t : Int) (hs : id.size < 4611686018427387904) (hn : nameB id = true) (hx : hasB l id = true) :
    Calls Try.prog 26 #[.pointer (some ⟨p, 0, none⟩), .string id, .int .i64 t] w fun e w' => e = .returned (.int .i64 8) ∧ ∃ n, w' = w.drewN n := by
  obtain ⟨⟨m, S, h1, h2, h3⟩, a1, a2, a3, a4, a5, a6⟩ := h
  obtain ⟨es, he, hp⟩ := h1.names
  obtain ⟨n, hn', hid⟩ : ∃ n ∈ nodes S, n.id = id := by
    have := (h3.map Prod.fst).mem_iff.1 (hasB_iff.1 hx)
    rw [List.map_map] at this
    obtain ⟨n, hn, e⟩ := List.mem_map.1 this
    exact ⟨n, hn, e⟩
  subst hid
  have hl := lookW he (ents_in hp hn')
  have c456 := h1.head.map
  have HN := Aside0.mk hn
  clear hn hx h1 h2 h3 hp hn'
  go_enter Try.func26, Try.ntmps26
  go_wp2_with fail
  refine (isName_calls n.id _ hs).mono ?_
  rintro e w' ⟨rfl, n1, rfl⟩
  rw [show decide (1 ≤ n.id.size ∧ n.id.size ≤ 64) = true from HN.out]
  go_wp2_with fail
  go_ret
  exact ⟨rfl, n1, rfl⟩
theorem add_late (h : Whl w O p now l) (id : ByteArray) (t : Int) (hs : id.size < 4611686018427387904) (hn : nameB id = true) (hx : hasB l id = false) (ht : timeE now t ≠ 0) :
    Calls Try.prog 26 #[.pointer (some ⟨p, 0, none⟩), .string id, .int .i64 t] w fun e w' => e = .returned (.int .i64 (timeE now t)) ∧ ∃ n, w' = w.drewN n := by
  obtain ⟨⟨m, S, h1, h2, h3⟩, a1, a2, a3, a4, a5, a6⟩ := h
  obtain ⟨es, he, hp⟩ := h1.names
  have hxs : id ∉ es.map Prod.fst := fun q => by
    have := hasB_iff.2 ((ids_iff hp h3 id).1 q)
    rw [hx] at this
    cases this
  have hl := lookO he hxs
  have c0 := h1.head.c0
  have c456 := h1.head.map
  have HN := Aside0.mk hn
  have hv : (timeE now t != 0) = true := by rw [bne_iff_ne]; exact ht
  have HA := Aside0.mk (fun n => ahead_calls (p := p) (now := now) t (w.drewN n) (show _ = _ from c0))
  generalize timeE now t = v at hv HA ⊢
  clear hn hx h1 h2 h3 hp hxs ht
  go_enter Try.func26, Try.ntmps26
  go_wp2_with fail
  refine (isName_calls id _ hs).mono ?_
  rintro e w' ⟨rfl, n, rfl⟩
  rw [show decide (1 ≤ id.size ∧ id.size ≤ 64) = true from HN.out]
  go_wp2_with fail
  refine (HA.out n).mono ?_
  rintro e w' ⟨rfl, n2, rfl⟩
  go_wp2_with fail
  go_ret
  exact ⟨rfl, n + n2, rfl⟩
theorem add_full (h : Whl w O p now l) (id : ByteArray) (t : Int) (hs : id.size < 4611686018427387904) (hn : nameB id = true) (hx : hasB l id = false) (ht : timeE now t = 0) (hf : 4096 ≤ l.length) :
    Calls Try.prog 26 #[.pointer (some ⟨p, 0, none⟩), .string id, .int .i64 t] w fun e w' => e = .returned (.int .i64 5) ∧ ∃ n, w' = w.drewN n := by
  obtain ⟨⟨m, S, h1, h2, h3⟩, a1, a2, a3, a4, a5, a6⟩ := h
  obtain ⟨es, he, hp⟩ := h1.names
  have hxs : id ∉ es.map Prod.fst := fun q => by
    have := hasB_iff.2 ((ids_iff hp h3 id).1 q)
    rw [hx] at this
    cases this
  have hlen : es.length = l.length := by
    have e1 := hp.length_eq
    have e2 := h3.length_eq
    simp at e1 e2
    omega
  have hl := lookO he hxs
  have hml := fun n => len_m (P := Try.prog) (w := w.drewN n) (he.move rfl) Try.underlying71 3
  have hf' : decide ((4096 : Int) ≤ (es.length : Int)) = true := by simp; omega
  have c0 := h1.head.c0
  have c456 := h1.head.map
  have HN := Aside0.mk hn
  have HT := Aside0.mk ht
  clear hn hx h1 h2 h3 hp hxs ht hlen hf
  go_enter Try.func26, Try.ntmps26
  go_wp2_with fail
  refine (isName_calls id _ hs).mono ?_
  rintro e w' ⟨rfl, n, rfl⟩
  rw [show decide (1 ≤ id.size ∧ id.size ≤ 64) = true from HN.out]
  go_wp2_with fail
  refine (ahead_calls (p := p) (now := now) t (w.drewN n) (show _ = _ from c0)).mono ?_
  rintro e w' ⟨rfl, n2, rfl⟩
  rw [HT.out]
  go_wp2_with fail
  go_ret
  exact ⟨rfl, n + n2, rfl⟩

def addL (now : Int) (l : List E) (id : ByteArray) (t : Int) : List E := if addE now l id t = 0 then putF (id, t) l else l
theorem add_calls (h : Whl w O p now l) (id : ByteArray) (t : Int) (hs : id.size < 4611686018427387904) :
    Calls Try.prog 26 #[.pointer (some ⟨p, 0, none⟩), .string id, .int .i64 t] w fun e w' => e = .returned (.int .i64 (addE now l id t)) ∧ After w O p now (addL now l id t) w' := by
  have same : ∀ (v : Int), v ≠ 0 → addE now l id t = v → Calls Try.prog 26 #[.pointer (some ⟨p, 0, none⟩), .string id, .int .i64 t] w (fun e w' => e = .returned (.int .i64 v) ∧ ∃ n, w' = w.drewN n) →
      Calls Try.prog 26 #[.pointer (some ⟨p, 0, none⟩), .string id, .int .i64 t] w fun e w' => e = .returned (.int .i64 (addE now l id t)) ∧ After w O p now (addL now l id t) w' := fun v hv e hc => by
    refine hc.mono ?_
    rintro e' w' ⟨rfl, n, rfl⟩
    unfold addL
    rw [e, if_neg hv]
    exact ⟨rfl, h.same n⟩
  by_cases hn : nameB id = true
  · by_cases hx : hasB l id = true
    · exact same 8 (by decide) (by unfold addE; rw [if_pos hn, if_pos hx]) (add_there h id t hs hn hx)
    · by_cases ht : timeE now t = 0
      · by_cases hf : 4096 ≤ l.length
        · exact same 5 (by decide) (by unfold addE; rw [if_pos hn, if_neg hx, if_pos ht, if_pos hf]) (add_full h id t hs hn (by simpa using hx) ht hf)
        · have e : addE now l id t = 0 := by unfold addE; rw [if_pos hn, if_neg hx, if_pos ht, if_neg hf]
          unfold addL
          rw [e, if_pos rfl]
          exact add_ok h id t hs hn (by simpa using hx) ht (by omega)
      · exact same _ ht (by unfold addE; rw [if_pos hn, if_neg hx, if_neg ht]) (add_late h id t hs hn (by simpa using hx) ht)
  · exact same 111 (by decide) (by unfold addE; rw [if_neg hn]) (add_name h id t hs (by simpa using hn))
end
end Go.Proofs.Ytaefbibkkkglnaa.Wh
/- Wheel: Change, Remove, At, Now, Len. No condition. -/
namespace Go.Proofs.Ytaefbibkkkglnaa.Wh
open Go Go.RowKit Go.Proofs.YtaefbibkkkglnaaW.PrintWords Go.Proofs.Ytaefbibkkkglnaa.Mp Go.Proofs.Ytaefbibkkkglnaa.Fr
set_option linter.unusedVariables false
set_option linter.unusedSimpArgs false
section
variable {w w' : World} {O : Nat → Prop} {p : Nat} {now : Int} {l : List E}

theorem cutF_perm {S : Slots} {t : Node} {xs : List Node} (hl : l.Perm ((t :: xs).map ent)) (hnd : (l.map Prod.fst).Nodup) : (cutF t.id l).Perm (xs.map ent) := by
  have h1 : (cutF t.id l).Perm (cutF t.id ((t :: xs).map ent)) := hl.filter _
  have h2 := (hl.map Prod.fst).nodup_iff.1 hnd
  have h3 : t.id ∉ (xs.map ent).map Prod.fst := (List.nodup_cons.1 (show (t.id :: (xs.map ent).map Prod.fst).Nodup from h2)).1
  refine h1.trans ?_
  show (List.filter _ (ent t :: xs.map ent)).Perm _
  rw [List.filter_cons_of_neg (by simp [ent]), List.filter_eq_self.2 (fun e he => by
    simp
    intro q
    exact h3 (List.mem_map.2 ⟨e, he, q⟩))]
theorem cutF_sorted (id : ByteArray) (h : Sorted l) : Sorted (cutF id l) := h.sublist List.filter_sublist
theorem cutF_mem {id : ByteArray} {e : E} : e ∈ cutF id l ↔ e ∈ l ∧ e.1 ≠ id := by
  unfold cutF
  simp [List.mem_filter]
theorem timeOf_eq {e : E} (hnd : (l.map Prod.fst).Nodup) (he : e ∈ l) : timeOf l e.1 = e.2 := by
  unfold timeOf
  induction l with
  | nil => simp at he
  | cons x l ih =>
    obtain ⟨h1, h2⟩ := List.nodup_cons.1 (show (x.1 :: l.map Prod.fst).Nodup from hnd)
    rcases List.mem_cons.1 he with rfl | he
    · simp
    · have hne : ¬ x.1 = e.1 := fun q => h1 (q ▸ List.mem_map.2 ⟨e, he, rfl⟩)
      rw [List.find?_cons_of_neg (by simpa using hne)]
      exact ih h2 he
/-- A name's timer: where it hangs. -/
theorem node_of {m : Nat} {S : Slots} (h2 : Good now S) (h3 : l.Perm ((nodes S).map ent)) {id : ByteArray} (hx : hasB l id = true) :
    ∃ (n : Node) (r : Nat) (xs ys : List Node), n.id = id ∧ r < 7 ∧ S r (dg r n.tm) = xs ++ n :: ys ∧ now < n.tm ∧ n.tm ≤ 1099511627776 ∧ n ∈ nodes S := by
  have := (h3.map Prod.fst).mem_iff.1 (hasB_iff.1 hx)
  rw [List.map_map] at this
  obtain ⟨n, hn, e⟩ := List.mem_map.1 this
  obtain ⟨r, k, hr, hk, hs⟩ := mem_nodes.1 hn
  obtain ⟨g1, g2, g3, g4⟩ := h2 r k hr hk n hs
  obtain ⟨xs, ys, hxy⟩ := List.append_of_mem hs
  exact ⟨n, r, xs, ys, e, hr, by rw [g4]; exact hxy, g1, g2, hn⟩

/-! ### Remove -/
theorem nil_remove (id : ByteArray) (w : World) : Calls Try.prog 22 #[.pointer none, .string id] w fun e w' => e = .returned (.int .i64 0) ∧ w = w' := by
  go_enter Try.func22, Try.ntmps22
  go_wp2
  go_ret
  exact ⟨rfl, rfl⟩
theorem remove_bad (a : Nat) (id : ByteArray) (v : Int) (w : World) (hv : (v != 0) = true) (hc : Calls Try.prog 40 #[.pointer (some ⟨a, 0, none⟩), .string id] w fun e w' => e = .returned (.tuple #[.pointer none, .int .i64 v]) ∧ ∃ n, w' = w.drewN n) :
    Calls Try.prog 22 #[.pointer (some ⟨a, 0, none⟩), .string id] w fun e w' => e = .returned (.int .i64 v) ∧ ∃ n, w' = w.drewN n := by
  have HC := Aside0.mk hc
  clear hc
  go_enter Try.func22, Try.ntmps22
  go_wp2_with fail
  refine (HC.out).mono ?_
  rintro e w' ⟨rfl, n, rfl⟩
  go_wp2_with fail
  go_ret
  exact ⟨rfl, n, rfl⟩
set_option maxRecDepth 100000 in
theorem remove_ok (h : Whl w O p now l) (id : ByteArray) (hs : id.size < 4611686018427387904) (hn : nameB id = true) (hx : hasB l id = true) :
    Calls Try.prog 22 #[.pointer (some ⟨p, 0, none⟩), .string id] w fun e w' => e = .returned (.int .i64 0) ∧ After w O p now (cutF id l) w' := by
  have hnd := h.nodup
  obtain ⟨⟨m, S, h1, h2, h3⟩, a1, a2, a3, a4, a5, a6⟩ := h
  obtain ⟨es, he, hp⟩ := h1.names
  obtain ⟨t, r, xs, ys, rfl, hr, hS, t1, t2, ht⟩ := node_of (m := m) h2 h3 hx
  have hf := find_in t.id t.b w hs hn h1.head.map he (ents_in hp ht)
  have hnl : (nodes S).length ≤ 4096 := by
    have := h3.length_eq
    simp at this
    omega
  have HU := Aside0.mk (fun n => unhang_calls (h1.drewN n) hr (by omega) t2 hS (by omega))
  have HF := Aside0.mk hf
  have HA := Aside0.mk (And.intro h1 (And.intro h2 (And.intro h3 (And.intro hS (And.intro hr hnd)))))
  clear hf hn hx h1 h2 h3 hp he hS hnd ht
  go_enter Try.func22, Try.ntmps22
  go_wp2_with fail
  refine (HF.out).mono ?_
  rintro e w' ⟨rfl, n, rfl⟩
  go_wp2_with fail
  refine (HU.out n).mono ?_
  rintro e w2 ⟨rfl, hR, hO⟩
  have c456 := hR.head.map
  obtain ⟨es, he, hp⟩ := hR.names
  have HR := Aside0.mk (And.intro hR (And.intro hO (And.intro he hp)))
  clear hR hO he hp HU HF
  go_wp2_with (first | (at_delete; refine wpList_del _ rfl _ _ 71 9 rfl Try.underlying71 Try.underlying9 rfl HR.out.2.2.1 t.id rfl ?_; intro w3 hm3 hg3 hz3) | fail)
  go_ret
  obtain ⟨hR, hO, he, hp⟩ := HR.out
  obtain ⟨h1, h2, h3, hS, hr, hnd⟩ := HA.out
  have hrep := hR.del he hp hm3 (fun b hb hbm => hg3.block b hb (fun e => hbm (by injection e)))
  have hout := nodes_out hr (show dg r _ < 64 from dig_lt _ _) hS
  have hl2 := cutF_perm (S := S) (h3.trans (hout.map ent).symm) hnd
  refine ⟨rfl, O, ⟨⟨m, _, hrep, good_out h2 hS, hl2⟩, a1, a2, cutF_sorted _ a3, fun e he => a4 e (cutF_mem.1 he).1, ?_, fun b hb => ?_⟩, fun b hb => .inl hb, ?_⟩
  · exact Nat.le_trans (List.length_filter_le _ _) a5
  · have := a6 b hb
    have := hO.size
    rw [hz3]
    exact Nat.lt_of_lt_of_le (a6 b hb) hO.size
  · have o1 : Only O w w2 := ((Only.refl O w).drewN n).trans hO
    exact o1.trans (Only.mono (Only.of_grown hg3) (fun b hb e => by injection e with e; rw [e]; exact h1.own.2.1))

/-! ### Change -/
theorem nil_change (id : ByteArray) (t : Int) (w : World) : Calls Try.prog 21 #[.pointer none, .string id, .int .i64 t] w fun e w' => e = .returned (.int .i64 0) ∧ w = w' := by
  go_enter Try.func21, Try.ntmps21
  go_wp2
  go_ret
  exact ⟨rfl, rfl⟩
theorem change_bad (a : Nat) (id : ByteArray) (t v : Int) (w : World) (hv : (v != 0) = true) (hc : Calls Try.prog 40 #[.pointer (some ⟨a, 0, none⟩), .string id] w fun e w' => e = .returned (.tuple #[.pointer none, .int .i64 v]) ∧ ∃ n, w' = w.drewN n) :
    Calls Try.prog 21 #[.pointer (some ⟨a, 0, none⟩), .string id, .int .i64 t] w fun e w' => e = .returned (.int .i64 v) ∧ ∃ n, w' = w.drewN n := by
  have HC := Aside0.mk hc
  clear hc
  go_enter Try.func21, Try.ntmps21
  go_wp2_with fail
  refine (HC.out).mono ?_
  rintro e w' ⟨rfl, n, rfl⟩
  go_wp2_with fail
  go_ret
  exact ⟨rfl, n, rfl⟩
theorem change_late (h : Whl w O p now l) (id : ByteArray) (t : Int) (hs : id.size < 4611686018427387904) (hn : nameB id = true) (hx : hasB l id = true) (ht : timeE now t ≠ 0) :
    Calls Try.prog 21 #[.pointer (some ⟨p, 0, none⟩), .string id, .int .i64 t] w fun e w' => e = .returned (.int .i64 (timeE now t)) ∧ ∃ n, w' = w.drewN n := by
  obtain ⟨⟨m, S, h1, h2, h3⟩, a1, a2, a3, a4, a5, a6⟩ := h
  obtain ⟨es, he, hp⟩ := h1.names
  obtain ⟨n, r, xs, ys, rfl, hr, hS, t1, t2, hnn⟩ := node_of (m := m) h2 h3 hx
  have HF := Aside0.mk (find_in n.id n.b w hs hn h1.head.map he (ents_in hp hnn))
  have c0 := h1.head.c0
  have hv : (timeE now t != 0) = true := by rw [bne_iff_ne]; exact ht
  have HA := Aside0.mk (fun n => ahead_calls (p := p) (now := now) t (w.drewN n) (show _ = _ from c0))
  generalize timeE now t = v at hv HA ⊢
  clear hn hx h1 h2 h3 hp he hnn hS ht
  go_enter Try.func21, Try.ntmps21
  go_wp2_with fail
  refine (HF.out).mono ?_
  rintro e w' ⟨rfl, n1, rfl⟩
  go_wp2_with fail
  refine (HA.out n1).mono ?_
  rintro e w' ⟨rfl, n2, rfl⟩
  go_wp2_with fail
  go_ret
  exact ⟨rfl, n1 + n2, rfl⟩
set_option maxRecDepth 100000 in
set_option maxHeartbeats 400000 in
theorem change_ok (h : Whl w O p now l) (id : ByteArray) (t : Int) (hs : id.size < 4611686018427387904) (hn : nameB id = true) (hx : hasB l id = true) (ht : timeE now t = 0) :
    Calls Try.prog 21 #[.pointer (some ⟨p, 0, none⟩), .string id, .int .i64 t] w fun e w' => e = .returned (.int .i64 0) ∧ After w O p now (putF (id, t) (cutF id l)) w' := by
  have hnd := h.nodup
  obtain ⟨⟨m, S, h1, h2, h3⟩, a1, a2, a3, a4, a5, a6⟩ := h
  obtain ⟨es, he, hp⟩ := h1.names
  obtain ⟨n, r, xs, ys, rfl, hr, hS, t1, t2, hnn⟩ := node_of (m := m) h2 h3 hx
  have HF := Aside0.mk (find_in n.id n.b w hs hn h1.head.map he (ents_in hp hnn))
  have c0 := h1.head.c0
  have HT := Aside0.mk ht
  have HA := Aside0.mk (fun n => ahead_calls (p := p) (now := now) t (w.drewN n) (show _ = _ from c0))
  have hnl : (nodes S).length ≤ 4096 := by
    have := h3.length_eq
    simp at this
    omega
  have HU := Aside0.mk (fun n => unhang_calls (h1.drewN n) hr (by omega) t2 hS (by omega))
  have htt : 0 ≤ t ∧ t ≤ 1099511627776 ∧ now < t := by
    unfold timeE at ht
    split at ht
    · split at ht
      · cases ht
      · exact ⟨by omega, by omega, by omega⟩
    · cases ht
  have hout := nodes_out hr (show dg r _ < 64 from dig_lt _ _) hS
  have hnl2 : (nodes (upd S r (dg r n.tm) (xs ++ ys))).length ≤ 4096 := by
    have := hout.length_eq
    simp at this
    omega
  have HB := Aside0.mk (And.intro h1 (And.intro h2 (And.intro h3 (And.intro hS (And.intro hr (And.intro hnd (And.intro hout hn)))))))
  clear hn hx h1 h2 h3 hp he hnn hS ht hnd hout
  go_enter Try.func21, Try.ntmps21
  go_wp2_with fail
  refine (HF.out).mono ?_
  rintro e w' ⟨rfl, n1, rfl⟩
  go_wp2_with fail
  refine (HA.out n1).mono ?_
  rintro e w' ⟨rfl, n2, rfl⟩
  rw [HT.out]
  go_wp2_with fail
  refine (HU.out (n1 + n2)).mono ?_
  rintro e w2 ⟨rfl, hR, hO⟩
  obtain ⟨r0, b0, b1, hc⟩ := hR.loose n (by simp)
  obtain ⟨_, k1, _, _, _, kf⟩ := hc.c
  have kf1 := kf 1
  have HR := Aside0.mk (And.intro hR hO)
  clear hR hO hc HU HF kf
  go_wp2_with fail
  refine (hang_calls (HR.out.1.retime t) htt.1 htt.2.1 a1 a2 (by omega)).mono ?_
  rintro e w3 ⟨rfl, hR3, hO3⟩
  have HR3 := Aside0.mk (And.intro hR3 hO3)
  clear hR3 hO3
  go_wp2_with fail
  go_ret
  obtain ⟨hR, hO⟩ := HR.out
  obtain ⟨hR3, hO3⟩ := HR3.out
  obtain ⟨h1, h2, h3, hS, hr, hnd, hout, hn⟩ := HB.out
  have hl2 := cutF_perm (S := S) (h3.trans (hout.map ent).symm) hnd
  refine ⟨rfl, O, ⟨⟨m, _, hR3, good_in (t := { n with tm := t }) (good_out h2 hS) htt.2.2 htt.2.1, ?_⟩, a1, a2, putF_sorted (cutF_sorted _ a3) (fun f hf e => ?_), fun e he => ?_, ?_, fun b hb => ?_⟩, fun b hb => .inl hb, ?_⟩
  · refine (putF_perm _ _).trans ?_
    refine List.Perm.trans ?_ ((nodes_in (ring_lt (by omega) (by omega)) (dig_lt _ _)).map ent).symm
    exact hl2.cons _
  · have := (cutF_mem.1 hf).2
    rw [e] at this
    exact this rfl
  · rcases List.mem_cons.1 ((putF_perm _ _).mem_iff.1 he) with rfl | he
    · unfold nameB at hn
      simpa using hn
    · exact a4 e (cutF_mem.1 he).1
  · have e1 := (putF_perm (n.id, t) (cutF n.id l)).length_eq
    have e2 := hl2.length_eq
    have e3 := hout.length_eq
    have e4 := h3.length_eq
    simp at e1 e2 e3 e4
    simp
    omega
  · have s1 := hO.size
    have s2 := hO3.size
    rw [World.size_setCell] at s2
    exact Nat.lt_of_lt_of_le (a6 b hb) (Nat.le_trans s1 s2)
  · have ob : O n.b := hR.own.2.2 n (by simp)
    exact ((((Only.refl O w).drewN (n1 + n2)).trans hO).set (fun _ => ob) _).trans hO3

/-! ### At -/
theorem nil_at (id : ByteArray) (w : World) : Calls Try.prog 23 #[.pointer none, .string id] w fun e w' => e = .returned (.tuple #[.int .i64 0, .int .i64 0]) ∧ w = w' := by
  go_enter Try.func23, Try.ntmps23
  go_wp2
  go_ret2
  exact ⟨rfl, rfl⟩
theorem at_bad (a : Nat) (id : ByteArray) (v : Int) (w : World) (hv : (v != 0) = true) (hc : Calls Try.prog 40 #[.pointer (some ⟨a, 0, none⟩), .string id] w fun e w' => e = .returned (.tuple #[.pointer none, .int .i64 v]) ∧ ∃ n, w' = w.drewN n) :
    Calls Try.prog 23 #[.pointer (some ⟨a, 0, none⟩), .string id] w fun e w' => e = .returned (.tuple #[.int .i64 0, .int .i64 v]) ∧ ∃ n, w' = w.drewN n := by
  have HC := Aside0.mk hc
  clear hc
  go_enter Try.func23, Try.ntmps23
  go_wp2_with fail
  refine (HC.out).mono ?_
  rintro e w' ⟨rfl, n, rfl⟩
  go_wp2_with fail
  go_ret2
  exact ⟨rfl, n, rfl⟩
theorem at_ok (h : Whl w O p now l) (id : ByteArray) (hs : id.size < 4611686018427387904) (hn : nameB id = true) (hx : hasB l id = true) :
    Calls Try.prog 23 #[.pointer (some ⟨p, 0, none⟩), .string id] w fun e w' => e = .returned (.tuple #[.int .i64 (timeOf l id), .int .i64 0]) ∧ ∃ n, w' = w.drewN n := by
  have hnd := h.nodup
  obtain ⟨⟨m, S, h1, h2, h3⟩, a1, a2, a3, a4, a5, a6⟩ := h
  obtain ⟨es, he, hp⟩ := h1.names
  obtain ⟨n, r, xs, ys, rfl, hr, hS, t1, t2, hnn⟩ := node_of (m := m) h2 h3 hx
  have HF := Aside0.mk (find_in n.id n.b w hs hn h1.head.map he (ents_in hp hnn))
  have htm : timeOf l n.id = n.tm := timeOf_eq (e := ent n) hnd (h3.mem_iff.2 (List.mem_map.2 ⟨n, hnn, rfl⟩))
  rw [htm]
  obtain ⟨r0, b0, b1, hc⟩ := h1.tm (n := n) (by simpa using hnn)
  obtain ⟨_, k1, _, _, _, kf⟩ := hc.c
  clear hn hx h1 h2 h3 hp he hnn hS hnd htm hc kf
  go_enter Try.func23, Try.ntmps23
  go_wp2_with fail
  refine (HF.out).mono ?_
  rintro e w' ⟨rfl, n1, rfl⟩
  go_wp2_with fail
  go_ret2
  exact ⟨rfl, n1, rfl⟩

/-! ### Now, Len -/
theorem nil_now (w : World) : Calls Try.prog 18 #[.pointer none] w fun e w' => e = .returned (.int .i64 0) ∧ w = w' := by
  go_enter Try.func18, Try.ntmps18
  go_wp2
  go_ret
  exact ⟨rfl, rfl⟩
theorem now_calls (h : Whl w O p now l) : Calls Try.prog 18 #[.pointer (some ⟨p, 0, none⟩)] w fun e w' => e = .returned (.int .i64 now) ∧ w = w' := by
  have c0 := h.c0
  clear h
  go_enter Try.func18, Try.ntmps18
  go_wp2
  go_ret
  exact ⟨rfl, rfl⟩
theorem nil_len (w : World) : Calls Try.prog 13 #[.pointer none] w fun e w' => e = .returned (.int .i64 0) ∧ w = w' := by
  go_enter Try.func13, Try.ntmps13
  go_wp2
  go_ret
  exact ⟨rfl, rfl⟩
theorem len_calls (h : Whl w O p now l) : Calls Try.prog 13 #[.pointer (some ⟨p, 0, none⟩)] w fun e w' => e = .returned (.int .i64 l.length) ∧ w = w' := by
  obtain ⟨⟨m, S, h1, h2, h3⟩, a1, a2, a3, a4, a5, a6⟩ := h
  obtain ⟨es, he, hp⟩ := h1.names
  have hlen : l.length = es.length := by
    have e1 := hp.length_eq
    have e2 := h3.length_eq
    simp at e1 e2
    omega
  rw [hlen]
  have hml := len_m (P := Try.prog) he Try.underlying71 3
  have c456 := h1.head.map
  clear h1 h2 h3 hp he hlen
  go_enter Try.func13, Try.ntmps13
  go_wp2
  go_ret
  exact ⟨rfl, rfl⟩
end
end Go.Proofs.Ytaefbibkkkglnaa.Wh
/- Wheel: Next. No condition. -/
namespace Go.Proofs.Ytaefbibkkkglnaa.Wh
open Go Go.RowKit Go.Proofs.YtaefbibkkkglnaaW.PrintWords Go.Proofs.Ytaefbibkkkglnaa.Mp Go.Proofs.Ytaefbibkkkglnaa.Fr
set_option linter.unusedVariables false
set_option linter.unusedSimpArgs false
section
variable {w w' : World} {O : Nat → Prop} {p : Nat} {now : Int} {l : List E} {S : Slots} {m : Nat}

def minL (b : Int) : List Node → Int
  | [] => b
  | n :: ns => minL (min b n.tm) ns
theorem minL_le : ∀ (ns : List Node) (b : Int), minL b ns ≤ b ∧ (∀ n ∈ ns, minL b ns ≤ n.tm) ∧ (minL b ns = b ∨ ∃ n ∈ ns, n.tm = minL b ns)
  | [], b => ⟨Int.le_refl _, fun n hn => by simp at hn, .inl rfl⟩
  | n :: ns, b => by
    obtain ⟨h1, h2, h3⟩ := minL_le ns (min b n.tm)
    show minL (min b n.tm) ns ≤ b ∧ _
    refine ⟨by omega, fun q hq => ?_, ?_⟩
    · rcases List.mem_cons.1 hq with rfl | hq
      · show minL (min b q.tm) ns ≤ q.tm; omega
      · exact h2 q hq
    · rcases h3 with h3 | ⟨q, hq, h3⟩
      · by_cases h : b ≤ n.tm
        · exact .inl (by show minL (min b n.tm) ns = b; omega)
        · exact .inr ⟨n, by simp, by show n.tm = minL (min b n.tm) ns; omega⟩
      · exact .inr ⟨q, by simp [hq], h3⟩

def headT (l : List E) : Int := match l with | [] => 0 | e :: _ => e.2
/-- The least time of those of the first slot of the first ring is the least of all. -/
theorem first_min {r0 k0 : Nat} {y : Node} {ys : List Node} (hg : Good now S) (h0 : 0 ≤ now) (hr : r0 < 7) (hk : k0 < 64) (hS : S r0 k0 = y :: ys) (hrs : ∀ r, r < r0 → cnt S r = 0) (hks : ∀ k, k < k0 → S r0 k = []) (hl : l.Perm ((nodes S).map ent)) (hs : Sorted l) : headT l = minL y.tm ys := by
  obtain ⟨m1, m2, m3⟩ := minL_le ys y.tm
  have hin : ∃ n ∈ S r0 k0, n.tm = minL y.tm ys := by
    rw [hS]
    rcases m3 with h | ⟨n, hn, h⟩
    · exact ⟨y, by simp, h.symm⟩
    · exact ⟨n, by simp [hn], h⟩
  have hall : ∀ n ∈ nodes S, minL y.tm ys ≤ n.tm := fun n hn => by
    obtain ⟨q, hq, hqm⟩ := hin
    obtain ⟨r, k, hr', hk', hn'⟩ := mem_nodes.1 hn
    obtain ⟨g1, g2, g3, g4⟩ := hg r k hr' hk' n hn'
    obtain ⟨q1, q2, q3, q4⟩ := hg r0 k0 hr hk q hq
    rcases Nat.lt_trichotomy r0 r with h | h | h
    · have := first_ring (now := now.toNat) (a := q.tm.toNat) (b := n.tm.toNat) (by omega) (by omega) (by unfold rg at g3 q3; omega)
      omega
    · subst h
      rcases Nat.lt_trichotomy k0 k with h | h | h
      · have := first_dig (now := now.toNat) (a := q.tm.toNat) (b := n.tm.toNat) (r := r0) q3 g3 (by unfold dg at g4 q4; omega)
        omega
      · subst h
        rw [hS] at hn'
        rcases List.mem_cons.1 hn' with rfl | h
        · exact m1
        · exact m2 n h
      · rw [hks k h] at hn'
        simp at hn'
    · rw [cnt_zero (hrs r h) k hk'] at hn'
      simp at hn'
  obtain ⟨q, hq, hqm⟩ := hin
  have hql : ent q ∈ l := hl.mem_iff.2 (List.mem_map.2 ⟨q, mem_nodes.2 ⟨r0, k0, hr, hk, hq⟩, rfl⟩)
  cases l with
  | nil => simp at hql
  | cons e l =>
    show e.2 = _
    obtain ⟨n, hn, hne⟩ := List.mem_map.1 (hl.mem_iff.1 (show e ∈ e :: l by simp))
    have h1 := hall n hn
    have h2 : e.2 = n.tm := by rw [← hne]; rfl
    have h3 : e.2 ≤ q.tm := by
      rcases List.mem_cons.1 hql with h | h
      · rw [← h]; exact Int.le_refl _
      · have := (List.pairwise_cons.1 hs).1 _ h
        simp only [lt, Bool.or_eq_true, decide_eq_true_eq, Bool.and_eq_true, beq_iff_eq] at this
        have e1 : (ent q).2 = q.tm := rfl
        omega
    omega

theorem nil_next (w : World) : Calls Try.prog 24 #[.pointer none] w fun e w' => e = .returned (.tuple #[.int .i64 0, .bool false]) ∧ w = w' := by
  go_enter Try.func24, Try.ntmps24
  go_wp2
  go_ret2
  exact ⟨rfl, rfl⟩

theorem next_none (hh : Head w p m now S) (hc : ∀ r, r < 7 → cnt S r = 0) :
    Calls Try.prog 24 #[.pointer (some ⟨p, 0, none⟩)] w fun e w' => e = .returned (.tuple #[.int .i64 0, .bool false]) ∧ w = w' := by
  have HC := Aside0.mk (show ∀ r, r < 7 → w.cell? ⟨p, 449 + r, none⟩ = some (.int .i64 0) from fun r hr => by
    rw [hh.count hr, hc r hr]; rfl)
  clear hh hc
  go_enter Try.func24, Try.ntmps24
  go_wp2_with fail
  go_loopg [4, 11] 7 (fun g v4 v11 wx => w = wx ∧ ∃ r : Nat, r ≤ 7 ∧ g = 7 - r ∧ v11 = .int .i64 r)
  case atStart => exact ⟨rfl, 0, by omega, rfl, rfl⟩
  case round =>
    obtain ⟨rfl, r, hr, rfl, rfl⟩ := hrel
    by_cases h : r < 7
    · have c1 := HC.out r h
      have i0 : (0 : Int) ≤ (r : Int) := by omega
      have i1 : (r : Int) < 7 := by omega
      go_wp2_with fail
      go_roundg (7 - (r + 1))
      case measure => omega
      case rel => exact ⟨rfl, r + 1, by omega, rfl, by go_num⟩
    · obtain rfl : r = 7 := by omega
      go_wp2_with fail
      go_ret2
      exact ⟨rfl, rfl⟩

set_option maxHeartbeats 1000000 in
theorem next_some {r0 k0 : Nat} {y : Node} {ys : List Node} (hh : Head w p m now S) (hseg : Seg w r0 none (S r0 k0) none) (hr : r0 < 7) (hk : k0 < 64) (hS : S r0 k0 = y :: ys) (hrs : ∀ r, r < r0 → cnt S r = 0) (hr0 : cnt S r0 ≠ 0) (hc : cnt S r0 ≤ 1000000) (hks : ∀ k, k < k0 → S r0 k = []) :
    Calls Try.prog 24 #[.pointer (some ⟨p, 0, none⟩)] w fun e w' => e = .returned (.tuple #[.int .i64 (minL y.tm ys), .bool true]) ∧ w = w' := by
  have HC := Aside0.mk (show ∀ r, r < r0 → w.cell? ⟨p, 449 + r, none⟩ = some (.int .i64 0) from fun r h => by
    rw [hh.count (by omega), hrs r h]; rfl)
  have HD := Aside0.mk (hh.count hr)
  have HK := Aside0.mk (show ∀ k, k < k0 → w.cell? ⟨p, 1 + r0 * 64 + k, none⟩ = some (.pointer none) from fun k h => by
    rw [show 1 + r0 * 64 + k = 1 + 64 * r0 + k from by omega, hh.slot hr (by omega), hks k h]; rfl)
  have HE := Aside0.mk (show w.cell? ⟨p, 1 + r0 * 64 + k0, none⟩ = some (.pointer (some ⟨y.b, 0, none⟩)) from by
    rw [show 1 + r0 * 64 + k0 = 1 + 64 * r0 + k0 from by omega, hh.slot hr hk, hS]; rfl)
  rw [hS] at hseg
  obtain ⟨hy, hys⟩ := hseg
  obtain ⟨_, y1, _, _, y4, _⟩ := hy.c
  have HY := Aside0.mk hys
  have hn0 : ((cnt S r0 : Int) == 0) = false := beq_eq_false_iff_ne.2 (by omega)
  clear hh hrs hks hS hy hys hr0
  generalize cnt S r0 = c at *
  go_enter Try.func24, Try.ntmps24
  go_wp2_with fail
  go_loopg [4, 11] 7 (fun g v4 v11 wx => w = wx ∧ ∃ r : Nat, r ≤ r0 ∧ g = 7 - r ∧ v11 = .int .i64 r)
  case atStart => exact ⟨rfl, 0, by omega, rfl, rfl⟩
  case round =>
    obtain ⟨rfl, r, hr', rfl, rfl⟩ := hrel
    have i0 : (0 : Int) ≤ (r : Int) := by omega
    have i1 : (r : Int) < 7 := by omega
    by_cases h : r < r0
    · have c1 := HC.out r h
      go_wp2_with fail
      go_roundg (7 - (r + 1))
      case measure => omega
      case rel => exact ⟨rfl, r + 1, by omega, rfl, by go_num⟩
    · obtain rfl : r = r0 := by omega
      have c1 := HD.out
      go_wp2_with fail
      go_loopg [5, 21] 64 (fun g v5 v21 wx => w = wx ∧ ∃ k : Nat, k ≤ k0 ∧ g = 64 - k ∧ v21 = .int .i64 k)
      case atStart => exact ⟨rfl, 0, by omega, rfl, rfl⟩
      case round =>
        obtain ⟨rfl, k, hk', rfl, rfl⟩ := hrel
        have j0 : (0 : Int) ≤ (k : Int) := by omega
        have j1 : (k : Int) < 64 := by omega
        by_cases h2 : k < k0
        · have c2 := HK.out k h2
          go_wp2_with fail
          go_roundg (64 - (k + 1))
          case measure => omega
          case rel => exact ⟨rfl, k + 1, by omega, rfl, by go_num⟩
        · obtain rfl : k = k0 := by omega
          have c2 := HE.out
          obtain ⟨x4, e4⟩ : ∃ x4, hd none ys = x4 := ⟨_, rfl⟩
          have y4' : w.cell? ⟨y.b, 4, none⟩ = some (.pointer (x4.map fun b => ⟨b, 0, none⟩)) := by rw [← e4]; exact y4
          have E4 := Aside0.mk e4
          clear y4 e4
          generalize hx5 : (x4.map fun b => (⟨b, 0, none⟩ : Addr)) = x5 at y4'
          have E5 := Aside0.mk hx5
          clear hx5
          have HM := Aside0.mk (rfl : minL y.tm ys = minL y.tm ys)
          generalize hM : minL y.tm ys = M at HM ⊢
          clear HM
          have HM := Aside0.mk hM
          clear hM
          go_wp2_with fail
          go_loopg [7, 8] ys.length (fun g v7 v8 wx => w = wx ∧ ∃ (cur : Int) (rest : List Node) (pv : Option Nat), g = rest.length ∧ v7 = .int .i64 cur ∧ v8 = ptr (hd none rest) ∧ Aside0 (Seg w r pv rest none) ∧ Aside0 (minL cur rest = M))
          case atStart => exact ⟨rfl, y.tm, ys, some y.b, rfl, rfl, by rw [E4.out, ← E5.out]; rfl, HY, HM⟩
          case round =>
            obtain ⟨rfl, cur, rest, pv, rfl, rfl, e8, HS, HC2⟩ := hrel
            cases rest with
            | nil =>
              obtain rfl : _ = Value.pointer none := e8
              have HM2 := Aside0.mk (show cur = M from HC2.out)
              go_wp2_with fail
              go_ret2
              exact ⟨by show Ending.returned (.tuple #[.int .i64 cur, .bool true]) = _; rw [HM2.out, ← HM.out], rfl⟩
            | cons z zs =>
              obtain rfl : _ = Value.pointer (some ⟨z.b, 0, none⟩) := e8
              obtain ⟨hz, hzs⟩ := HS.out
              obtain ⟨_, z1, _, _, z4, _⟩ := hz.c
              have HZ := Aside0.mk hzs
              clear hz hzs
              obtain ⟨x6, e6⟩ : ∃ x6, ptr (hd none zs) = .pointer x6 := ⟨_, rfl⟩
              rw [e6] at z4
              have E6 := Aside0.mk e6
              clear e6
              go_wp2_with fail
              all_goals
                go_roundg zs.length
                case measure => simp
                case rel => exact ⟨rfl, _, zs, some z.b, rfl, rfl, E6.out.symm, HZ, ⟨by rw [← HC2.out]; show minL _ zs = minL (min cur z.tm) zs; congr 1 <;> omega⟩⟩

theorem least_such (P : Nat → Prop) [DecidablePred P] : ∀ n, (∃ i, i < n ∧ P i) → ∃ i, i < n ∧ P i ∧ ∀ j, j < i → ¬ P j
  | 0, ⟨i, hi, _⟩ => absurd hi (Nat.not_lt_zero _)
  | n + 1, ⟨i, hi, hp⟩ => by
    by_cases h : ∃ j, j < n ∧ P j
    · obtain ⟨j, hj, hpj, hl⟩ := least_such P n h
      exact ⟨j, by omega, hpj, hl⟩
    · have : i = n := by
        rcases Nat.lt_or_ge i n with h1 | h1
        · exact absurd ⟨i, h1, hp⟩ h
        · omega
      subst this
      exact ⟨i, by omega, hp, fun j hj hpj => h ⟨j, hj, hpj⟩⟩
theorem next_calls (h : Whl w O p now l) : Calls Try.prog 24 #[.pointer (some ⟨p, 0, none⟩)] w fun e w' => e = .returned (.tuple #[.int .i64 (headT l), .bool (decide (0 < l.length))]) ∧ w = w' := by
  obtain ⟨⟨m, S, h1, h2, h3⟩, a1, a2, a3, a4, a5, a6⟩ := h
  have hll := h3.length_eq
  simp at hll
  by_cases h0 : ∃ r, r < 7 ∧ cnt S r ≠ 0
  · obtain ⟨r0, hr, hc, hrs⟩ := least_such (fun r => cnt S r ≠ 0) 7 h0
    have h0k : ∃ k, k < 64 ∧ (S r0 k).length ≠ 0 := by
      refine Classical.byContradiction fun hk => hc ?_
      have : row (S r0) = [] := by
        unfold row
        rw [List.flatMap_eq_nil_iff]
        intro k hk'
        refine Classical.byContradiction fun hne => hk ⟨k, by simpa using hk', fun e => hne (List.eq_nil_of_length_eq_zero e)⟩
      unfold cnt
      rw [this]
      rfl
    obtain ⟨k0, hk, hne, hks⟩ := least_such (fun k => (S r0 k).length ≠ 0) 64 h0k
    cases hS : S r0 k0 with
    | nil => rw [hS] at hne; simp at hne
    | cons y ys =>
      have e1 := first_min (l := l) h2 a1 hr hk hS (fun r hr' => by have := hrs r hr'; omega) (fun k hk' => List.eq_nil_of_length_eq_zero (by have := hks k hk'; omega)) h3 a3
      have e2 : 0 < l.length := by
        have := cnt_le (S := S) hr
        omega
      rw [e1, decide_eq_true e2]
      have := cnt_le (S := S) hr
      exact next_some h1.head (h1.seg r0 k0 hr hk) hr hk hS (fun r hr' => by have := hrs r hr'; omega) hc (by omega) (fun k hk' => List.eq_nil_of_length_eq_zero (by have := hks k hk'; omega))
  · have hall : ∀ r, r < 7 → cnt S r = 0 := fun r hr => Classical.byContradiction fun hne => h0 ⟨r, hr, hne⟩
    have hl0 : l = [] := by
      have : nodes S = [] := by
        unfold nodes
        rw [List.flatMap_eq_nil_iff]
        intro r hr
        exact List.eq_nil_of_length_eq_zero (hall r (by simpa using hr))
      rw [this] at hll
      exact List.eq_nil_of_length_eq_zero (by simpa using hll)
    subst hl0
    exact next_none h1.head hall
end
end Go.Proofs.Ytaefbibkkkglnaa.Wh
/- Wheel: Spread. No condition. -/
namespace Go.Proofs.Ytaefbibkkkglnaa.Wh
open Go Go.RowKit Go.Proofs.YtaefbibkkkglnaaW.PrintWords Go.Proofs.Ytaefbibkkkglnaa.Mp Go.Proofs.Ytaefbibkkkglnaa.Fr
set_option linter.unusedVariables false
set_option linter.unusedSimpArgs false
section
variable {w w' : World} {O : Nat → Prop} {p : Nat} {now : Int} {l : List E} {S : Slots} {m : Nat}
def spr (now : Int) (l : List E) (r : Nat) : Nat := (l.filter fun e => decide (rg e.2 now = r)).length
def sprV (c : Nat → Nat) : Value := .agg #[.int .i64 (c 0), .int .i64 (c 1), .int .i64 (c 2), .int .i64 (c 3), .int .i64 (c 4), .int .i64 (c 5), .int .i64 (c 6)]
theorem filter_row {r : Nat} (hg : Good now S) : ∀ n, n ≤ 7 → (((List.range n).flatMap fun r' => row (S r')).filter fun q => decide (rg q.tm now = r)) = if r < n then row (S r) else []
  | 0, _ => rfl
  | n + 1, hn => by
    rw [List.range_succ, List.flatMap_append, List.filter_append, filter_row hg n (by omega)]
    simp only [List.flatMap_cons, List.flatMap_nil, List.append_nil]
    by_cases e : r = n
    · subst e
      rw [if_neg (by omega), if_pos (by omega), List.nil_append, List.filter_eq_self.2]
      intro q hq
      obtain ⟨k, hk, hqk⟩ := mem_row.1 hq
      simpa using (hg r k (by omega) hk q hqk).2.2.1
    · have : (row (S n)).filter (fun q => decide (rg q.tm now = r)) = [] := by
        rw [List.filter_eq_nil_iff]
        intro q hq
        obtain ⟨k, hk, hqk⟩ := mem_row.1 hq
        have := (hg n k (by omega) hk q hqk).2.2.1
        simp
        omega
      rw [this, List.append_nil]
      by_cases h : r < n
      · rw [if_pos h, if_pos (by omega)]
      · rw [if_neg h, if_neg (by omega)]
theorem cnt_spr (hg : Good now S) (hl : l.Perm ((nodes S).map ent)) {r : Nat} (hr : r < 7) : cnt S r = spr now l r := by
  unfold spr
  have h1 := (hl.filter (fun e => decide (rg e.2 now = r))).length_eq
  rw [h1, List.filter_map, List.length_map]
  have h2 := filter_row (r := r) hg 7 (Nat.le_refl _)
  rw [if_pos hr] at h2
  show (row (S r)).length = _
  rw [← h2]
  rfl
theorem nil_spread (w : World) : Calls Try.prog 17 #[.pointer none] w fun e w' => e = .returned (sprV fun _ => 0) ∧ Below w.heap.size w w' := by
  go_enter Try.func17, Try.ntmps17
  go_wp2
  refine bodyPost_ret (v := sprV fun _ => 0) (by simp [results, Try.results17, go_sem, sprV]) rfl ⟨rfl, ?_⟩
  exact below_alloc (Below.refl _ _) _
theorem spread_calls (h : Whl w O p now l) : Calls Try.prog 17 #[.pointer (some ⟨p, 0, none⟩)] w fun e w' => e = .returned (sprV (spr now l)) ∧ Below w.heap.size w w' := by
  obtain ⟨⟨m, S, h1, h2, h3⟩, a1, a2, a3, a4, a5, a6⟩ := h
  have hk : ∀ r, r < 7 → w.cell? ⟨p, 449 + r, none⟩ = some (.int .i64 (spr now l r)) := fun r hr => by rw [h1.head.count hr, cnt_spr h2 h3 hr]
  have k0 := hk 0 (by omega)
  have k1 := hk 1 (by omega)
  have k2 := hk 2 (by omega)
  have k3 := hk 3 (by omega)
  have k4 := hk 4 (by omega)
  have k5 := hk 5 (by omega)
  have k6 := hk 6 (by omega)
  have hlt := h1.head.lt
  have hne : w.heap.size ≠ p := by omega
  clear hk h1 h2 h3
  unfold sprV
  generalize spr now l 0 = c0 at *
  generalize spr now l 1 = c1 at *
  generalize spr now l 2 = c2 at *
  generalize spr now l 3 = c3 at *
  generalize spr now l 4 = c4 at *
  generalize spr now l 5 = c5 at *
  generalize spr now l 6 = c6 at *
  go_enter Try.func17, Try.ntmps17
  go_wp2
  refine bodyPost_ret (v := .agg #[.int .i64 c0, .int .i64 c1, .int .i64 c2, .int .i64 c3, .int .i64 c4, .int .i64 c5, .int .i64 c6]) (by simp [results, Try.results17, go_sem]) rfl ⟨rfl, ?_⟩
  exact below_alloc (Below.refl _ _) _
end
end Go.Proofs.Ytaefbibkkkglnaa.Wh
/- Strings by '<=', '>' and '>=' for the walk, in the print's spelling. No condition. -/
namespace Go.Proofs.Ytaefbibkkkglnaa.Str
open Go

theorem less_flip : ∀ a b : List UInt8, Op.bytesLess b a = !(Op.bytesLess a b || a == b)
  | [], [] => by simp [Op.bytesLess]
  | [], _ :: _ => by simp [Op.bytesLess]
  | _ :: _, [] => by simp [Op.bytesLess]
  | x :: a, y :: b => by
    have ih := less_flip a b
    simp only [Op.bytesLess, List.cons_beq_cons]
    rw [ih]
    by_cases h1 : x < y
    · have h2 : ¬ y < x := by
        have a1 := UInt8.lt_iff_toNat_lt.1 h1
        intro h
        have a2 := UInt8.lt_iff_toNat_lt.1 h
        omega
      have h3 : (y == x) = false := by
        rw [beq_eq_false_iff_ne]
        intro h
        subst h
        exact h2 h1
      simp [h1, h2, h3]
    · by_cases h2 : y < x
      · have h3 : (x == y) = false := by
          rw [beq_eq_false_iff_ne]
          intro h
          subst h
          exact h1 h2
        simp [h1, h2, h3]
      · have h3 : x = y := by
          apply UInt8.toNat_inj.1
          have a1 := mt UInt8.lt_iff_toNat_lt.2 h1
          have a2 := mt UInt8.lt_iff_toNat_lt.2 h2
          omega
        subst h3
        simp

@[go_sem] theorem leq (t : TypeId) (a b : ByteArray) : binOp .leq t (.string a) (.string b) = pure (.bool (!(Op.bytesLess b.toList a.toList))) := by
  rw [less_flip a.toList b.toList, Bool.not_not]
  simp [binOp, Op.stringOp]
@[go_sem] theorem gtr (t : TypeId) (a b : ByteArray) : binOp .gtr t (.string a) (.string b) = pure (.bool (Op.bytesLess b.toList a.toList)) := by
  rw [less_flip a.toList b.toList]
  simp [binOp, Op.stringOp]
@[go_sem] theorem geq (t : TypeId) (a b : ByteArray) : binOp .geq t (.string a) (.string b) = pure (.bool (!(Op.bytesLess a.toList b.toList))) := by simp [binOp, Op.stringOp]

end Go.Proofs.Ytaefbibkkkglnaa.Str
/- Wheel: order, and the sort of timers. No condition. -/
namespace Go.Proofs.Ytaefbibkkkglnaa.Wh
open Go Go.RowKit Go.Lib Go.Sort Go.Shelf Go.Proofs.YtaefbibkkkglnaaW.PrintWords Go.Proofs.Ytaefbibkkkglnaa.Mp Go.Proofs.Ytaefbibkkkglnaa.Fr
set_option linter.unusedVariables false
set_option linter.unusedSimpArgs false

def cmpS (a b : ByteArray) : Int := if Op.bytesLess a.toList b.toList = true then -1 else if Op.bytesLess b.toList a.toList = true then 1 else 0
def cmpI (a b : Int) : Int := if a < b then -1 else if b < a then 1 else 0
def ordF (e f : E) : Int := if e.2 = f.2 then cmpS e.1 f.1 else cmpI e.2 f.2
theorem ord_lt (e f : E) : decide (ordF e f < 0) = lt e f := by
  unfold ordF lt
  by_cases h : e.2 = f.2
  · rw [if_pos h]
    unfold cmpS
    by_cases h1 : Op.bytesLess e.1.toList f.1.toList = true
    · simp [h1, h]
    · by_cases h2 : Op.bytesLess f.1.toList e.1.toList = true <;> simp [h1, h2, h]
  · rw [if_neg h]
    unfold cmpI
    by_cases h1 : e.2 < f.2
    · simp [h1]
    · by_cases h2 : f.2 < e.2 <;> simp [h1, h2, h]

theorem isNaN_i (x : Int) (w : World) : Calls Try.prog 58 #[.int .i64 x] w fun e w' => e = .returned (.bool false) ∧ w = w' := by
  go_enter Try.func58, Try.ntmps58
  go_wp2
  go_ret
  exact ⟨by simp, rfl⟩
theorem isNaN_s (x : ByteArray) (w : World) : Calls Try.prog 59 #[.string x] w fun e w' => e = .returned (.bool false) ∧ w = w' := by
  go_enter Try.func59, Try.ntmps59
  go_wp2
  go_ret
  exact ⟨by simp, rfl⟩
theorem compare_i (x y : Int) (w : World) : Calls Try.prog 37 #[.int .i64 x, .int .i64 y] w fun e w' => e = .returned (.int .i64 (cmpI x y)) ∧ w = w' := by
  unfold cmpI
  rcases Int.lt_trichotomy x y with h | h | h
  · have d1 : decide (x < y) = true := by simpa using h
    rw [if_pos h]
    go_enter Try.func37, Try.ntmps37
    go_wp2_with (go_at_call 58; refine (isNaN_i _ _).mono ?_; rintro e w' ⟨rfl, rfl⟩)
    go_ret
    exact ⟨rfl, rfl⟩
  · have d1 : decide (x < y) = false := by simp; omega
    have d2 : decide (y < x) = false := by simp; omega
    rw [if_neg (by omega), if_neg (by omega)]
    clear h
    go_enter Try.func37, Try.ntmps37
    go_wp2_with (go_at_call 58; refine (isNaN_i _ _).mono ?_; rintro e w' ⟨rfl, rfl⟩)
    go_ret
    exact ⟨rfl, rfl⟩
  · have d1 : decide (x < y) = false := by simp; omega
    have d2 : decide (y < x) = true := by simpa using h
    rw [if_neg (by omega), if_pos h]
    go_enter Try.func37, Try.ntmps37
    go_wp2_with (go_at_call 58; refine (isNaN_i _ _).mono ?_; rintro e w' ⟨rfl, rfl⟩)
    go_ret
    exact ⟨rfl, rfl⟩
theorem compare_s (x y : ByteArray) (w : World) : Calls Try.prog 38 #[.string x, .string y] w fun e w' => e = .returned (.int .i64 (cmpS x y)) ∧ w = w' := by
  unfold cmpS
  by_cases h1 : Op.bytesLess x.toList y.toList = true
  · rw [if_pos h1]
    go_enter Try.func38, Try.ntmps38
    go_wp2_with (go_at_call 59; refine (isNaN_s _ _).mono ?_; rintro e w' ⟨rfl, rfl⟩)
    go_ret
    exact ⟨rfl, rfl⟩
  · rw [if_neg h1]
    have g1 : Op.bytesLess x.toList y.toList = false := by simpa using h1
    clear h1
    by_cases h2 : Op.bytesLess y.toList x.toList = true
    · rw [if_pos h2]
      have h3 : (x.toList == y.toList) = false := by
        rw [beq_eq_false_iff_ne]
        intro e
        rw [e, bl_irrefl] at h2
        cases h2
      go_enter Try.func38, Try.ntmps38
      go_wp2_with (go_at_call 59; refine (isNaN_s _ _).mono ?_; rintro e w' ⟨rfl, rfl⟩)
      go_ret
      exact ⟨rfl, rfl⟩
    · rw [if_neg h2]
      have g2 : Op.bytesLess y.toList x.toList = false := by simpa using h2
      have h3 : x.toList = y.toList := Classical.byContradiction fun hne => by
        rcases bl_total _ _ hne with h | h
        · rw [h] at g1; cases g1
        · rw [h] at g2; cases g2
      have h4 : (x.toList == y.toList) = true := by rw [h3]; simp
      clear h2 h3
      go_enter Try.func38, Try.ntmps38
      go_wp2_with (go_at_call 59; refine (isNaN_s _ _).mono ?_; rintro e w' ⟨rfl, rfl⟩)
      go_ret
      exact ⟨rfl, rfl⟩

theorem quiet_left2 {P : Program} {f : FuncId} {args : Array Value} {w : World} {a n : Nat} {v : Value} (h : Calls P f args (w.drewN (a + n)) fun e w' => e = .returned v ∧ w.drewN (a + n) = w') :
    Calls P f args (w.drewN (a + n)) fun e w'' => e = .returned v ∧ ∃ m, w'' = w.drewN (a + m) := h.mono fun _ _ ⟨he, hm⟩ => ⟨he, n, hm.symm⟩
theorem order_calls (a b : Node) (w : World) (a0 : w.cell? ⟨a.b, 0, none⟩ = some (.string a.id)) (a1 : w.cell? ⟨a.b, 1, none⟩ = some (.int .i64 a.tm)) (b0 : w.cell? ⟨b.b, 0, none⟩ = some (.string b.id)) (b1 : w.cell? ⟨b.b, 1, none⟩ = some (.int .i64 b.tm)) :
    Calls Try.prog 34 #[.pointer (some ⟨a.b, 0, none⟩), .pointer (some ⟨b.b, 0, none⟩)] w fun e w' => e = .returned (.int .i64 (ordF (ent a) (ent b))) ∧ ∃ n, w' = w.drewN n := by
  unfold ordF ent
  by_cases h : a.tm = b.tm
  · rw [if_pos h]
    have hd : (a.tm != b.tm) = false := by simp [h]
    have HS := Aside0.mk (fun w => compare_s a.id b.id w)
    simp only
    generalize cmpS a.id b.id = v at HS ⊢
    clear h
    go_enter Try.func34, Try.ntmps34
    go_wp2_with fail
    go_quiet (fail)
    go_wp2_with fail
    go_quiet ((go_at_call 38; exact quiet_left2 (HS.out _)))
    go_wp2_with fail
    go_ret
    exact ⟨rfl, _, World.drewN_drewN _ _ _⟩
  · rw [if_neg h]
    have hd : (a.tm != b.tm) = true := by simp [h]
    have HS := Aside0.mk (fun w => compare_i a.tm b.tm w)
    simp only
    generalize cmpI a.tm b.tm = v at HS ⊢
    clear h
    go_enter Try.func34, Try.ntmps34
    go_wp2_with fail
    go_quiet (fail)
    go_wp2_with fail
    go_quiet ((go_at_call 37; exact quiet_left2 (HS.out _)))
    go_wp2_with fail
    go_ret
    exact ⟨rfl, _, World.drewN_drewN _ _ _⟩

/-! ### slices.SortFunc of timers -/
def kN : Kd Node := Kd.scalar (fun n => ptr (some n.b)) (fun _ => rfl)
theorem heap_sortWorld {α : Type} [Inhabited α] {enc : α → Value} {w : World} {blk off m : Nat} {dk : Array α} {os : Array Obj} {b : Nat} (hb : b < w.heap.size) (hne : b ≠ blk) : (sortWorld enc w blk off m dk os).heap[b]? = w.heap[b]? := by
  unfold sortWorld
  rw [heap_grow_old _ _ (by unfold putRow mapBlock; simpa [Sort.ahead] using hb)]
  unfold putRow mapBlock
  show (w.heap.modify blk _)[b]? = _
  rw [Array.getElem?_modify, if_neg (fun e => hne e.symm)]
theorem own_grow {w : World} {base n size : Nat} {e : TypeId} {v : Value} {xs : List Value} (h : w.ownsRow base e size v n xs) (os : Array Obj) : (grow w os).ownsRow base e size v n xs := by
  refine ⟨h.1, ?_⟩
  rcases h.2 with h0 | ⟨g, cap, cur, hv, hb, hg, h4, h5, h6, h7⟩
  · exact .inl h0
  · refine .inr ⟨g, cap, cur, hv, hb, ?_, h4, h5, h6, h7⟩
    rw [heap_grow_old w os (blk_lt hg)]
    exact hg
theorem grown_sort {α : Type} [Inhabited α] {enc : α → Value} {w : World} {blk off m : Nat} {dk : Array α} {os : Array Obj} : w.grownBy (sortWorld enc w blk off m dk os) (some blk) :=
  ⟨rfl, rfl, rfl, by unfold sortWorld; rw [size_grow]; unfold putRow mapBlock; simp [Sort.ahead], fun k hk hne => heap_sortWorld hk (fun e => hne (by rw [e]))⟩

def sortN (l : List Node) : List Node := l.mergeSort fun x y => !lt (ent y) (ent x)
theorem le_trans (x y z : Node) : (!lt (ent y) (ent x)) = true → (!lt (ent z) (ent y)) = true → (!lt (ent z) (ent x)) = true := by
  simp only [Bool.not_eq_true']
  intro h1 h2
  cases h : lt (ent z) (ent x)
  · rfl
  · by_cases e : ent x = ent y
    · rw [← e, h] at h2; cases h2
    · rcases lt_total e with h3 | h3
      · rw [lt_trans h h3] at h2; cases h2
      · rw [h3] at h1; cases h1
theorem le_total (x y : Node) : (!lt (ent y) (ent x) || !lt (ent x) (ent y)) = true := by
  cases h : lt (ent y) (ent x)
  · rfl
  · rw [lt_asymm h]; rfl
theorem sortN_perm (l : List Node) : (sortN l).Perm l := List.mergeSort_perm _ _
theorem sortN_nil : sortN [] = [] := List.eq_nil_of_length_eq_zero (sortN_perm []).length_eq
theorem sortN_sorted {l : List Node} (hn : (l.map ent).Nodup) : Sorted ((sortN l).map ent) := by
  have h1 : (sortN l).Pairwise fun x y => (!lt (ent y) (ent x)) = true := List.pairwise_mergeSort le_trans le_total l
  have h2 : ((sortN l).map ent).Nodup := ((sortN_perm l).map ent).nodup_iff.2 hn
  unfold Sorted
  rw [List.pairwise_map]
  have h3 := List.pairwise_map.1 h2
  refine (h1.and h3).imp ?_
  rintro x y ⟨h4, h5⟩
  rcases lt_total h5 with h | h
  · exact h
  · rw [h] at h4; cases h4

theorem sort_calls {B : Nat} {v : Value} {D : List Node} {w : World} (hR : kN.R 65 w B (fun _ => True) v D) (hl : D.length < 4611686018427387904) (hB : B ≤ w.heap.size)
    (hc : ∀ n ∈ D, n.b < B ∧ w.cell? ⟨n.b, 0, none⟩ = some (.string n.id) ∧ w.cell? ⟨n.b, 1, none⟩ = some (.int .i64 n.tm)) (hn : (D.map ent).Nodup) :
    Calls Try.prog 33 #[v, .func (.func 34) #[] #[]] w fun e w' => e = .returned (.tuple #[]) ∧ kN.R 65 w' B (fun _ => True) v (sortN D) ∧ Below B w w' := by
  have hown : w.ownsRow B 65 1 v D.length (D.map fun n => ptr (some n.b)) := Kd.own_of_R hR
  by_cases hv : v = .slice none 0 0
  · subst hv
    have hD : D = [] := by
      have := (Kd.R_reads' hR).1
      exact List.eq_nil_of_length_eq_zero this.symm
    subst hD
    refine (AnyF.slices_SortFunc_none (P := Try.prog) (ρ := Try.sortT_ren) { Try.sortT with } none 0 _ w).mono ?_
    rintro e w' ⟨rfl, rfl⟩
    exact ⟨rfl, by rw [sortN_nil]; exact hR, Below.refl _ _⟩
  · cases hD : D with
    | nil =>
      subst hD
      obtain ⟨A, c, rfl, _, _⟩ := Kd.R_reads hR
      refine (AnyF.slices_SortFunc_none (P := Try.prog) (ρ := Try.sortT_ren) { Try.sortT with } A c _ w).mono ?_
      rintro e w' ⟨rfl, rfl⟩
      exact ⟨rfl, by rw [sortN_nil]; exact hR, Below.refl _ _⟩
    | cons d0 D0 =>
      rw [← hD]
      let α := { n : Node // n ∈ D }
      have d0m : d0 ∈ D := by rw [hD]; simp
      letI : Inhabited α := ⟨⟨d0, d0m⟩⟩
      let enc : α → Value := fun n => ptr (some n.1.b)
      let zs : List α := D.attach
      have hzm : zs.map enc = D.map fun n => ptr (some n.b) := by
        show (D.attach.map fun n : { n // n ∈ D } => ptr (some n.1.b)) = _
        conv => rhs; rw [← List.attach_map_subtype_val D]
        rw [List.map_map]
        rfl
      have hzl : zs.length = D.length := List.length_attach
      have hown' : w.ownsRow B 65 1 v zs.length (zs.map enc) := by rw [hzm, hzl]; exact hown
      obtain ⟨g, cap, rfl, hBg, hlt, hncap, hcm, _, hH⟩ := holds_of_ownsRow hown' hv
      have hdis : ∀ x y : α, ent x.1 = ent y.1 → x = y := fun x y e => by
        obtain ⟨i, hi⟩ := List.getElem?_of_mem x.2
        obtain ⟨j, hj⟩ := List.getElem?_of_mem y.2
        have h1 : (D.map ent)[i]? = some (ent x.1) := by simp [hi]
        have h2 : (D.map ent)[j]? = some (ent x.1) := by simp [hj, e]
        have := (List.getElem?_inj (List.getElem?_eq_some_iff.1 h1).1 hn).1 (h1.trans h2.symm)
        subst this
        rw [hi] at hj
        exact Subtype.ext (Option.some.inj hj)
      let cf : α → α → Int := fun x y => ordF (ent x.1) (ent y.1)
      have hcf : ∀ x y : α, ltOf cf x y = lt (ent x.1) (ent y.1) := fun x y => ord_lt _ _
      have hswo : SWO (ltOf cf) := ⟨fun x => by rw [hcf]; exact lt_irrefl _, fun x y z h1 h2 => by rw [hcf] at *; exact lt_trans h1 h2, fun x y z h1 h2 => by
        rw [hcf] at *
        have a1 := le_trans z.1 y.1 x.1
        simp only [Bool.not_eq_true'] at a1
        exact a1 h2 h1⟩
      have hT : ∀ x y : α, ltOf cf x y = false → ltOf cf y x = false → x = y := fun x y h1 h2 => by
        rw [hcf] at h1 h2
        refine hdis x y (Classical.byContradiction fun hne => ?_)
        rcases lt_total hne with h | h
        · rw [h] at h1; cases h1
        · rw [h] at h2; cases h2
      have eg : ∀ args w, (callFunc 34 args).run Try.prog w = .ok (.enter 34 args) w := enters_of Try.func34 (by kernel_rfl) rfl
      have hcr : CmpReads Try.prog 34 #[] enc cf g 0 zs.toArray.size w := fun m os dk _ x y => by
        have cell : ∀ (n : α) (i : Nat) (u : Value), w.cell? ⟨n.1.b, i, none⟩ = some u → (sortWorld enc w g 0 m dk os).cell? ⟨n.1.b, i, none⟩ = some u := fun n i u h => by
          have h1 := (hc n.1 n.2).1
          rw [World.cell?_of_block (heap_sortWorld (show n.1.b < w.heap.size by omega) (show n.1.b ≠ g by omega))]
          exact h
        exact order_calls x.1 y.1 _ (cell x 0 _ (hc x.1 x.2).2.1) (cell x 1 _ (hc x.1 x.2).2.2) (cell y 0 _ (hc y.1 y.2).2.1) (cell y 1 _ (hc y.1 y.2).2.2)
      have hsz : zs.toArray.size = zs.length := by simp
      refine (Any.slices_SortFunc_total (P := Try.prog) (ρ := Try.sortT_ren) Try.sortT enc (fun _ => rfl) cf hswo 34 #[] g 0 cap zs.toArray w eg hcr.lays hH hlt (by rw [hsz, hzl]; exact hl) hT).mono ?_
      rintro e w' ⟨rfl, q, os, rfl⟩
      have hys : ((zs.toArray.toList.mergeSort fun x y => !ltOf cf y x).map Subtype.val) = sortN D := by
        unfold sortN
        have h1 : zs.toArray.toList = zs := by simp
        rw [h1, List.map_mergeSort (s := fun x y => !lt (ent y) (ent x)) (fun a _ b _ => by rw [hcf])]
        congr 1
        exact List.attach_map_subtype_val D
      generalize (zs.toArray.toList.mergeSort fun x y => !ltOf cf y x) = ys at hys ⊢
      have hyl : ys.length = zs.length := by
        have := congrArg List.length hys
        rw [List.length_map, (sortN_perm D).length_eq] at this
        rw [this, hzl]
      have h2 := ownsRow_putRow (q := q) (k := zs.length) (ys := ys) hown' hyl (Nat.le_refl _)
      rw [List.take_of_length_le (by omega)] at h2
      have h3 := own_grow h2 os
      have hym : ys.map enc = (sortN D).map fun n => ptr (some n.b) := by
        rw [← hys, List.map_map]
        rfl
      rw [hym] at h3
      have hzs : zs.length = (sortN D).length := by
        have := congrArg List.length hys
        rw [List.length_map] at this
        omega
      refine ⟨rfl, ?_, ?_⟩
      · have hcap : (Value.slice (some ⟨g, 0, none⟩) zs.length cap) = .slice (some ⟨g, 0, none⟩) (sortN D).length cap := by rw [hzs]
        have h4 := Kd.R_of_own (ok := fun _ => True) (h1 := fun _ => rfl) (xs := sortN D) (enc := fun n : Node => ptr (some n.b)) (by rw [hzs] at h3; exact h3) (fun _ _ => trivial)
        rw [← hzs] at h4
        exact h4
      · have hg := grown_sort (enc := enc) (w := w) (blk := g) (off := 0) (m := q) (dk := ys.toArray) (os := os)
        exact ⟨hg.os, hg.tape, hg.output, hg.size, fun k hk => hg.block k (by omega) (fun e => by injection e with e; omega)⟩
end Go.Proofs.Ytaefbibkkkglnaa.Wh
/- Wheel: slices.SortFunc of Each's pairs. No condition. -/
namespace Go.Proofs.Ytaefbibkkkglnaa.Wh
open Go Go.RowKit Go.Shelf Go.Lib Go.Sort Go.Proofs.YtaefbibkkkglnaaW.PrintWords Go.Proofs.Ytaefbibkkkglnaa.Mp Go.Proofs.Ytaefbibkkkglnaa.Fr
set_option linter.unusedVariables false
set_option linter.unusedSimpArgs false
def encE (e : E) : List Value := [.string e.1, .int .i64 e.2]
def kE : Kd E := Kd.pair Kd.string (Kd.int .i64)
theorem kE_K {w : World} {x : E} {cs : List Value} : kE.K w x cs ↔ cs = encE x := by
  constructor
  · rintro ⟨c0, c1, rfl, h0, h1⟩
    have h0' : c0 = [.string x.1] := h0
    have h1' : c1 = [.int .i64 x.2] := h1
    rw [h0', h1']
    rfl
  · rintro rfl
    exact ⟨[.string x.1], [.int .i64 x.2], rfl, rfl, rfl⟩
theorem kE_M {w : World} {base : Nat} {ok : Nat → Prop} {x : E} : kE.M w base ok x (encE x) := ⟨[.string x.1], [.int .i64 x.2], rfl, rfl, rfl⟩
theorem add_off (g n : Nat) : (Addr.add ⟨g, 0, none⟩ n) = ⟨g, n, none⟩ := by
  unfold Addr.add
  split
  · subst n; rfl
  · simp
theorem alloc_grow (w : World) (o : Obj) : w.alloc o = grow w #[o] := by
  unfold World.alloc grow
  congr 1
set_option maxRecDepth 100000 in
theorem cmpE_calls (a b : E) (w : World) : Calls Try.prog 36 #[.agg #[.string a.1, .int .i64 a.2], .agg #[.string b.1, .int .i64 b.2]] w fun e w' => e = .returned (.int .i64 (ordF a b)) ∧ ∃ q os, w' = grow (w.drewN q) os := by
  obtain ⟨a1, a2⟩ := a
  obtain ⟨b1, b2⟩ := b
  unfold ordF
  by_cases h : a2 = b2
  · rw [if_pos h]
    have hd : (a2 != b2) = false := by simp [h]
    have HS := Aside0.mk (fun w => compare_s a1 b1 w)
    simp only
    generalize cmpS a1 b1 = v at HS ⊢
    clear h
    go_enter Try.func36, Try.ntmps36
    go_wp2_with fail
    refine (HS.out _).mono ?_
    rintro e w' ⟨rfl, rfl⟩
    go_wp2_with fail
    go_ret
    exact ⟨rfl, 0, _, by rw [alloc_grow, alloc_grow, grow_grow]; rfl⟩
  · rw [if_neg h]
    have hd : (a2 != b2) = true := by simp [h]
    have HS := Aside0.mk (fun w => compare_i a2 b2 w)
    simp only
    generalize cmpI a2 b2 = v at HS ⊢
    clear h
    go_enter Try.func36, Try.ntmps36
    go_wp2_with fail
    refine (HS.out _).mono ?_
    rintro e w' ⟨rfl, rfl⟩
    go_wp2_with fail
    go_ret
    exact ⟨rfl, 0, _, by rw [alloc_grow, alloc_grow, grow_grow]; rfl⟩

def sortE (l : List E) : List E := l.mergeSort fun x y => !lt y x
theorem leE_trans (x y z : E) : (!lt y x) = true → (!lt z y) = true → (!lt z x) = true := by
  simp only [Bool.not_eq_true']
  intro h1 h2
  cases h : lt z x
  · rfl
  · by_cases e : x = y
    · rw [← e, h] at h2; cases h2
    · rcases lt_total e with h3 | h3
      · rw [lt_trans h h3] at h2; cases h2
      · rw [h3] at h1; cases h1
theorem leE_total (x y : E) : (!lt y x || !lt x y) = true := by
  cases h : lt y x
  · rfl
  · rw [lt_asymm h]; rfl
theorem sortE_perm (l : List E) : (sortE l).Perm l := List.mergeSort_perm _ _
theorem sortE_sorted {l : List E} (hn : l.Nodup) : Sorted (sortE l) := by
  have h1 : (sortE l).Pairwise fun x y => (!lt y x) = true := List.pairwise_mergeSort leE_trans leE_total l
  have h2 : (sortE l).Nodup := (sortE_perm l).nodup_iff.2 hn
  refine (h1.and h2).imp ?_
  rintro x y ⟨h4, h5⟩
  rcases lt_total h5 with h | h
  · exact h
  · rw [h] at h4; cases h4
theorem flat_get (d : Array E) (j i : Nat) (hj : j < d.size) (hi : i < 2) : (flatK encE 2 d)[j * 2 + i]! = (encE d[j]!)[i]! := by
  rw [get_flatK _ _ _ _ (by omega)]
  rw [show (j * 2 + i) / 2 = j by omega, show (j * 2 + i) % 2 = i by omega]
theorem readsE {w : World} {g : Nat} {d : Array E} (h : HoldsK encE 2 w g 0 d) (hl : d.size ≤ 9223372036854775807) : kE.C w (some ⟨g, 0, none⟩) d.size d.toList := by
  refine ⟨by simp, hl, fun _ => ⟨_, rfl, fun j p hp => ⟨encE p, rfl, kE_K.2 rfl, fun i u hu => ?_⟩⟩⟩
  have hj : j < d.size := by
    have := (List.getElem?_eq_some_iff.1 hp).1
    simpa using this
  have hi : i < 2 := by
    have := (List.getElem?_eq_some_iff.1 hu).1
    simpa [encE] using this
  have h1 := (h (j * 2 + i) (by rw [size_flatK]; omega)).1
  rw [flat_get d j i hj hi, Nat.zero_add] at h1
  show w.cell? (Addr.add ⟨g, 0, none⟩ (j * 2 + i)) = some u
  rw [add_off, h1]
  have e1 : d[j]! = p := by
    rw [getElem!_pos d j hj]
    have := (List.getElem?_eq_some_iff.1 hp).2
    simpa using this
  rw [e1, getElem!_pos _ i (by simpa [encE] using hi)]
  exact congrArg some (List.getElem?_eq_some_iff.1 hu).2
theorem holdsE {w : World} {B g c n : Nat} {inner : List Value} {D : List E} (ho : w.ownsRow B 84 2 (.slice (some ⟨g, 0, none⟩) n c) D.length inner) (hr : Reps (kE.M w B (fun _ => True)) 2 D inner) : HoldsK encE 2 w g 0 D.toArray := by
  obtain ⟨h1, h2 | ⟨g', cap, cur, e0, hb, hg, h3, h4, h5, h6⟩⟩ := ho
  · cases h2.1
  · injection e0 with e1 _ e3
    injection e1 with e1
    injection e1 with e1
    subst e1
    intro t ht
    rw [size_flatK] at ht
    have ht' : t < D.length * 2 := by simpa using ht
    refine ⟨?_, blk_frozen hg _⟩
    rw [Nat.zero_add, blk_cell hg, get_flatK _ _ _ _ ht]
    have hj : t / 2 < D.length := by omega
    have hs := hr.2 (t / 2) _ (List.getElem?_eq_getElem hj)
    have hs2 : (inner.drop (t / 2 * 2)).take 2 = encE D[t / 2] := by
      have := kE.K_of_M hs
      exact kE_K.1 this
    have e4 : inner[t]? = (encE D[t / 2])[t % 2]? := by
      rw [← hs2, List.getElem?_take, if_pos (Nat.mod_lt _ (by omega)), List.getElem?_drop]
      congr 1
      omega
    have e5 : cur[t]? = inner[t]? := by
      rw [← h6, List.getElem?_take, if_pos ht', Array.getElem?_toList]
    rw [e5, e4]
    have e6 : D.toArray[t / 2]! = D[t / 2] := by
      rw [getElem!_pos D.toArray (t / 2) (by simpa using hj)]
      simp
    have h2 : t % 2 < (encE D[t / 2]).length := Nat.mod_lt _ (by decide)
    rw [e6, getElem!_pos _ (t % 2) h2, List.getElem?_eq_getElem h2]
    rfl
theorem heap_sortWorldK {w : World} {blk m : Nat} {dk : Array E} {os : Array Obj} {b : Nat} (hb : b < w.heap.size) (hne : b ≠ blk) : (sortWorldK encE 2 w blk 0 m dk os).heap[b]? = w.heap[b]? := by
  unfold sortWorldK
  rw [heap_grow_old _ _ (by unfold putRowK putRow mapBlock; simpa [Sort.ahead] using hb)]
  unfold putRowK putRow mapBlock
  show (w.heap.modify blk _)[b]? = _
  rw [Array.getElem?_modify, if_neg (fun e => hne e.symm)]
theorem sortE_calls {B : Nat} {v : Value} {D : List E} {w : World} (hR : kE.R 84 w B (fun _ => True) v D) (hl : D.length < 4611686018427387904) (hB : B ≤ w.heap.size) (hn : D.Nodup) :
    Calls Try.prog 35 #[v, .func (.func 36) #[] #[]] w fun e w' => e = .returned (.tuple #[]) ∧ (∃ A c, v = .slice A (sortE D).length c ∧ kE.C w' A (sortE D).length (sortE D)) ∧ Below B w w' := by
  have hlen : (sortE D).length = D.length := (sortE_perm D).length_eq
  obtain ⟨_, inner, ho, hr⟩ := id hR
  by_cases h0 : D.length = 0
  · have hD : D = [] := List.eq_nil_of_length_eq_zero h0
    subst hD
    obtain ⟨A, c, rfl, _, hC⟩ := Kd.R_reads hR
    have hz : sortE [] = [] := List.eq_nil_of_length_eq_zero hlen
    refine (AnyF.slices_SortFunc_none (P := Try.prog) (ρ := Try.sortP_ren) Try.sortP A c _ w).mono ?_
    rintro e w' ⟨rfl, rfl⟩
    rw [hz]
    exact ⟨rfl, ⟨A, c, rfl, hC⟩, Below.refl _ _⟩
  · obtain ⟨A, c, rfl, hcl, hC⟩ := Kd.R_reads hR
    obtain ⟨g, rfl, hBg, hgl⟩ : ∃ g, A = some ⟨g, 0, none⟩ ∧ B ≤ g ∧ g < w.heap.size := by
      obtain ⟨h1, h2 | ⟨g', cap, cur, e0, hb, hg, h3, h4, h5, h6⟩⟩ := ho
      · exact absurd h2.2 h0
      · injection e0 with e1 _ e3
        exact ⟨g', e1, hb, blk_lt hg⟩
    have hH := holdsE ho (hr.imp_ (fun p cs h => kE.M_mono (fun _ _ => trivial) h))
    let cf : E → E → Int := fun x y => ordF x y
    have hcf : ∀ x y : E, ltOf cf x y = lt x y := fun x y => ord_lt _ _
    have hswo : SWO (ltOf cf) := ⟨fun x => by rw [hcf]; exact lt_irrefl _, fun x y z h1 h2 => by rw [hcf] at *; exact lt_trans h1 h2, fun x y z h1 h2 => by
      rw [hcf] at *
      have a1 := leE_trans z y x
      simp only [Bool.not_eq_true'] at a1
      exact a1 h2 h1⟩
    have hT : ∀ x y : E, ltOf cf x y = false → ltOf cf y x = false → x = y := fun x y h1 h2 => by
      rw [hcf] at h1 h2
      refine Classical.byContradiction fun hne => ?_
      rcases lt_total hne with h | h
      · rw [h] at h1; cases h1
      · rw [h] at h2; cases h2
    have eg : ∀ args w, (callFunc 36 args).run Try.prog w = .ok (.enter 36 args) w := enters_of Try.func36 (by kernel_rfl) rfl
    have hsz : D.toArray.size = D.length := by simp
    refine (AnyQ.slices_SortFunc_total (P := Try.prog) (ρ := Try.sortP_ren) Try.sortP 2 (fun w => by kernel_rfl) (fun w => by kernel_rfl) encE (fun _ => rfl) (fun x v hv => by simp [encE] at hv; rcases hv with rfl | rfl <;> rfl) cf hswo 36 #[] g 0 c D.toArray w eg (fun m os dk _ x y => cmpE_calls x y _) hH hgl (by rw [hsz]; exact hl) hT).mono ?_
    rintro e w' ⟨rfl, q, os, rfl⟩
    have hys : (D.toArray.toList.mergeSort fun x y => !ltOf cf y x) = sortE D := by
      unfold sortE
      have h1 : D.toArray.toList = D := by simp
      rw [h1]
      congr 1
      funext x y
      rw [hcf]
    rw [hys]
    have hH2 := holdsK_sortWorldK_c encE 2 w g 0 D.toArray (sortE D).toArray q os hH hgl (by simp [hlen])
    have hC2 := readsE hH2 (by simp; omega)
    refine ⟨rfl, ⟨_, c, by rw [hlen], ?_⟩, ?_⟩
    · have e1 : (sortE D).toArray.size = (sortE D).length := by simp
      rw [e1] at hC2
      simpa using hC2
    · exact ⟨rfl, rfl, rfl, by unfold sortWorldK; rw [size_grow]; unfold putRowK putRow mapBlock; simp [Sort.ahead], fun k hk => heap_sortWorldK (by omega) (fun e => by omega)⟩
end Go.Proofs.Ytaefbibkkkglnaa.Wh
/- Wheel: Each. No condition. -/
namespace Go.Proofs.Ytaefbibkkkglnaa.Wh
open Go Go.RowKit Go.Proofs.YtaefbibkkkglnaaW.PrintWords Go.Proofs.Ytaefbibkkkglnaa.Mp Go.Proofs.Ytaefbibkkkglnaa.Fr
set_option linter.unusedVariables false
set_option linter.unusedSimpArgs false
theorem infoE : (Try.prog.info? 84).map (fun i => (i.zero, i.size, i.bytes)) = some (some (.agg #[.string ⟨#[]⟩, .int .i64 0]), 2, 24) := by kernel_rfl
theorem build_E (id : ByteArray) (t : Int) (w : World) : (Instr.build 84 #[(0, .string id), (1, .int .i64 t)]).run Try.prog w = .ok (.agg #[.string id, .int .i64 t]) w := by kernel_rfl
theorem pair_append {ops : Array Oper} {Q : Exit → Act → World → Prop} {Kc : Act → World → Prop} {o : Oper} {a : Act} {w0 W : World} (base : Nat) (s x : Nat) (T e : Nat) (hw : Region.wanted o (yielded ops a.tmps) = true)
    (ho : o.op = .call { callee := .builtin .append, args := #[.tmp s, .tmp x], argTypes := #[T, T] }) (ht : Try.prog.underlying T = some (.slice e)) (hinfo : (Try.prog.info? e).map (fun i => (i.zero, i.size, i.bytes)) = some (some (.agg #[.string ⟨#[]⟩, .int .i64 0]), 2, 24)) (v : Value) (xs : List E) (z : E) (hs : a.eval (.tmp s) = v) (hx : a.eval (.tmp x) = .slice (some ⟨W.heap.size, 0, none⟩) 1 1)
    (HO : kE.R e W base (fun _ => True) v xs) (HB : Below base w0 W) (hbase : base ≤ W.heap.size) (hl : (xs.length + 1) * 24 ≤ 140737488355328)
    (h : ∀ v1 w1, kE.R e w1 base (fun _ => True) v1 (xs ++ [z]) → Below base w0 w1 → W.grownBy w1 v.ownBlock → Kc (a.put o.dst v1) w1) :
    if Region.wanted o (yielded ops a.tmps) = true then Oper.wp Try.prog o a (W.alloc (.cells #[.string z.1, .int .i64 z.2] e)) Kc Q else Kc (a.put o.dst undef) (W.alloc (.cells #[.string z.1, .int .i64 z.2] e)) :=
  Kd.R_append_step kE (w0 := w0) (W := W) base hw (.tmp s) (.tmp x) T e (.agg #[.string ⟨#[]⟩, .int .i64 0]) 24 ho ht hinfo rfl (by decide) (by decide) v xs z (encE z) (fun _ => True) (fun _ => False) hs hx
    kE_M (fun _ h => h.elim) (fun _ _ => trivial) HO HB hbase hl (fun v1 w1 h1 h2 h3 _ => h v1 w1 h1 h2 h3)
def gE (l : List E) (q : Ent) : E := (q.1, timeOf l q.1)
section
variable {w w' : World} {O : Nat → Prop} {p : Nat} {now : Int} {l : List E}
/-- The names' map as Each reads it. -/
theorem each_facts (h : Whl w O p now l) : ∃ m es, w.cell? ⟨p, 456, none⟩ = some (.map (some m)) ∧ IsM w m es ∧ (es.map (gE l)).Perm l ∧ (∀ q ∈ es, ∃ b, q.2 = .pointer (some ⟨b, 0, none⟩) ∧ b < w.heap.size ∧ w.cell? ⟨b, 1, none⟩ = some (.int .i64 (timeOf l q.1))) ∧ m < w.heap.size ∧ es.length ≤ 4096 := by
  have hnd := h.nodup
  obtain ⟨⟨m, S, h1, h2, h3⟩, a1, a2, a3, a4, a5, a6⟩ := h
  obtain ⟨es, he, hp⟩ := h1.names
  have hT : ∀ n ∈ nodes S, timeOf l n.id = n.tm := fun n hn => timeOf_eq (e := ent n) hnd (h3.mem_iff.2 (List.mem_map.2 ⟨n, hn, rfl⟩))
  have hlen : es.length = l.length := by
    have e1 := hp.length_eq
    have e2 := h3.length_eq
    simp at e1 e2
    omega
  refine ⟨m, es, h1.head.map, he, ?_, fun q hq => ?_, a6 _ h1.own.2.1, by omega⟩
  · refine (hp.map _).trans ?_
    refine List.Perm.trans ?_ h3.symm
    rw [List.map_map, List.nil_append]
    refine List.Perm.of_eq (List.map_congr_left fun n hn => ?_)
    show (n.id, timeOf l n.id) = ent n
    rw [hT n hn]
    rfl
  · obtain ⟨n, hn, rfl⟩ := List.mem_map.1 (hp.mem_iff.1 hq)
    rw [List.nil_append] at hn
    obtain ⟨r0, b0, b1, hc⟩ := h1.tm (n := n) (by simpa using hn)
    refine ⟨n.b, rfl, a6 _ (h1.own.2.2 n (by simpa using hn)), ?_⟩
    show w.cell? _ = some (.int .i64 (timeOf l n.id))
    rw [hT n hn]
    exact hc.c.2.1
set_option maxRecDepth 100000 in
set_option maxHeartbeats 2000000 in
theorem each_calls (h : Whl w O p now l) : Calls Try.prog 19 #[.pointer (some ⟨p, 0, none⟩)] w fun e w' =>
    ∃ A c, e = .returned (.func (.func 39) #[] #[.pointer (some ⟨w.heap.size, 0, none⟩)]) ∧ w'.cell? ⟨w.heap.size, 0, none⟩ = some (.slice A l.length c) ∧ w.heap.size < w'.heap.size ∧ kE.C w' A l.length l ∧ Below w.heap.size w w' := by
  obtain ⟨m, es, cm, hM, hperm, hq, hml, hel⟩ := each_facts h
  have HS := Aside0.mk h.sorted
  have HND := Aside0.mk h.nodup
  have HP := Aside0.mk hperm
  have HQ := Aside0.mk hq
  have HM := Aside0.mk (show IsM (w.alloc (.cells #[.slice none 0 0] 82 (0, 0))) m es from hM.move (Below.heap_alloc w _ m hml))
  have cm2 : (w.alloc (.cells #[.slice none 0 0] 82 (0, 0))).cell? ⟨p, 456, none⟩ = some (.map (some m)) := pw_cell_below (below_alloc (Below.refl _ w) _) cm
  have HML := Aside0.mk hml
  clear h hperm hq hM hml
  go_enter Try.func19, Try.ntmps19
  go_wp2_with (first | (at_range; refine wpList_range _ rfl _ _ rfl Try.underlying71 rfl HM.out ?_; intro w3 hr3 hg3 hz3) | fail)
  rw [World.size_alloc] at hr3 hz3
  have hz3' : w3.heap.size = w.heap.size + 2 := hz3
  have HB3 := Aside0.mk (show Below (w.heap.size + 1) (w.alloc (.cells #[.slice none 0 0] 82 (0, 0))) w3 from ⟨hg3.os, hg3.tape, hg3.output, hg3.size, fun k hk => hg3.block k (by rw [World.size_alloc]; omega) (fun e => by cases e)⟩)
  have HB3w := Aside0.mk (show Below w.heap.size w w3 from (below_alloc (Below.refl _ w) _).trans (HB3.out.mono (by omega)))
  have hbox : w3.cell? ⟨w.heap.size, 0, none⟩ = some (.slice none 0 0) := ((HB3.out).cell (p := ⟨w.heap.size, 0, none⟩) (by show w.heap.size < w.heap.size + 1; omega)).trans (blk_cell (heap_alloc_new w _) 0)
  have hfz : w3.frozen? ⟨w.heap.size, 0, none⟩ = false := by
    have e : w3.heap[w.heap.size]? = _ := (HB3.out.block w.heap.size (by omega)).trans (heap_alloc_new w _)
    exact blk_frozen e 0
  have HR3 := Aside0.mk hr3
  clear hr3 hg3 hz3 HM cm cm2
  simp only [Act.put, List.setIfInBounds_toArray, List.set_cons_succ, List.set_cons_zero, World.size_alloc]
  go_loopg [4, 5] es.length (fun g v4 v5 wx => ∃ (dn lf : List Ent) (v : Value), g = lf.length ∧ Aside0 ((dn ++ lf).Perm es) ∧ wx.cell? ⟨w.heap.size, 0, none⟩ = some v ∧ wx.frozen? ⟨w.heap.size, 0, none⟩ = false ∧ Aside0 (Rng wx m (w.heap.size + 1) es lf) ∧ Aside0 (kE.R 84 wx w3.heap.size (fun _ => True) v (dn.map (gE l))) ∧ Aside0 (Below w.heap.size w wx) ∧ Aside0 (w3.heap.size ≤ wx.heap.size))
  case atStart => exact ⟨[], es, _, rfl, ⟨List.Perm.refl _⟩, hbox, hfz, HR3, ⟨Kd.R_nil _ _ _ _ _⟩, HB3w, ⟨Nat.le_refl _⟩⟩
  case round =>
    clear hbox hfz HR3
    obtain ⟨dn, lf, v, rfl, HPM, hbox, hfz, HR, HRR, HBX, HSZ⟩ := hrel
    rcases HR.out.next (P := Try.prog) 0 with ⟨h0, hrun⟩ | ⟨q, left', w5, hp, hrun, hrg, hgr, hsz, hen⟩
    · subst h0
      rw [List.append_nil] at HPM
      have hdl : dn.length ≤ 4096 := by rw [HPM.out.length_eq]; exact hel
      have hpl : (dn.map (gE l)).Perm l := (HPM.out.map _).trans HP.out
      have HSC := Aside0.mk (sortE_calls HRR.out (by rw [List.length_map]; omega) HSZ.out (by
        have h1 := (hpl.map Prod.fst).nodup_iff.2 HND.out
        exact (List.pairwise_map.1 h1).imp (fun h e => h (by rw [e]))))
      have hse : sortE (dn.map (gE l)) = l := sorted_ext (sortE_sorted (by
        have h1 := (hpl.map Prod.fst).nodup_iff.2 HND.out
        exact (List.pairwise_map.1 h1).imp (fun h e => h (by rw [e])))) HS.out ((sortE_perm _).trans hpl)
      rw [hse] at HSC
      clear hpl hse
      go_wp2_with fail
      refine (HSC.out).mono ?_
      rintro e w7 ⟨rfl, ⟨A, c, rfl, hC⟩, hB7⟩
      have HC7 := Aside0.mk (And.intro hC hB7)
      have hbox7 : w7.cell? ⟨w.heap.size, 0, none⟩ = some (.slice A l.length c) := (hB7.cell (p := ⟨w.heap.size, 0, none⟩) (by show w.heap.size < w3.heap.size; omega)).trans hbox
      have HBOX := Aside0.mk hbox7
      clear hC hB7 hbox7
      go_wp2_with fail
      go_ret
      refine ⟨A, c, rfl, HBOX.out, ?_, HC7.out.1, HBX.out.trans (HC7.out.2.mono (by omega))⟩
      have := HC7.out.2.size
      have := HSZ.out
      omega
    · have hmem : q ∈ es := HPM.out.mem_iff.1 (List.mem_append_right _ (hp.mem_iff.1 List.mem_cons_self))
      obtain ⟨b, hqb, hbl, hbt⟩ := HQ.out q hmem
      have hB5 : Below (w.heap.size + 1) wr w5 := ⟨hgr.os, hgr.tape, hgr.output, hgr.size, fun k hk => hgr.block k (by have := HSZ.out; omega) (fun e => by injection e with e; omega)⟩
      have c1 : w5.cell? ⟨b, 1, none⟩ = some (.int .i64 (timeOf l q.1)) := pw_cell_below (HBX.out.trans (hB5.mono (by omega))) hbt
      have hbox5 : w5.cell? ⟨w.heap.size, 0, none⟩ = some v := (hB5.cell (p := ⟨w.heap.size, 0, none⟩) (by show w.heap.size < w.heap.size + 1; omega)).trans hbox
      have hfz5 : w5.frozen? ⟨w.heap.size, 0, none⟩ = false := by unfold World.frozen? at hfz ⊢; rw [hB5.block w.heap.size (by omega)]; exact hfz
      have hR5 : kE.R 84 w5 w3.heap.size (fun _ => True) v (dn.map (gE l)) := Kd.R_mono (Kd.R_step (ok := fun k => True ∧ w3.heap.size ≤ k) (Kd.R_mono (Kd.R_bound HRR.out) (fun k hk => ⟨hk.1, hk.2.1⟩)) (fun k ho hl => hgr.block k hl (fun e => by injection e with e; omega))) (fun _ ho => ho.1)
      obtain ⟨sq, vq⟩ := q
      simp only at hqb
      subst hqb
      have hlen : ((dn.map (gE l)).length + 1) * 24 ≤ 140737488355328 := by
        have h1 := HPM.out.length_eq
        have h2 := hp.length_eq
        simp at h1 h2 ⊢
        omega
      have HR5 := Aside0.mk hR5
      have HL5 := Aside0.mk hlen
      have HB5 := Aside0.mk hB5
      have HE5 := Aside0.mk (And.intro hp (And.intro hrg (And.intro hgr hsz)))
      simp only at c1 hrun hen
      generalize htm : timeOf l sq = tm at c1
      have HTM := Aside0.mk htm
      have hbe := build_E sq tm
      have hbox6 : (w5.alloc (.cells #[.string sq, .int .i64 tm] 84 (0, 0))).cell? ⟨w.heap.size, 0, none⟩ = some v := (World.cell?_alloc_lt _ _ _ (by show w.heap.size < w5.heap.size; have := HB5.out.size; have := HSZ.out; omega)).trans hbox5
      clear hR5 hlen hB5 hp hrg hgr hsz hmem hbt htm hbox hfz
      go_wp2_with fail
      go_region_law (refine pair_append (w0 := w5.drew) (W := w5.drew) w3.heap.size 18 25 82 84 rfl rfl Try.underlying82 infoE v (dn.map (gE l)) (sq, tm) (by rfl) (by rfl) (Kd.R_drew HR5.out) (Below.refl _ _) (Nat.le_trans HSZ.out HB5.out.size) HL5.out ?_; intro v1 w6 hR6 hB6 hg6; obtain ⟨A1, k1, rfl⟩ := Kd.R_slice hR6; have x1 : w6.cell? ⟨w.heap.size, 0, none⟩ = some v := (hB6.cell (p := ⟨w.heap.size, 0, none⟩) (by show w.heap.size < w3.heap.size; omega)).trans hbox5; have x2 : w6.frozen? ⟨w.heap.size, 0, none⟩ = false := (by unfold World.frozen? at hfz5 ⊢; rw [hB6.block w.heap.size (by omega)]; exact hfz5); have H6 := Aside0.mk (And.intro hR6 (And.intro hB6 hg6)); clear hR6 hB6 hg6)
      all_goals
        go_wp2_with fail
        go_roundg left'.length
        case measure =>
          have h1 := HE5.out.1.length_eq
          simp at h1
          omega
        case rel =>
          obtain ⟨hp, hrg, hgr, hsz⟩ := HE5.out
          obtain ⟨hR6, hB6, hg6⟩ := H6.out
          have hml := HML.out
          refine ⟨dn ++ [(sq, .pointer (some ⟨b, 0, none⟩))], left', _, rfl, ⟨?_⟩, World.cell?_setCell_same' _ _ _ (by rw [x1]; rfl), by rw [World.frozen?_setCell]; exact x2, ⟨?_⟩, ⟨?_⟩, ⟨?_⟩, ⟨?_⟩⟩
          · rw [List.append_assoc, List.singleton_append]
            exact (hp.append_left dn).trans HPM.out
          · refine hrg.move ?_ ?_
            · rw [Below.heap_setCell _ _ _ _ (by show m ≠ w.heap.size; omega)]
              exact hB6.block m (by omega)
            · rw [Below.heap_setCell _ _ _ _ (by show w.heap.size + 1 ≠ w.heap.size; omega)]
              exact hB6.block (w.heap.size + 1) (by omega)
          · have e : gE l (sq, .pointer (some ⟨b, 0, none⟩)) = (sq, tm) := by
              unfold gE
              rw [HTM.out]
            rw [List.map_append, List.map_cons, List.map_nil, e]
            have e2 : (dn.map (gE l) ++ [(sq, tm)]).length = dn.length + 1 := by simp
            rw [e2] at hR6
            exact Kd.R_mono (Kd.R_step (ok := fun k => True ∧ w3.heap.size ≤ k) (Kd.R_mono (Kd.R_bound hR6) (fun k hk => ⟨hk.1, hk.2.1⟩)) (fun k ho hl => Below.heap_setCell _ _ _ _ (by show k ≠ w.heap.size; omega))) (fun _ ho => ho.1)
          · refine ((HBX.out.trans (HB5.out.mono (by omega))).trans (show Below w.heap.size w5 w6 from (below_drew (Below.refl _ w5)).trans (hB6.mono (show w.heap.size ≤ w3.heap.size by omega)))).trans ?_
            exact (Below.refl _ _).setCell (p := ⟨w.heap.size, 0, none⟩) (Nat.le_refl _) _
          · rw [World.size_setCell]
            exact Nat.le_trans HSZ.out (Nat.le_trans HB5.out.size hB6.size)
end
end Go.Proofs.Ytaefbibkkkglnaa.Wh
