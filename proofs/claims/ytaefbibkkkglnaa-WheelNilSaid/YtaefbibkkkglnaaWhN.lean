/- Wheel: New, find, ahead, Now, Len. No condition. -/
import Derived.Test.YtaefbibkkkglnaaWhC
import Derived.Carry
namespace Go.Proofs.Ytaefbibkkkglnaa.Wh
open Go Go.RowKit Go.Proofs.YtaefbibkkkglnaaW.PrintWords Go.Proofs.Ytaefbibkkkglnaa.Mp Go.Proofs.Ytaefbibkkkglnaa.Fr
set_option linter.unusedVariables false
set_option linter.unusedSimpArgs false

/-! ### a wheel, as the contracts speak of it -/
def Good (now : Int) (S : Slots) : Prop := ∀ r k, r < 7 → k < 64 → ∀ n ∈ S r k, now < n.tm ∧ n.tm ≤ 1099511627776 ∧ rg n.tm now = r ∧ dg r n.tm = k
structure Whl (w : World) (O : Nat → Prop) (p : Nat) (now : Int) (l : List E) : Prop where
  rep : ∃ m S, Rep w O p m now S [] ∧ Good now S ∧ l.Perm ((nodes S).map ent)
  now0 : 0 ≤ now
  now1 : now ≤ 1099511627776
  sorted : Sorted l
  ids : ∀ e ∈ l, 1 ≤ e.1.size ∧ e.1.size ≤ 64
  few : l.length ≤ 4096
  lt : ∀ b, O b → b < w.heap.size
section
variable {w w' : World} {O : Nat → Prop} {p : Nat} {now : Int} {l : List E}
theorem Whl.move (h : Whl w O p now l) (hz : w.heap.size ≤ w'.heap.size) (hm : ∀ b, O b → b < w.heap.size → w'.heap[b]? = w.heap[b]?) : Whl w' O p now l := by
  obtain ⟨⟨m, S, h1, h2, h3⟩, a, b, c, d, e, f⟩ := h
  exact ⟨⟨m, S, h1.move hm, h2, h3⟩, a, b, c, d, e, fun b hb => Nat.lt_of_lt_of_le (f b hb) hz⟩
theorem Whl.below (h : Whl w O p now l) (hb : Below w.heap.size w w') : Whl w' O p now l := h.move hb.size (fun b _ hl => hb.block b hl)
theorem Whl.drewN (h : Whl w O p now l) (n : Nat) : Whl (w.drewN n) O p now l := h.move (Nat.le_refl _) (fun _ _ _ => rfl)
theorem Whl.only {O' : Nat → Prop} (h : Whl w O p now l) (ho : Only O' w w') (hd : ∀ b, O b → b < w.heap.size → ¬ O' b) : Whl w' O p now l := h.move ho.size (fun b h1 h2 => ho.block b h2 (hd b h1 h2))
/-- The names' map: who is there, at which timer. -/
theorem Rep.ents {m : Nat} {S : Slots} (h : Rep w O p m now S []) : ∃ es, IsM w m es ∧ es.Perm ((nodes S).map fun n => (n.id, ptr (some n.b))) := h.names
theorem ids_nodup {m : Nat} {S : Slots} (h : Rep w O p m now S []) (hl : l.Perm ((nodes S).map ent)) : (l.map Prod.fst).Nodup := by
  obtain ⟨es, he, hp⟩ := h.names
  have h1 := (hp.map Prod.fst).nodup_iff.1 he.nodup
  have h2 := (hl.map Prod.fst).nodup_iff.2
  apply h2
  simpa [List.map_map, Function.comp_def, ent] using h1
theorem Whl.nodup (h : Whl w O p now l) : (l.map Prod.fst).Nodup := by
  obtain ⟨m, S, h1, h2, h3⟩ := h.rep
  exact ids_nodup h1 h3
end

/-! ### New -/
def wcells (a : Int) (b : Option Nat) : Array Value := ((Value.int .i64 a :: List.replicate 448 (Value.pointer none)) ++ (List.replicate 7 (Value.int .i64 0) ++ [Value.map b])).toArray
theorem build_W (a : Int) (b : Option Nat) (w : World) : (Instr.build 73 #[(0, .int .i64 a), (3, .map b)]).run Try.prog w = .ok (.agg (wcells a b)) w := by kernel_rfl
theorem cells_any (x y z u : Value) (n q : Nat) : ((x :: List.replicate n y) ++ (List.replicate q z ++ [u])).toArray.size = n + q + 2 ∧ ((x :: List.replicate n y) ++ (List.replicate q z ++ [u])).toArray[0]? = some x ∧
    (∀ i, i < n → ((x :: List.replicate n y) ++ (List.replicate q z ++ [u])).toArray[1 + i]? = some y) ∧ (∀ i, i < q → ((x :: List.replicate n y) ++ (List.replicate q z ++ [u])).toArray[1 + n + i]? = some z) ∧ ((x :: List.replicate n y) ++ (List.replicate q z ++ [u])).toArray[1 + n + q]? = some u := by
  refine ⟨by simp; omega, by simp, fun i hi => ?_, fun i hi => ?_, ?_⟩
  · rw [List.getElem?_toArray, List.getElem?_append_left (by simp; omega), Nat.add_comm, List.getElem?_cons_succ, List.getElem?_replicate, if_pos hi]
  · rw [List.getElem?_toArray, List.getElem?_append_right (by simp; omega), List.getElem?_append_left (by simp; omega), List.getElem?_replicate, if_pos (by simp; omega)]
  · rw [List.getElem?_toArray, List.getElem?_append_right (by simp; omega), List.getElem?_append_right (by simp; omega)]
    simp
    rw [show 1 + n + q - (n + 1) - q = 0 from by omega]
    rfl
theorem wcells_facts (a : Int) (m : Nat) : (wcells a (some m)).size = 457 ∧ (wcells a (some m))[0]? = some (.int .i64 a) ∧ (∀ r k, r < 7 → k < 64 → (wcells a (some m))[1 + 64 * r + k]? = some (ptr (hd none []))) ∧ (∀ r, r < 7 → (wcells a (some m))[449 + r]? = some (.int .i64 (0 : Nat))) ∧ (wcells a (some m))[456]? = some (.map (some m)) := by
  obtain ⟨f1, f2, f3, f4, f5⟩ := cells_any (.int .i64 a) (.pointer none) (.int .i64 0) (.map (some m)) 448 7
  exact ⟨f1, f2, fun r k hr hk => by rw [show 1 + 64 * r + k = 1 + (64 * r + k) from by omega]; exact f3 _ (by omega), fun r hr => f4 r hr, f5⟩

set_option maxRecDepth 100000 in
set_option maxHeartbeats 1000000 in
theorem new_good (now : Int) (w : World) (h0 : 0 ≤ now) (h1 : now ≤ 1099511627776) :
    Calls Try.prog 25 #[.int .i64 now] w fun e w' => e = .returned (.tuple #[.pointer (some ⟨w.heap.size + 1, 0, none⟩), .int .i64 0]) ∧ ∃ n, w' = ((w.alloc (.map #[] 0)).alloc (.cells (wcells now (some w.heap.size)) 73)).drewN n := by
  have ht : Aside0 (decide (0 ≤ now ∧ now ≤ 1099511627776) = true) := ⟨by simp [h0, h1]⟩
  have hmm := @run_makeMap Try.prog
  have hbw := build_W
  go_enter Try.func25, Try.ntmps25
  go_wp2_with fail
  refine (isTime_calls now _).mono ?_
  rintro e w' ⟨rfl, n, rfl⟩
  rw [ht.out]
  go_wp2_with fail
  go_ret2
  exact ⟨rfl, n, rfl⟩

theorem new_bad (now : Int) (w : World) (h : ¬ (0 ≤ now ∧ now ≤ 1099511627776)) :
    Calls Try.prog 25 #[.int .i64 now] w fun e w' => e = .returned (.tuple #[.pointer none, .int .i64 2]) ∧ ∃ n, w' = w.drewN n := by
  have ht : Aside0 (decide (0 ≤ now ∧ now ≤ 1099511627776) = false) := ⟨decide_eq_false h⟩
  clear h
  go_enter Try.func25, Try.ntmps25
  go_wp2_with fail
  refine (isTime_calls now _).mono ?_
  rintro e w' ⟨rfl, n, rfl⟩
  rw [ht.out]
  go_wp2_with fail
  go_ret2
  exact ⟨rfl, n, rfl⟩

/-- New: a wheel in blocks of its own. -/
theorem new_calls (now : Int) (w : World) (h0 : 0 ≤ now) (h1 : now ≤ 1099511627776) :
    Calls Try.prog 25 #[.int .i64 now] w fun e w' => e = .returned (.tuple #[.pointer (some ⟨w.heap.size + 1, 0, none⟩), .int .i64 0]) ∧ Whl w' (fun b => w.heap.size ≤ b ∧ b < w'.heap.size) (w.heap.size + 1) now [] ∧ Below w.heap.size w w' := by
  refine (new_good now w h0 h1).mono ?_
  rintro e w' ⟨rfl, n, rfl⟩
  have hb0 : Below w.heap.size w (((w.alloc (.map #[] 0)).alloc (.cells (wcells now (some w.heap.size)) 73)).drewN n) := pw_below_drewN (below_alloc (below_alloc (Below.refl _ _) _) _) n
  have hsz : ((((w.alloc (.map #[] 0)).alloc (.cells (wcells now (some w.heap.size)) 73)).drewN n)).heap.size = w.heap.size + 2 := by
    rw [World.heap_drewN, World.size_alloc, World.size_alloc]
  refine ⟨rfl, ⟨⟨w.heap.size, fun _ _ => [], ⟨⟨?_⟩, fun _ _ _ _ => trivial, fun n hn => by simp at hn, ⟨[], ?_, ?_⟩, ?_, ?_, ?_, fun n hn => ?_⟩, fun r k _ _ n hn => by simp at hn, ?_⟩, h0, h1, List.Pairwise.nil, fun e he => by simp at he, by simp, fun b hb => hb.2⟩, hb0⟩
  · have hc : ∀ r, cnt (fun _ _ => []) r = 0 := fun r => by
      have : ∀ n, ((List.range n).flatMap fun _ => ([] : List Node)) = [] := fun n => by simp
      unfold cnt row
      rw [this]
      rfl
    obtain ⟨f1, f2, f3, f4, f5⟩ := wcells_facts now w.heap.size
    refine ⟨_, blk_drewN (show _ = _ from ?_) n, f1, f2, f3, fun r hr => by rw [hc]; exact f4 r hr, f5⟩
    have := blk_new (w.alloc (.map #[] 0)) (.cells (wcells now (some w.heap.size)) 73)
    rwa [World.size_alloc] at this
  · exact ((isM_new w).move (Below.heap_alloc _ _ _ (by rw [World.size_alloc]; omega))).move rfl
  · have : nodes (fun _ _ => []) = [] := by simp [nodes, row]
    rw [this]
    exact List.Perm.refl _
  · have : nodes (fun _ _ => []) = [] := by simp [nodes, row]
    rw [this]
    exact List.nodup_nil
  · exact ⟨by omega, by rw [hsz]; omega⟩
  · exact ⟨by omega, by rw [hsz]; omega⟩
  · have : nodes (fun _ _ => []) = [] := by simp [nodes, row]
    rw [this] at hn
    simp at hn
  · have : nodes (fun _ _ => []) = [] := by simp [nodes, row]
    rw [this]
    exact List.Perm.refl _

/-! ### isName, find, ahead -/
theorem isName_calls (s : ByteArray) (w : World) (hs : s.size < 4611686018427387904) :
    Calls Try.prog 42 #[.string s] w fun e w' => e = .returned (.bool (decide (1 ≤ s.size ∧ s.size ≤ 64))) ∧ ∃ q, w' = w.drewN q := by
  by_cases h : 1 ≤ s.size
  · have hd : decide (1 ≤ s.size) = true := by simpa using h
    go_enter Try.func42, Try.ntmps42
    go_wp2
    all_goals
      (try go_quiet (fail))
      (try go_wp2)
      go_ret
      exact ⟨by simp [h] <;> omega, 0, rfl⟩
  · have hd : decide (1 ≤ s.size) = false := by simpa using h
    go_enter Try.func42, Try.ntmps42
    go_wp2
    all_goals
      (try go_quiet (fail))
      (try go_wp2)
      go_ret
      exact ⟨by simp [h] <;> omega, 0, rfl⟩
end Go.Proofs.Ytaefbibkkkglnaa.Wh
