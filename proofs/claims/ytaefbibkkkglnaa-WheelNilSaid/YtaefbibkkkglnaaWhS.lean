/- Wheel: the slots as lists of timers, plain. No condition. -/
import Derived.Test.YtaefbibkkkglnaaWhL
namespace Go.Proofs.Ytaefbibkkkglnaa.Wh
open Go
set_option linter.unusedVariables false
set_option linter.unusedSimpArgs false

structure Node where
  b : Nat
  id : ByteArray
  tm : Int
def ent (n : Node) : E := (n.id, n.tm)
abbrev Slots := Nat → Nat → List Node
def upd (S : Slots) (r k : Nat) (L : List Node) : Slots := fun r' k' => if r' = r ∧ k' = k then L else S r' k'
theorem upd_same (S : Slots) (r k : Nat) (L : List Node) : upd S r k L r k = L := by simp [upd]
theorem upd_other {S : Slots} {r k : Nat} {L : List Node} {r' k' : Nat} (h : ¬ (r' = r ∧ k' = k)) : upd S r k L r' k' = S r' k' := by simp [upd, h]
def row (f : Nat → List Node) : List Node := (List.range 64).flatMap f
def nodes (S : Slots) : List Node := (List.range 7).flatMap fun r => row (S r)
def cnt (S : Slots) (r : Nat) : Nat := (row (S r)).length

theorem flat_upd {f g : Nat → List Node} {i : Nat} (h : ∀ j, j ≠ i → g j = f j) : ∀ n, i < n → ((List.range n).flatMap g ++ f i).Perm ((List.range n).flatMap f ++ g i)
  | 0, hi => absurd hi (Nat.not_lt_zero _)
  | n + 1, hi => by
    simp only [List.range_succ, List.flatMap_append, List.flatMap_cons, List.flatMap_nil, List.append_nil]
    by_cases e : i = n
    · subst e
      have : (List.range i).flatMap g = (List.range i).flatMap f := by
        have : ∀ m, m ≤ i → (List.range m).flatMap g = (List.range m).flatMap f := fun m => by
          induction m with
          | zero => intro _; rfl
          | succ m ih =>
            intro hm
            simp only [List.range_succ, List.flatMap_append, List.flatMap_cons, List.flatMap_nil, List.append_nil]
            rw [ih (by omega), h m (by omega)]
        exact this i (Nat.le_refl _)
      rw [this, List.append_assoc, List.append_assoc]
      exact List.Perm.append_left _ List.perm_append_comm
    · rw [h n (fun q => e q.symm)]
      have ih := flat_upd h n (by omega)
      rw [List.append_assoc, List.append_assoc]
      refine (List.Perm.append_left _ List.perm_append_comm).trans ?_
      rw [← List.append_assoc]
      refine (ih.append_right _).trans ?_
      rw [List.append_assoc]
      exact List.Perm.append_left _ List.perm_append_comm
theorem row_upd {S : Slots} {r k : Nat} (L : List Node) (hk : k < 64) : (row (upd S r k L r) ++ S r k).Perm (row (S r) ++ L) := by
  have := flat_upd (f := S r) (g := upd S r k L r) (i := k) (fun j hj => upd_other (fun q => hj q.2)) 64 hk
  rwa [upd_same] at this
theorem nodes_upd {S : Slots} {r k : Nat} (L : List Node) (hr : r < 7) (hk : k < 64) : (nodes (upd S r k L) ++ S r k).Perm (nodes S ++ L) := by
  have h1 := flat_upd (f := fun r => row (S r)) (g := fun r' => row (upd S r k L r')) (i := r) (fun j hj => by
    have : upd S r k L j = S j := funext fun k' => upd_other (fun q => hj q.1)
    simp only [this]) 7 hr
  have h2 := row_upd (S := S) (r := r) L hk
  have h3 : ((nodes (upd S r k L) ++ S r k) ++ row (S r)).Perm ((nodes S ++ L) ++ row (S r)) := by
    refine (show ((nodes (upd S r k L) ++ S r k) ++ row (S r)).Perm ((nodes (upd S r k L) ++ row (S r)) ++ S r k) from ?_).trans ?_
    · rw [List.append_assoc, List.append_assoc]
      exact List.Perm.append_left _ List.perm_append_comm
    · refine (h1.append_right _).trans ?_
      show (nodes S ++ row (upd S r k L r) ++ S r k).Perm _
      rw [List.append_assoc]
      refine (List.Perm.append_left _ h2).trans ?_
      rw [List.append_assoc]
      exact List.Perm.append_left _ List.perm_append_comm
  exact (List.perm_append_right_iff _).1 h3
theorem cnt_upd {S : Slots} {r k : Nat} (L : List Node) (hk : k < 64) : cnt (upd S r k L) r + (S r k).length = cnt S r + L.length := by
  have := (row_upd (S := S) (r := r) L hk).length_eq
  simpa [cnt] using this
theorem cnt_other {S : Slots} {r k r' : Nat} (L : List Node) (h : r' ≠ r) : cnt (upd S r k L) r' = cnt S r' := by
  have : upd S r k L r' = S r' := funext fun k' => upd_other (fun q => h q.1)
  simp [cnt, this]
theorem nodes_in {S : Slots} {r k : Nat} {t : Node} (hr : r < 7) (hk : k < 64) : (nodes (upd S r k (t :: S r k))).Perm (t :: nodes S) := by
  have h := nodes_upd (S := S) (t :: S r k) hr hk
  refine (List.perm_append_right_iff (S r k)).1 (h.trans ?_)
  exact List.perm_middle
theorem nodes_out {S : Slots} {r k : Nat} {t : Node} {xs ys : List Node} (hr : r < 7) (hk : k < 64) (hS : S r k = xs ++ t :: ys) : (t :: nodes (upd S r k (xs ++ ys))).Perm (nodes S) := by
  have h := nodes_upd (S := S) (xs ++ ys) hr hk
  rw [hS] at h
  refine (List.perm_append_right_iff (xs ++ ys)).1 (List.Perm.trans ?_ h)
  rw [List.cons_append]
  refine List.Perm.trans ?_ (List.Perm.append_left _ List.perm_middle.symm)
  exact List.perm_middle.symm
theorem mem_row {f : Nat → List Node} {n : Node} : n ∈ row f ↔ ∃ k, k < 64 ∧ n ∈ f k := by
  unfold row
  simp [List.mem_flatMap]
theorem mem_nodes {S : Slots} {n : Node} : n ∈ nodes S ↔ ∃ r k, r < 7 ∧ k < 64 ∧ n ∈ S r k := by
  unfold nodes
  simp only [List.mem_flatMap, List.mem_range, mem_row]
  constructor
  · rintro ⟨r, hr, k, hk, h⟩; exact ⟨r, k, hr, hk, h⟩
  · rintro ⟨r, k, hr, hk, h⟩; exact ⟨r, hr, k, hk, h⟩
theorem len_flat (f : Nat → List Node) (r : Nat) : ∀ n, r < n → (f r).length ≤ ((List.range n).flatMap f).length
  | 0, h => absurd h (Nat.not_lt_zero _)
  | n + 1, h => by
    simp only [List.range_succ, List.flatMap_append, List.flatMap_cons, List.flatMap_nil, List.append_nil, List.length_append]
    by_cases e : r = n
    · subst e; omega
    · have := len_flat f r n (by omega); omega
theorem cnt_le {S : Slots} {r : Nat} (hr : r < 7) : cnt S r ≤ (nodes S).length := len_flat (fun r => row (S r)) r 7 hr
theorem slot_le {S : Slots} {r k : Nat} (hk : k < 64) : (S r k).length ≤ cnt S r := len_flat (S r) k 64 hk
theorem cnt_zero {S : Slots} {r : Nat} (h : cnt S r = 0) (k : Nat) (hk : k < 64) : S r k = [] := List.eq_nil_of_length_eq_zero (by have := slot_le (S := S) (r := r) hk; omega)

/-! ### the blocks' places in a list -/
def hd (nx : Option Nat) : List Node → Option Nat
  | [] => nx
  | n :: _ => some n.b
def last (pv : Option Nat) : List Node → Option Nat
  | [] => pv
  | n :: ns => last (some n.b) ns
theorem hd_append (nx : Option Nat) (ys : List Node) : ∀ xs : List Node, hd nx (xs ++ ys) = hd (hd nx ys) xs
  | [] => rfl
  | _ :: _ => rfl
theorem last_append (ys : List Node) : ∀ (pv : Option Nat) (xs : List Node), last pv (xs ++ ys) = last (last pv xs) ys
  | _, [] => rfl
  | _, n :: xs => last_append ys (some n.b) xs
end Go.Proofs.Ytaefbibkkkglnaa.Wh
