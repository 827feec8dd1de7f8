/- Stripes: both tables side by side, or neither; the contracts of their functions over the pair. No condition beside the tables' size. -/
import Derived.Test.YtgklgicfgpemgaaLkNilC
namespace Go.Proofs.Ytgklgicfgpemgaa.Lk
open Go.RowKit Go.Proofs.YtgklgicfgpemgaaW.PrintWords
set_option linter.unusedVariables false
set_option linter.unusedSimpArgs false

/-- Both tables, in blocks from lo on and below hi; or neither. -/
def TT (p q : Option Addr) (lo hi : Nat) (o : Option (List Lane × List Lane)) (w : World) : Prop :=
  match o with
  | none => p = none ∧ q = none
  | some z => ∃ a g b h, p = some ⟨a, 0, none⟩ ∧ q = some ⟨b, 0, none⟩ ∧ Tab a g z.1 w ∧ RTab b h z.2 w ∧ (lo ≤ g ∧ g < hi) ∧ (lo ≤ h ∧ h < hi) ∧ (lo ≤ a ∧ a < hi) ∧ (lo ≤ b ∧ b < hi) ∧ g ≠ b ∧ g ≠ h ∧ h ≠ a

/-- Nothing changed but blocks from lo on and below hi. -/
structure Mid (lo hi : Nat) (w w' : World) : Prop where
  os : w'.os = w.os
  tape : w'.tape = w.tape
  output : w'.output = w.output
  size : w.heap.size ≤ w'.heap.size
  block : ∀ k, k < w.heap.size → ¬ (lo ≤ k ∧ k < hi) → w'.heap[k]? = w.heap[k]?
theorem Mid.of_grown {lo hi g : Nat} {w w' : World} (h : w.grownBy w' (some g)) (hg : lo ≤ g ∧ g < hi) : Mid lo hi w w' :=
  ⟨h.os, h.tape, h.output, h.size, fun k hk hn => h.block k hk (fun e => by cases e; exact hn hg)⟩
theorem Mid.drewN (lo hi : Nat) (w : World) (n : Nat) : Mid lo hi w (w.drewN n) := ⟨rfl, rfl, rfl, Nat.le_refl _, fun _ _ _ => rfl⟩
theorem Mid.trans {lo hi : Nat} {w w1 w2 : World} (h : Mid lo hi w w1) (k : Mid lo hi w1 w2) : Mid lo hi w w2 :=
  ⟨k.os.trans h.os, k.tape.trans h.tape, k.output.trans h.output, Nat.le_trans h.size k.size, fun i hi' hn => (k.block i (Nat.lt_of_lt_of_le hi' h.size) hn).trans (h.block i hi' hn)⟩
theorem TT.drewN {p q : Option Addr} {lo hi : Nat} {o : Option (List Lane × List Lane)} {w : World} (h : TT p q lo hi o w) (n : Nat) : TT p q lo hi o (w.drewN n) := by
  cases o with
  | none => exact h
  | some z =>
    obtain ⟨a, g, b, h', e1, e2, t, r, rest⟩ := h
    exact ⟨a, g, b, h', e1, e2, t.drewN n, r.drewN n, rest⟩
theorem Tab.far {a g : Nat} {xs : List Lane} {w w' : World} {h : Nat} (t : Tab a g xs w) (k : w.grownBy w' (some h)) (h1 : h ≠ a) (h2 : g ≠ h) : Tab a g xs w' :=
  t.moved (k.block a (blk_lt t.head) (fun e => h1 (by cases e; rfl))) (k.block g (blk_lt t.row) (fun e => h2 (by cases e; rfl)))
theorem RTab.far {a g : Nat} {xs : List Lane} {w w' : World} {h : Nat} (t : RTab a g xs w) (k : w.grownBy w' (some h)) (h1 : h ≠ a) (h2 : h ≠ g) : RTab a g xs w' :=
  t.moved (k.block a (blk_lt t.head) (fun e => h1 (by cases e; rfl))) (k.block g (blk_lt t.row) (fun e => h2 (by cases e; rfl)))

/-- An answer of the first table, or of the second; d: of a table that there isn't. -/
def oT {α : Type} (f : List Lane → α) (d : α) : Option (List Lane × List Lane) → α
  | none => d
  | some z => f z.1
def oR {α : Type} (f : List Lane → α) (d : α) : Option (List Lane × List Lane) → α
  | none => d
  | some z => f z.2

section
variable {p q : Option Addr} {lo hi : Nat} {o : Option (List Lane × List Lane)} {w : World} (H : TT p q lo hi o w)
include H

theorem t_ticket (s : Int) (hg : ∀ z, o = some z → ∀ x ∈ z.1, 0 ≤ x.given) :
    Calls Try.prog 11 #[.pointer p, .int .i64 s] w fun e w' => e = .returned (.tuple #[.int .i64 (oT (fun xs => (ticketF xs s).1) ((0 : Int), (0 : Int)) o).1, .int .i64 (oT (fun xs => (ticketF xs s).1) ((0 : Int), (0 : Int)) o).2]) ∧ TT p q lo hi (o.map fun z => ((ticketF z.1 s).2, z.2)) w' ∧ Mid lo hi w w' := by
  cases o with
  | none =>
    obtain ⟨rfl, rfl⟩ := H
    refine (nticket s w).mono ?_
    rintro e w' ⟨rfl, n, rfl⟩
    exact ⟨rfl, ⟨rfl, rfl⟩, Mid.drewN _ _ _ _⟩
  | some z =>
    obtain ⟨a, g, b, h, rfl, rfl, tt, rr, bg, bh, ba, bb, n1, n2, n3⟩ := H
    refine (ticket_calls a g z.1 s w tt (hg z rfl)).mono ?_
    rintro e w' ⟨rfl, t', k⟩
    exact ⟨rfl, ⟨a, g, b, h, rfl, rfl, t', rr.far k n1 n2, bg, bh, ba, bb, n1, n2, n3⟩, Mid.of_grown k bg⟩

theorem u_ticket (s : Int) (hg : ∀ z, o = some z → ∀ x ∈ z.2, 0 ≤ x.given) :
    Calls Try.prog 21 #[.pointer q, .int .i64 s] w fun e w' => e = .returned (.tuple #[.int .i64 (oR (fun xs => (ticketF xs s).1) ((0 : Int), (0 : Int)) o).1, .int .i64 (oR (fun xs => (ticketF xs s).1) ((0 : Int), (0 : Int)) o).2]) ∧ TT p q lo hi (o.map fun z => (z.1, (ticketF z.2 s).2)) w' ∧ Mid lo hi w w' := by
  cases o with
  | none =>
    obtain ⟨rfl, rfl⟩ := H
    refine (rnticket s w).mono ?_
    rintro e w' ⟨rfl, n, rfl⟩
    exact ⟨rfl, ⟨rfl, rfl⟩, Mid.drewN _ _ _ _⟩
  | some z =>
    obtain ⟨a, g, b, h, rfl, rfl, tt, rr, bg, bh, ba, bb, n1, n2, n3⟩ := H
    refine (rticket_calls b h z.2 s w rr (hg z rfl)).mono ?_
    rintro e w' ⟨rfl, t', k⟩
    exact ⟨rfl, ⟨a, g, b, h, rfl, rfl, tt.far k n3 n2, t', bg, bh, ba, bb, n1, n2, n3⟩, Mid.of_grown k bh⟩

theorem t_served (s u : Int) :
    Calls Try.prog 12 #[.pointer p, .int .i64 s, .int .i64 u] w fun e w' => e = .returned (.bool (oT (fun xs => servedF xs s u) false o)) ∧ TT p q lo hi (o) w' ∧ Mid lo hi w w' := by
  cases o with
  | none =>
    obtain ⟨rfl, rfl⟩ := H
    refine (nserved s u w).mono ?_
    rintro e w' ⟨rfl, n, rfl⟩
    exact ⟨rfl, ⟨rfl, rfl⟩, Mid.drewN _ _ _ _⟩
  | some z =>
    obtain ⟨a, g, b, h, rfl, rfl, tt, rr, bg, bh, ba, bb, n1, n2, n3⟩ := H
    refine (served_calls a g z.1 s u w tt).mono ?_
    rintro e w' ⟨rfl, t', k⟩
    exact ⟨rfl, ⟨a, g, b, h, rfl, rfl, t', rr.far k n1 n2, bg, bh, ba, bb, n1, n2, n3⟩, Mid.of_grown k bg⟩

theorem u_served (s u : Int) :
    Calls Try.prog 22 #[.pointer q, .int .i64 s, .int .i64 u] w fun e w' => e = .returned (.bool (oR (fun xs => servedF xs s u) false o)) ∧ TT p q lo hi (o) w' ∧ Mid lo hi w w' := by
  cases o with
  | none =>
    obtain ⟨rfl, rfl⟩ := H
    refine (rnserved s u w).mono ?_
    rintro e w' ⟨rfl, n, rfl⟩
    exact ⟨rfl, ⟨rfl, rfl⟩, Mid.drewN _ _ _ _⟩
  | some z =>
    obtain ⟨a, g, b, h, rfl, rfl, tt, rr, bg, bh, ba, bb, n1, n2, n3⟩ := H
    refine (rserved_calls b h z.2 s u w rr).mono ?_
    rintro e w' ⟨rfl, t', k⟩
    exact ⟨rfl, ⟨a, g, b, h, rfl, rfl, tt.far k n3 n2, t', bg, bh, ba, bb, n1, n2, n3⟩, Mid.of_grown k bh⟩

theorem t_seq (s : Int) :
    Calls Try.prog 17 #[.pointer p, .int .i64 s] w fun e w' => e = .returned (.int .i64 (oT (fun xs => seqF xs s) (0 : Int) o)) ∧ TT p q lo hi (o) w' ∧ Mid lo hi w w' := by
  cases o with
  | none =>
    obtain ⟨rfl, rfl⟩ := H
    refine (nseq s w).mono ?_
    rintro e w' ⟨rfl, n, rfl⟩
    exact ⟨rfl, ⟨rfl, rfl⟩, Mid.drewN _ _ _ _⟩
  | some z =>
    obtain ⟨a, g, b, h, rfl, rfl, tt, rr, bg, bh, ba, bb, n1, n2, n3⟩ := H
    refine (seq_calls a g z.1 s w tt).mono ?_
    rintro e w' ⟨rfl, t', k⟩
    exact ⟨rfl, ⟨a, g, b, h, rfl, rfl, t', rr.far k n1 n2, bg, bh, ba, bb, n1, n2, n3⟩, Mid.of_grown k bg⟩

theorem u_seq (s : Int) :
    Calls Try.prog 26 #[.pointer q, .int .i64 s] w fun e w' => e = .returned (.int .i64 (oR (fun xs => seqF xs s) (0 : Int) o)) ∧ TT p q lo hi (o) w' ∧ Mid lo hi w w' := by
  cases o with
  | none =>
    obtain ⟨rfl, rfl⟩ := H
    refine (rnseq s w).mono ?_
    rintro e w' ⟨rfl, n, rfl⟩
    exact ⟨rfl, ⟨rfl, rfl⟩, Mid.drewN _ _ _ _⟩
  | some z =>
    obtain ⟨a, g, b, h, rfl, rfl, tt, rr, bg, bh, ba, bb, n1, n2, n3⟩ := H
    refine (rseq_calls b h z.2 s w rr).mono ?_
    rintro e w' ⟨rfl, t', k⟩
    exact ⟨rfl, ⟨a, g, b, h, rfl, rfl, tt.far k n3 n2, t', bg, bh, ba, bb, n1, n2, n3⟩, Mid.of_grown k bh⟩

theorem t_waiting (s : Int) :
    Calls Try.prog 16 #[.pointer p, .int .i64 s] w fun e w' => e = .returned (.int .i64 (oT (fun xs => waitingF xs s) (0 : Int) o)) ∧ TT p q lo hi (o) w' ∧ Mid lo hi w w' := by
  cases o with
  | none =>
    obtain ⟨rfl, rfl⟩ := H
    refine (nwaiting s w).mono ?_
    rintro e w' ⟨rfl, n, rfl⟩
    exact ⟨rfl, ⟨rfl, rfl⟩, Mid.drewN _ _ _ _⟩
  | some z =>
    obtain ⟨a, g, b, h, rfl, rfl, tt, rr, bg, bh, ba, bb, n1, n2, n3⟩ := H
    refine (waiting_calls a g z.1 s w tt).mono ?_
    rintro e w' ⟨rfl, t', k⟩
    exact ⟨rfl, ⟨a, g, b, h, rfl, rfl, t', rr.far k n1 n2, bg, bh, ba, bb, n1, n2, n3⟩, Mid.of_grown k bg⟩

theorem u_waiting (s : Int) :
    Calls Try.prog 27 #[.pointer q, .int .i64 s] w fun e w' => e = .returned (.int .i64 (oR (fun xs => waitingF xs s) (0 : Int) o)) ∧ TT p q lo hi (o) w' ∧ Mid lo hi w w' := by
  cases o with
  | none =>
    obtain ⟨rfl, rfl⟩ := H
    refine (rnwaiting s w).mono ?_
    rintro e w' ⟨rfl, n, rfl⟩
    exact ⟨rfl, ⟨rfl, rfl⟩, Mid.drewN _ _ _ _⟩
  | some z =>
    obtain ⟨a, g, b, h, rfl, rfl, tt, rr, bg, bh, ba, bb, n1, n2, n3⟩ := H
    refine (rwaiting_calls b h z.2 s w rr).mono ?_
    rintro e w' ⟨rfl, t', k⟩
    exact ⟨rfl, ⟨a, g, b, h, rfl, rfl, tt.far k n3 n2, t', bg, bh, ba, bb, n1, n2, n3⟩, Mid.of_grown k bh⟩

theorem t_leave (s u : Int) :
    Calls Try.prog 13 #[.pointer p, .int .i64 s, .int .i64 u] w fun e w' => e = .returned (.int .i64 (oT (fun xs => (turnF 0 leaveUp xs s u).1) (0 : Int) o)) ∧ TT p q lo hi (o.map fun z => ((turnF 0 leaveUp z.1 s u).2, z.2)) w' ∧ Mid lo hi w w' := by
  cases o with
  | none =>
    obtain ⟨rfl, rfl⟩ := H
    refine (nleave s u w).mono ?_
    rintro e w' ⟨rfl, n, rfl⟩
    exact ⟨rfl, ⟨rfl, rfl⟩, Mid.drewN _ _ _ _⟩
  | some z =>
    obtain ⟨a, g, b, h, rfl, rfl, tt, rr, bg, bh, ba, bb, n1, n2, n3⟩ := H
    refine (leave_calls a g z.1 s u w tt).mono ?_
    rintro e w' ⟨rfl, t', k⟩
    exact ⟨rfl, ⟨a, g, b, h, rfl, rfl, t', rr.far k n1 n2, bg, bh, ba, bb, n1, n2, n3⟩, Mid.of_grown k bg⟩

theorem u_leave (s u : Int) (hg : ∀ z, o = some z → ∀ x ∈ z.2, 0 ≤ x.seq) :
    Calls Try.prog 23 #[.pointer q, .int .i64 s, .int .i64 u] w fun e w' => e = .returned (.int .i64 (oR (fun xs => (turnF 0 leaveUp xs s u).1) (0 : Int) o)) ∧ TT p q lo hi (o.map fun z => (z.1, (turnF 0 leaveUp z.2 s u).2)) w' ∧ Mid lo hi w w' := by
  cases o with
  | none =>
    obtain ⟨rfl, rfl⟩ := H
    refine (rnleave s u w).mono ?_
    rintro e w' ⟨rfl, n, rfl⟩
    exact ⟨rfl, ⟨rfl, rfl⟩, Mid.drewN _ _ _ _⟩
  | some z =>
    obtain ⟨a, g, b, h, rfl, rfl, tt, rr, bg, bh, ba, bb, n1, n2, n3⟩ := H
    refine (rleave_calls b h z.2 s u w rr (hg z rfl)).mono ?_
    rintro e w' ⟨rfl, t', k⟩
    exact ⟨rfl, ⟨a, g, b, h, rfl, rfl, tt.far k n3 n2, t', bg, bh, ba, bb, n1, n2, n3⟩, Mid.of_grown k bh⟩

theorem t_odd (s u : Int) :
    Calls Try.prog 14 #[.pointer p, .int .i64 s, .int .i64 u] w fun e w' => e = .returned (.int .i64 (oT (fun xs => (turnF 0 seqUp xs s u).1) (0 : Int) o)) ∧ TT p q lo hi (o.map fun z => ((turnF 0 seqUp z.1 s u).2, z.2)) w' ∧ Mid lo hi w w' := by
  cases o with
  | none =>
    obtain ⟨rfl, rfl⟩ := H
    refine (nodd s u w).mono ?_
    rintro e w' ⟨rfl, n, rfl⟩
    exact ⟨rfl, ⟨rfl, rfl⟩, Mid.drewN _ _ _ _⟩
  | some z =>
    obtain ⟨a, g, b, h, rfl, rfl, tt, rr, bg, bh, ba, bb, n1, n2, n3⟩ := H
    refine (odd_calls a g z.1 s u w tt).mono ?_
    rintro e w' ⟨rfl, t', k⟩
    exact ⟨rfl, ⟨a, g, b, h, rfl, rfl, t', rr.far k n1 n2, bg, bh, ba, bb, n1, n2, n3⟩, Mid.of_grown k bg⟩

theorem u_odd (s u : Int) :
    Calls Try.prog 24 #[.pointer q, .int .i64 s, .int .i64 u] w fun e w' => e = .returned (.int .i64 (oR (fun xs => (turnF 0 seqUp xs s u).1) (0 : Int) o)) ∧ TT p q lo hi (o.map fun z => (z.1, (turnF 0 seqUp z.2 s u).2)) w' ∧ Mid lo hi w w' := by
  cases o with
  | none =>
    obtain ⟨rfl, rfl⟩ := H
    refine (rnodd s u w).mono ?_
    rintro e w' ⟨rfl, n, rfl⟩
    exact ⟨rfl, ⟨rfl, rfl⟩, Mid.drewN _ _ _ _⟩
  | some z =>
    obtain ⟨a, g, b, h, rfl, rfl, tt, rr, bg, bh, ba, bb, n1, n2, n3⟩ := H
    refine (rodd_calls b h z.2 s u w rr).mono ?_
    rintro e w' ⟨rfl, t', k⟩
    exact ⟨rfl, ⟨a, g, b, h, rfl, rfl, tt.far k n3 n2, t', bg, bh, ba, bb, n1, n2, n3⟩, Mid.of_grown k bh⟩

theorem t_even (s u : Int) :
    Calls Try.prog 15 #[.pointer p, .int .i64 s, .int .i64 u] w fun e w' => e = .returned (.int .i64 (oT (fun xs => (turnF 1 seqUp xs s u).1) (0 : Int) o)) ∧ TT p q lo hi (o.map fun z => ((turnF 1 seqUp z.1 s u).2, z.2)) w' ∧ Mid lo hi w w' := by
  cases o with
  | none =>
    obtain ⟨rfl, rfl⟩ := H
    refine (neven s u w).mono ?_
    rintro e w' ⟨rfl, n, rfl⟩
    exact ⟨rfl, ⟨rfl, rfl⟩, Mid.drewN _ _ _ _⟩
  | some z =>
    obtain ⟨a, g, b, h, rfl, rfl, tt, rr, bg, bh, ba, bb, n1, n2, n3⟩ := H
    refine (even_calls a g z.1 s u w tt).mono ?_
    rintro e w' ⟨rfl, t', k⟩
    exact ⟨rfl, ⟨a, g, b, h, rfl, rfl, t', rr.far k n1 n2, bg, bh, ba, bb, n1, n2, n3⟩, Mid.of_grown k bg⟩

theorem u_even (s u : Int) :
    Calls Try.prog 25 #[.pointer q, .int .i64 s, .int .i64 u] w fun e w' => e = .returned (.int .i64 (oR (fun xs => (turnF 1 seqUp xs s u).1) (0 : Int) o)) ∧ TT p q lo hi (o.map fun z => (z.1, (turnF 1 seqUp z.2 s u).2)) w' ∧ Mid lo hi w w' := by
  cases o with
  | none =>
    obtain ⟨rfl, rfl⟩ := H
    refine (rneven s u w).mono ?_
    rintro e w' ⟨rfl, n, rfl⟩
    exact ⟨rfl, ⟨rfl, rfl⟩, Mid.drewN _ _ _ _⟩
  | some z =>
    obtain ⟨a, g, b, h, rfl, rfl, tt, rr, bg, bh, ba, bb, n1, n2, n3⟩ := H
    refine (reven_calls b h z.2 s u w rr).mono ?_
    rintro e w' ⟨rfl, t', k⟩
    exact ⟨rfl, ⟨a, g, b, h, rfl, rfl, tt.far k n3 n2, t', bg, bh, ba, bb, n1, n2, n3⟩, Mid.of_grown k bh⟩

theorem t_stripes :
    Calls Try.prog 19 #[.pointer p] w fun e w' => e = .returned (.int .i64 (oT (fun xs => (xs.length : Int)) 0 o)) ∧ TT p q lo hi o w' ∧ Mid lo hi w w' := by
  cases o with
  | none =>
    obtain ⟨rfl, rfl⟩ := H
    refine (nstripes w).mono ?_
    rintro e w' ⟨rfl, n, rfl⟩
    exact ⟨rfl, ⟨rfl, rfl⟩, Mid.drewN _ _ _ _⟩
  | some z =>
    obtain ⟨a, g, b, h, rfl, rfl, tt, rr, bg, bh, ba, bb, n1, n2, n3⟩ := H
    refine (stripes_calls a g z.1 w tt).mono ?_
    rintro e w' ⟨rfl, rfl⟩
    exact ⟨rfl, ⟨a, g, b, h, rfl, rfl, tt, rr, bg, bh, ba, bb, n1, n2, n3⟩, ⟨rfl, rfl, rfl, Nat.le_refl _, fun _ _ _ => rfl⟩⟩

theorem u_stripes :
    Calls Try.prog 20 #[.pointer q] w fun e w' => e = .returned (.int .i64 (oR (fun xs => (xs.length : Int)) 0 o)) ∧ TT p q lo hi o w' ∧ Mid lo hi w w' := by
  cases o with
  | none =>
    obtain ⟨rfl, rfl⟩ := H
    refine (rnstripes w).mono ?_
    rintro e w' ⟨rfl, n, rfl⟩
    exact ⟨rfl, ⟨rfl, rfl⟩, Mid.drewN _ _ _ _⟩
  | some z =>
    obtain ⟨a, g, b, h, rfl, rfl, tt, rr, bg, bh, ba, bb, n1, n2, n3⟩ := H
    refine (rstripes_calls b h z.2 w rr).mono ?_
    rintro e w' ⟨rfl, rfl⟩
    exact ⟨rfl, ⟨a, g, b, h, rfl, rfl, tt, rr, bg, bh, ba, bb, n1, n2, n3⟩, ⟨rfl, rfl, rfl, Nat.le_refl _, fun _ _ _ => rfl⟩⟩
end

theorem Mid.below {lo hi : Nat} {w w1 w2 : World} (hlo : w.heap.size ≤ lo) (h : Below w.heap.size w w1) (k : Mid lo hi w1 w2) : Below w.heap.size w w2 :=
  ⟨k.os.trans h.os, k.tape.trans h.tape, k.output.trans h.output, Nat.le_trans h.size k.size, fun i hi' => (k.block i (Nat.lt_of_lt_of_le hi' h.size) (by omega)).trans (h.block i hi')⟩
theorem Mid.far {lo hi : Nat} {w w' : World} (k : Mid lo hi w w') {a : Nat} {x : Obj} (h : w.heap[a]? = some x) (ha : hi ≤ a) : w'.heap[a]? = some x :=
  (k.block a (blk_lt h) (by omega)).trans h
/-- The pair is left alone by what leaves its blocks alone. -/
theorem TT.keep {p q : Option Addr} {lo hi : Nat} {o : Option (List Lane × List Lane)} {w w' : World} (h : TT p q lo hi o w) (k : ∀ b, b < hi → b < w.heap.size → w'.heap[b]? = w.heap[b]?) : TT p q lo hi o w' := by
  cases o with
  | none => exact h
  | some z =>
    obtain ⟨a, g, b, h', e1, e2, t, r, bg, bh, ba, bb, rest⟩ := h
    exact ⟨a, g, b, h', e1, e2, t.moved (k _ ba.2 (blk_lt t.head)) (k _ bg.2 (blk_lt t.row)), r.moved (k _ bb.2 (blk_lt r.head)) (k _ bh.2 (blk_lt r.row)), bg, bh, ba, bb, rest⟩
theorem TT.start {n : Nat} {w w1 w2 : World} (t : Tab (w.heap.size + 1) w.heap.size (List.replicate n L0) w1) (b1 : Below w.heap.size w w1) (r : RTab (w1.heap.size + 1) w1.heap.size (List.replicate n L0) w2) (b2 : Below w1.heap.size w1 w2) :
    TT (some ⟨w.heap.size + 1, 0, none⟩) (some ⟨w1.heap.size + 1, 0, none⟩) w.heap.size w2.heap.size (some (List.replicate n L0, List.replicate n L0)) w2 := by
  have s1 := blk_lt t.head
  have s2 := blk_lt r.head
  exact ⟨_, _, _, _, rfl, rfl, t.moved (b2.block _ s1) (b2.block _ (blk_lt t.row)), r, by omega, by omega, by omega, by omega, by omega, by omega, by omega⟩
end Go.Proofs.Ytgklgicfgpemgaa.Lk

