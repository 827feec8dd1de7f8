/- Stripes: both tables at equal lanes, or neither: the contracts call by call. No condition. -/
import Derived.Test.YtgklgicfgpemgaaLkDuo
namespace Go.Proofs.Ytgklgicfgpemgaa.Lk
open Go.RowKit Go.Proofs.YtgklgicfgpemgaaW.PrintWords
set_option linter.unusedVariables false
set_option linter.unusedSimpArgs false
structure Both (p q : Option Addr) (lo hi : Nat) (o : Option (List Lane)) (w : World) : Prop where
  tt : TT p q lo hi (o.map fun xs => (xs, xs)) w
  len : ∀ xs, o = some xs → xs.length ≤ 64
  np : p.isNone = o.isNone
  nq : q.isNone = o.isNone
/-- Behind the call on the first table. -/
structure Half (F : List Lane → List Lane) (p q : Option Addr) (lo hi : Nat) (o : Option (List Lane)) (w : World) : Prop where
  tt : TT p q lo hi (o.map fun xs => (F xs, xs)) w
  len : ∀ xs, o = some xs → xs.length ≤ 64
  np : p.isNone = o.isNone
  nq : q.isNone = o.isNone
/-- Behind the call on the second table. -/
structure Half2 (F : List Lane → List Lane) (p q : Option Addr) (lo hi : Nat) (o : Option (List Lane)) (w : World) : Prop where
  tt : TT p q lo hi (o.map fun xs => (xs, F xs)) w
  len : ∀ xs, o = some xs → xs.length ≤ 64
  np : p.isNone = o.isNone
  nq : q.isNone = o.isNone
def vO {α : Type} (f : List Lane → α) (d : α) : Option (List Lane) → α
  | none => d
  | some xs => f xs
/-- The lanes after so many calls. -/
def Good (k : Nat) (o : Option (List Lane)) : Prop := ∀ xs, o = some xs → ∀ x ∈ xs, 0 ≤ x.given ∧ 0 ≤ x.seq ∧ x.seq ≤ k
theorem Both.of {F : List Lane → List Lane} (hF : ∀ xs, (F xs).length = xs.length) {p q : Option Addr} {lo hi : Nat} {o : Option (List Lane)} {w : World} {t : Option (List Lane × List Lane)} (hl : ∀ xs, o = some xs → xs.length ≤ 64) (hp : p.isNone = o.isNone) (hq : q.isNone = o.isNone) (ht : TT p q lo hi t w) (he : t = (o.map F).map fun xs => (xs, xs)) : Both p q lo hi (o.map F) w := by
  subst he
  refine ⟨ht, ?_, by rw [hp, Option.isNone_map], by rw [hq, Option.isNone_map]⟩
  intro xs e
  cases o with
  | none => cases e
  | some ys =>
    cases e
    rw [hF]
    exact hl ys rfl
theorem Both.keep {p q : Option Addr} {lo hi : Nat} {o : Option (List Lane)} {w w' : World} (h : Both p q lo hi o w) (k : ∀ b, b < hi → b < w.heap.size → w'.heap[b]? = w.heap[b]?) : Both p q lo hi o w' := ⟨h.tt.keep k, h.len, h.np, h.nq⟩
theorem Both.drewN {p q : Option Addr} {lo hi : Nat} {o : Option (List Lane)} {w : World} (h : Both p q lo hi o w) (n : Nat) : Both p q lo hi o (w.drewN n) := ⟨h.tt.drewN n, h.len, h.np, h.nq⟩
theorem Both.drew {p q : Option Addr} {lo hi : Nat} {o : Option (List Lane)} {w : World} (h : Both p q lo hi o w) : Both p q lo hi o w.drew := h.drewN 1
theorem Both.alloc {p q : Option Addr} {lo hi : Nat} {o : Option (List Lane)} {w : World} (h : Both p q lo hi o w) (x : Obj) : Both p q lo hi o (w.alloc x) := h.keep fun b _ hb => Below.heap_alloc w x b hb
theorem Both.far {p q : Option Addr} {lo hi : Nat} {o : Option (List Lane)} {w : World} (h : Both p q lo hi o w) {a : Addr} (ha : hi ≤ a.block) (v : Value) : Both p q lo hi o (w.setCell a v) := h.keep fun b hb _ => Below.heap_setCell w a v b (by omega)
theorem ticketF_len (s : Int) (xs : List Lane) : (ticketF xs s).2.length = xs.length := by
  unfold ticketF
  split
  · split
    · rfl
    · simp
  · rfl
theorem turnF_len (odd : Int) (up : Lane → Lane) (s t : Int) (xs : List Lane) : (turnF odd up xs s t).2.length = xs.length := by
  unfold turnF
  split
  · split
    · split
      · simp
      · rfl
    · rfl
  · rfl
theorem mem_set_or {xs : List Lane} {i : Nat} {y x : Lane} (h : x ∈ xs.set i y) : x ∈ xs ∨ (x = y ∧ i < xs.length) := by
  rcases Nat.lt_or_ge i xs.length with hl | hl
  · rcases List.mem_or_eq_of_mem_set h with h | h
    · exact .inl h
    · exact .inr ⟨h, hl⟩
  · rw [List.set_eq_of_length_le hl] at h
    exact .inl h
theorem mem_getD {xs : List Lane} {i : Nat} (h : i < xs.length) : xs.getD i L0 ∈ xs := by
  rw [List.getD_eq_getElem?_getD, List.getElem?_eq_getElem h]
  exact List.getElem_mem h
theorem Good.more {k : Nat} {o : Option (List Lane)} (h : Good k o) : Good (k + 1) o := fun xs e x hx => by
  have := h xs e x hx
  omega
theorem Good.same {k : Nat} {o : Option (List Lane)} (h : Good k o) : Good (k + 1) (o.map id) := by
  rw [Option.map_id]
  exact h.more
theorem Good.ticket {k : Nat} {o : Option (List Lane)} (s : Int) (h : Good k o) : Good (k + 1) (o.map fun xs => (ticketF xs s).2) := by
  intro ys e x hx
  cases o with
  | none => cases e
  | some xs =>
    cases e
    have hall := fun x hx => h xs rfl x hx
    have hx : x ∈ (ticketF xs s).2 := hx
    unfold ticketF at hx
    split at hx
    · split at hx
      · have := hall x hx
        omega
      · rcases mem_set_or hx with hx | ⟨rfl, hl⟩
        · have := hall x hx
          omega
        · have := hall _ (mem_getD hl)
          show 0 ≤ (xs.getD s.toNat L0).given + 1 ∧ 0 ≤ (xs.getD s.toNat L0).seq ∧ (xs.getD s.toNat L0).seq ≤ _
          omega
    · have := hall x hx
      omega
theorem Good.leave {k : Nat} {o : Option (List Lane)} (s t : Int) (h : Good k o) : Good (k + 1) (o.map fun xs => (turnF 0 leaveUp xs s t).2) := by
  intro ys e x hx
  cases o with
  | none => cases e
  | some xs =>
    cases e
    have hall := fun x hx => h xs rfl x hx
    have hx : x ∈ (turnF 0 leaveUp xs s t).2 := hx
    unfold turnF at hx
    split at hx
    · split at hx
      · split at hx
        · rcases mem_set_or hx with hx | ⟨rfl, hl⟩
          · have := hall x hx
            omega
          · have := hall _ (mem_getD hl)
            show 0 ≤ (xs.getD s.toNat L0).given ∧ 0 ≤ (xs.getD s.toNat L0).seq ∧ (xs.getD s.toNat L0).seq ≤ _
            omega
        · have := hall x hx
          omega
      · have := hall x hx
        omega
    · have := hall x hx
      omega
theorem Good.turn {k : Nat} {o : Option (List Lane)} (odd s t : Int) (hk : k < 9000000000000000000) (h : Good k o) : Good (k + 1) (o.map fun xs => (turnF odd seqUp xs s t).2) := by
  intro ys e x hx
  cases o with
  | none => cases e
  | some xs =>
    cases e
    have hall := fun x hx => h xs rfl x hx
    have hx : x ∈ (turnF odd seqUp xs s t).2 := hx
    unfold turnF at hx
    split at hx
    · split at hx
      · split at hx
        · rcases mem_set_or hx with hx | ⟨rfl, hl⟩
          · have := hall x hx
            omega
          · have := hall _ (mem_getD hl)
            show 0 ≤ (xs.getD s.toNat L0).given ∧ 0 ≤ wrap64 ((xs.getD s.toNat L0).seq + 1) ∧ wrap64 ((xs.getD s.toNat L0).seq + 1) ≤ _
            unfold wrap64
            omega
        · have := hall x hx
          omega
      · have := hall x hx
        omega
    · have := hall x hx
      omega
section
variable {p q : Option Addr} {lo hi k : Nat} {o : Option (List Lane)} {w : World}

theorem t2_ticket (s : Int) (H : Both p q lo hi o w) (hg : Good k o) :
    Calls Try.prog 11 #[.pointer p, .int .i64 s] w fun e w' => e = .returned (.tuple #[.int .i64 (vO (fun xs => (ticketF xs s).1) ((0 : Int), (0 : Int)) o).1, .int .i64 (vO (fun xs => (ticketF xs s).1) ((0 : Int), (0 : Int)) o).2]) ∧ Half (fun xs => (ticketF xs s).2) p q lo hi o w' ∧ Mid lo hi w w' := by
  refine (t_ticket H.tt s (fun z e x hx => by cases o with | none => cases e | some xs => cases e; exact (hg xs rfl x hx).1)).mono ?_
  rintro e w' ⟨rfl, h, m⟩
  exact ⟨by cases o <;> rfl, ⟨by cases o <;> exact h, H.len, H.np, H.nq⟩, m⟩

theorem u2_ticket (s : Int) (H : Half (fun xs => (ticketF xs s).2) p q lo hi o w) (hg : Good k o) :
    Calls Try.prog 21 #[.pointer q, .int .i64 s] w fun e w' => e = .returned (.tuple #[.int .i64 (vO (fun xs => (ticketF xs s).1) ((0 : Int), (0 : Int)) o).1, .int .i64 (vO (fun xs => (ticketF xs s).1) ((0 : Int), (0 : Int)) o).2]) ∧ Both p q lo hi (o.map (fun xs => (ticketF xs s).2)) w' ∧ Mid lo hi w w' := by
  refine (u_ticket H.tt s (fun z e x hx => by cases o with | none => cases e | some xs => cases e; exact (hg xs rfl x hx).1)).mono ?_
  rintro e w' ⟨rfl, h, m⟩
  exact ⟨by cases o <;> rfl, Both.of (ticketF_len s) H.len H.np H.nq h (by cases o <;> rfl), m⟩

theorem u3_ticket (s : Int) (H : Both p q lo hi o w) (hg : Good k o) :
    Calls Try.prog 21 #[.pointer q, .int .i64 s] w fun e w' => e = .returned (.tuple #[.int .i64 (vO (fun xs => (ticketF xs s).1) ((0 : Int), (0 : Int)) o).1, .int .i64 (vO (fun xs => (ticketF xs s).1) ((0 : Int), (0 : Int)) o).2]) ∧ Half2 (fun xs => (ticketF xs s).2) p q lo hi o w' ∧ Mid lo hi w w' := by
  refine (u_ticket H.tt s (fun z e x hx => by cases o with | none => cases e | some xs => cases e; exact (hg xs rfl x hx).1)).mono ?_
  rintro e w' ⟨rfl, h, m⟩
  exact ⟨by cases o <;> rfl, ⟨by cases o <;> exact h, H.len, H.np, H.nq⟩, m⟩

theorem t3_ticket (s : Int) (H : Half2 (fun xs => (ticketF xs s).2) p q lo hi o w) (hg : Good k o) :
    Calls Try.prog 11 #[.pointer p, .int .i64 s] w fun e w' => e = .returned (.tuple #[.int .i64 (vO (fun xs => (ticketF xs s).1) ((0 : Int), (0 : Int)) o).1, .int .i64 (vO (fun xs => (ticketF xs s).1) ((0 : Int), (0 : Int)) o).2]) ∧ Both p q lo hi (o.map (fun xs => (ticketF xs s).2)) w' ∧ Mid lo hi w w' := by
  refine (t_ticket H.tt s (fun z e x hx => by cases o with | none => cases e | some xs => cases e; exact (hg xs rfl x hx).1)).mono ?_
  rintro e w' ⟨rfl, h, m⟩
  exact ⟨by cases o <;> rfl, Both.of (ticketF_len s) H.len H.np H.nq h (by cases o <;> rfl), m⟩

theorem t2_served (s u : Int) (H : Both p q lo hi o w) :
    Calls Try.prog 12 #[.pointer p, .int .i64 s, .int .i64 u] w fun e w' => e = .returned (.bool (vO (fun xs => servedF xs s u) false o)) ∧ Half id p q lo hi o w' ∧ Mid lo hi w w' := by
  refine (t_served H.tt s u).mono ?_
  rintro e w' ⟨rfl, h, m⟩
  exact ⟨by cases o <;> rfl, ⟨by cases o <;> exact h, H.len, H.np, H.nq⟩, m⟩

theorem u2_served (s u : Int) (H : Half id p q lo hi o w) :
    Calls Try.prog 22 #[.pointer q, .int .i64 s, .int .i64 u] w fun e w' => e = .returned (.bool (vO (fun xs => servedF xs s u) false o)) ∧ Both p q lo hi (o.map id) w' ∧ Mid lo hi w w' := by
  refine (u_served H.tt s u).mono ?_
  rintro e w' ⟨rfl, h, m⟩
  exact ⟨by cases o <;> rfl, Both.of (fun _ => rfl) H.len H.np H.nq h (by cases o <;> rfl), m⟩

theorem u3_served (s u : Int) (H : Both p q lo hi o w) :
    Calls Try.prog 22 #[.pointer q, .int .i64 s, .int .i64 u] w fun e w' => e = .returned (.bool (vO (fun xs => servedF xs s u) false o)) ∧ Half2 id p q lo hi o w' ∧ Mid lo hi w w' := by
  refine (u_served H.tt s u).mono ?_
  rintro e w' ⟨rfl, h, m⟩
  exact ⟨by cases o <;> rfl, ⟨by cases o <;> exact h, H.len, H.np, H.nq⟩, m⟩

theorem t3_served (s u : Int) (H : Half2 id p q lo hi o w) :
    Calls Try.prog 12 #[.pointer p, .int .i64 s, .int .i64 u] w fun e w' => e = .returned (.bool (vO (fun xs => servedF xs s u) false o)) ∧ Both p q lo hi (o.map id) w' ∧ Mid lo hi w w' := by
  refine (t_served H.tt s u).mono ?_
  rintro e w' ⟨rfl, h, m⟩
  exact ⟨by cases o <;> rfl, Both.of (fun _ => rfl) H.len H.np H.nq h (by cases o <;> rfl), m⟩

theorem t2_seq (s : Int) (H : Both p q lo hi o w) :
    Calls Try.prog 17 #[.pointer p, .int .i64 s] w fun e w' => e = .returned (.int .i64 (vO (fun xs => seqF xs s) (0 : Int) o)) ∧ Half id p q lo hi o w' ∧ Mid lo hi w w' := by
  refine (t_seq H.tt s).mono ?_
  rintro e w' ⟨rfl, h, m⟩
  exact ⟨by cases o <;> rfl, ⟨by cases o <;> exact h, H.len, H.np, H.nq⟩, m⟩

theorem u2_seq (s : Int) (H : Half id p q lo hi o w) :
    Calls Try.prog 26 #[.pointer q, .int .i64 s] w fun e w' => e = .returned (.int .i64 (vO (fun xs => seqF xs s) (0 : Int) o)) ∧ Both p q lo hi (o.map id) w' ∧ Mid lo hi w w' := by
  refine (u_seq H.tt s).mono ?_
  rintro e w' ⟨rfl, h, m⟩
  exact ⟨by cases o <;> rfl, Both.of (fun _ => rfl) H.len H.np H.nq h (by cases o <;> rfl), m⟩

theorem u3_seq (s : Int) (H : Both p q lo hi o w) :
    Calls Try.prog 26 #[.pointer q, .int .i64 s] w fun e w' => e = .returned (.int .i64 (vO (fun xs => seqF xs s) (0 : Int) o)) ∧ Half2 id p q lo hi o w' ∧ Mid lo hi w w' := by
  refine (u_seq H.tt s).mono ?_
  rintro e w' ⟨rfl, h, m⟩
  exact ⟨by cases o <;> rfl, ⟨by cases o <;> exact h, H.len, H.np, H.nq⟩, m⟩

theorem t3_seq (s : Int) (H : Half2 id p q lo hi o w) :
    Calls Try.prog 17 #[.pointer p, .int .i64 s] w fun e w' => e = .returned (.int .i64 (vO (fun xs => seqF xs s) (0 : Int) o)) ∧ Both p q lo hi (o.map id) w' ∧ Mid lo hi w w' := by
  refine (t_seq H.tt s).mono ?_
  rintro e w' ⟨rfl, h, m⟩
  exact ⟨by cases o <;> rfl, Both.of (fun _ => rfl) H.len H.np H.nq h (by cases o <;> rfl), m⟩

theorem t2_waiting (s : Int) (H : Both p q lo hi o w) :
    Calls Try.prog 16 #[.pointer p, .int .i64 s] w fun e w' => e = .returned (.int .i64 (vO (fun xs => waitingF xs s) (0 : Int) o)) ∧ Half id p q lo hi o w' ∧ Mid lo hi w w' := by
  refine (t_waiting H.tt s).mono ?_
  rintro e w' ⟨rfl, h, m⟩
  exact ⟨by cases o <;> rfl, ⟨by cases o <;> exact h, H.len, H.np, H.nq⟩, m⟩

theorem u2_waiting (s : Int) (H : Half id p q lo hi o w) :
    Calls Try.prog 27 #[.pointer q, .int .i64 s] w fun e w' => e = .returned (.int .i64 (vO (fun xs => waitingF xs s) (0 : Int) o)) ∧ Both p q lo hi (o.map id) w' ∧ Mid lo hi w w' := by
  refine (u_waiting H.tt s).mono ?_
  rintro e w' ⟨rfl, h, m⟩
  exact ⟨by cases o <;> rfl, Both.of (fun _ => rfl) H.len H.np H.nq h (by cases o <;> rfl), m⟩

theorem u3_waiting (s : Int) (H : Both p q lo hi o w) :
    Calls Try.prog 27 #[.pointer q, .int .i64 s] w fun e w' => e = .returned (.int .i64 (vO (fun xs => waitingF xs s) (0 : Int) o)) ∧ Half2 id p q lo hi o w' ∧ Mid lo hi w w' := by
  refine (u_waiting H.tt s).mono ?_
  rintro e w' ⟨rfl, h, m⟩
  exact ⟨by cases o <;> rfl, ⟨by cases o <;> exact h, H.len, H.np, H.nq⟩, m⟩

theorem t3_waiting (s : Int) (H : Half2 id p q lo hi o w) :
    Calls Try.prog 16 #[.pointer p, .int .i64 s] w fun e w' => e = .returned (.int .i64 (vO (fun xs => waitingF xs s) (0 : Int) o)) ∧ Both p q lo hi (o.map id) w' ∧ Mid lo hi w w' := by
  refine (t_waiting H.tt s).mono ?_
  rintro e w' ⟨rfl, h, m⟩
  exact ⟨by cases o <;> rfl, Both.of (fun _ => rfl) H.len H.np H.nq h (by cases o <;> rfl), m⟩

theorem t2_leave (s u : Int) (H : Both p q lo hi o w) (hg : Good k o) :
    Calls Try.prog 13 #[.pointer p, .int .i64 s, .int .i64 u] w fun e w' => e = .returned (.int .i64 (vO (fun xs => (turnF 0 leaveUp xs s u).1) (0 : Int) o)) ∧ Half (fun xs => (turnF 0 leaveUp xs s u).2) p q lo hi o w' ∧ Mid lo hi w w' := by
  refine (t_leave H.tt s u).mono ?_
  rintro e w' ⟨rfl, h, m⟩
  exact ⟨by cases o <;> rfl, ⟨by cases o <;> exact h, H.len, H.np, H.nq⟩, m⟩

theorem u2_leave (s u : Int) (H : Half (fun xs => (turnF 0 leaveUp xs s u).2) p q lo hi o w) (hg : Good k o) :
    Calls Try.prog 23 #[.pointer q, .int .i64 s, .int .i64 u] w fun e w' => e = .returned (.int .i64 (vO (fun xs => (turnF 0 leaveUp xs s u).1) (0 : Int) o)) ∧ Both p q lo hi (o.map (fun xs => (turnF 0 leaveUp xs s u).2)) w' ∧ Mid lo hi w w' := by
  refine (u_leave H.tt s u (fun z e x hx => by cases o with | none => cases e | some xs => cases e; exact (hg xs rfl x hx).2.1)).mono ?_
  rintro e w' ⟨rfl, h, m⟩
  exact ⟨by cases o <;> rfl, Both.of (turnF_len 0 leaveUp s u) H.len H.np H.nq h (by cases o <;> rfl), m⟩

theorem u3_leave (s u : Int) (H : Both p q lo hi o w) (hg : Good k o) :
    Calls Try.prog 23 #[.pointer q, .int .i64 s, .int .i64 u] w fun e w' => e = .returned (.int .i64 (vO (fun xs => (turnF 0 leaveUp xs s u).1) (0 : Int) o)) ∧ Half2 (fun xs => (turnF 0 leaveUp xs s u).2) p q lo hi o w' ∧ Mid lo hi w w' := by
  refine (u_leave H.tt s u (fun z e x hx => by cases o with | none => cases e | some xs => cases e; exact (hg xs rfl x hx).2.1)).mono ?_
  rintro e w' ⟨rfl, h, m⟩
  exact ⟨by cases o <;> rfl, ⟨by cases o <;> exact h, H.len, H.np, H.nq⟩, m⟩

theorem t3_leave (s u : Int) (H : Half2 (fun xs => (turnF 0 leaveUp xs s u).2) p q lo hi o w) (hg : Good k o) :
    Calls Try.prog 13 #[.pointer p, .int .i64 s, .int .i64 u] w fun e w' => e = .returned (.int .i64 (vO (fun xs => (turnF 0 leaveUp xs s u).1) (0 : Int) o)) ∧ Both p q lo hi (o.map (fun xs => (turnF 0 leaveUp xs s u).2)) w' ∧ Mid lo hi w w' := by
  refine (t_leave H.tt s u).mono ?_
  rintro e w' ⟨rfl, h, m⟩
  exact ⟨by cases o <;> rfl, Both.of (turnF_len 0 leaveUp s u) H.len H.np H.nq h (by cases o <;> rfl), m⟩

theorem t2_odd (s u : Int) (H : Both p q lo hi o w) :
    Calls Try.prog 14 #[.pointer p, .int .i64 s, .int .i64 u] w fun e w' => e = .returned (.int .i64 (vO (fun xs => (turnF 0 seqUp xs s u).1) (0 : Int) o)) ∧ Half (fun xs => (turnF 0 seqUp xs s u).2) p q lo hi o w' ∧ Mid lo hi w w' := by
  refine (t_odd H.tt s u).mono ?_
  rintro e w' ⟨rfl, h, m⟩
  exact ⟨by cases o <;> rfl, ⟨by cases o <;> exact h, H.len, H.np, H.nq⟩, m⟩

theorem u2_odd (s u : Int) (H : Half (fun xs => (turnF 0 seqUp xs s u).2) p q lo hi o w) :
    Calls Try.prog 24 #[.pointer q, .int .i64 s, .int .i64 u] w fun e w' => e = .returned (.int .i64 (vO (fun xs => (turnF 0 seqUp xs s u).1) (0 : Int) o)) ∧ Both p q lo hi (o.map (fun xs => (turnF 0 seqUp xs s u).2)) w' ∧ Mid lo hi w w' := by
  refine (u_odd H.tt s u).mono ?_
  rintro e w' ⟨rfl, h, m⟩
  exact ⟨by cases o <;> rfl, Both.of (turnF_len 0 seqUp s u) H.len H.np H.nq h (by cases o <;> rfl), m⟩

theorem u3_odd (s u : Int) (H : Both p q lo hi o w) :
    Calls Try.prog 24 #[.pointer q, .int .i64 s, .int .i64 u] w fun e w' => e = .returned (.int .i64 (vO (fun xs => (turnF 0 seqUp xs s u).1) (0 : Int) o)) ∧ Half2 (fun xs => (turnF 0 seqUp xs s u).2) p q lo hi o w' ∧ Mid lo hi w w' := by
  refine (u_odd H.tt s u).mono ?_
  rintro e w' ⟨rfl, h, m⟩
  exact ⟨by cases o <;> rfl, ⟨by cases o <;> exact h, H.len, H.np, H.nq⟩, m⟩

theorem t3_odd (s u : Int) (H : Half2 (fun xs => (turnF 0 seqUp xs s u).2) p q lo hi o w) :
    Calls Try.prog 14 #[.pointer p, .int .i64 s, .int .i64 u] w fun e w' => e = .returned (.int .i64 (vO (fun xs => (turnF 0 seqUp xs s u).1) (0 : Int) o)) ∧ Both p q lo hi (o.map (fun xs => (turnF 0 seqUp xs s u).2)) w' ∧ Mid lo hi w w' := by
  refine (t_odd H.tt s u).mono ?_
  rintro e w' ⟨rfl, h, m⟩
  exact ⟨by cases o <;> rfl, Both.of (turnF_len 0 seqUp s u) H.len H.np H.nq h (by cases o <;> rfl), m⟩

theorem t2_even (s u : Int) (H : Both p q lo hi o w) :
    Calls Try.prog 15 #[.pointer p, .int .i64 s, .int .i64 u] w fun e w' => e = .returned (.int .i64 (vO (fun xs => (turnF 1 seqUp xs s u).1) (0 : Int) o)) ∧ Half (fun xs => (turnF 1 seqUp xs s u).2) p q lo hi o w' ∧ Mid lo hi w w' := by
  refine (t_even H.tt s u).mono ?_
  rintro e w' ⟨rfl, h, m⟩
  exact ⟨by cases o <;> rfl, ⟨by cases o <;> exact h, H.len, H.np, H.nq⟩, m⟩

theorem u2_even (s u : Int) (H : Half (fun xs => (turnF 1 seqUp xs s u).2) p q lo hi o w) :
    Calls Try.prog 25 #[.pointer q, .int .i64 s, .int .i64 u] w fun e w' => e = .returned (.int .i64 (vO (fun xs => (turnF 1 seqUp xs s u).1) (0 : Int) o)) ∧ Both p q lo hi (o.map (fun xs => (turnF 1 seqUp xs s u).2)) w' ∧ Mid lo hi w w' := by
  refine (u_even H.tt s u).mono ?_
  rintro e w' ⟨rfl, h, m⟩
  exact ⟨by cases o <;> rfl, Both.of (turnF_len 1 seqUp s u) H.len H.np H.nq h (by cases o <;> rfl), m⟩

theorem u3_even (s u : Int) (H : Both p q lo hi o w) :
    Calls Try.prog 25 #[.pointer q, .int .i64 s, .int .i64 u] w fun e w' => e = .returned (.int .i64 (vO (fun xs => (turnF 1 seqUp xs s u).1) (0 : Int) o)) ∧ Half2 (fun xs => (turnF 1 seqUp xs s u).2) p q lo hi o w' ∧ Mid lo hi w w' := by
  refine (u_even H.tt s u).mono ?_
  rintro e w' ⟨rfl, h, m⟩
  exact ⟨by cases o <;> rfl, ⟨by cases o <;> exact h, H.len, H.np, H.nq⟩, m⟩

theorem t3_even (s u : Int) (H : Half2 (fun xs => (turnF 1 seqUp xs s u).2) p q lo hi o w) :
    Calls Try.prog 15 #[.pointer p, .int .i64 s, .int .i64 u] w fun e w' => e = .returned (.int .i64 (vO (fun xs => (turnF 1 seqUp xs s u).1) (0 : Int) o)) ∧ Both p q lo hi (o.map (fun xs => (turnF 1 seqUp xs s u).2)) w' ∧ Mid lo hi w w' := by
  refine (t_even H.tt s u).mono ?_
  rintro e w' ⟨rfl, h, m⟩
  exact ⟨by cases o <;> rfl, Both.of (turnF_len 1 seqUp s u) H.len H.np H.nq h (by cases o <;> rfl), m⟩

theorem t2_stripes  (H : Both p q lo hi o w) :
    Calls Try.prog 19 #[.pointer p] w fun e w' => e = .returned (.int .i64 (vO (fun xs => (xs.length : Int)) (0 : Int) o)) ∧ Half id p q lo hi o w' ∧ Mid lo hi w w' := by
  refine (t_stripes H.tt).mono ?_
  rintro e w' ⟨rfl, h, m⟩
  exact ⟨by cases o <;> rfl, ⟨by cases o <;> exact h, H.len, H.np, H.nq⟩, m⟩

theorem u2_stripes  (H : Half id p q lo hi o w) :
    Calls Try.prog 20 #[.pointer q] w fun e w' => e = .returned (.int .i64 (vO (fun xs => (xs.length : Int)) (0 : Int) o)) ∧ Both p q lo hi (o.map id) w' ∧ Mid lo hi w w' := by
  refine (u_stripes H.tt).mono ?_
  rintro e w' ⟨rfl, h, m⟩
  exact ⟨by cases o <;> rfl, Both.of (fun _ => rfl) H.len H.np H.nq h (by cases o <;> rfl), m⟩

theorem u3_stripes  (H : Both p q lo hi o w) :
    Calls Try.prog 20 #[.pointer q] w fun e w' => e = .returned (.int .i64 (vO (fun xs => (xs.length : Int)) (0 : Int) o)) ∧ Half2 id p q lo hi o w' ∧ Mid lo hi w w' := by
  refine (u_stripes H.tt).mono ?_
  rintro e w' ⟨rfl, h, m⟩
  exact ⟨by cases o <;> rfl, ⟨by cases o <;> exact h, H.len, H.np, H.nq⟩, m⟩

theorem t3_stripes  (H : Half2 id p q lo hi o w) :
    Calls Try.prog 19 #[.pointer p] w fun e w' => e = .returned (.int .i64 (vO (fun xs => (xs.length : Int)) (0 : Int) o)) ∧ Both p q lo hi (o.map id) w' ∧ Mid lo hi w w' := by
  refine (t_stripes H.tt).mono ?_
  rintro e w' ⟨rfl, h, m⟩
  exact ⟨by cases o <;> rfl, Both.of (fun _ => rfl) H.len H.np H.nq h (by cases o <;> rfl), m⟩
end
end Go.Proofs.Ytgklgicfgpemgaa.Lk

