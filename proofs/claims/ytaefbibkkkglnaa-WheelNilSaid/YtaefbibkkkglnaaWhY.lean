/- Wheel: Spread. No condition. -/
import Derived.Test.YtaefbibkkkglnaaWhX
namespace Go.Proofs.Ytaefbibkkkglnaa.Wh
open Go Go.RowKit Go.Proofs.YtaefbibkkkglnaaW.PrintWords Go.Proofs.Ytaefbibkkkglnaa.Mp Go.Proofs.Ytaefbibkkkglnaa.Fr
set_option linter.unusedVariables false
set_option linter.unusedSimpArgs false
section
variable {w w' : World} {O : Nat → Prop} {p : Nat} {now : Int} {l : List E} {S : Slots} {m : Nat}
def spr (now : Int) (l : List E) (r : Nat) : Nat := (l.filter fun e => decide (rg e.2 now = r)).length
def sprV (c : Nat → Nat) : Value := .agg #[.int .i64 (c 0), .int .i64 (c 1), .int .i64 (c 2), .int .i64 (c 3), .int .i64 (c 4), .int .i64 (c 5), .int .i64 (c 6)]
theorem filter_row {r : Nat} (hg : Good now S) : ∀ n, n ≤ 7 → (((List.range n).flatMap fun r' => row (S r')).filter fun q => decide (rg q.tm now = r)) = if r < n then row (S r) else []
  | 0, _ => rfl
  | n + 1, hn => by
    rw [List.range_succ, List.flatMap_append, List.filter_append, filter_row hg n (by omega)]
    simp only [List.flatMap_cons, List.flatMap_nil, List.append_nil]
    by_cases e : r = n
    · subst e
      rw [if_neg (by omega), if_pos (by omega), List.nil_append, List.filter_eq_self.2]
      intro q hq
      obtain ⟨k, hk, hqk⟩ := mem_row.1 hq
      simpa using (hg r k (by omega) hk q hqk).2.2.1
    · have : (row (S n)).filter (fun q => decide (rg q.tm now = r)) = [] := by
        rw [List.filter_eq_nil_iff]
        intro q hq
        obtain ⟨k, hk, hqk⟩ := mem_row.1 hq
        have := (hg n k (by omega) hk q hqk).2.2.1
        simp
        omega
      rw [this, List.append_nil]
      by_cases h : r < n
      · rw [if_pos h, if_pos (by omega)]
      · rw [if_neg h, if_neg (by omega)]
theorem cnt_spr (hg : Good now S) (hl : l.Perm ((nodes S).map ent)) {r : Nat} (hr : r < 7) : cnt S r = spr now l r := by
  unfold spr
  have h1 := (hl.filter (fun e => decide (rg e.2 now = r))).length_eq
  rw [h1, List.filter_map, List.length_map]
  have h2 := filter_row (r := r) hg 7 (Nat.le_refl _)
  rw [if_pos hr] at h2
  show (row (S r)).length = _
  rw [← h2]
  rfl
theorem nil_spread (w : World) : Calls Try.prog 17 #[.pointer none] w fun e w' => e = .returned (sprV fun _ => 0) ∧ Below w.heap.size w w' := by
  go_enter Try.func17, Try.ntmps17
  go_wp2
  refine bodyPost_ret (v := sprV fun _ => 0) (by simp [results, Try.results17, go_sem, sprV]) rfl ⟨rfl, ?_⟩
  exact below_alloc (Below.refl _ _) _
theorem spread_calls (h : Whl w O p now l) : Calls Try.prog 17 #[.pointer (some ⟨p, 0, none⟩)] w fun e w' => e = .returned (sprV (spr now l)) ∧ Below w.heap.size w w' := by
  obtain ⟨⟨m, S, h1, h2, h3⟩, a1, a2, a3, a4, a5, a6⟩ := h
  have hk : ∀ r, r < 7 → w.cell? ⟨p, 449 + r, none⟩ = some (.int .i64 (spr now l r)) := fun r hr => by rw [h1.head.count hr, cnt_spr h2 h3 hr]
  have k0 := hk 0 (by omega)
  have k1 := hk 1 (by omega)
  have k2 := hk 2 (by omega)
  have k3 := hk 3 (by omega)
  have k4 := hk 4 (by omega)
  have k5 := hk 5 (by omega)
  have k6 := hk 6 (by omega)
  have hlt := h1.head.lt
  have hne : w.heap.size ≠ p := by omega
  clear hk h1 h2 h3
  unfold sprV
  generalize spr now l 0 = c0 at *
  generalize spr now l 1 = c1 at *
  generalize spr now l 2 = c2 at *
  generalize spr now l 3 = c3 at *
  generalize spr now l 4 = c4 at *
  generalize spr now l 5 = c5 at *
  generalize spr now l 6 = c6 at *
  go_enter Try.func17, Try.ntmps17
  go_wp2
  refine bodyPost_ret (v := .agg #[.int .i64 c0, .int .i64 c1, .int .i64 c2, .int .i64 c3, .int .i64 c4, .int .i64 c5, .int .i64 c6]) (by simp [results, Try.results17, go_sem]) rfl ⟨rfl, ?_⟩
  exact below_alloc (Below.refl _ _) _
end
end Go.Proofs.Ytaefbibkkkglnaa.Wh
