/- PlanTrips: the rows with room, and the lists over them. No condition. -/
import Derived.Test.YtoopoecopahcbaaTrS
import Derived.Test.YtoopoecopahcbaaPlReck6
namespace Go.Proofs.Ytoopoecopahcbaa.Tr
open Go Go.RowKit Go.Proofs.YtoopoecopahcbaaW.PrintWords Go.Proofs.YtoopoecopahcbaaW.PrintLast Go.Proofs.YtoopoecopahcbaaW.PrintMore
set_option linter.unusedVariables false
set_option linter.unusedSimpArgs false
/-- A slice's value, as data: its block, length, capacity; none: nil. -/
def encS : Option (Nat × Nat × Nat) → Value
  | none => .slice none 0 0
  | some (g, n, c) => .slice (some ⟨g, 0, none⟩) n c
abbrev kS : Kd (Option (Nat × Nat × Nat)) := Kd.scalar encS (fun x => by cases x <;> rfl)
structure Rw where
  g : Nat
  cap : Nat
  xs : List Int
abbrev fV (r : Rw) : Option (Nat × Nat × Nat) := some (r.g, r.xs.length + 1, r.cap)
abbrev lV (r : Rw) : Option (Nat × Nat × Nat) := some (r.g, r.xs.length, r.cap)
/-- A row lies in its block, a mark behind it. -/
def RowAt (w : World) (r : Rw) : Prop := r.xs.length + 1 ≤ r.cap ∧ ∃ cs : Array Value, w.heap[r.g]? = some (.cells cs 3 (0, 0)) ∧ ∀ (j : Nat) (x : Int), (r.xs ++ [77])[j]? = some x → cs[j]? = some (Value.int .i64 x)
theorem rowAt_of {w : World} {b g n cap : Nat} {ok : Nat → Prop} {xs : List Int} (h : (Kd.int .i64).R 3 w b ok (.slice (some ⟨g, 0, none⟩) n cap) (xs ++ [77])) : RowAt w ⟨g, cap, xs⟩ ∧ b ≤ g := by
  have hn := (Kd.R_reads' h).1
  have ho := Kd.own_of_R h
  obtain ⟨h1, h2⟩ := ho
  rcases h2 with ⟨h2, _⟩ | ⟨g', cap', cur, e, hb, hh, hc, hm, hs, ht⟩
  · cases h2
  · cases e
    rw [List.length_append] at hc
    refine ⟨⟨hc, cur, hh, fun j x hj => ?_⟩, hb⟩
    have hjl := (List.getElem?_eq_some_iff.1 hj).1
    have e2 : (encs (Value.int .i64) (xs ++ [77]))[j]? = some (Value.int .i64 x) := by
      unfold encs
      rw [List.getElem?_map, hj]
      rfl
    rw [← ht, List.getElem?_take_of_lt (by rw [Nat.mul_one]; exact hjl)] at e2
    simpa using e2
/-- What stands when some rows have been laid out. -/
structure Inv (b : Nat) (w0 w : World) (rs : List Rw) (l4 l3 : List (Option (Nat × Nat × Nat))) (v3 v4 : Value) : Prop where
  rows : ∀ r ∈ rs, RowAt w r ∧ b ≤ r.g
  dist : (rs.map (·.g)).Nodup
  R4 : kS.R 48 w b (fun _ => True) v4 l4
  R3 : kS.R 48 w b (fun _ => True) v3 l3
  sep : ∀ k, v3.ownBlock = some k → v4.ownBlock ≠ some k
  bel : Below b w0 w
section
variable {b : Nat} {w0 w w1 : World} {rs : List Rw} {l4 l3 : List (Option (Nat × Nat × Nat))} {v3 v4 : Value}
theorem RowAt.lt {r : Rw} (h : RowAt w r) : r.g < w.heap.size := by
  obtain ⟨_, cs, h1, _⟩ := h
  exact blk_lt h1
theorem Inv.below (h : Inv b w0 w rs l4 l3 v3 v4) (hB : b ≤ w.heap.size) (hb : Below w.heap.size w w1) : Inv b w0 w1 rs l4 l3 v3 v4 :=
  ⟨fun r hr => by
    obtain ⟨⟨a, cs, c, d⟩, e⟩ := h.rows r hr
    exact ⟨⟨a, cs, blk_under hb c, d⟩, e⟩, h.dist, Kd.R_below h.R4 hb, Kd.R_below h.R3 hb, h.sep, below_then h.bel hB hb⟩
theorem Inv.row (h : Inv b w0 w rs l4 l3 v3 v4) (hB : b ≤ w.heap.size) (hb : Below w.heap.size w w1) {r : Rw} (hr : RowAt w1 r) (hg : w.heap.size ≤ r.g) : Inv b w0 w1 (rs ++ [r]) l4 l3 v3 v4 := by
  have h1 := h.below hB hb
  refine ⟨fun q hq => ?_, ?_, h1.R4, h1.R3, h1.sep, h1.bel⟩
  · rcases List.mem_append.1 hq with hq | hq
    · exact h1.rows q hq
    · obtain rfl := List.mem_singleton.1 hq
      exact ⟨hr, by omega⟩
  · rw [List.map_append]
    refine List.nodup_append.2 ⟨h.dist, by simp, fun a ha c hc => ?_⟩
    obtain ⟨q, hq, rfl⟩ := List.mem_map.1 ha
    obtain ⟨q2, hq2, rfl⟩ := List.mem_map.1 hc
    obtain rfl := List.mem_singleton.1 hq2
    have := (h.rows q hq).1.lt
    omega
theorem Inv.full (h : Inv b w0 w rs l4 l3 v3 v4) {v : Value} {p : Option (Nat × Nat × Nat)} (ho : kS.R 48 w1 b (fun _ => True) v (l4 ++ [p])) (hb : Below b w0 w1) (hg : w.grownBy w1 v4.ownBlock) (hat : v.ownBlock = v4.ownBlock ∨ ∃ k, v.ownBlock = some k ∧ w.heap.size ≤ k) : Inv b w0 w1 rs (l4 ++ [p]) l3 v3 v := by
  refine ⟨fun r hr => ?_, h.dist, ho, ?_, fun k hk => ?_, hb⟩
  · obtain ⟨⟨a, cs, c, d⟩, e⟩ := h.rows r hr
    exact ⟨⟨a, cs, blk_grown c hg (Kd.R_ne h.R4 c (by decide)), d⟩, e⟩
  · refine Kd.R_mono (Kd.R_grown (Kd.R_tight rfl h.R3) hg (fun k hk e => ?_)) (fun _ _ => trivial)
    exact h.sep k hk.symm e.symm
  · rcases hat with hat | ⟨q, hq, hle⟩
    · rw [hat]; exact h.sep k hk
    · rw [hq]
      intro e
      cases e
      have := Kd.R_lt h.R3 k hk
      omega
theorem Inv.low (h : Inv b w0 w rs l4 l3 v3 v4) {v : Value} {p : Option (Nat × Nat × Nat)} (ho : kS.R 48 w1 b (fun _ => True) v (l3 ++ [p])) (hb : Below b w0 w1) (hg : w.grownBy w1 v3.ownBlock) (hat : v.ownBlock = v3.ownBlock ∨ ∃ k, v.ownBlock = some k ∧ w.heap.size ≤ k) : Inv b w0 w1 rs l4 (l3 ++ [p]) v v4 := by
  refine ⟨fun r hr => ?_, h.dist, ?_, ho, fun k hk => ?_, hb⟩
  · obtain ⟨⟨a, cs, c, d⟩, e⟩ := h.rows r hr
    exact ⟨⟨a, cs, blk_grown c hg (Kd.R_ne h.R3 c (by decide)), d⟩, e⟩
  · refine Kd.R_mono (Kd.R_grown (Kd.R_tight rfl h.R4) hg (fun k hk e => ?_)) (fun _ _ => trivial)
    exact h.sep k e.symm hk.symm
  · rcases hat with hat | ⟨q, hq, hle⟩
    · rw [hat] at hk; exact h.sep k hk
    · rw [hq] at hk
      obtain rfl := Option.some.inj hk
      intro e
      have := Kd.R_lt h.R4 q e
      omega
end
theorem row_C {w : World} {r : Rw} (h : RowAt w r) (hb : r.xs.length < 4611686018427387904) : Kd.C (Kd.int .i64) w (some ⟨r.g, 0, none⟩) r.xs.length r.xs := by
  obtain ⟨h1, cs, h2, h3⟩ := h
  refine ⟨rfl, by omega, fun _ => ⟨_, rfl, fun j p hj => ⟨[.int .i64 p], rfl, rfl, fun i u hi => ?_⟩⟩⟩
  cases i with
  | zero =>
    have hu : Value.int .i64 p = u := by simpa using hi
    have e1 : Addr.add ⟨r.g, 0, none⟩ (j * 1 + 0) = ⟨r.g, j, none⟩ := by
      simp [Addr.add]
      exact fun h => h.symm
    have hjl := (List.getElem?_eq_some_iff.1 hj).1
    show w.cell? (Addr.add ⟨r.g, 0, none⟩ (j * 1 + 0)) = some u
    rw [e1, blk_cell h2 j, h3 j p (by rw [List.getElem?_append_left hjl]; exact hj), hu]
  | succ i => simp at hi
theorem low_C {w : World} {A : Option Addr} {rs : List Rw} (hr : ∀ r ∈ rs, RowAt w r) (hb : ∀ r ∈ rs, r.xs.length < 4611686018427387904) (h : kS.C w A (rs.length + 1) (rs.map lV ++ [none])) : Kd.C kRow w A rs.length (rs.map (·.xs)) := by
  obtain ⟨_, h2, h3⟩ := h
  refine ⟨by simp, by omega, fun h0 => ?_⟩
  obtain ⟨ad, e, hc⟩ := h3 (by omega)
  refine ⟨ad, e, fun j p hj => ?_⟩
  obtain ⟨r, hjr, rfl⟩ : ∃ r, rs[j]? = some r ∧ r.xs = p := by simpa [List.getElem?_map] using hj
  have hjl := (List.getElem?_eq_some_iff.1 hjr).1
  obtain ⟨c, hcl, hck, hcc⟩ := hc j (lV r) (by rw [List.getElem?_append_left (by simpa using hjl), List.getElem?_map, hjr]; rfl)
  have hck' : c = [encS (lV r)] := hck
  subst hck'
  have hm := List.mem_of_getElem? hjr
  have hra := hr r hm
  exact ⟨_, rfl, ⟨_, _, rfl, by have := hra.1; omega, row_C hra (hb r hm)⟩, hcc⟩
theorem kS_at {w : World} {A : Option Addr} {l : List (Option (Nat × Nat × Nat))} {n : Nat} {x : Option (Nat × Nat × Nat)} (h : kS.C w A (n + 1) (l ++ [x])) (hn : l.length = n) : ∃ ad, A = some ad ∧ w.cell? (ad.add n) = some (encS x) := by
  obtain ⟨_, h2, h3⟩ := h
  obtain ⟨ad, e, hc⟩ := h3 (by omega)
  obtain ⟨c, hcl, hck, hcc⟩ := hc n x (by rw [List.getElem?_append_right (by omega), hn, Nat.sub_self]; rfl)
  have hck' : c = [encS x] := hck
  subst hck'
  refine ⟨ad, e, ?_⟩
  have := hcc 0 (encS x) rfl
  simpa [Kd.scalar] using this
theorem kS_get {w : World} {A : Option Addr} {l : List (Option (Nat × Nat × Nat))} {n j : Nat} {x : Option (Nat × Nat × Nat)} (h : kS.C w A n l) (hj : l[j]? = some x) : ∃ ad, A = some ad ∧ w.cell? (ad.add j) = some (encS x) := by
  obtain ⟨h1, h2, h3⟩ := h
  have hjl := (List.getElem?_eq_some_iff.1 hj).1
  obtain ⟨ad, e, hc⟩ := h3 (by omega)
  obtain ⟨c, hcl, hck, hcc⟩ := hc j x hj
  have hck' : c = [encS x] := hck
  subst hck'
  refine ⟨ad, e, ?_⟩
  have := hcc 0 (encS x) rfl
  simpa [Kd.scalar] using this
theorem Inv.other {b : Nat} {w0 w : World} {rs : List Rw} {l4 l3 : List (Option (Nat × Nat × Nat))} {v3 v4 : Value} (h : Inv b w0 w rs l4 l3 v3 v4) {g5 : Nat} {cs : Array Value} (hw : w.heap[g5]? = some (.cells cs 3 (0, 0))) (hg : ∀ r ∈ rs, r.g ≠ g5) (hb : b ≤ g5) (j : Nat) (u : Value) : Inv b w0 (w.setCell ⟨g5, j, none⟩ u) rs l4 l3 v3 v4 := by
  refine ⟨fun r hr => ?_, h.dist, Kd.R_set h.R4 hw (by decide) j u, Kd.R_set h.R3 hw (by decide) j u, h.sep, h.bel.setCell hb u⟩
  obtain ⟨⟨a, ds, d, e⟩, f⟩ := h.rows r hr
  exact ⟨⟨a, ds, blk_far d (hg r hr) u, e⟩, f⟩
theorem Inv.put {b : Nat} {w0 w : World} {pre post : List Rw} {g cap : Nat} {ys : List Int} {l4 l3 : List (Option (Nat × Nat × Nat))} {v3 v4 : Value} (h : Inv b w0 w (pre ++ ⟨g, cap, ys⟩ :: post) l4 l3 v3 v4) (j : Nat) (hj : j < ys.length) (y : Int) : Inv b w0 (w.setCell ⟨g, j, none⟩ (.int .i64 y)) (pre ++ ⟨g, cap, ys.set j y⟩ :: post) l4 l3 v3 v4 := by
  have hm : (⟨g, cap, ys⟩ : Rw) ∈ pre ++ ⟨g, cap, ys⟩ :: post := by simp
  obtain ⟨⟨a, cs, hw, hc⟩, hbg⟩ := h.rows _ hm
  have hd := h.dist
  rw [List.map_append, List.map_cons] at hd
  have hd2 := List.nodup_append.1 hd
  have hne : ∀ r, r ∈ pre ∨ r ∈ post → r.g ≠ g := by
    rintro r (hr | hr) e
    · exact hd2.2.2 r.g (List.mem_map.2 ⟨r, hr, rfl⟩) g List.mem_cons_self e
    · exact (List.nodup_cons.1 hd2.2.1).1 (by rw [← e]; exact List.mem_map.2 ⟨r, hr, rfl⟩)
  refine ⟨fun r hr => ?_, by rw [List.map_append, List.map_cons]; exact hd, Kd.R_set h.R4 hw (by decide) j _, Kd.R_set h.R3 hw (by decide) j _, h.sep, h.bel.setCell hbg _⟩
  have old : r ∈ pre ∨ r ∈ post → RowAt (w.setCell ⟨g, j, none⟩ (.int .i64 y)) r ∧ b ≤ r.g := fun ho => by
    obtain ⟨⟨a, ds, d, e⟩, f⟩ := h.rows r (by rcases ho with ho | ho <;> simp [ho])
    exact ⟨⟨a, ds, blk_far d (hne r ho) _, e⟩, f⟩
  rcases List.mem_append.1 hr with hr | hr
  · exact old (.inl hr)
  · rcases List.mem_cons.1 hr with rfl | hr
    · refine ⟨⟨by rw [List.length_set]; exact a, _, blk_set hw j _, fun k x hk => ?_⟩, hbg⟩
      have hjc : j < cs.size := (Array.getElem?_eq_some_iff.1 (hc j ys[j] (by rw [List.getElem?_append_left hj]; exact List.getElem?_eq_getElem hj))).1
      by_cases e : k = j
      · subst e
        rw [List.getElem?_append_left (by rw [List.length_set]; exact hj), List.getElem?_set_self hj] at hk
        rw [Array.getElem?_setIfInBounds_self_of_lt hjc, Option.some.inj hk]
      · rw [Array.getElem?_setIfInBounds_ne (fun h => e h.symm)]
        refine hc k x ?_
        by_cases hk2 : k < ys.length
        · rw [List.getElem?_append_left (by rw [List.length_set]; exact hk2), List.getElem?_set_ne (fun h => e h.symm)] at hk
          rw [List.getElem?_append_left hk2]
          exact hk
        · rw [List.getElem?_append_right (by rw [List.length_set]; omega), List.length_set] at hk
          show (ys ++ [77])[k]? = some x
          rw [List.getElem?_append_right (show ys.length ≤ k by omega)]
          exact hk
    · exact old (.inr hr)
theorem Inv.grow {b : Nat} {w0 w w1 : World} {rs : List Rw} {l4 l3 : List (Option (Nat × Nat × Nat))} {v3 v4 : Value} (h : Inv b w0 w rs l4 l3 v3 v4) (o : Option Nat) (hb : Below b w0 w1) (hg : w.grownBy w1 o) (ho : ∀ r ∈ rs, some r.g ≠ o) (h3 : ∀ k, v3.ownBlock = some k → some k ≠ o) (h4 : ∀ k, v4.ownBlock = some k → some k ≠ o) : Inv b w0 w1 rs l4 l3 v3 v4 := by
  refine ⟨fun r hr => ?_, h.dist, ?_, ?_, h.sep, hb⟩
  · obtain ⟨⟨a, cs, c, d⟩, e⟩ := h.rows r hr
    exact ⟨⟨a, cs, blk_grown c hg (ho r hr), d⟩, e⟩
  · exact Kd.R_mono (Kd.R_grown (Kd.R_tight rfl h.R4) hg (fun k hk e => h4 k hk.symm e)) (fun _ _ => trivial)
  · exact Kd.R_mono (Kd.R_grown (Kd.R_tight rfl h.R3) hg (fun k hk e => h3 k hk.symm e)) (fun _ _ => trivial)
theorem Inv.drew1 {b : Nat} {w0 w : World} {rs : List Rw} {l4 l3 : List (Option (Nat × Nat × Nat))} {v3 v4 : Value} (h : Inv b w0 w rs l4 l3 v3 v4) : Inv b w0 w.drew rs l4 l3 v3 v4 :=
  ⟨h.rows, h.dist, Kd.R_move h.R4 (fun _ _ => rfl), Kd.R_move h.R3 (fun _ _ => rfl), h.sep, ⟨h.bel.os, h.bel.tape, h.bel.output, h.bel.size, h.bel.block⟩⟩
theorem RowAt.mark {w : World} {r : Rw} (h : RowAt w r) : w.cell? ⟨r.g, r.xs.length, none⟩ = some (.int .i64 77) := by
  obtain ⟨_, cs, h2, h3⟩ := h
  rw [blk_cell h2]
  exact h3 _ 77 (by rw [List.getElem?_append_right (Nat.le_refl _), Nat.sub_self]; rfl)
theorem tour_len (zs : List (List Int)) (B : Nat → Nat → Leg) : ∀ k s a, (tourF zs B k s a).length ≤ k := by
  intro k
  induction k with
  | zero => intro s a; exact Nat.le_refl _
  | succ k ih =>
    intro s a
    unfold tourF
    split
    · exact Nat.zero_le _
    · rw [List.length_cons]; have := ih (s + 2 ^ (B s a).2.toNat) (B s a).2.toNat; omega
theorem TA_len {zs : List (List Int)} {l : List Int} {m f : Int} (hz : zs.length < 4611686018427387904) (h : TA zs l m f) : l.length < 4611686018427387904 := by
  rcases h with ⟨_, rfl, _⟩ | ⟨_, _, rfl, _⟩ | ⟨h1, _, rfl, _⟩ | ⟨h2, h12, hg, B, hD, rfl, _⟩
  · decide
  · decide
  · rw [List.length_replicate]; omega
  · have h1 := tour_len zs B (all zs) 1 0
    have h3 : 2 ^ zs.length ≤ 2 ^ 12 := Nat.pow_le_pow_right (by decide) h12
    have h4 : all zs = 2 ^ zs.length - 1 := rfl
    rw [List.length_cons]
    omega
set_option maxRecDepth 100000 in
set_option maxHeartbeats 16000000 in
theorem trips_true (A : Option Addr) (c : Nat) (far : List (List Int)) (w : World) (ha : Kd.C kRow w A far.length far) (hc : far.length ≤ c) (hl : far.length * 24 ≤ 140737488351232) (hr : ∀ r ∈ far, r.length * 8 ≤ 140737488351232) :
    Calls Try.prog 6 #[.slice A far.length c] w fun e w' => e = .returned (.bool true) ∧ Below w.heap.size w w' := by
  have HA := Aside0.mk ha
  have HR := Aside0.mk hr
  clear ha hr
  go_enter Try.func6, Try.ntmps6
  go_upto_block 0 with fail
  go_cut [3, 4] (fun s3 s4 wx => ∃ rs : List Rw, Aside0 (rs.map (·.xs) = far) ∧ Aside0 (Inv w.heap.size w wx rs (rs.map fV) (rs.map lV) s3 s4))
  case first =>
    as_aux_lemma =>
    go_wp2_with fail
    go_loopg [3, 4, 5] far.length (fun gh s3 s4 s5 wr => ∃ (i : Nat) (rs : List Rw) (l4 l3 : List (Option (Nat × Nat × Nat))), i ≤ far.length ∧ gh = far.length - i ∧ s5 = .int .i64 i ∧ l4.length = i ∧ l3.length = i ∧ Aside0 (rs.map (·.xs) = far.take i ∧ l4 = rs.map fV ∧ l3 = rs.map lV) ∧ Aside0 (Inv w.heap.size w wr rs l4 l3 s3 s4))
    case atStart => exact ⟨0, [], [], [], Nat.zero_le _, rfl, rfl, rfl, rfl, ⟨⟨rfl, rfl, rfl⟩⟩, ⟨⟨fun r hr => (by cases hr), by simp, Kd.R_nil _ _ _ _ _, Kd.R_nil _ _ _ _ _, fun k hk => (by cases hk), Below.refl _ _⟩⟩⟩
    case round =>
      obtain ⟨i, rs, l4, l3, hi, rfl, rfl, hl4, hl3, HX, II⟩ := hrel
      by_cases hlt : i < far.length
      · obtain ⟨ad, D, cD, eA, cA, hcD, hD⟩ := at_row (Kd.C_below HA.out II.out.bel) i hlt
        have HD := Aside0.mk hD
        have hrl := HR.out far[i] (List.getElem_mem hlt)
        have HT := Aside0.mk (List.take_succ_eq_append_getElem hlt)
        clear hD
        obtain ⟨xs, hxs⟩ : ∃ xs, far[i] = xs := ⟨_, rfl⟩
        rw [hxs] at cA hcD HD hrl HT
        clear hxs
        subst eA
        have i0 : (0 : Int) ≤ (i : Int) := by omega
        have i1 : (i : Int) < (far.length : Int) := by omega
        go_upto_region 8 with (first | ((with_reducible refine gate_builtin (b := .append) (xs := #[.tmp 23, .tmp 27]) rfl ?_); at_builtin; refine Kd.R_append_rows (Kd.int .i64) (Rr := (Kd.int .i64).K wr) (w0 := wr) wr.heap.size rfl (.tmp 23) (.tmp 27) 48 3 (.int .i64 0) 8 rfl Try.underlying48 infoZ rfl (by decide) (by omega) (.slice none 0 0) ([]) (xs) (D) ((xs).length) (cD) (fun _ => True) (fun _ => False) ?aV ?aX ?aO ?aR ?aK (fun _ hk => hk.elim) (fun _ _ => trivial) ?aB ?aS ?aL ?_; (case aV => rfl); (case aX => rfl); (case aO => exact Kd.R_nil _ _ _ _ _); (case aR => exact HD.out); (case aK => exact fun x cs h => h); (case aB => exact Below.refl _ _); (case aS => exact Nat.le_refl _); (case aL => (first | omega | (simp; omega))); intro v7 w7 ho hb hgr hat; rw [List.nil_append] at ho; obtain ⟨A7, c7, rfl, hc7, _⟩ := Kd.R_reads ho; have R7 := Aside0.mk ho; have B7 := Aside0.mk hb; clear ho hb hgr hat hc7))
        go_upto_region 9 with (first | ((with_reducible refine gate_builtin (b := .append) (xs := #[.tmp 29, .tmp 30]) rfl ?_); at_builtin; refine Kd.R_append (Kd.int .i64) (w0 := wr) wr.heap.size rfl (.tmp 29) (.tmp 30) 48 3 (.int .i64 0) 8 rfl Try.underlying48 infoZ rfl (by decide) (by omega) (.slice A7 xs.length c7) (xs) ((77 : Int)) ([.int .i64 77]) (fun _ => True) (fun _ => False) ?aV ?aX ?aP (fun _ hk => hk.elim) (fun _ _ => trivial) ?aO ?aB ?aS ?aL ?_; (case aV => rfl); (case aX => rfl); (case aP => exact rfl); (case aO => exact R7.out); (case aB => exact B7.out); (case aS => exact B7.out.size); (case aL => omega); intro v8 w8 ho hb hgr hat; obtain ⟨g, cap, rfl, hg1, hg2, _⟩ := Kd.R_form ho (by rw [List.length_append]; simp); have R8 := Aside0.mk ho; have B8 := Aside0.mk hb; clear ho hb hgr hat hg2))
        have I8 := Aside0.mk (II.out.row II.out.bel.size B8.out (rowAt_of R8.out).1 (rowAt_of R8.out).2)
        obtain ⟨N1, hN1⟩ : ∃ N1, xs.length + 1 = N1 := ⟨_, rfl⟩
        rw [hN1]
        have HN1 := Aside0.mk hN1
        have hcap : N1 ≤ cap := by
          have := (rowAt_of R8.out).1.1
          rw [← hN1]
          exact this
        clear hN1
        go_upto_region 10 with (first | ((with_reducible refine gate_builtin (b := .append) (xs := #[.tmp 32, .tmp 34]) rfl ?_); at_builtin; refine Kd.R_append kS (w0 := w) w.heap.size rfl (.tmp 32) (.tmp 34) 47 48 (.slice none 0 0) 24 rfl Try.underlying47 infoRw rfl (by decide) (by omega) (u4) (l4) ((some (g, N1, cap))) ([.slice (some ⟨g, 0, none⟩) N1 cap]) (fun _ => True) (fun _ => False) ?aV ?aX ?aP (fun _ h => h.elim) (fun _ _ => trivial) ?aO ?aB ?aS ?aL ?_; (case aV => rfl); (case aX => rfl); (case aP => exact rfl); (case aO => exact I8.out.R4); (case aB => exact I8.out.bel); (case aS => exact I8.out.bel.size); (case aL => omega); intro v9 w9 ho hb hgr hat; have I9 := Aside0.mk (I8.out.full ho hb hgr hat); clear ho hb hgr hat))
        have w77 : IntKind.i64.wrap ((N1 : Int) - 1) = ((xs.length : Nat) : Int) := by
          have := HN1.out
          rw [Go.IntWalk.i64_in _ (by omega)]
          omega
        have hcap2 : xs.length ≤ cap := by
          have := HN1.out
          omega
        go_upto_region 5 with (first | ((with_reducible refine gate_builtin (b := .append) (xs := #[.tmp 36, .tmp 42]) rfl ?_); at_builtin; refine Kd.R_append kS (w0 := w) w.heap.size rfl (.tmp 36) (.tmp 42) 47 48 (.slice none 0 0) 24 rfl Try.underlying47 infoRw rfl (by decide) (by omega) (u3) (l3) ((some (g, xs.length, cap))) ([.slice (some ⟨g, 0, none⟩) xs.length cap]) (fun _ => True) (fun _ => False) ?aV ?aX ?aP (fun _ h => h.elim) (fun _ _ => trivial) ?aO ?aB ?aS ?aL ?_; (case aV => rfl); (case aX => rfl); (case aP => exact rfl); (case aO => exact I9.out.R3); (case aB => exact I9.out.bel); (case aS => exact I9.out.bel.size); (case aL => omega); intro v10 w10 ho hb hgr hat; have I10 := Aside0.mk (I9.out.low ho hb hgr hat); clear ho hb hgr hat))
        go_wp2_with fail
        go_roundg (far.length - (i + 1))
        case measure => omega
        case rel =>
          obtain ⟨h1, h2, h3⟩ := HX.out
          have hN := HN1.out
          subst hN
          exact ⟨i + 1, rs ++ [⟨g, cap, xs⟩], _, _, by omega, rfl, by go_num, by rw [List.length_append, hl4]; rfl, by rw [List.length_append, hl3]; rfl, ⟨⟨by rw [List.map_append, h1, HT.out]; rfl, by rw [List.map_append, h2]; rfl, by rw [List.map_append, h3]; rfl⟩⟩, I10⟩
      · obtain rfl : i = far.length := by omega
        go_wp2_with fail
        go_meet
        obtain ⟨h1, rfl, rfl⟩ := HX.out
        exact ⟨rs, ⟨by rw [h1, List.take_of_length_le (Nat.le_refl _)]⟩, II⟩
  case rest =>
    obtain ⟨rs, HX, II⟩ := hcut
    have hrl : rs.length = far.length := by rw [← HX.out, List.length_map]
    have hq11 : (rs.map lV ++ [none] : List (Option (Nat × Nat × Nat))).length = far.length + 1 := by simp [hrl]
    go_upto_region 12 with (first | ((with_reducible refine gate_builtin (b := .append) (xs := #[.tmp 44, .tmp 45]) rfl ?_); at_builtin; refine Kd.R_append kS (w0 := w) w.heap.size rfl (.tmp 44) (.tmp 45) 47 48 (.slice none 0 0) 24 rfl Try.underlying47 infoRw rfl (by decide) (by omega) (u3) ((rs.map lV)) (none) ([.slice none 0 0]) (fun _ => True) (fun _ => False) ?aV ?aX ?aP (fun _ h => h.elim) (fun _ _ => trivial) ?aO ?aB ?aS ?aL ?_; (case aV => rfl); (case aX => rfl); (case aP => exact rfl); (case aO => exact II.out.R3); (case aB => exact II.out.bel); (case aS => exact II.out.bel.size); (case aL => (rw [List.length_map, hrl]; omega)); intro v11 w11 ho hb hgr hat; have I11 := Aside0.mk (II.out.low ho hb hgr hat); obtain ⟨A11, c11, e11, hc11, hC11⟩ := Kd.R_reads ho; rw [hq11] at e11 hc11 hC11; subst e11; have C11 := Aside0.mk hC11; clear ho hb hgr hat hC11))
    obtain ⟨ad11, rfl, _⟩ := kS_at C11.out (by simp [hrl])
    have hcc : far.length ≤ c11 := by omega
    have HRN := Aside0.mk (show ∀ r ∈ far, r.length < 4611686018427387904 from fun r hr => by have := HR.out r hr; omega)
    have RB := Aside0.mk (show ∀ r ∈ rs, r.xs.length < 4611686018427387904 from fun r hr => HRN.out r.xs (by rw [← HX.out]; exact List.mem_map.2 ⟨r, hr, rfl⟩))
    have LC := low_C (fun r hr => (I11.out.rows r hr).1) RB.out (by rw [hrl]; exact C11.out)
    rw [hrl, HX.out] at LC
    have P1 := Aside0.mk (plan_any (some ad11) c11 far w11 LC hcc (by omega) HRN.out)
    clear LC
    go_upto_region 13 with (first | (go_at_call 21; refine (P1.out).mono ?_; rintro e w12 ⟨vp, lp, mp, fp, rfl, hRp, hTA, hb12⟩; obtain ⟨Ap, cp, rfl, hcp, hCp⟩ := Kd.R_reads hRp; have Rp := Aside0.mk hRp; have TAp := Aside0.mk hTA; have I12 := Aside0.mk (I11.out.below I11.out.bel.size hb12); have B12 := Aside0.mk hb12; clear hRp hTA hCp hb12))
    clear P1
    have R1 := Aside0.mk (ref_any A c far lp mp fp TAp.out w12 (Kd.C_below HA.out I12.out.bel) hc (by omega) HRN.out)
    go_upto_region 14 with (first | (go_at_call 22; refine (R1.out).mono ?_; rintro e w13 ⟨vr, rfl, hRr, hb13⟩; obtain ⟨Ar, cr, rfl, hcr, hCr⟩ := Kd.R_reads hRr; have Rr := Aside0.mk hRr; have I13 := Aside0.mk (I12.out.below I12.out.bel.size hb13); have B13 := Aside0.mk hb13; clear hRr hCr hb13))
    clear R1
    have NT := Aside0.mk (Fl.ints_calls Ap Ar cp cr lp w13 (Kd.C_below (Kd.R_reads' Rp.out).2.2 B13.out) (Kd.R_reads' Rr.out).2.2 hcp hcr (TA_len (by omega) TAp.out))
    have C13 := Aside0.mk (Kd.C_below (Kd.C_below C11.out B12.out) B13.out)
    have i0 : (0 : Int) ≤ (far.length : Int) := by omega
    have i1 : (far.length : Int) < ((far.length + 1 : Nat) : Int) := by omega
    go_upto_region 16 with (first | (go_at_call 23; refine (NT.out).mono ?_; rintro e w14 ⟨rfl, hb14⟩; have I14 := Aside0.mk (I13.out.below I13.out.bel.size hb14); obtain ⟨ad', e', c14'⟩ := kS_at (Kd.C_below C13.out hb14) (by simp [hrl]); cases e'; have c14 : w14.cell? (ad11.add far.length) = some (.slice none 0 0) := c14'; clear hb14 c14'))
    clear NT C13
    go_upto_block 2 with fail
    obtain ⟨A4, c4, e4, hc4, _⟩ := Kd.R_reads I14.out.R4
    rw [List.length_map, hrl] at e4 hc4
    subst e4
    have BD := Aside0.mk (show ∀ r ∈ rs, r.g < w14.heap.size ∧ r.xs.length * 8 ≤ 140737488351232 from fun r hr => ⟨(I14.out.rows r hr).1.lt, HR.out r.xs (by rw [← HX.out]; exact List.mem_map.2 ⟨r, hr, rfl⟩)⟩)
    clear c14 i0 i1 I11 I12 I13 C11 II Rp Rr B12 B13 RB TAp
    go_cut [13] (fun s13 wx => ∃ rs : List Rw, Aside0 (Inv w.heap.size w wx rs (rs.map fV) (rs.map lV ++ [none]) (.slice (some ad11) (far.length + 1) c11) (.slice A4 far.length c4)) ∧ Aside0 (kRow.R 48 wx w.heap.size (fun k => w14.heap.size ≤ k) s13 (rs.map (·.xs))) ∧ rs.length = far.length ∧ Aside0 (∀ r ∈ rs, r.xs.length * 8 ≤ 140737488351232))
    case first =>
      as_aux_lemma =>
      go_wp2_with fail
      go_loopg [13, 14, 15, 16] far.length (fun gh s13 s14 s15 s16 wr => ∃ (i : Nat) (pre post : List Rw), i ≤ far.length ∧ gh = far.length - i ∧ s14 = .int .i64 i ∧ pre.length = i ∧ Aside0 (post.map (·.xs) = far.drop i) ∧ Aside0 (Inv w.heap.size w wr (pre ++ post) ((pre ++ post).map fV) ((pre ++ post).map lV ++ [none]) (.slice (some ad11) (far.length + 1) c11) (.slice A4 far.length c4)) ∧ Aside0 (kRow.R 48 wr w.heap.size (fun k => w14.heap.size ≤ k) s13 (pre.map (·.xs))) ∧ Aside0 (∀ r ∈ pre ++ post, r.g < w14.heap.size ∧ r.xs.length * 8 ≤ 140737488351232) ∧ Aside0 (w14.heap.size ≤ wr.heap.size))
      case atStart => exact ⟨0, [], rs, Nat.zero_le _, rfl, rfl, rfl, HX, I14, ⟨Kd.R_nil _ _ _ _ _⟩, BD, ⟨Nat.le_refl _⟩⟩
      case round =>
        obtain ⟨i, pre, post, hi, rfl, rfl, hpre, HP, JJ, TT, BJ, HW⟩ := hrel
        have V4B := Aside0.mk (fun k (hk : (Value.slice A4 far.length c4).ownBlock = some k) => Kd.R_lt I14.out.R4 k hk)
        have V3B := Aside0.mk (fun k (hk : (Value.slice (some ad11) (far.length + 1) c11).ownBlock = some k) => Kd.R_lt I14.out.R3 k hk)
        clear HX I14 BD hrl hq11
        by_cases hlt : i < far.length
        · obtain ⟨ad, D, cD, eA, cA, hcD, hD⟩ := at_row (Kd.C_below HA.out JJ.out.bel) i hlt
          have HD := Aside0.mk hD
          clear hD
          have hpp := HP.out
          rw [List.drop_eq_getElem_cons hlt] at hpp
          cases post with
          | nil => cases hpp
          | cons r post =>
          rw [List.map_cons] at hpp
          obtain ⟨hx, hpo⟩ := List.cons.inj hpp
          clear hpp
          rw [← hx] at cA hcD HD
          have HX := Aside0.mk hx
          have HPO := Aside0.mk hpo
          clear hx hpo HP
          subst eA
          have hmem : r ∈ pre ++ r :: post := by simp
          have RA := Aside0.mk (JJ.out.rows r hmem).1
          have hrl := (BJ.out r hmem).2
          have e4 := kS_get (j := i) (x := fV r) (Kd.R_reads' JJ.out.R4).2.2 (by rw [List.getElem?_map, List.getElem?_append_right (by omega), hpre, Nat.sub_self]; rfl)
          obtain ⟨ad4, rfl, c4a⟩ := e4
          obtain ⟨g, cap, xs⟩ := r
          have c4b : wr.cell? (ad4.add i) = some (.slice (some ⟨g, 0, none⟩) (xs.length + 1) cap) := c4a
          clear c4a hmem
          simp only at cA hcD HD hrl
          have i0 : (0 : Int) ≤ (i : Int) := by omega
          have i1 : (i : Int) < (far.length : Int) := by omega
          obtain ⟨N1, hN1⟩ : ∃ N1, xs.length + 1 = N1 := ⟨_, rfl⟩
          rw [hN1] at c4b
          have HN1 := Aside0.mk hN1
          have hcap : N1 ≤ cap := by
            have := RA.out.1
            rw [← hN1]
            exact this
          clear hN1
          have w77 : IntKind.i64.wrap ((N1 : Int) - 1) = ((xs.length : Nat) : Int) := by
            have := HN1.out
            rw [Go.IntWalk.i64_in _ (by omega)]
            omega
          have hcap2 : xs.length ≤ cap := by
            have := HN1.out
            omega
          have k0 : (0 : Int) ≤ (xs.length : Int) := by omega
          have k1 : (xs.length : Int) < (N1 : Int) := by have := HN1.out; omega
          have c77 : wr.cell? ⟨g, xs.length, none⟩ = some (.int .i64 77) := RA.out.mark
          have bdr : Below wr.heap.size wr wr.drew := ⟨rfl, rfl, rfl, Nat.le_refl _, fun _ _ => rfl⟩
          have NT := Aside0.mk (Fl.ints_calls (some ⟨g, 0, none⟩) D cap cD xs wr.drew (Kd.C_below (row_C RA.out (show xs.length < 4611686018427387904 by omega)) bdr) (Kd.C_below HD.out bdr) hcap2 hcD (by omega))
          clear bdr
          go_wp2_with fail
          go_region_held3 (fun w' => w'.cell? (ad4.add i) = some (.slice (some ⟨g, 0, none⟩) N1 cap) ∧ w'.cell? (ad.add i) = some (.slice D xs.length cD) ∧ w'.cell? ⟨g, xs.length, none⟩ = some (.int .i64 77)) (go_keep) (first | (go_at_call 23; refine (NT.out).mono ?_; rintro e wq ⟨rfl, hbq⟩; have d1 : wq.cell? (ad4.add i) = some (.slice (some ⟨g, 0, none⟩) N1 cap) := pw_cell_below hbq c4b; have d2 : wq.cell? (ad.add i) = some (.slice D xs.length cD) := pw_cell_below hbq cA; have d3 : wq.cell? ⟨g, xs.length, none⟩ = some (.int .i64 77) := pw_cell_below hbq c77; have Bq := Aside0.mk (show Below wr.heap.size wr wq from ⟨hbq.os, hbq.tape, hbq.output, hbq.size, hbq.block⟩); clear hbq))
          clear NT c4b cA c77 RA
          have JQ := Aside0.mk (JJ.out.below JJ.out.bel.size Bq.out)
          have HDq := Aside0.mk (Kd.C_below HD.out Bq.out)
          have TQ := Aside0.mk (Kd.R_mono (Kd.R_bound (Kd.R_below TT.out Bq.out)) (ok' := fun k => w14.heap.size ≤ k ∧ k < wq.heap.size) (fun k hk => ⟨hk.1, hk.2.2.1⟩))
          have HQ := Aside0.mk (Nat.le_trans HW.out Bq.out.size)
          clear JJ HD TT HW Bq
          go_upto_region 24 with (first | ((with_reducible refine gate_builtin (b := .append) (xs := #[.tmp 123, .tmp 127]) rfl ?_); at_builtin; refine Kd.R_append_rows (Kd.int .i64) (Rr := (Kd.int .i64).K wq) (w0 := wq) wq.heap.size rfl (.tmp 123) (.tmp 127) 48 3 (.int .i64 0) 8 rfl Try.underlying48 infoZ rfl (by decide) (by omega) (.slice none 0 0) ([]) (xs) (D) ((xs).length) (cD) (fun _ => True) (fun _ => False) ?aV ?aX ?aO ?aR ?aK (fun _ hk => hk.elim) (fun _ _ => trivial) ?aB ?aS ?aL ?_; (case aV => rfl); (case aX => rfl); (case aO => exact Kd.R_nil _ _ _ _ _); (case aR => exact HDq.out); (case aK => exact fun x cs h => h); (case aB => exact Below.refl _ _); (case aS => exact Nat.le_refl _); (case aL => (first | omega | (simp; omega))); intro v23 w23 ho hb hgr hat; rw [List.nil_append] at ho; obtain ⟨A23, c23, rfl, hc23, _⟩ := Kd.R_reads ho; have R23 := Aside0.mk ho; have B23 := Aside0.mk hb; clear ho hb hgr hat))
          have J23 := Aside0.mk (JQ.out.below JQ.out.bel.size B23.out)
          have T23 := Aside0.mk (Kd.R_below TQ.out B23.out)
          have R23' := Aside0.mk (Kd.R_mono (Kd.R_bound R23.out) (ok' := fun k => wq.heap.size ≤ k) (fun k hk => hk.2.1))
          clear JQ TQ R23 HDq d1 d3
          go_upto_block 4 with fail
          obtain ⟨L4, hL4⟩ : ∃ L, L = (pre ++ ⟨g, cap, xs⟩ :: post).map fV := ⟨_, rfl⟩
          obtain ⟨L3, hL3⟩ : ∃ L, L = (pre ++ ⟨g, cap, xs⟩ :: post).map lV := ⟨_, rfl⟩
          rw [← hL4, ← hL3] at J23
          have HL4 := Aside0.mk hL4
          have HL3 := Aside0.mk hL3
          clear hL4 hL3 d2 w77 k0 k1
          go_wp2_with fail
          go_loopg [16] xs.length (fun gh s16 wx => ∃ (j : Nat) (ys : List Int), j ≤ xs.length ∧ gh = xs.length - j ∧ s16 = .int .i64 j ∧ ys.length = xs.length ∧ Aside0 (Inv w.heap.size w wx (pre ++ ⟨g, cap, ys⟩ :: post) L4 (L3 ++ [none]) (.slice (some ad11) (far.length + 1) c11) (.slice (some ad4) far.length c4)) ∧ Aside0 ((Kd.int .i64).R 3 wx wq.heap.size (fun k => wq.heap.size ≤ k) (.slice A23 xs.length c23) ys) ∧ Aside0 (kRow.R 48 wx w.heap.size (fun k => w14.heap.size ≤ k ∧ k < wq.heap.size) u13 (pre.map (·.xs))) ∧ Aside0 (wq.heap.size ≤ wx.heap.size))
          case atStart => exact ⟨0, xs, Nat.zero_le _, rfl, rfl, rfl, J23, R23', T23, ⟨B23.out.size⟩⟩
          case round =>
            clear J23 R23' T23
            obtain ⟨j, ys, hj, rfl, rfl, hys, JX, RX, TX, QX⟩ := hrel
            have NG := Aside0.mk (show ∀ r ∈ pre ++ (⟨g, cap, ys⟩ : Rw) :: post, r.g < w14.heap.size from fun r hr => by
              rcases List.mem_append.1 hr with h | h
              · exact (BJ.out r (List.mem_append.2 (.inl h))).1
              · rcases List.mem_cons.1 h with rfl | h
                · exact (BJ.out ⟨g, cap, xs⟩ (by simp)).1
                · exact (BJ.out r (by simp [h])).1)
            by_cases hlj : j < xs.length
            · obtain ⟨g5, cap5, e5, hg5, hg5', cs5, hw5⟩ := Kd.R_form RX.out (by omega)
              obtain ⟨rfl, hq5, rfl⟩ : A23 = some ⟨g5, 0, none⟩ ∧ xs.length = ys.length ∧ cap5 = c23 := by injection e5 with a b c; exact ⟨a, b, c.symm⟩
              clear e5 hq5
              have hcell := Kd.R_celln (0 : Int) RX.out (j : Int) (by omega) (by omega)
              rw [Int.toNat_natCast] at hcell
              obtain ⟨c5, f5⟩ := hcell
              generalize rdOf (0 : Int) ys (j : Int) = y at c5
              have j0 : (0 : Int) ≤ (j : Int) := by omega
              have j1 : (j : Int) < (xs.length : Int) := by omega
              have j2 : ¬ (xs.length : Int) ≤ (j : Int) := by omega
              clear hg5'
              go_upto_region 28 with fail
              generalize hz : wrap64 ((wrap64 (y + 7 * (j : Int))).tdiv 2) = z
              clear hz
              have hj5 : j < cs5.size := by
                rw [blk_cell hw5 j] at c5
                exact (Array.getElem?_eq_some_iff.1 c5).1
              have hgg : ∀ r ∈ pre ++ (⟨g, cap, ys⟩ : Rw) :: post, r.g ≠ g5 := fun r hr e => by
                have h1 := NG.out r hr
                have h2 := HQ.out
                omega
              have hgne : g ≠ g5 := hgg ⟨g, cap, ys⟩ (by simp)
              have hwg5 : w.heap.size ≤ g5 := Nat.le_trans (Nat.le_trans (JX.out.rows ⟨g, cap, ys⟩ (by simp)).2 (Nat.le_of_lt (NG.out ⟨g, cap, ys⟩ (by simp)))) (Nat.le_trans HQ.out hg5)
              have J2 := Aside0.mk (JX.out.other hw5 hgg hwg5 j (.int .i64 z))
              have R2 := Aside0.mk (Kd.R_putn RX.out (j : Int) z)
              have T2 := Aside0.mk (Kd.R_move TX.out (w1 := wr.setCell ⟨g5, j, none⟩ (.int .i64 z)) (fun k hk => Below.heap_setCell _ _ _ k (show k ≠ g5 by have := hk.2; omega)))
              have K2 : (wr.setCell ⟨g5, j, none⟩ (.int .i64 z)).cell? ⟨g5, j, none⟩ = some (.int .i64 z) := by
                rw [blk_cell (blk_set hw5 j _) j, Array.getElem?_setIfInBounds_self_of_lt hj5]
              rw [Int.toNat_natCast] at R2
              have Q2 := Aside0.mk (show wq.heap.size ≤ (wr.setCell ⟨g5, j, none⟩ (.int .i64 z)).heap.size by rw [show (wr.setCell ⟨g5, j, none⟩ (.int .i64 z)).heap.size = wr.heap.size by simp [World.setCell]]; exact QX.out)
              change Aside0 ((Kd.int .i64).R 3 (wr.setCell ⟨g5, j, none⟩ (.int .i64 z)) wq.heap.size (fun k => wq.heap.size ≤ k) (.slice (some ⟨g5, 0, none⟩) xs.length cap5) (ys.set j z)) at R2
              clear JX RX TX QX c5 f5 hw5 hgg hj5 hwg5
              generalize wr.setCell ⟨g5, j, none⟩ (.int .i64 z) = W2 at *
              have hjy : j < ys.length := by omega
              have J3 := Aside0.mk (J2.out.put j hjy z)
              obtain ⟨⟨_, csg, hwg, hcg⟩, _⟩ := J2.out.rows ⟨g, cap, ys⟩ (by simp)
              have c6 : W2.cell? ⟨g, j, none⟩ = some (.int .i64 ys[j]) := by
                rw [blk_cell hwg j]
                exact hcg j _ (by rw [List.getElem?_append_left hjy]; exact List.getElem?_eq_getElem hjy)
              have f6 : W2.frozen? ⟨g, j, none⟩ = false := blk_frozen hwg j
              have L4i : L4[i]? = some (fV ⟨g, cap, xs⟩) := by
                rw [HL4.out, List.getElem?_map, List.getElem?_append_right (by omega), hpre, Nat.sub_self]; rfl
              have K1 : W2.cell? (ad4.add i) = some (.slice (some ⟨g, 0, none⟩) N1 cap) := by
                obtain ⟨ad', e', h'⟩ := kS_get (Kd.R_reads' J2.out.R4).2.2 L4i
                cases e'
                rw [← HN1.out]
                exact h'
              have K3 : (W2.setCell ⟨g, j, none⟩ (.int .i64 z)).cell? (ad4.add i) = some (.slice (some ⟨g, 0, none⟩) N1 cap) := by
                obtain ⟨ad', e', h'⟩ := kS_get (Kd.R_reads' J3.out.R4).2.2 L4i
                cases e'
                rw [← HN1.out]
                exact h'
              have K4 : (W2.setCell ⟨g, j, none⟩ (.int .i64 z)).cell? ⟨g5, j, none⟩ = some (.int .i64 z) := cell_far1 K2 (fun e => hgne e.symm)
              have R3 := Aside0.mk (Kd.R_move R2.out (w1 := W2.setCell ⟨g, j, none⟩ (.int .i64 z)) (fun k hk => Below.heap_setCell _ _ _ k (show k ≠ g by have h1 := NG.out ⟨g, cap, ys⟩ (by simp); have h2 := HQ.out; simp only at h1; omega)))
              have T3 := Aside0.mk (Kd.R_move T2.out (w1 := W2.setCell ⟨g, j, none⟩ (.int .i64 z)) (fun k hk => Below.heap_setCell _ _ _ k (show k ≠ g by have h1 := NG.out ⟨g, cap, ys⟩ (by simp); have h2 := hk.1; simp only at h1; omega)))
              have Q3 := Aside0.mk (show wq.heap.size ≤ (W2.setCell ⟨g, j, none⟩ (.int .i64 z)).heap.size by rw [show (W2.setCell ⟨g, j, none⟩ (.int .i64 z)).heap.size = W2.heap.size by simp [World.setCell]]; exact Q2.out)
              have j3 : (j : Int) < (N1 : Int) := by have := HN1.out; omega
              clear hwg hcg J2 R2 T2 Q2 L4i hgne
              generalize ys[j] = yo at c6
              go_region_held3 (fun w' => w'.cell? (ad4.add i) = some (.slice (some ⟨g, 0, none⟩) N1 cap) ∧ w'.cell? ⟨g5, j, none⟩ = some (.int .i64 z)) (first | go_keep | exact ⟨K3, K4⟩) (fail)
              go_wp2_with fail
              go_roundg (xs.length - (j + 1))
              case measure => omega
              case rel => exact ⟨j + 1, ys.set j z, by omega, rfl, by go_num, by rw [List.length_set, hys], ⟨by first | exact J3.out.drew1 | exact J3.out⟩, ⟨by first | exact Kd.R_move R3.out (fun _ _ => rfl) | exact R3.out⟩, ⟨by first | exact Kd.R_move T3.out (fun _ _ => rfl) | exact T3.out⟩, ⟨Q3.out⟩⟩
            · obtain rfl : j = xs.length := by omega
              have TZ := Aside0.mk (Kd.R_mono TX.out (ok' := fun k => w14.heap.size ≤ k) (fun k hk => hk.1))
              have hwq : w.heap.size ≤ wq.heap.size := Nat.le_trans (Nat.le_trans (JX.out.rows ⟨g, cap, ys⟩ (by simp)).2 (Nat.le_of_lt (NG.out ⟨g, cap, ys⟩ (by simp)))) HQ.out
              have MZ := Aside0.mk (Kd.R_lower RX.out hwq)
              have OB := Aside0.mk (show ∀ k, wq.heap.size ≤ k → some k ≠ u13.ownBlock from fun k hk e => by
                have := (TX.out.1 k e.symm).2
                omega)
              have OB2 := Aside0.mk (show ∀ k, k < w14.heap.size → some k ≠ u13.ownBlock from fun k hk e => by
                have := (TX.out.1 k e.symm).1
                omega)
              clear hwq
              go_upto_region 19 with (first | ((with_reducible refine gate_builtin (b := .append) (xs := #[.tmp 156, .tmp 158]) rfl ?_); at_builtin; refine Kd.R_append kRow (w0 := w) w.heap.size rfl (.tmp 156) (.tmp 158) 47 48 (.slice none 0 0) 24 rfl Try.underlying47 infoRw rfl (by decide) (by omega) (u13) ((pre.map (·.xs))) (ys) ([.slice A23 xs.length c23]) (fun k => w14.heap.size ≤ k) (fun k => wq.heap.size ≤ k) ?aV ?aX ?aP (fun k hk => ⟨Nat.le_trans HQ.out hk, OB.out k hk⟩) (fun k hk => Nat.le_trans (Nat.le_trans HQ.out QX.out) hk) ?aO ?aB ?aS ?aL ?_; (case aV => rfl); (case aX => rfl); (case aP => exact ⟨_, rfl, MZ.out⟩); (case aO => exact TZ.out); (case aB => exact JX.out.bel); (case aS => exact JX.out.bel.size); (case aL => (rw [List.length_map, hpre]; omega)); intro v29 w29 ho hb hgr hat; have T29 := Aside0.mk ho; have B29 := Aside0.mk hb; have G29 := Aside0.mk hgr; clear ho hb hgr hat))
              have J29 := Aside0.mk (JX.out.grow _ B29.out G29.out (fun r hr => OB2.out _ (NG.out r hr)) (fun k hk => OB2.out k (V3B.out k hk)) (fun k hk => OB2.out k (V4B.out k hk)))
              have Q29 := Aside0.mk (Nat.le_trans HQ.out (Nat.le_trans QX.out G29.out.size))
              have eL4 : L4 = ((pre ++ [(⟨g, cap, ys⟩ : Rw)]) ++ post).map fV := by rw [HL4.out]; simp [fV, hys]
              have eL3 : L3 = ((pre ++ [(⟨g, cap, ys⟩ : Rw)]) ++ post).map lV := by rw [HL3.out]; simp [lV, hys]
              go_wp2_with fail
              go_roundg (far.length - (i + 1))
              case measure => omega
              case rel =>
                refine ⟨i + 1, pre ++ [⟨g, cap, ys⟩], post, by omega, rfl, by go_num, by rw [List.length_append, hpre]; rfl, HPO, ⟨?_⟩, ⟨?_⟩, ⟨fun r hr => ?_⟩, Q29⟩
                · rw [← eL4, ← eL3, List.append_assoc]
                  exact J29.out
                · rw [List.map_append]
                  exact T29.out
                · rw [List.append_assoc] at hr
                  refine ⟨NG.out r hr, ?_⟩
                  rcases List.mem_append.1 hr with h | h
                  · exact (BJ.out r (List.mem_append.2 (.inl h))).2
                  · rcases List.mem_cons.1 h with rfl | h
                    · show ys.length * 8 ≤ 140737488351232
                      omega
                    · exact (BJ.out r (List.mem_append.2 (.inr (List.mem_cons_of_mem _ h)))).2
        · obtain rfl : i = far.length := by omega
          go_wp2_with fail
          go_meet
          have hp : post = [] := by
            have h := HP.out
            rw [List.drop_length] at h
            exact List.map_eq_nil_iff.1 h
          subst hp
          rw [List.append_nil] at JJ BJ
          exact ⟨pre, JJ, TT, hpre, ⟨fun r hr => (BJ.out r hr).2⟩⟩
    case rest =>
      obtain ⟨rs2, JJ, TT, hrl2, BR⟩ := hcut
      clear HX hq11 I14 BD
      obtain ⟨ts, hts⟩ : ∃ ts, rs2.map (·.xs) = ts := ⟨_, rfl⟩
      have htl : ts.length = far.length := by rw [← hts, List.length_map, hrl2]
      have hC := (Kd.R_reads' JJ.out.R3).2.2
      rw [show (rs2.map lV ++ [none] : List (Option (Nat × Nat × Nat))).length = rs2.length + 1 by simp] at hC
      have LC := low_C (fun r hr => (JJ.out.rows r hr).1) (fun r hr => by have := BR.out r hr; omega) hC
      rw [hts, hrl2, ← htl] at LC
      rw [hts] at TT
      have HTN := Aside0.mk (show ∀ r ∈ ts, r.length < 4611686018427387904 from fun r hr => by
        rw [← hts] at hr
        obtain ⟨q, hq, rfl⟩ := List.mem_map.1 hr
        have := BR.out q hq
        omega)
      obtain ⟨A13, c13, e13, hc13, hC13⟩ := Kd.R_reads TT.out
      have P1 := plan_any (some ad11) c11 ts wc LC (by omega) (by omega) HTN.out
      have R0 := Aside0.mk (fun (l : List Int) (m f : Int) (ht : TA ts l m f) (w1 : World) (hb : Below wc.heap.size wc w1) => ref_any A13 c13 ts l m f ht w1 (Kd.C_below hC13 hb) hc13 (by omega) HTN.out)
      have hts9 : ts.length < 4611686018427387904 := by omega
      have TAL := Aside0.mk (fun (l : List Int) (m f : Int) (ht : TA ts l m f) => TA_len hts9 ht)
      rw [htl] at P1 R0 e13 hc13
      subst e13
      have P2 := Aside0.mk P1
      have BW := Aside0.mk JJ.out.bel
      clear P1 LC hC hC13 TT JJ HTN BR hts htl hrl2 hts9 rs2
      go_upto_region 31 with (first | (go_at_call 21; refine (P2.out).mono ?_; rintro e w31 ⟨vp, lq, mq, fq, rfl, hRp, hTA, hb⟩; obtain ⟨Aq, cq, rfl, hcq, hCq⟩ := Kd.R_reads hRp; have Rq := Aside0.mk hRp; have TAq := Aside0.mk hTA; have B31 := Aside0.mk hb; clear hRp hTA hCq hb))
      clear P2
      have R1 := Aside0.mk (R0.out lq mq fq TAq.out w31 B31.out)
      clear R0
      go_upto_region 32 with (first | (go_at_call 22; refine (R1.out).mono ?_; rintro e w32 ⟨vr, rfl, hRr, hb⟩; obtain ⟨As, cs, rfl, hcs, hCs⟩ := Kd.R_reads hRr; have Rs := Aside0.mk hRr; have B32 := Aside0.mk hb; clear hRr hCs hb))
      clear R1
      have NT := Aside0.mk (Fl.ints_calls Aq As cq cs lq w32 (Kd.C_below (Kd.R_reads' Rq.out).2.2 B32.out) (Kd.R_reads' Rs.out).2.2 hcq hcs (TAL.out lq mq fq TAq.out))
      have BZ := Aside0.mk (below_then (below_then BW.out BW.out.size B31.out) (Nat.le_trans BW.out.size B31.out.size) B32.out)
      clear BW B31 B32 Rq Rs TAq TAL
      go_wp2_with (first | (go_at_call 23; refine (NT.out).mono ?_; rintro e w33 ⟨rfl, hb33⟩; have B33 := Aside0.mk (below_then BZ.out BZ.out.size hb33); clear hb33))
      exact bodyPost_ret (v := .bool true) (by simp [results, Try.results6, go_sem]) rfl ⟨rfl, B33.out⟩
theorem trips_row (A : Option Addr) (c : Nat) (far : List (List Int)) (w : World) (ha : Kd.C kRow w A far.length far) (hc : far.length ≤ c) (hg : (∀ r ∈ far, (∀ z ∈ r, (Lit.int .i64 z).wf = true) ∧ r.length * 8 ≤ 140737488351232 ∧ r.length ≤ maxLen) ∧ far.length * 24 ≤ 140737488351232 ∧ far.length ≤ maxLen) :
    Calls Try.prog 6 #[.slice A far.length c] w fun e w' => e = .returned (.bool true) ∧ Below w.heap.size w w' :=
  trips_true A c far w ha hc hg.2.1 (fun r hr => (hg.1 r hr).2.1)
end Go.Proofs.Ytoopoecopahcbaa.Tr
