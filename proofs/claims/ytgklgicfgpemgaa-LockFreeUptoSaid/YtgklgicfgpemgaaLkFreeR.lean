/- Handlers, all of them: a step of one, under the invariant. No condition. -/
import Derived.Test.YtgklgicfgpemgaaLkFreeW
namespace Go.Proofs.Ytgklgicfgpemgaa.Lk
open Go.RowKit Go.Proofs.YtgklgicfgpemgaaW.PrintWords Go.Proofs.YtgklgicfgpemgaaW.PrintMore Go.Proofs.Ytgklgicfgpemgaa.Fr
set_option linter.unusedVariables false
set_option linter.unusedSimpArgs false

/-- A handler with its places. -/
structure HR where
  a : Nat
  sv : Value
  tv : Value
  h : HandM

/-- All handlers lie in memory, apart from one another. -/
structure AllB (B lo : Nat) (rs : List HR) (w : World) : Prop where
  each : ∀ r ∈ rs, HandB r.a r.sv r.tv B r.h w ∧ lo ≤ r.a
  apart : ∀ (i j : Nat) (r r' : HR), i ≠ j → rs[i]? = some r → rs[j]? = some r' → r.a ≠ r'.a ∧ (∀ b, r.tv.ownBlock = some b → r'.tv.ownBlock ≠ some b)

section
variable {B lo N c j ta g : Nat} {rs : List HR} {r : HR} {w w1 : World} {xs : List Lane} {Q : Nat → List Nat}

theorem AllB.beside (A : AllB B lo rs w) (T : Tab ta g xs w) (k : Only (fun b => some b = some g) w w1) : AllB B lo rs w1 := ⟨fun r hr => ⟨(A.each r hr).1.beside T k, (A.each r hr).2⟩, A.apart⟩
theorem AllB.quiet (A : AllB B lo rs w) (k : Only (fun _ => False) w w1) : AllB B lo rs w1 :=
  ⟨fun r hr => ⟨(A.each r hr).1.only k id (fun _ _ _ => id) (fun _ _ => id), (A.each r hr).2⟩, A.apart⟩

theorem set_get' {rs : List HR} {j : Nat} {r r' : HR} (hj : rs[j]? = some r) (i : Nat) : (rs.set j r')[i]? = if i = j then some r' else rs[i]? := by
  have hl := (List.getElem?_eq_some_iff.1 hj).1
  by_cases e : i = j
  · rw [if_pos e, e, List.getElem?_set_self hl]
  · rw [if_neg e, List.getElem?_set_ne (fun z => e z.symm)]

theorem AllB.step {r' : HR} (A : AllB B lo rs w) (T : Tab ta g xs w) (hj : rs[j]? = some r) (hB : B ≤ w.heap.size) (hH : HandB r'.a r'.sv r'.tv B r'.h w1) (ha : r'.a = r.a)
    (hat : r'.tv.ownBlock = r.tv.ownBlock ∨ ∃ b, r'.tv.ownBlock = some b ∧ w.heap.size ≤ b) (k : Only (StepS r.a g r.tv) w w1) : AllB B lo (rs.set j r') w1 := by
  have Hr := (A.each r (List.mem_of_getElem? hj)).1
  have hoth : ∀ i r2, i ≠ j → rs[i]? = some r2 → HandB r2.a r2.sv r2.tv B r2.h w1 := by
    intro i r2 hij hi
    have H2 := (A.each r2 (List.mem_of_getElem? hi)).1
    obtain ⟨p1, p2⟩ := A.apart i j r2 r hij hi hj
    refine H2.only k ?_ ?_ ?_
    · rintro (e | e | e)
      · exact p1 e
      · exact blk_ne H2.blk T.row (by decide) e
      · exact Kd.R_ne Hr.tk H2.blk (by decide) e
    · intro b hb ht
      obtain ⟨cells, hc⟩ := ht
      rintro (e | e | e)
      · subst e; rw [Hr.blk] at hc; cases hc
      · subst e; rw [T.row] at hc; cases hc
      · have := Kd.R_base Hr.tk b e.symm; omega
    · intro b hb
      obtain ⟨cells, hc⟩ := Kd.R_typed H2.tk b hb
      rintro (e | e | e)
      · subst e; rw [Hr.blk] at hc; cases hc
      · subst e; rw [T.row] at hc; cases hc
      · exact p2 b hb e.symm
  have hlt : ∀ i r2 b, i ≠ j → rs[i]? = some r2 → r2.tv.ownBlock = some b → r'.tv.ownBlock ≠ some b := by
    intro i r2 b hij hi hb
    rcases hat with e | ⟨b', e, hb'⟩
    · rw [e]
      exact (A.apart i j r2 r hij hi hj).2 b hb
    · rw [e]
      intro e2
      cases e2
      have := Kd.R_lt (A.each r2 (List.mem_of_getElem? hi)).1.tk b hb
      omega
  refine ⟨?_, ?_⟩
  · intro y hy
    obtain ⟨i, hi⟩ := List.mem_iff_getElem?.1 hy
    rw [set_get' hj] at hi
    split at hi
    · cases hi
      exact ⟨hH, by rw [ha]; exact (A.each r (List.mem_of_getElem? hj)).2⟩
    · rename_i e
      exact ⟨hoth i y e hi, (A.each y (List.mem_of_getElem? hi)).2⟩
  · intro i i2 y y2 hne hi hi2
    rw [set_get' hj] at hi hi2
    split at hi
    · rename_i e1
      cases hi
      rw [if_neg (fun e => hne (e1.trans e.symm))] at hi2
      have hij2 : i2 ≠ j := fun e => hne (e1.trans e.symm)
      refine ⟨by rw [ha]; exact fun e => (A.apart i2 j y2 r hij2 hi2 hj).1 e.symm, fun b hb e => hlt i2 y2 b hij2 hi2 e hb⟩
    · rename_i e1
      split at hi2
      · cases hi2
        exact ⟨by rw [ha]; exact (A.apart i j y r e1 hi hj).1, fun b hb => hlt i y b e1 hi hb⟩
      · exact A.apart i i2 y y2 hne hi hi2

theorem rise_length {l : List Nat} {N : Nat} (h : l.Pairwise (· < ·)) (hl : ∀ s ∈ l, s < N) : l.length ≤ N := by
  have key : ∀ (l : List Nat) (lo : Nat), l.Pairwise (· < ·) → (∀ s ∈ l, lo ≤ s) → (∀ s ∈ l, s < N) → lo ≤ N → l.length + lo ≤ N := by
    intro l
    induction l with
    | nil => intro lo _ _ _ h; simpa using h
    | cons x l ih =>
      intro lo hp h1 h2 h3
      have h4 := h2 x (by simp)
      have h5 := h1 x (by simp)
      have := ih (x + 1) (List.pairwise_cons.1 hp).2 (fun s hs => (List.pairwise_cons.1 hp).1 s hs) (fun s hs => h2 s (by simp [hs])) h4
      simp only [List.length_cons]
      omega
  have := key l 0 h (fun _ _ => Nat.zero_le _) hl (Nat.zero_le _)
  omega

theorem map_set (rs : List HR) (j : Nat) (r' : HR) : (rs.set j r').map (·.h) = (rs.map (·.h)).set j r'.h := by rw [List.map_set]

/-- What a step has done. -/
def Stepped (B lo N c j ta g : Nat) (rs : List HR) (r : HR) (w w' : World) : Prop :=
  ∃ r' xs' Q', r'.a = r.a ∧ r'.h.set = r.h.set ∧ AllB B lo (rs.set j r') w' ∧ Tab ta g xs' w' ∧ Inv N xs' ((rs.set j r').map (·.h)) Q' (c + 1) ∧ Only (StepS r.a g r.tv) w w'

theorem step_rec (I : Inv N xs (rs.map (·.h)) Q c) (A : AllB B lo rs w) (T : Tab ta g xs w) (hj : rs[j]? = some r) (hB : B ≤ w.heap.size) (hc : c + 1 < 100000) (hN : N ≤ 10) :
    Calls Try.prog 29 #[.pointer (some ⟨r.a, 0, none⟩), .pointer (some ⟨ta, 0, none⟩)] w fun e w' => e = .returned (.tuple #[.bool (stepM xs r.h).1.1, .bool true]) ∧
      ((stepM xs r.h).1.1 = false → AllB B lo rs w' ∧ Tab ta g xs w' ∧ Only (fun b => some b = some g) w w') ∧ ((stepM xs r.h).1.1 = true → Stepped B lo N c j ta g rs r w w') := by
  have H := (A.each r (List.mem_of_getElem? hj)).1
  have hjh : (rs.map (·.h))[j]? = some r.h := by rw [List.getElem?_map, hj]; rfl
  have W := I.wf r.h (List.mem_of_getElem? hjh)
  have hn : r.h.set.length ≤ 10 := Nat.le_trans (rise_length W.rise W.lt) hN
  have htl := W.tk
  have hlen := I.len
  have hgiven : ∀ x ∈ xs, 0 ≤ x.given := by
    intro x hx
    obtain ⟨s, hl, e⟩ := List.mem_iff_getElem.1 hx
    have L := I.lane s (by omega)
    have := L.given
    rw [List.getD_eq_getElem?_getD, List.getElem?_eq_getElem hl, e] at this
    have e2 : x.given = ((Q s).length : Int) := this
    omega
  have hpos := W.pos
  by_cases h2 : r.h.pos < 2 * r.h.set.length
  · have hi := of_lt (l := r.h.set) (i := r.h.pos / 2) (by omega)
    have hs := W.lt _ (List.mem_of_getElem? hi)
    by_cases he : r.h.pos % 2 = 0
    · have eon : (stepM xs r.h).1.1 = true := by unfold stepM; simp only [if_pos h2, if_pos he]
      rw [eon]
      refine (step_take H T hgiven hn hi (by omega) hB (by omega) (I.ticket hs)).mono ?_
      rintro e w' ⟨rfl, tv', hH, hT, hat, hO⟩
      refine ⟨rfl, (fun z => by cases z), fun _ => ?_⟩
      obtain ⟨Q', I'⟩ := I.take_ hjh hc hi (by omega)
      exact ⟨⟨r.a, r.sv, tv', ⟨r.h.set, r.h.pos + 1, r.h.tk ++ [(Q (r.h.set.getD (r.h.pos / 2) 0)).length]⟩⟩, _, Q', rfl, rfl, A.step T hj hB hH rfl hat hO, hT, by rw [map_set]; exact I', hO⟩
    · have hti := of_lt (l := r.h.tk) (i := r.h.pos / 2) (by omega)
      by_cases hv : servedF xs (r.h.set.getD (r.h.pos / 2) 0 : Nat) (r.h.tk.getD (r.h.pos / 2) 0 : Nat) = true
      · have eon : (stepM xs r.h).1.1 = true := by unfold stepM; simp only [if_pos h2, if_neg he, if_pos hv]
        rw [eon]
        refine (step_serve H T hn hi (by omega) hti hv).mono ?_
        rintro e w' ⟨rfl, hH, hT, hO⟩
        refine ⟨rfl, (fun z => by cases z), fun _ => ?_⟩
        rw [I.served hs] at hv
        simp only [Bool.and_eq_true, decide_eq_true_eq] at hv
        obtain ⟨Q', I'⟩ := I.serve hjh hc hi (by omega) hv.2
        exact ⟨⟨r.a, r.sv, r.tv, ⟨r.h.set, r.h.pos + 1, r.h.tk⟩⟩, _, Q', rfl, rfl, A.step T hj hB hH rfl (.inl rfl) hO, hT, by rw [map_set]; exact I', hO⟩
      · have eon : (stepM xs r.h).1.1 = false := by unfold stepM; simp only [if_pos h2, if_neg he, if_neg hv]
        rw [eon]
        refine (step_wait H T hn hi (by omega) hti (Bool.eq_false_iff.2 hv)).mono ?_
        rintro e w' ⟨rfl, hT, hO⟩
        exact ⟨rfl, fun _ => ⟨A.beside T hO, hT, hO⟩, fun z => by cases z⟩
  · by_cases h3 : r.h.pos < 3 * r.h.set.length
    · have hi := of_lt (l := r.h.set) (i := r.h.pos - 2 * r.h.set.length) (by omega)
      have hti := of_lt (l := r.h.tk) (i := r.h.pos - 2 * r.h.set.length) (by omega)
      have hs := W.lt _ (List.mem_of_getElem? hi)
      obtain ⟨v1, v2, v3, v4, v5, v6⟩ := I.holds hjh hi (by omega) (by omega)
      rw [show ph r.h.set.length (r.h.pos - 2 * r.h.set.length) r.h.pos = 0 by unfold ph; rw [if_neg (by omega), if_neg (by omega)]] at v3
      have em : Int.tmod (xs.getD (r.h.set.getD (r.h.pos - 2 * r.h.set.length) 0) L0).seq 2 = 0 := by
        rw [v3, show 2 * (xs.getD (r.h.set.getD (r.h.pos - 2 * r.h.set.length) 0) L0).left + ((0 : Nat) : Int) = 2 * (xs.getD (r.h.set.getD (r.h.pos - 2 * r.h.set.length) 0) L0).left by omega]
        exact tmod_even _ v5
      have ht := turn_ok (odd := 0) (up := seqUp) (xs := xs) (by omega) v2 v1 em
      have eon : (stepM xs r.h).1.1 = true := by unfold stepM; simp only [if_neg h2, if_pos h3]
      rw [eon]
      refine (step_odd (q := (xs.getD (r.h.set.getD (r.h.pos - 2 * r.h.set.length) 0) L0).seq) H T hn hi (by omega) hti (I.seqF hs) em (by omega) (by omega) ht ?_).mono ?_
      · unfold seqF
        rw [if_pos (show laneAt _ _ from ⟨by omega, by rw [List.length_set]; omega⟩), Int.toNat_natCast, getD_set _ _ _ (by omega)]
        exact wrap_small _ (by omega) (by omega)
      · rintro e w' ⟨rfl, hH, hT, hO⟩
        refine ⟨rfl, (fun z => by cases z), fun _ => ?_⟩
        obtain ⟨Q', I'⟩ := I.turns hjh hc hi (.inl (by omega))
        exact ⟨⟨r.a, r.sv, r.tv, ⟨r.h.set, r.h.pos + 1, r.h.tk⟩⟩, _, Q', rfl, rfl, A.step T hj hB hH rfl (.inl rfl) hO, hT, by rw [map_set]; exact I', hO⟩
    · by_cases h4 : r.h.pos < 4 * r.h.set.length
      · have hi := of_lt (l := r.h.set) (i := r.h.pos - 3 * r.h.set.length) (by omega)
        have hti := of_lt (l := r.h.tk) (i := r.h.pos - 3 * r.h.set.length) (by omega)
        have hs := W.lt _ (List.mem_of_getElem? hi)
        obtain ⟨v1, v2, v3, v4, v5, v6⟩ := I.holds hjh hi (by omega) (by omega)
        rw [ph1 (by omega) (by omega)] at v3
        have em : Int.tmod (xs.getD (r.h.set.getD (r.h.pos - 3 * r.h.set.length) 0) L0).seq 2 = 1 := by
          rw [v3]
          exact tmod_odd _ v5
        have ht := turn_ok (odd := 1) (up := seqUp) (xs := xs) (by omega) v2 v1 em
        have eon : (stepM xs r.h).1.1 = true := by unfold stepM; simp only [if_neg h2, if_neg h3, if_pos h4]
        rw [eon]
        refine (step_even (q := (xs.getD (r.h.set.getD (r.h.pos - 3 * r.h.set.length) 0) L0).seq) H T hn hi (by omega) hti (I.seqF hs) em (by omega) (by omega) ht ?_).mono ?_
        · unfold seqF
          rw [if_pos (show laneAt _ _ from ⟨by omega, by rw [List.length_set]; omega⟩), Int.toNat_natCast, getD_set _ _ _ (by omega)]
          exact wrap_small _ (by omega) (by omega)
        · rintro e w' ⟨rfl, hH, hT, hO⟩
          refine ⟨rfl, (fun z => by cases z), fun _ => ?_⟩
          obtain ⟨Q', I'⟩ := I.turns hjh hc hi (.inr (by omega))
          exact ⟨⟨r.a, r.sv, r.tv, ⟨r.h.set, r.h.pos + 1, r.h.tk⟩⟩, _, Q', rfl, rfl, A.step T hj hB hH rfl (.inl rfl) hO, hT, by rw [map_set]; exact I', hO⟩
      · by_cases h5 : r.h.pos < 5 * r.h.set.length
        · have hi := of_lt (l := r.h.set) (i := r.h.pos - 4 * r.h.set.length) (by omega)
          have hti := of_lt (l := r.h.tk) (i := r.h.pos - 4 * r.h.set.length) (by omega)
          have hs := W.lt _ (List.mem_of_getElem? hi)
          obtain ⟨v1, v2, v3, v4, v5, v6⟩ := I.holds hjh hi (by omega) (by omega)
          rw [ph2 (by omega)] at v3
          have ht := turn_ok (odd := 0) (up := leaveUp) (xs := xs) (by omega) v2 v1 (by rw [v3, show 2 * (xs.getD (r.h.set.getD (r.h.pos - 4 * r.h.set.length) 0) L0).left + ((2 : Nat) : Int) = 2 * ((xs.getD (r.h.set.getD (r.h.pos - 4 * r.h.set.length) 0) L0).left + 1) by omega]; exact tmod_even _ (by omega))
          have eon : (stepM xs r.h).1.1 = true := by unfold stepM; simp only [if_neg h2, if_neg h3, if_neg h4, if_pos h5]
          rw [eon]
          refine (step_leave H T hn hi (by omega) hti ht).mono ?_
          rintro e w' ⟨rfl, hH, hT, hO⟩
          refine ⟨rfl, (fun z => by cases z), fun _ => ?_⟩
          obtain ⟨Q', I'⟩ := I.leaves hjh hc hi (by omega)
          exact ⟨⟨r.a, r.sv, r.tv, ⟨r.h.set, r.h.pos + 1, r.h.tk⟩⟩, _, Q', rfl, rfl, A.step T hj hB hH rfl (.inl rfl) hO, hT, by rw [map_set]; exact I', hO⟩
        · have eon : (stepM xs r.h).1.1 = false := by unfold stepM; simp only [if_neg h2, if_neg h3, if_neg h4, if_neg h5]
          rw [eon]
          refine (step_end H hn (by omega) (by omega)).mono ?_
          rintro e w' ⟨rfl, rfl⟩
          exact ⟨rfl, fun _ => ⟨A, T, Only.refl _ _⟩, fun z => by cases z⟩
end
end Go.Proofs.Ytgklgicfgpemgaa.Lk
