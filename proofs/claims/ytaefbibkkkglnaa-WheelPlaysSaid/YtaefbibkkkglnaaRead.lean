/- Reading lemmas: whatever cells read as data of a Go type stand in memory as the print's kinds tell it, by a value within the row's own reach. No condition. -/
import Derived.Test.YtaefbibkkkglnaaWWords
import Derived.Deep.Slices
import Derived.SizedLaws
import Derived.ChangeArms
namespace Go.Proofs.Ytaefbibkkkglnaa.Rd
open Go Go.ChangeShapes Go.WideShapes Go.RowKit Go.Proofs.YtaefbibkkkglnaaW.PrintWords

/-- d reads the type t: cells that read as data at t stand in d, by some good value. -/
def Rd (P : Program) {α : Type} (d : Kd α) (t : TypeId) (good : α → Prop) : Prop :=
  ∀ (H : Type) (enc : TypeId × Value → H) (W : World) (fuel : Nat) (cs : List Value) (x : DataW H × List MemPlace),
    DataW.trod enc P W 0 (fun _ => true) true fuel t cs = some x → (∀ n ∈ x.1.weights P t, n ≤ reachBytes) → ∃ a, d.K W a cs ∧ good a

/-- .. types in line. -/
def RdL (P : Program) {α : Type} (d : Kd α) (ts : List TypeId) (good : α → Prop) : Prop :=
  ∀ (H : Type) (enc : TypeId × Value → H) (W : World) (fuel : Nat) (cs : List Value) (xs : List (DataW H × List MemPlace)),
    cs.length = (ts.map P.cellsOf).sum → xs.length = ts.length →
    (∀ i t, ts[i]? = some t → DataW.trod enc P W 0 (fun _ => true) true fuel t ((cs.drop ((ts.take i).map P.cellsOf).sum).take (P.cellsOf t)) = xs[i]?) →
    (∀ n ∈ DataW.weightsEach P ts (xs.map (·.1)), n ≤ reachBytes) → ∃ a, d.K W a cs ∧ good a

section
variable {P : Program} {α β : Type} {t e : TypeId}

theorem Rd.int {k : IntKind} (hu : P.underlying t = some (.int k)) : Rd P (Kd.int k) t (fun n => (Lit.int k n).wf = true) := by
  intro H enc W fuel cs x h _
  obtain ⟨n, rfl, rfl, hw⟩ := DataW.trod_int hu h
  exact ⟨n, rfl, hw⟩

theorem Rd.bool (hu : P.underlying t = some .bool) : Rd P Kd.bool t (fun _ => True) := by
  intro H enc W fuel cs x h _
  obtain ⟨n, rfl, rfl⟩ := DataW.trod_bool hu h
  exact ⟨n, rfl, trivial⟩

theorem Rd.string (hu : P.underlying t = some .string) : Rd P Kd.string t (fun s => s.size ≤ 140737488351232) := by
  intro H enc W fuel cs x h hw
  obtain ⟨s, rfl, rfl, _⟩ := DataW.trod_string hu h
  have := hw s.data.toList.length (by simp [DataW.weights])
  rw [Array.length_toList] at this
  exact ⟨s, rfl, this⟩

theorem RdL.one {d : Kd α} {g : α → Prop} (h : Rd P d t g) : RdL P d [t] g := by
  intro H enc W fuel cs xs hl hx hp hw
  match xs, hx with
  | [x], _ =>
    have h0 := hp 0 t rfl
    have hl' : cs.length = P.cellsOf t := by simpa using hl
    have e : (cs.drop ((([t] : List TypeId).take 0).map P.cellsOf).sum).take (P.cellsOf t) = cs := by
      rw [← hl']
      simp
    rw [e] at h0
    exact h H enc W fuel cs x h0 (fun n hn => hw n (by simpa [DataW.weightsEach] using hn))

theorem RdL.cons {d : Kd α} {d' : Kd β} {ts : List TypeId} {g : α → Prop} {g' : β → Prop} (h : Rd P d t g) (h' : RdL P d' ts g') : RdL P (Kd.pair d d') (t :: ts) (fun x => g x.1 ∧ g' x.2) := by
  intro H enc W fuel cs xs hl hx hp hw
  match xs, hx with
  | x :: xs, hx =>
    have hl' : cs.length = P.cellsOf t + (ts.map P.cellsOf).sum := by simpa using hl
    have h0 : DataW.trod enc P W 0 (fun _ => true) true fuel t (cs.take (P.cellsOf t)) = some x := by
      have := hp 0 t rfl
      simpa using this
    obtain ⟨a, ha, ga⟩ := h H enc W fuel _ x h0 (fun n hn => hw n (by simp only [List.map_cons, DataW.weightsEach, List.mem_append]; exact Or.inl hn))
    obtain ⟨b, hb, gb⟩ := h' H enc W fuel (cs.drop (P.cellsOf t)) xs (by rw [List.length_drop]; omega) (by simpa using hx)
      (fun i u hi => by
        have := hp (i + 1) u (by simpa using hi)
        simp only [List.take_succ_cons, List.map_cons, List.sum_cons, List.getElem?_cons_succ] at this
        rw [List.drop_drop]
        exact this)
      (fun n hn => hw n (by simp only [List.map_cons, DataW.weightsEach, List.mem_append]; exact Or.inr hn))
    exact ⟨(a, b), ⟨_, _, (List.take_append_drop (P.cellsOf t) cs).symm, ha, hb⟩, ga, gb⟩

/-- The fields of a struct type stand in line. -/
def fits (P : Program) (t : TypeId) (ts : List TypeId) : Bool :=
  match P.underlying t with
  | some (.struct fs) => fs.toList.map (·.type) == ts && fs.toList.map (·.offset) == (List.range ts.length).map (fun i => ((ts.take i).map P.cellsOf).sum) && P.cellsOf t == (ts.map P.cellsOf).sum
  | _ => false

theorem Rd.struct {d : Kd α} {ts : List TypeId} {g : α → Prop} (hf : fits P t ts = true) (h : RdL P d ts g) : Rd P d t g := by
  intro H enc W fuel cs x hx hw
  unfold fits at hf
  split at hf
  · rename_i fs hu
    simp only [Bool.and_eq_true, beq_iff_eq] at hf
    obtain ⟨⟨hty, hof⟩, hsum⟩ := hf
    obtain ⟨xs, n, rfl, rfl, hl, hxl, hp⟩ := DataW.trod_struct hu hx
    have hlen : ts.length = fs.size := by rw [← hty]; simp
    refine h H enc W n cs xs (by rw [hl, hsum]) (by rw [hxl, hlen]) (fun i u hi => ?_) (fun m hm => hw m ?_)
    · have hi' : i < fs.size := by
        have := (List.getElem?_eq_some_iff.1 hi).1
        omega
      have h1 := hp i fs[i] (by simp [hi'])
      have h2 : fs[i].type = u := by
        have : (fs.toList.map (·.type))[i]? = some fs[i].type := by simp [hi']
        rw [hty, hi] at this
        exact (Option.some.inj this).symm
      have h3 : fs[i].offset = ((ts.take i).map P.cellsOf).sum := by
        have e1 : (fs.toList.map (·.offset))[i]? = some fs[i].offset := by simp [hi']
        rw [hof] at e1
        have e2 : ((List.range ts.length).map (fun i => ((ts.take i).map P.cellsOf).sum))[i]? = some (((ts.take i).map P.cellsOf).sum) := by
          rw [List.getElem?_map, List.getElem?_range (by omega)]
          rfl
        rw [e2] at e1
        exact (Option.some.inj e1).symm
      rw [h2, h3] at h1
      exact h1
    · simp only [DataW.weights, hu]
      rw [hty]
      exact hm
  · cases hf

theorem Rd.iso {d : Kd α} {g : α → Prop} {f : β → α} (h : Rd P d t g) (back : α → β) (hb : ∀ a, f (back a) = a) : Rd P (Kd.iso d f) t (fun b => g (f b)) := by
  intro H enc W fuel cs x hx hw
  obtain ⟨a, ha, ga⟩ := h H enc W fuel cs x hx hw
  refine ⟨back a, ?_, ?_⟩
  · show d.K W (f (back a)) cs
    rw [hb]
    exact ha
  · show g (f (back a))
    rw [hb]
    exact ga

theorem weightsAll_mem {H : Type} {P : Program} {e : TypeId} : ∀ {l : List (DataW H)} {y : DataW H}, y ∈ l → ∀ n ∈ y.weights P e, n ∈ DataW.weightsAll P e l
  | z :: l, y, hy, n, hn => by
    simp only [DataW.weightsAll, List.mem_append]
    rcases List.mem_cons.1 hy with rfl | hy
    · exact Or.inl hn
    · exact Or.inr (weightsAll_mem hy n hn)

theorem Rd.slice {d : Kd α} {g : α → Prop} (hu : P.underlying t = some (.slice e)) (hs : P.cellsOf e = d.sz) {B : Nat} (hB : P.bytesOf e = B) (h : Rd P d e g) :
    Rd P (Kd.slice e d) t (fun xs => (∀ x ∈ xs, g x) ∧ xs.length * B ≤ 140737488351232 ∧ xs.length ≤ maxLen) := by
  intro H enc W fuel cs x hx hw
  rcases Go.Deep.open_slice hu hx with ⟨rfl, rfl⟩ | ⟨a, len, cap, m, n, D, Pl, rfl, hb, hl, hm, hmm, rfl, hel⟩
  · refine ⟨[], ⟨none, 0, rfl, Nat.le_refl _, rfl, by simp, fun h => absurd h (Nat.lt_irrefl 0)⟩, by simp, by simp, by simp⟩
  · simp only [if_true] at hmm
    subst hmm
    have hW : (len + (m - len)) * P.bytesOf e ≤ 140737488351232 := hw _ (by simp [DataW.weights, hu])
    have hone : ∀ i, i < len → ∃ z : α × List Value, W.cells? 0 (a.add (i * P.cellsOf e)) (P.cellsOf e) = some z.2 ∧ d.K W z.1 z.2 ∧ g z.1 := by
      intro i hi
      obtain ⟨c, hc, ht⟩ := hel i (by omega)
      have hin : ∀ k ∈ (D i).weights P e, k ≤ reachBytes := by
        intro k hk
        refine hw k ?_
        simp only [DataW.weights, hu, List.mem_cons, List.mem_append]
        exact Or.inr (Or.inl (weightsAll_mem (List.mem_map.2 ⟨i, by simpa using hi, rfl⟩) k hk))
      obtain ⟨z, hz, gz⟩ := h H enc W n c _ ht hin
      exact ⟨(z, c), hc, hz, gz⟩
    by_cases h0 : len = 0
    · subst h0
      exact ⟨[], ⟨some a, m, rfl, Nat.zero_le _, rfl, by simp, fun h => absurd h (Nat.lt_irrefl 0)⟩, by simp, by simp, by simp⟩
    · obtain ⟨z0, _⟩ := hone 0 (by omega)
      haveI : Inhabited (α × List Value) := ⟨z0⟩
      obtain ⟨F, hF⟩ := Go.Deep.choose_lt hone
      have hlen : ((List.range len).map fun i => (F i).1).length = len := by simp
      refine ⟨(List.range len).map fun i => (F i).1, ⟨some a, m, by rw [hlen], by rw [hlen]; exact hl, ?_⟩, ?_, ?_, ?_⟩
      · refine ⟨rfl, by rw [hlen]; have : m ≤ 9223372036854775807 := hm; omega, fun _ => ⟨a, rfl, fun j p hj => ?_⟩⟩
        rw [List.getElem?_map] at hj
        have hjl : j < len := by
          rcases Nat.lt_or_ge j len with h1 | h1
          · exact h1
          · rw [List.getElem?_eq_none (by simpa using h1)] at hj
            cases hj
        rw [List.getElem?_range hjl] at hj
        cases hj
        obtain ⟨hc, hk, _⟩ := hF j hjl
        obtain ⟨_, hcl, hcell⟩ := World.cells?_some hc
        refine ⟨(F j).2, by rw [hcl, hs], hk, fun i u hu' => ?_⟩
        have hi : i < (F j).2.length := (List.getElem?_eq_some_iff.1 hu').1
        have := hcell i (by omega)
        rw [hs] at this
        rw [← Addr.add_add] 
        rw [this, hu']
      · intro y hy
        obtain ⟨i, hi, rfl⟩ := List.mem_map.1 hy
        exact (hF i (by simpa using hi)).2.2
      · rw [hlen, ← hB]
        exact Nat.le_trans (Nat.mul_le_mul_right _ (by omega)) hW
      · rw [hlen]
        omega

/-- An argument that is a slice. -/
theorem slice_arg {d : Kd α} {g : List α → Prop} {H : Type} {enc : TypeId × Value → H} {W : World} {A : Option Addr} {len cap : Nat} {D : DataW H} {ps : List MemPlace} (h : Rd P (Kd.slice e d) t g)
    (ht : DataW.Trod enc P W 0 (fun _ => true) true t (.slice A len cap) D ps) (hw : ∀ n ∈ D.weights P t, n ≤ reachBytes) :
    ∃ xs : List α, len = xs.length ∧ xs.length ≤ cap ∧ d.C W A xs.length xs ∧ g xs := by
  obtain ⟨fuel, hf⟩ := ht
  obtain ⟨xs, ⟨A', c', he, hl, hc⟩, hg⟩ := h H enc W fuel _ _ hf hw
  simp [Value.cells] at he
  obtain ⟨rfl, rfl, rfl⟩ := he
  exact ⟨xs, rfl, hl, hc, hg⟩

/-- An argument that is a struct. -/
theorem struct_arg {d : Kd α} {g : α → Prop} {H : Type} {enc : TypeId × Value → H} {W : World} {cs : Array Value} {D : DataW H} {ps : List MemPlace} (h : Rd P d t g)
    (ht : DataW.Trod enc P W 0 (fun _ => true) true t (.agg cs) D ps) (hw : ∀ n ∈ D.weights P t, n ≤ reachBytes) : ∃ x : α, d.K W x cs.toList ∧ g x := by
  obtain ⟨fuel, hf⟩ := ht
  exact h H enc W fuel _ _ hf hw

theorem weights_arg {H : Type} {ts : List TypeId} {ds : List (DataW H)} (h : (DataW.weightsEach P ts ds).all (· ≤ reachBytes) = true) {j : Nat} {d : DataW H} (ht : ts[j]? = some t) (hd : ds[j]? = some d) : ∀ n ∈ d.weights P t, n ≤ reachBytes := by
  intro n hn
  have := List.all_eq_true.1 h _ (DataW.weights_mem_each ht hd n hn)
  simpa using this
end
end Go.Proofs.Ytaefbibkkkglnaa.Rd
