/- Maps from strings, with whatever elements: the block as a list of entries in the order in which they were laid in; what the operations do. No condition. -/
import Derived.Maps.RangeWalk
import Derived.WalkKit
namespace Go.Proofs.Ytaefbibkkkglnaa.Mp
open Go Go.MapKept
open Go.ChangeMaps (setBlock heap_setBlock_same heap_setBlock_other)
set_option linter.unusedVariables false
set_option linter.unusedSimpArgs false

abbrev Ent := ByteArray × Value
def entOf (e : MapEntry) : Value × Value := (e.key, e.val)
def encE (p : Ent) : Value × Value := (.string p.1, p.2)
/-- Block m is a map whose entries are es. -/
def IsM (w : World) (m : Nat) (es : List Ent) : Prop :=
  ∃ arr clock, w.heap[m]? = some (.map arr clock) ∧ Stamped arr clock ∧ arr.toList.map entOf = es.map encE

theorem IsM.nodup {w : World} {m : Nat} {es : List Ent} (h : IsM w m es) : (es.map Prod.fst).Nodup := by
  obtain ⟨arr, clock, _, hs, he⟩ := h
  have h1 : arr.toList.map (·.key) = es.map fun p => Value.string p.1 := by
    have := congrArg (List.map Prod.fst) he
    simpa [List.map_map, Function.comp_def, entOf, encE] using this
  have h2 := hs.2.2
  rw [h1] at h2
  have h3 : es.map (fun p => Value.string p.1) = (es.map Prod.fst).map Value.string := by simp [List.map_map, Function.comp_def]
  rw [h3] at h2
  exact (List.pairwise_map.1 h2).imp fun hne e => hne (by rw [e])
theorem IsM.lt {w : World} {m : Nat} {es : List Ent} (h : IsM w m es) : m < w.heap.size := by
  obtain ⟨arr, clock, hb, _⟩ := h
  exact (Array.getElem?_eq_some_iff.1 hb).1
theorem IsM.move {w w' : World} {m : Nat} {es : List Ent} (h : IsM w m es) (hm : w'.heap[m]? = w.heap[m]?) : IsM w' m es := by
  obtain ⟨arr, clock, hb, r⟩ := h
  exact ⟨arr, clock, hm.trans hb, r⟩
theorem IsM.noCells {w : World} {m : Nat} {es : List Ent} (h : IsM w m es) (cs : Array Value) (t : TypeId) (f : Nat × Nat) : w.heap[m]? ≠ some (.cells cs t f) := by
  obtain ⟨arr, clock, hb, _⟩ := h
  rw [hb]
  simp
theorem isM_new (w : World) : IsM (w.alloc (.map #[] 0)) w.heap.size [] := ⟨#[], 0, (MapKept.heap_alloc w _).1, stamped_empty 0, rfl⟩

section
variable {w : World} {m : Nat} {es : List Ent} {arr : Array MapEntry} {clock : Nat}
theorem keys_str (he : arr.toList.map entOf = es.map encE) : ∀ x ∈ arr.toList, IsKey .string x.key := fun x hx => by
  have : entOf x ∈ es.map encE := by rw [← he]; exact List.mem_map.2 ⟨x, hx, rfl⟩
  obtain ⟨p, _, hp⟩ := List.mem_map.1 this
  have : x.key = .string p.1 := (congrArg Prod.fst hp).symm
  rw [this]
  trivial
theorem ent_at (he : arr.toList.map entOf = es.map encE) (j : Nat) (e : MapEntry) (hj : arr.toList[j]? = some e) : ∃ p, es[j]? = some p ∧ e.key = .string p.1 ∧ e.val = p.2 := by
  have h1 : (arr.toList.map entOf)[j]? = some (entOf e) := by simp [hj]
  rw [he, List.getElem?_map] at h1
  cases hp : es[j]? with
  | none => rw [hp] at h1; cases h1
  | some p =>
    rw [hp] at h1
    simp [entOf, encE] at h1
    exact ⟨p, rfl, h1.1.symm, h1.2.symm⟩
theorem find_str (he : arr.toList.map entOf = es.map encE) (k : ByteArray) :
    (Instr.findNow .string (.string k) arr.toList 0 = some none ∧ k ∉ es.map Prod.fst) ∨ ∃ (j : Nat) (e : MapEntry) (p : Ent), Instr.findNow .string (.string k) arr.toList 0 = some (some (j, p.2)) ∧ arr.toList[j]? = some e ∧ e.key = .string k ∧ es[j]? = some p ∧ p.1 = k := by
  rcases findNow_spec (d := .string) (k := .string k) trivial arr.toList 0 (keys_str he) with ⟨h1, h2⟩ | ⟨j, e, h1, h2, h3⟩
  · refine .inl ⟨h1, fun hk => ?_⟩
    obtain ⟨p, hp, rfl⟩ := List.mem_map.1 hk
    have : encE p ∈ arr.toList.map entOf := by rw [he]; exact List.mem_map.2 ⟨p, hp, rfl⟩
    obtain ⟨x, hx, hxe⟩ := List.mem_map.1 this
    exact h2 x hx (congrArg Prod.fst hxe)
  · obtain ⟨p, hp, hp1, hp2⟩ := ent_at he j e h2
    refine .inr ⟨j, e, p, by rw [h1, hp2]; simp, h2, h3, hp, ?_⟩
    rw [hp1] at h3
    injection h3

variable {P : Program} {t k v : TypeId}
/-- m[k]: the key is there. -/
theorem look_in (h : IsM w m es) (ht : P.underlying t = some (.map k v)) (hk : P.underlying k = some .string) {key : ByteArray} {x : Value} (hx : (key, x) ∈ es) (ok : Bool) :
    (Instr.lookup t (.map (some m)) (.string key) ok).run P w = .ok (if ok then .tuple #[x, .bool true] else x) w := by
  have hn := h.nodup
  obtain ⟨arr, clock, hb, hs, he⟩ := h
  rcases find_str he key with ⟨_, h2⟩ | ⟨j, e, p, h1, h2, h3, h4, h5⟩
  · exact absurd (List.mem_map.2 ⟨_, hx, rfl⟩) h2
  · have : p = (key, x) := by
      obtain ⟨i, hi⟩ := List.getElem?_of_mem hx
      have h6 : (es.map Prod.fst)[i]? = some key := by simp [hi]
      have h7 : (es.map Prod.fst)[j]? = some key := by simp [h4, h5]
      have hjl : j < (es.map Prod.fst).length := (List.getElem?_eq_some_iff.1 h7).1
      have : j = i := (List.getElem?_inj hjl hn).1 (h7.trans h6.symm)
      subst this
      rw [h4] at hi
      injection hi
    subst this
    cases ok <;> simp [Instr.lookup, run_underlying ht, MapKept.run_getObj_map hb, run_checkKey hk (show IsKey .string (.string key) from trivial), run_findKey hk h1, Result.andThen]
/-- m[k]: the key is not there. -/
theorem look_out (h : IsM w m es) (ht : P.underlying t = some (.map k v)) (hk : P.underlying k = some .string) {key : ByteArray} (hx : key ∉ es.map Prod.fst) (ok : Bool) {z : Value} (hz : (zeroValue v).run P w = .ok z w) :
    (Instr.lookup t (.map (some m)) (.string key) ok).run P w = .ok (if ok then .tuple #[z, .bool false] else z) w := by
  obtain ⟨arr, clock, hb, hs, he⟩ := h
  rcases find_str he key with ⟨h1, _⟩ | ⟨j, e, p, h1, h2, h3, h4, h5⟩
  · cases ok <;> simp [Instr.lookup, run_underlying ht, MapKept.run_getObj_map hb, run_checkKey hk (show IsKey .string (.string key) from trivial), run_findKey hk h1, hz, Result.andThen]
  · exact absurd (List.mem_map.2 ⟨p, List.mem_of_getElem? h4, h5⟩) hx
/-- len(m). -/
theorem len_m (h : IsM w m es) (ht : P.underlying t = some (.map k v)) (ty : TypeId) : (Builtin.len_ #[t] ty #[.map (some m)]).run P w = .ok (.int .i64 es.length) w := by
  obtain ⟨arr, clock, hb, hs, he⟩ := h
  have : arr.size = es.length := by
    have := congrArg List.length he
    simpa using this
  simp [Builtin.len_, run_underlying ht, MapKept.run_getObj_map hb, goInt, Result.andThen, this]
/-- m[k] = x, k new. -/
theorem put_new (h : IsM w m es) (ht : P.underlying t = some (.map k v)) (hk : P.underlying k = some .string) {key : ByteArray} (hx : key ∉ es.map Prod.fst) (x : Value) :
    ∃ w', (Instr.mapUpdate t (.map (some m)) (.string key) x).run P w = .ok () w' ∧ IsM w' m (es ++ [(key, x)]) ∧ w.grownBy w' (some m) ∧ w'.heap.size = w.heap.size := by
  obtain ⟨arr, clock, hb, hs, he⟩ := h
  rcases find_str he key with ⟨h1, _⟩ | ⟨j, e, p, h1, h2, h3, h4, h5⟩
  · refine ⟨setBlock w m (.map (arr.push { key := .string key, val := x, born := clock }) (clock + 1)), ?_, ⟨_, _, heap_setBlock_same hb _, stamped_push hs (fun y hy hyk => ?_), ?_⟩, ⟨rfl, rfl, rfl, by simp [setBlock], fun i _ hi => heap_setBlock_other hb _ (fun e => hi (by rw [e]))⟩, by simp [setBlock]⟩
    · simp [Instr.mapUpdate, run_underlying ht, MapKept.run_getObj_map hb, run_checkKey hk (show IsKey .string (.string key) from trivial), run_findKey hk h1, MapKept.run_setObj_map _ hb, Result.andThen, setBlock]
    · have : entOf y ∈ es.map encE := by rw [← he]; exact List.mem_map.2 ⟨y, hy, rfl⟩
      obtain ⟨p, hp, hpe⟩ := List.mem_map.1 this
      have h5 : Value.string p.1 = y.key := congrArg Prod.fst hpe
      rw [hyk] at h5
      injection h5 with h5
      exact hx (List.mem_map.2 ⟨p, hp, h5⟩)
    · simp [he, entOf, encE]
  · exact absurd (List.mem_map.2 ⟨p, List.mem_of_getElem? h4, h5⟩) hx
/-- An entry's element replaced. -/
def repl (key : ByteArray) (x : Value) (es : List Ent) : List Ent := es.map fun p => if p.1 = key then (key, x) else p
/-- m[k] = x, k there. -/
theorem put_old (h : IsM w m es) (ht : P.underlying t = some (.map k v)) (hk : P.underlying k = some .string) {key : ByteArray} (hx : key ∈ es.map Prod.fst) (x : Value) :
    ∃ w', (Instr.mapUpdate t (.map (some m)) (.string key) x).run P w = .ok () w' ∧ IsM w' m (repl key x es) ∧ w.grownBy w' (some m) ∧ w'.heap.size = w.heap.size := by
  have hn := h.nodup
  obtain ⟨arr, clock, hb, hs, he⟩ := h
  rcases find_str he key with ⟨_, h1⟩ | ⟨j, e, p, h1, h2, h3, h4, h5⟩
  · exact absurd hx h1
  · have hj : arr[j]? = some e := by rw [← Array.getElem?_toList]; exact h2
    have hsb := MapKept.run_keyThatStays (P := P) (w := w) (d := .string) (k := .string key) trivial
    refine ⟨setBlock w m (.map (arr.modify j fun e => { e with key := .string key, val := x }) clock), ?_, ⟨_, _, heap_setBlock_same hb _, stamped_modify hs j _ (fun _ _ => rfl) (fun y _ hy => ?_), ?_⟩, ⟨rfl, rfl, rfl, by simp [setBlock], fun i _ hi => heap_setBlock_other hb _ (fun e => hi (by rw [e]))⟩, by simp [setBlock]⟩
    · simp [Instr.mapUpdate, run_underlying ht, MapKept.run_getObj_map hb, run_checkKey hk (show IsKey .string (.string key) from trivial), run_findKey hk h1, hj, h3, hsb, MapKept.run_setObj_map _ hb, Result.andThen, setBlock]
    · rw [hj] at hy
      injection hy with hy
      rw [← hy, h3]
    · apply List.ext_getElem?
      intro i
      have hi : (arr.toList.map entOf)[i]? = (es.map encE)[i]? := by rw [he]
      simp only [List.getElem?_map, Array.getElem?_toList, Array.getElem?_modify] at hi ⊢
      unfold repl
      simp only [List.getElem?_map]
      by_cases hij : j = i
      · subst hij
        rw [hj, h4]
        simp [entOf, encE, h5]
      · rw [if_neg hij, hi]
        cases hp : es[i]? with
        | none => rfl
        | some q =>
          have hq : q.1 ≠ key := fun hq => by
            have h6 : (es.map Prod.fst)[i]? = some key := by simp [hp, hq]
            have h7 : (es.map Prod.fst)[j]? = some key := by simp [h4, h5]
            have hjl : j < (es.map Prod.fst).length := (List.getElem?_eq_some_iff.1 h7).1
            exact hij ((List.getElem?_inj hjl hn).1 (h7.trans h6.symm))
          simp [hq]
/-- delete(m, k). -/
def drop (key : ByteArray) (es : List Ent) : List Ent := es.filter fun p => decide (p.1 ≠ key)
theorem drop_none {key : ByteArray} (hx : key ∉ es.map Prod.fst) : drop key es = es := by
  unfold drop
  rw [List.filter_eq_self]
  intro p hp
  simp
  intro e
  exact hx (List.mem_map.2 ⟨p, hp, e⟩)
theorem drop_eraseIdx : ∀ (l : List Ent) (j : Nat) (p : Ent), (l.map Prod.fst).Nodup → l[j]? = some p → drop p.1 l = l.eraseIdx j
  | [], j, p, _, h => by simp at h
  | x :: l, 0, p, hn, h => by
    simp at h
    subst h
    obtain ⟨h1, _⟩ := List.nodup_cons.1 (show (x.1 :: l.map Prod.fst).Nodup from hn)
    show List.filter _ (x :: l) = l
    rw [List.filter_cons_of_neg (by simp)]
    exact drop_none h1
  | x :: l, j + 1, p, hn, h => by
    obtain ⟨h1, h2⟩ := List.nodup_cons.1 (show (x.1 :: l.map Prod.fst).Nodup from hn)
    have hl : l[j]? = some p := by simpa using h
    have hne : x.1 ≠ p.1 := fun e => h1 (e ▸ List.mem_map.2 ⟨p, List.mem_of_getElem? hl, rfl⟩)
    show List.filter _ (x :: l) = x :: l.eraseIdx j
    rw [List.filter_cons_of_pos (by simpa using hne), ← drop_eraseIdx l j p h2 hl]
    rfl
theorem del_m (h : IsM w m es) (ht : P.underlying t = some (.map k v)) (hk : P.underlying k = some .string) (key : ByteArray) (ty : TypeId) :
    ∃ w', (Builtin.delete_ #[t, k] ty #[.map (some m), .string key]).run P w = .ok (.tuple #[]) w' ∧ IsM w' m (drop key es) ∧ w.grownBy w' (some m) ∧ w'.heap.size = w.heap.size := by
  have hn := h.nodup
  obtain ⟨arr, clock, hb, hs, he⟩ := h
  rcases find_str he key with ⟨h1, h2⟩ | ⟨j, e, p, h1, h2, h3, h4, h5⟩
  · refine ⟨setBlock w m (.map arr clock), ?_, ⟨_, _, heap_setBlock_same hb _, hs, by rw [drop_none h2]; exact he⟩, ⟨rfl, rfl, rfl, by simp [setBlock], fun i _ hi => heap_setBlock_other hb _ (fun e => hi (by rw [e]))⟩, by simp [setBlock]⟩
    simp [Builtin.delete_, run_underlying ht, MapKept.run_getObj_map hb, run_checkKey hk (show IsKey .string (.string key) from trivial), run_findKey hk h1, MapKept.run_setObj_map _ hb, Result.andThen, setBlock]
  · have hjl : j < arr.size := by
      have := (List.getElem?_eq_some_iff.1 h2).1
      simpa using this
    refine ⟨setBlock w m (.map (arr.eraseIdxIfInBounds j) clock), ?_, ⟨_, _, heap_setBlock_same hb _, stamped_erase hs j, ?_⟩, ⟨rfl, rfl, rfl, by simp [setBlock], fun i _ hi => heap_setBlock_other hb _ (fun e => hi (by rw [e]))⟩, by simp [setBlock]⟩
    · simp [Builtin.delete_, run_underlying ht, MapKept.run_getObj_map hb, run_checkKey hk (show IsKey .string (.string key) from trivial), run_findKey hk h1, MapKept.run_setObj_map _ hb, Result.andThen, setBlock]
    · have e1 : (arr.eraseIdxIfInBounds j).toList = arr.toList.eraseIdx j := by
        unfold Array.eraseIdxIfInBounds
        rw [dif_pos hjl]
        simp
      rw [e1, ← h5, drop_eraseIdx es j p hn h4]
      rw [ChangeMaps.map_eraseIdx, ChangeMaps.map_eraseIdx, he]
end

/-! ### range -/
/-- Block r goes over the map in block m: left are still to come. -/
def Rng (w : World) (m r : Nat) (es left : List Ent) : Prop :=
  ∃ arr clock since seen c0, w.heap[m]? = some (.map arr clock) ∧ Stamped arr clock ∧ arr.toList.map entOf = es.map encE ∧
    w.heap[r]? = some (.mapIter (some m) since seen c0) ∧ (∀ x ∈ arr.toList, x.born < since) ∧ since ≤ c0 ∧ since ≤ clock ∧ (leftOf arr seen).toList.map entOf = left.map encE
theorem Rng.isM {w : World} {m r : Nat} {es left : List Ent} (h : Rng w m r es left) : IsM w m es := by
  obtain ⟨arr, clock, since, seen, c0, h1, h2, h3, _⟩ := h
  exact ⟨arr, clock, h1, h2, h3⟩
theorem Rng.move {w w' : World} {m r : Nat} {es left : List Ent} (h : Rng w m r es left) (hm : w'.heap[m]? = w.heap[m]?) (hr : w'.heap[r]? = w.heap[r]?) : Rng w' m r es left := by
  obtain ⟨arr, clock, since, seen, c0, h1, h2, h3, h4, rest⟩ := h
  exact ⟨arr, clock, since, seen, c0, hm.trans h1, h2, h3, hr.trans h4, rest⟩
theorem Rng.lt {w : World} {m r : Nat} {es left : List Ent} (h : Rng w m r es left) : r < w.heap.size := by
  obtain ⟨arr, clock, since, seen, c0, h1, h2, h3, h4, rest⟩ := h
  exact (Array.getElem?_eq_some_iff.1 h4).1
theorem Rng.ne {w : World} {m r : Nat} {es left : List Ent} (h : Rng w m r es left) : r ≠ m := by
  obtain ⟨arr, clock, since, seen, c0, h1, h2, h3, h4, rest⟩ := h
  rintro rfl
  rw [h1] at h4
  cases h4
theorem enc_inj : ∀ {p q : Ent}, encE p = encE q → p = q := fun {p q} h => by
  simp [encE] at h
  exact Prod.ext h.1 h.2
theorem enc_map_inj : ∀ {l l' : List Ent}, l.map encE = l'.map encE → l = l'
  | [], [], _ => rfl
  | [], _ :: _, h => by simp at h
  | _ :: _, [], h => by simp at h
  | x :: l, y :: l', h => by
    simp only [List.map_cons, List.cons.injEq] at h
    rw [enc_inj h.1, enc_map_inj h.2]
variable {P : Program}
theorem range_m {w : World} {m : Nat} {es : List Ent} {t k v : TypeId} (h : IsM w m es) (ht : P.underlying t = some (.map k v)) :
    ∃ w', (Instr.range t (.map (some m))).run P w = .ok (.pointer (some ⟨w.heap.size, 0, none⟩)) w' ∧ Rng w' m w.heap.size es es ∧ w.grownBy w' none ∧ w'.heap.size = w.heap.size + 1 := by
  have hlt := h.lt
  obtain ⟨arr, clock, hb, hs, he⟩ := h
  exact ⟨_, run_range_map w t k v m arr clock ht hb, ⟨arr, clock, clock, #[], clock, ((MapKept.heap_alloc w _).2 m hlt).trans hb, hs, he, (MapKept.heap_alloc w _).1, hs.1, Nat.le_refl _, Nat.le_refl _, by rw [← he]; unfold leftOf; rw [Array.toList_filter]; congr 1; rw [List.filter_eq_self]; intro x _; simp⟩, World.grownBy_alloc w _ none, by simp⟩
theorem left_nodup {arr : Array MapEntry} {seen : Array Nat} (h : (arr.toList.map (·.born)).Nodup) : ((leftOf arr seen).toList.map (·.born)).Nodup := by
  unfold leftOf
  rw [Array.toList_filter]
  exact (List.filter_sublist.map _).nodup h
theorem filter_ne_born : ∀ (l : List MapEntry) (e : MapEntry), (l.map (·.born)).Nodup → e ∈ l → (e :: l.filter fun x => !(x.born == e.born)).Perm l
  | [], e, _, h => by simp at h
  | x :: l, e, hn, h => by
    obtain ⟨h1, h2⟩ := List.nodup_cons.1 (show (x.born :: l.map (·.born)).Nodup from hn)
    rcases List.mem_cons.1 h with rfl | h
    · rw [List.filter_cons_of_neg (by simp)]
      refine List.Perm.cons _ ?_
      rw [List.filter_eq_self.2]
      intro y hy
      simp
      intro he
      exact h1 (he ▸ List.mem_map.2 ⟨y, hy, rfl⟩)
    · have hne : ¬ x.born = e.born := fun he => h1 (he ▸ List.mem_map.2 ⟨e, h, rfl⟩)
      rw [List.filter_cons_of_pos (by simpa using hne)]
      exact (List.Perm.swap _ _ _).trans ((filter_ne_born l e h2 h).cons x)
/-- The step: nothing is left, or one of those that are left comes out. -/
theorem Rng.next {w : World} {m r : Nat} {es left : List Ent} (h : Rng w m r es left) (ty : TypeId) :
    (left = [] ∧ (Instr.next (.pointer (some ⟨r, 0, none⟩)) false ty).run P w = .ok (.tuple #[.bool false]) w) ∨
    ∃ (p : Ent) (left' : List Ent) (w' : World), (p :: left').Perm left ∧ (Instr.next (.pointer (some ⟨r, 0, none⟩)) false ty).run P w = .ok (.tuple #[.bool true, .string p.1, p.2]) w' ∧
      Rng w' m r es left' ∧ w.grownBy w' (some r) ∧ w'.heap.size = w.heap.size ∧ (Instr.entry (.pointer (some ⟨r, 0, none⟩))).run P w' = .ok (.tuple #[.string p.1, p.2]) w' := by
  have hne := h.ne
  obtain ⟨arr, clock, since, seen, c0, hb, hs, he, hr, hold, hsc, hsk, hl⟩ := h
  rcases run_next_at (P := P) w ty r m since c0 seen arr clock hr hb hold hsc with ⟨h0, hrun⟩ | ⟨e, hel, w1, hal, hrun⟩
  · refine .inl ⟨?_, hrun⟩
    have : (leftOf arr seen).toList = [] := List.eq_nil_of_length_eq_zero (by simpa using h0)
    rw [this] at hl
    simpa using hl.symm
  · have hem : e ∈ arr.toList := (mem_left hel).1
    obtain ⟨p, hp, hpe⟩ : ∃ p ∈ left, encE p = entOf e := List.mem_map.1 (by rw [← hl]; exact List.mem_map.2 ⟨e, hel, rfl⟩)
    have hk : e.key = .string p.1 := (congrArg Prod.fst hpe).symm
    have hv : e.val = p.2 := (congrArg Prod.snd hpe).symm
    have hr1 : w1.heap[r]? = some (.mapIter (some m) since seen c0) := by rcases hal with rfl | rfl <;> exact hr
    have hb1 : w1.heap[m]? = some (.map arr clock) := by rcases hal with rfl | rfl <;> exact hb
    have hset := heap_set (o' := .mapIter (some m) since (seen.push e.born) clock) hr1
    have hb' : (setBlock w1 r (.mapIter (some m) since (seen.push e.born) clock)).heap[m]? = some (.map arr clock) := (hset.2 m (fun e1 => hne e1.symm)).trans hb1
    -- what is left behind the step
    have hL : (leftOf arr (seen.push e.born)).toList = (leftOf arr seen).toList.filter fun x => !(x.born == e.born) := by
      unfold leftOf
      rw [Array.toList_filter, Array.toList_filter, List.filter_filter]
      congr 1
      funext x
      rw [contains_push]
      cases seen.contains x.born <;> cases (x.born == e.born) <;> rfl
    have hperm := filter_ne_born _ e (left_nodup hs.2.1) hel
    have hall : ∀ x ∈ (leftOf arr seen).toList.filter (fun x => !(x.born == e.born)), ∃ q : Ent, entOf x = encE q := fun x hx => by
      have : entOf x ∈ left.map encE := by rw [← hl]; exact List.mem_map.2 ⟨x, (List.mem_filter.1 hx).1, rfl⟩
      obtain ⟨q, _, hq⟩ := List.mem_map.1 this
      exact ⟨q, hq.symm⟩
    obtain ⟨left', hleft⟩ : ∃ left' : List Ent, ((leftOf arr seen).toList.filter fun x => !(x.born == e.born)).map entOf = left'.map encE := by
      generalize ((leftOf arr seen).toList.filter fun x => !(x.born == e.born)) = L at hall
      clear hperm hL
      induction L with
      | nil => exact ⟨[], rfl⟩
      | cons x L ih =>
        obtain ⟨q, hq⟩ := hall x (by simp)
        obtain ⟨l', hl'⟩ := ih (fun y hy => hall y (by simp [hy]))
        exact ⟨q :: l', by simp [hq, hl']⟩
    refine .inr ⟨p, left', _, ?_, by rw [← hk, ← hv]; exact hrun, ⟨arr, clock, since, seen.push e.born, clock, hb', hs, he, hset.1, hold, hsk, hsk, by rw [hL]; exact hleft⟩, ?_, ?_, by rw [← hk, ← hv]; exact run_entry_at _ r m since seen arr clock e hset.1 hb' hem hs.2.1⟩
    · have h1 := hperm.map entOf
      rw [List.map_cons, hleft, hl, ← hpe, ← List.map_cons (f := encE)] at h1
      -- a permutation of encodings is one of what is encoded
      have : ∀ {a b : List Ent}, (a.map encE).Perm (b.map encE) → a.Perm b := fun {a b} hab => by
        have h2 : ∀ l : List Ent, (l.map encE).map (fun v : Value × Value => ((match v.1 with | .string s => s | _ => ByteArray.empty), v.2)) = l := fun l => by
          rw [List.map_map]
          conv => rhs; rw [← List.map_id l]
          rfl
        have := hab.map (fun v : Value × Value => ((match v.1 with | .string s => s | _ => ByteArray.empty), v.2))
        rwa [h2, h2] at this
      exact this h1
    · rcases hal with rfl | rfl <;> exact ⟨rfl, rfl, rfl, by simp [setBlock], fun i _ hi => hset.2 i (fun e1 => hi (by rw [e1]))⟩
    · rcases hal with rfl | rfl <;> simp [setBlock]

/-! ### at the operations, for the walk -/
section
variable (w : World) {ops : Array Oper} {rest : List Oper} {o : Oper} {a : Act} {Q : Exit → Act → World → Prop}
theorem wpList_put_new (hg : o.guard = none) (mo xo vo : Operand) (t : TypeId) (hop : o.op = Op.mapUpdate t mo xo vo) {k e : TypeId} (ht : P.underlying t = some (.map k e)) (hk : P.underlying k = some .string) {m : Nat} {es : List Ent}
    (hm : a.eval mo = .map (some m)) (h : IsM w m es) (key : ByteArray) (val : Value) (hx : a.eval xo = .string key) (hv : a.eval vo = val) (hn : key ∉ es.map Prod.fst)
    (hK : ∀ w', IsM w' m (es ++ [(key, val)]) → w.grownBy w' (some m) → w'.heap.size = w.heap.size → wpList P ops Q rest (a.put o.dst undef) w') : wpList P ops Q (o :: rest) a w := by
  refine wpList_plain hg fun K' hK' => ?_
  obtain ⟨w', hrun, r1, r2, r3⟩ := put_new h ht hk hn val
  unfold Oper.wp
  simp [execOp, hop, hm, hx, hv, hrun, Result.andThen]
  exact hK' _ _ (hK w' r1 r2 r3)
theorem wpList_put_old (hg : o.guard = none) (mo xo vo : Operand) (t : TypeId) (hop : o.op = Op.mapUpdate t mo xo vo) {k e : TypeId} (ht : P.underlying t = some (.map k e)) (hk : P.underlying k = some .string) {m : Nat} {es : List Ent}
    (hm : a.eval mo = .map (some m)) (h : IsM w m es) (key : ByteArray) (val : Value) (hx : a.eval xo = .string key) (hv : a.eval vo = val) (hn : key ∈ es.map Prod.fst)
    (hK : ∀ w', IsM w' m (repl key val es) → w.grownBy w' (some m) → w'.heap.size = w.heap.size → wpList P ops Q rest (a.put o.dst undef) w') : wpList P ops Q (o :: rest) a w := by
  refine wpList_plain hg fun K' hK' => ?_
  obtain ⟨w', hrun, r1, r2, r3⟩ := put_old h ht hk hn val
  unfold Oper.wp
  simp [execOp, hop, hm, hx, hv, hrun, Result.andThen]
  exact hK' _ _ (hK w' r1 r2 r3)
theorem wpList_del (hg : o.guard = none) (mo xo : Operand) (t k : TypeId) (hop : o.op = Op.call { callee := Callee.builtin Builtin.delete, args := #[mo, xo], argTypes := #[t, k] }) {e : TypeId} (ht : P.underlying t = some (.map k e)) (hk : P.underlying k = some .string) {m : Nat} {es : List Ent}
    (hm : a.eval mo = .map (some m)) (h : IsM w m es) (key : ByteArray) (hx : a.eval xo = .string key)
    (hK : ∀ w', IsM w' m (drop key es) → w.grownBy w' (some m) → w'.heap.size = w.heap.size → wpList P ops Q rest (a.put o.dst (.tuple #[])) w') : wpList P ops Q (o :: rest) a w := by
  refine wpList_plain hg fun K' hK' => ?_
  obtain ⟨w', hrun, r1, r2, r3⟩ := del_m h ht hk key o.type
  unfold Oper.wp
  simp [execOp, hop, resolve, invoke, builtin, hm, hx, hrun, Result.andThen]
  exact hK' _ _ (hK w' r1 r2 r3)
theorem wpList_range (hg : o.guard = none) (mo : Operand) (t : TypeId) (hop : o.op = Op.range t mo) {k e : TypeId} (ht : P.underlying t = some (.map k e)) {m : Nat} {es : List Ent}
    (hm : a.eval mo = .map (some m)) (h : IsM w m es)
    (hK : ∀ w', Rng w' m w.heap.size es es → w.grownBy w' none → w'.heap.size = w.heap.size + 1 → wpList P ops Q rest (a.put o.dst (.pointer (some ⟨w.heap.size, 0, none⟩))) w') : wpList P ops Q (o :: rest) a w := by
  refine wpList_plain hg fun K' hK' => ?_
  obtain ⟨w', hrun, r1, r2, r3⟩ := range_m h ht
  unfold Oper.wp
  simp [execOp, hop, hm, hrun, Result.andThen]
  exact hK' _ _ (hK w' r1 r2 r3)
theorem wpList_next (hg : o.guard = none) (it : Operand) (hop : o.op = Op.next it false) {m r : Nat} {es left : List Ent} (hit : a.eval it = .pointer (some ⟨r, 0, none⟩)) (h : Rng w m r es left)
    (hDone : left = [] → wpList P ops Q rest (a.put o.dst (.tuple #[.bool false])) w)
    (hMore : ∀ (s : ByteArray) (x : Value) (left' : List Ent) (w' : World), ((s, x) :: left').Perm left → Rng w' m r es left' → w.grownBy w' (some r) → w'.heap.size = w.heap.size →
      (Instr.entry (.pointer (some ⟨r, 0, none⟩))).run P w' = .ok (.tuple #[.string s, x]) w' → wpList P ops Q rest (a.put o.dst (.tuple #[.bool true, .string s, x])) w') : wpList P ops Q (o :: rest) a w := by
  refine wpList_plain hg fun K' hK' => ?_
  unfold Oper.wp
  rcases h.next (P := P) o.type with ⟨h0, hrun⟩ | ⟨p, left', w', hp, hrun, hrg, hgr, hsz, hen⟩
  · simp [execOp, hop, hit, hrun, Result.andThen]
    exact hK' _ _ (hDone h0)
  · simp [execOp, hop, hit, hrun, Result.andThen]
    exact hK' _ _ (hMore p.1 p.2 left' w' hp hrg hgr hsz hen)
end
end Go.Proofs.Ytaefbibkkkglnaa.Mp
