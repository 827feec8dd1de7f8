/- Wheel: Add, Change, Remove, At, Now, Len. No condition. -/
import Derived.Test.YtaefbibkkkglnaaWhA
namespace Go.Proofs.Ytaefbibkkkglnaa.Wh
open Go Go.RowKit Go.Proofs.YtaefbibkkkglnaaW.PrintWords Go.Proofs.Ytaefbibkkkglnaa.Mp Go.Proofs.Ytaefbibkkkglnaa.Fr
set_option linter.unusedVariables false
set_option linter.unusedSimpArgs false

/-- The wheel behind a call. -/
def After (w : World) (O : Nat → Prop) (p : Nat) (now : Int) (l : List E) (w' : World) : Prop :=
  ∃ O', Whl w' O' p now l ∧ (∀ b, O' b → O b ∨ w.heap.size ≤ b) ∧ Only O w w'
section
variable {w w' : World} {O : Nat → Prop} {p : Nat} {now : Int} {l : List E}
theorem Whl.same (h : Whl w O p now l) (n : Nat) : After w O p now l (w.drewN n) := ⟨O, h.drewN n, fun _ hb => .inl hb, (Only.refl O w).drewN n⟩
theorem Whl.c0 (h : Whl w O p now l) : w.cell? ⟨p, 0, none⟩ = some (.int .i64 now) := by
  obtain ⟨m, S, h1, _⟩ := h.rep
  exact h1.head.c0

theorem build_T (id : ByteArray) (t : Int) (w : World) : (Instr.build 79 #[(0, .string id), (1, .int .i64 t)]).run Try.prog w = .ok (.agg #[.string id, .int .i64 t, .int .i64 0, .pointer none, .pointer none]) w := by kernel_rfl

theorem nil_add (id : ByteArray) (t : Int) (w : World) : Calls Try.prog 26 #[.pointer none, .string id, .int .i64 t] w fun e w' => e = .returned (.int .i64 0) ∧ w = w' := by
  go_enter Try.func26, Try.ntmps26
  go_wp2
  go_ret
  exact ⟨rfl, rfl⟩

set_option maxHeartbeats 1000000 in
set_option maxRecDepth 100000 in
theorem add_ok (h : Whl w O p now l) (id : ByteArray) (t : Int) (hs : id.size < 4611686018427387904) (hn : nameB id = true) (hx : hasB l id = false) (ht : timeE now t = 0) (hf : l.length < 4096) :
    Calls Try.prog 26 #[.pointer (some ⟨p, 0, none⟩), .string id, .int .i64 t] w fun e w' => e = .returned (.int .i64 0) ∧ After w O p now (putF (id, t) l) w' := by
  obtain ⟨⟨m, S, h1, h2, h3⟩, a1, a2, a3, a4, a5, a6⟩ := h
  obtain ⟨es, he, hp⟩ := h1.names
  have hxs : id ∉ es.map Prod.fst := fun q => by
    have := hasB_iff.2 ((ids_iff hp h3 id).1 q)
    rw [hx] at this
    cases this
  have hxl : id ∉ l.map Prod.fst := fun q => hxs ((ids_iff hp h3 id).2 q)
  have hlen : es.length = l.length := by
    have e1 := hp.length_eq
    have e2 := h3.length_eq
    simp at e1 e2
    omega
  have hl := lookO he hxs
  have hml := fun n => len_m (P := Try.prog) (w := w.drewN n) (he.move rfl) Try.underlying71 3
  have c0 := h1.head.c0
  have c456 := h1.head.map
  have HN := Aside0.mk hn
  have HT := Aside0.mk ht
  have HF := Aside0.mk (show l.length + 1 ≤ 4096 from hf)
  have hm456 : ∀ n : Nat, ((w.drewN n).alloc (.cells #[.string id, .int .i64 t, .int .i64 0, .pointer none, .pointer none] 79)).cell? ⟨p, 456, none⟩ = some (.map (some m)) := fun n => pw_cell_below (below_alloc (Below.refl (w.drewN n).heap.size (w.drewN n)) _) c456
  have hbt := build_T
  have hf' : decide ((4096 : Int) ≤ (es.length : Int)) = false := by simp; omega
  have HH := Aside0.mk (And.intro h1 (And.intro h2 (And.intro h3 (And.intro he (And.intro hp (And.intro hxs (And.intro hxl hlen)))))))
  clear hx hn ht hxs hxl hlen h1 h2 h3 hp hf
  go_enter Try.func26, Try.ntmps26
  go_wp2_with fail
  refine (isName_calls id _ hs).mono ?_
  rintro e w' ⟨rfl, n, rfl⟩
  rw [show decide (1 ≤ id.size ∧ id.size ≤ 64) = true from HN.out]
  go_wp2_with fail
  refine (ahead_calls (p := p) (now := now) t (w.drewN n) (show _ = _ from c0)).mono ?_
  rintro e w' ⟨rfl, n2, rfl⟩
  rw [HT.out]
  go_wp2_with (first | (at_mapUpdate; refine wpList_put_new _ rfl _ _ _ 71 rfl Try.underlying71 Try.underlying9 rfl (HH.out.2.2.2.1.move (show _ = _ from Below.heap_alloc w _ _ HH.out.2.2.2.1.lt)) id _ rfl rfl HH.out.2.2.2.2.2.1 ?_; intro w3 hm3 hg3 hz3) | fail)
  obtain ⟨h1, h2, h3, he, hp, hxs, hxl, hlen⟩ := HH.out
  have hmlt := he.lt
  have hrep : Rep w3 (fun b => O b ∨ b = w.heap.size) p m now S [⟨w.heap.size, id, t⟩] := by
    refine h1.add (t := ⟨w.heap.size, id, t⟩) (r := 0) (a := none) (b := none) hp ?_ (Nat.le_refl _) hm3 (fun b hb hbm => ?_)
    · refine (hg3.block _ (by simp) (fun e => absurd (Option.some.inj e) (show ¬ w.heap.size = m by omega))).trans (blk_new w _)
    · exact (hg3.block _ (by simp; omega) (fun e => hbm (by injection e))).trans (Below.heap_alloc w _ _ hb)
  have HT2 := HT.out
  unfold timeE at HT2
  have htt : 0 ≤ t ∧ t ≤ 1099511627776 ∧ now < t := by
    split at HT2
    · split at HT2
      · cases HT2
      · exact ⟨by omega, by omega, by omega⟩
    · cases HT2
  have hnl : (nodes S).length ≤ 4096 := by
    have := h3.length_eq
    simp at this
    omega
  refine (hang_calls hrep htt.1 htt.2.1 a1 a2 (by omega)).mono ?_
  rintro e w' ⟨rfl, hR, hO⟩
  have HR := Aside0.mk (And.intro hR hO)
  have HA := Aside0.mk (And.intro h1 (And.intro h2 (And.intro h3 (And.intro hg3 (And.intro hxl (And.intro hz3 (And.intro htt hmlt)))))))
  clear hR hO h1 h2 h3 he hp hxs hxl hlen hm3 hg3 hrep HH hml hl
  go_wp2_with fail
  go_ret
  obtain ⟨hR, hO⟩ := HR.out
  obtain ⟨h1, h2, h3, hg3, hxl, hz3, htt, hmlt⟩ := HA.out
  have hz3' : w3.heap.size = w.heap.size + 1 := by rw [hz3]; simp
  refine ⟨rfl, fun b => O b ∨ b = w.heap.size, ⟨⟨m, _, hR, good_in (t := ⟨w.heap.size, id, t⟩) h2 htt.2.2 htt.2.1, ?_⟩, a1, a2, putF_sorted a3 (fun f hf e => hxl (List.mem_map.2 ⟨f, hf, by rw [e]⟩)), fun e he => ?_, ?_, fun b hb => ?_⟩, fun b hb => ?_, ?_⟩
  · refine (putF_perm _ _).trans ?_
    refine List.Perm.trans ?_ ((nodes_in (ring_lt (by omega) (by omega)) (dig_lt _ _)).map ent).symm
    exact h3.cons _
  · rcases List.mem_cons.1 ((putF_perm _ _).mem_iff.1 he) with rfl | he
    · have := HN.out
      unfold nameB at this
      simpa using this
    · exact a4 e he
  · have e1 := (putF_perm (id, t) l).length_eq
    rw [List.length_cons] at e1
    rw [e1]
    exact HF.out
  · have := hO.size
    rcases hb with hb | rfl
    · have := a6 b hb
      omega
    · omega
  · rcases hb with hb | rfl
    · exact .inl hb
    · exact .inr (Nat.le_refl _)
  · have o1 : Only O w w3 := ⟨hg3.os, hg3.tape, hg3.output, by omega, fun k hk hn' => (hg3.block k (by simp; omega) (fun e => by injection e with e; exact hn' (e ▸ h1.own.2.1))).trans (Below.heap_alloc w _ _ hk)⟩
    exact o1.step hO (fun b hb hq => by
      rcases hq with hq | hq
      · exact hq
      · omega)

/-! ### Add that is refused -/
theorem add_name (h : Whl w O p now l) (id : ByteArray) (t : Int) (hs : id.size < 4611686018427387904) (hn : nameB id = false) :
    Calls Try.prog 26 #[.pointer (some ⟨p, 0, none⟩), .string id, .int .i64 t] w fun e w' => e = .returned (.int .i64 111) ∧ ∃ n, w' = w.drewN n := by
  have HN := Aside0.mk hn
  clear hn h
  go_enter Try.func26, Try.ntmps26
  go_wp2_with fail
  refine (isName_calls id _ hs).mono ?_
  rintro e w' ⟨rfl, n, rfl⟩
  rw [show decide (1 ≤ id.size ∧ id.size ≤ 64) = false from HN.out]
  go_wp2_with fail
  go_ret
  exact ⟨rfl, n, rfl⟩
theorem add_there (h : Whl w O p now l) (id : ByteArray) (t : Int) (hs : id.size < 4611686018427387904) (hn : nameB id = true) (hx : hasB l id = true) :
    Calls Try.prog 26 #[.pointer (some ⟨p, 0, none⟩), .string id, .int .i64 t] w fun e w' => e = .returned (.int .i64 8) ∧ ∃ n, w' = w.drewN n := by
  obtain ⟨⟨m, S, h1, h2, h3⟩, a1, a2, a3, a4, a5, a6⟩ := h
  obtain ⟨es, he, hp⟩ := h1.names
  obtain ⟨n, hn', hid⟩ : ∃ n ∈ nodes S, n.id = id := by
    have := (h3.map Prod.fst).mem_iff.1 (hasB_iff.1 hx)
    rw [List.map_map] at this
    obtain ⟨n, hn, e⟩ := List.mem_map.1 this
    exact ⟨n, hn, e⟩
  subst hid
  have hl := lookW he (ents_in hp hn')
  have c456 := h1.head.map
  have HN := Aside0.mk hn
  clear hn hx h1 h2 h3 hp hn'
  go_enter Try.func26, Try.ntmps26
  go_wp2_with fail
  refine (isName_calls n.id _ hs).mono ?_
  rintro e w' ⟨rfl, n1, rfl⟩
  rw [show decide (1 ≤ n.id.size ∧ n.id.size ≤ 64) = true from HN.out]
  go_wp2_with fail
  go_ret
  exact ⟨rfl, n1, rfl⟩
theorem add_late (h : Whl w O p now l) (id : ByteArray) (t : Int) (hs : id.size < 4611686018427387904) (hn : nameB id = true) (hx : hasB l id = false) (ht : timeE now t ≠ 0) :
    Calls Try.prog 26 #[.pointer (some ⟨p, 0, none⟩), .string id, .int .i64 t] w fun e w' => e = .returned (.int .i64 (timeE now t)) ∧ ∃ n, w' = w.drewN n := by
  obtain ⟨⟨m, S, h1, h2, h3⟩, a1, a2, a3, a4, a5, a6⟩ := h
  obtain ⟨es, he, hp⟩ := h1.names
  have hxs : id ∉ es.map Prod.fst := fun q => by
    have := hasB_iff.2 ((ids_iff hp h3 id).1 q)
    rw [hx] at this
    cases this
  have hl := lookO he hxs
  have c0 := h1.head.c0
  have c456 := h1.head.map
  have HN := Aside0.mk hn
  have hv : (timeE now t != 0) = true := by rw [bne_iff_ne]; exact ht
  have HA := Aside0.mk (fun n => ahead_calls (p := p) (now := now) t (w.drewN n) (show _ = _ from c0))
  generalize timeE now t = v at hv HA ⊢
  clear hn hx h1 h2 h3 hp hxs ht
  go_enter Try.func26, Try.ntmps26
  go_wp2_with fail
  refine (isName_calls id _ hs).mono ?_
  rintro e w' ⟨rfl, n, rfl⟩
  rw [show decide (1 ≤ id.size ∧ id.size ≤ 64) = true from HN.out]
  go_wp2_with fail
  refine (HA.out n).mono ?_
  rintro e w' ⟨rfl, n2, rfl⟩
  go_wp2_with fail
  go_ret
  exact ⟨rfl, n + n2, rfl⟩
theorem add_full (h : Whl w O p now l) (id : ByteArray) (t : Int) (hs : id.size < 4611686018427387904) (hn : nameB id = true) (hx : hasB l id = false) (ht : timeE now t = 0) (hf : 4096 ≤ l.length) :
    Calls Try.prog 26 #[.pointer (some ⟨p, 0, none⟩), .string id, .int .i64 t] w fun e w' => e = .returned (.int .i64 5) ∧ ∃ n, w' = w.drewN n := by
  obtain ⟨⟨m, S, h1, h2, h3⟩, a1, a2, a3, a4, a5, a6⟩ := h
  obtain ⟨es, he, hp⟩ := h1.names
  have hxs : id ∉ es.map Prod.fst := fun q => by
    have := hasB_iff.2 ((ids_iff hp h3 id).1 q)
    rw [hx] at this
    cases this
  have hlen : es.length = l.length := by
    have e1 := hp.length_eq
    have e2 := h3.length_eq
    simp at e1 e2
    omega
  have hl := lookO he hxs
  have hml := fun n => len_m (P := Try.prog) (w := w.drewN n) (he.move rfl) Try.underlying71 3
  have hf' : decide ((4096 : Int) ≤ (es.length : Int)) = true := by simp; omega
  have c0 := h1.head.c0
  have c456 := h1.head.map
  have HN := Aside0.mk hn
  have HT := Aside0.mk ht
  clear hn hx h1 h2 h3 hp hxs ht hlen hf
  go_enter Try.func26, Try.ntmps26
  go_wp2_with fail
  refine (isName_calls id _ hs).mono ?_
  rintro e w' ⟨rfl, n, rfl⟩
  rw [show decide (1 ≤ id.size ∧ id.size ≤ 64) = true from HN.out]
  go_wp2_with fail
  refine (ahead_calls (p := p) (now := now) t (w.drewN n) (show _ = _ from c0)).mono ?_
  rintro e w' ⟨rfl, n2, rfl⟩
  rw [HT.out]
  go_wp2_with fail
  go_ret
  exact ⟨rfl, n + n2, rfl⟩

def addL (now : Int) (l : List E) (id : ByteArray) (t : Int) : List E := if addE now l id t = 0 then putF (id, t) l else l
theorem add_calls (h : Whl w O p now l) (id : ByteArray) (t : Int) (hs : id.size < 4611686018427387904) :
    Calls Try.prog 26 #[.pointer (some ⟨p, 0, none⟩), .string id, .int .i64 t] w fun e w' => e = .returned (.int .i64 (addE now l id t)) ∧ After w O p now (addL now l id t) w' := by
  have same : ∀ (v : Int), v ≠ 0 → addE now l id t = v → Calls Try.prog 26 #[.pointer (some ⟨p, 0, none⟩), .string id, .int .i64 t] w (fun e w' => e = .returned (.int .i64 v) ∧ ∃ n, w' = w.drewN n) →
      Calls Try.prog 26 #[.pointer (some ⟨p, 0, none⟩), .string id, .int .i64 t] w fun e w' => e = .returned (.int .i64 (addE now l id t)) ∧ After w O p now (addL now l id t) w' := fun v hv e hc => by
    refine hc.mono ?_
    rintro e' w' ⟨rfl, n, rfl⟩
    unfold addL
    rw [e, if_neg hv]
    exact ⟨rfl, h.same n⟩
  by_cases hn : nameB id = true
  · by_cases hx : hasB l id = true
    · exact same 8 (by decide) (by unfold addE; rw [if_pos hn, if_pos hx]) (add_there h id t hs hn hx)
    · by_cases ht : timeE now t = 0
      · by_cases hf : 4096 ≤ l.length
        · exact same 5 (by decide) (by unfold addE; rw [if_pos hn, if_neg hx, if_pos ht, if_pos hf]) (add_full h id t hs hn (by simpa using hx) ht hf)
        · have e : addE now l id t = 0 := by unfold addE; rw [if_pos hn, if_neg hx, if_pos ht, if_neg hf]
          unfold addL
          rw [e, if_pos rfl]
          exact add_ok h id t hs hn (by simpa using hx) ht (by omega)
      · exact same _ ht (by unfold addE; rw [if_pos hn, if_neg hx, if_neg ht]) (add_late h id t hs hn (by simpa using hx) ht)
  · exact same 111 (by decide) (by unfold addE; rw [if_neg hn]) (add_name h id t hs (by simpa using hn))
end
end Go.Proofs.Ytaefbibkkkglnaa.Wh
