/- Wheel: Each. No condition. -/
import Derived.Test.YtaefbibkkkglnaaWhSe
import Derived.Test.YtaefbibkkkglnaaWhD
import Derived.Deep.DeepMust
import Derived.Deep.RegionLaw
import Derived.Deep.RegionHeld3
namespace Go.Proofs.Ytaefbibkkkglnaa.Wh
open Go Go.RowKit Go.Proofs.YtaefbibkkkglnaaW.PrintWords Go.Proofs.Ytaefbibkkkglnaa.Mp Go.Proofs.Ytaefbibkkkglnaa.Fr
set_option linter.unusedVariables false
set_option linter.unusedSimpArgs false
theorem infoE : (Try.prog.info? 84).map (fun i => (i.zero, i.size, i.bytes)) = some (some (.agg #[.string ⟨#[]⟩, .int .i64 0]), 2, 24) := by kernel_rfl
theorem build_E (id : ByteArray) (t : Int) (w : World) : (Instr.build 84 #[(0, .string id), (1, .int .i64 t)]).run Try.prog w = .ok (.agg #[.string id, .int .i64 t]) w := by kernel_rfl
theorem pair_append {ops : Array Oper} {Q : Exit → Act → World → Prop} {Kc : Act → World → Prop} {o : Oper} {a : Act} {w0 W : World} (base : Nat) (s x : Nat) (T e : Nat) (hw : Region.wanted o (yielded ops a.tmps) = true)
    (ho : o.op = .call { callee := .builtin .append, args := #[.tmp s, .tmp x], argTypes := #[T, T] }) (ht : Try.prog.underlying T = some (.slice e)) (hinfo : (Try.prog.info? e).map (fun i => (i.zero, i.size, i.bytes)) = some (some (.agg #[.string ⟨#[]⟩, .int .i64 0]), 2, 24)) (v : Value) (xs : List E) (z : E) (hs : a.eval (.tmp s) = v) (hx : a.eval (.tmp x) = .slice (some ⟨W.heap.size, 0, none⟩) 1 1)
    (HO : kE.R e W base (fun _ => True) v xs) (HB : Below base w0 W) (hbase : base ≤ W.heap.size) (hl : (xs.length + 1) * 24 ≤ 140737488355328)
    (h : ∀ v1 w1, kE.R e w1 base (fun _ => True) v1 (xs ++ [z]) → Below base w0 w1 → W.grownBy w1 v.ownBlock → Kc (a.put o.dst v1) w1) :
    if Region.wanted o (yielded ops a.tmps) = true then Oper.wp Try.prog o a (W.alloc (.cells #[.string z.1, .int .i64 z.2] e)) Kc Q else Kc (a.put o.dst undef) (W.alloc (.cells #[.string z.1, .int .i64 z.2] e)) :=
  Kd.R_append_step kE (w0 := w0) (W := W) base hw (.tmp s) (.tmp x) T e (.agg #[.string ⟨#[]⟩, .int .i64 0]) 24 ho ht hinfo rfl (by decide) (by decide) v xs z (encE z) (fun _ => True) (fun _ => False) hs hx
    kE_M (fun _ h => h.elim) (fun _ _ => trivial) HO HB hbase hl (fun v1 w1 h1 h2 h3 _ => h v1 w1 h1 h2 h3)
def gE (l : List E) (q : Ent) : E := (q.1, timeOf l q.1)
section
variable {w w' : World} {O : Nat → Prop} {p : Nat} {now : Int} {l : List E}
/-- The names' map as Each reads it. -/
theorem each_facts (h : Whl w O p now l) : ∃ m es, w.cell? ⟨p, 456, none⟩ = some (.map (some m)) ∧ IsM w m es ∧ (es.map (gE l)).Perm l ∧ (∀ q ∈ es, ∃ b, q.2 = .pointer (some ⟨b, 0, none⟩) ∧ b < w.heap.size ∧ w.cell? ⟨b, 1, none⟩ = some (.int .i64 (timeOf l q.1))) ∧ m < w.heap.size ∧ es.length ≤ 4096 := by
  have hnd := h.nodup
  obtain ⟨⟨m, S, h1, h2, h3⟩, a1, a2, a3, a4, a5, a6⟩ := h
  obtain ⟨es, he, hp⟩ := h1.names
  have hT : ∀ n ∈ nodes S, timeOf l n.id = n.tm := fun n hn => timeOf_eq (e := ent n) hnd (h3.mem_iff.2 (List.mem_map.2 ⟨n, hn, rfl⟩))
  have hlen : es.length = l.length := by
    have e1 := hp.length_eq
    have e2 := h3.length_eq
    simp at e1 e2
    omega
  refine ⟨m, es, h1.head.map, he, ?_, fun q hq => ?_, a6 _ h1.own.2.1, by omega⟩
  · refine (hp.map _).trans ?_
    refine List.Perm.trans ?_ h3.symm
    rw [List.map_map, List.nil_append]
    refine List.Perm.of_eq (List.map_congr_left fun n hn => ?_)
    show (n.id, timeOf l n.id) = ent n
    rw [hT n hn]
    rfl
  · obtain ⟨n, hn, rfl⟩ := List.mem_map.1 (hp.mem_iff.1 hq)
    rw [List.nil_append] at hn
    obtain ⟨r0, b0, b1, hc⟩ := h1.tm (n := n) (by simpa using hn)
    refine ⟨n.b, rfl, a6 _ (h1.own.2.2 n (by simpa using hn)), ?_⟩
    show w.cell? _ = some (.int .i64 (timeOf l n.id))
    rw [hT n hn]
    exact hc.c.2.1
set_option maxRecDepth 100000 in
set_option maxHeartbeats 2000000 in
theorem each_calls (h : Whl w O p now l) : Calls Try.prog 19 #[.pointer (some ⟨p, 0, none⟩)] w fun e w' =>
    ∃ A c, e = .returned (.func (.func 39) #[] #[.pointer (some ⟨w.heap.size, 0, none⟩)]) ∧ w'.cell? ⟨w.heap.size, 0, none⟩ = some (.slice A l.length c) ∧ w.heap.size < w'.heap.size ∧ kE.C w' A l.length l ∧ Below w.heap.size w w' := by
  obtain ⟨m, es, cm, hM, hperm, hq, hml, hel⟩ := each_facts h
  have HS := Aside0.mk h.sorted
  have HND := Aside0.mk h.nodup
  have HP := Aside0.mk hperm
  have HQ := Aside0.mk hq
  have HM := Aside0.mk (show IsM (w.alloc (.cells #[.slice none 0 0] 82 (0, 0))) m es from hM.move (Below.heap_alloc w _ m hml))
  have cm2 : (w.alloc (.cells #[.slice none 0 0] 82 (0, 0))).cell? ⟨p, 456, none⟩ = some (.map (some m)) := pw_cell_below (below_alloc (Below.refl _ w) _) cm
  have HML := Aside0.mk hml
  clear h hperm hq hM hml
  go_enter Try.func19, Try.ntmps19
  go_wp2_with (first | (at_range; refine wpList_range _ rfl _ _ rfl Try.underlying71 rfl HM.out ?_; intro w3 hr3 hg3 hz3) | fail)
  rw [World.size_alloc] at hr3 hz3
  have hz3' : w3.heap.size = w.heap.size + 2 := hz3
  have HB3 := Aside0.mk (show Below (w.heap.size + 1) (w.alloc (.cells #[.slice none 0 0] 82 (0, 0))) w3 from ⟨hg3.os, hg3.tape, hg3.output, hg3.size, fun k hk => hg3.block k (by rw [World.size_alloc]; omega) (fun e => by cases e)⟩)
  have HB3w := Aside0.mk (show Below w.heap.size w w3 from (below_alloc (Below.refl _ w) _).trans (HB3.out.mono (by omega)))
  have hbox : w3.cell? ⟨w.heap.size, 0, none⟩ = some (.slice none 0 0) := ((HB3.out).cell (p := ⟨w.heap.size, 0, none⟩) (by show w.heap.size < w.heap.size + 1; omega)).trans (blk_cell (heap_alloc_new w _) 0)
  have hfz : w3.frozen? ⟨w.heap.size, 0, none⟩ = false := by
    have e : w3.heap[w.heap.size]? = _ := (HB3.out.block w.heap.size (by omega)).trans (heap_alloc_new w _)
    exact blk_frozen e 0
  have HR3 := Aside0.mk hr3
  clear hr3 hg3 hz3 HM cm cm2
  simp only [Act.put, List.setIfInBounds_toArray, List.set_cons_succ, List.set_cons_zero, World.size_alloc]
  go_loopg [4, 5] es.length (fun g v4 v5 wx => ∃ (dn lf : List Ent) (v : Value), g = lf.length ∧ Aside0 ((dn ++ lf).Perm es) ∧ wx.cell? ⟨w.heap.size, 0, none⟩ = some v ∧ wx.frozen? ⟨w.heap.size, 0, none⟩ = false ∧ Aside0 (Rng wx m (w.heap.size + 1) es lf) ∧ Aside0 (kE.R 84 wx w3.heap.size (fun _ => True) v (dn.map (gE l))) ∧ Aside0 (Below w.heap.size w wx) ∧ Aside0 (w3.heap.size ≤ wx.heap.size))
  case atStart => exact ⟨[], es, _, rfl, ⟨List.Perm.refl _⟩, hbox, hfz, HR3, ⟨Kd.R_nil _ _ _ _ _⟩, HB3w, ⟨Nat.le_refl _⟩⟩
  case round =>
    clear hbox hfz HR3
    obtain ⟨dn, lf, v, rfl, HPM, hbox, hfz, HR, HRR, HBX, HSZ⟩ := hrel
    rcases HR.out.next (P := Try.prog) 0 with ⟨h0, hrun⟩ | ⟨q, left', w5, hp, hrun, hrg, hgr, hsz, hen⟩
    · subst h0
      rw [List.append_nil] at HPM
      have hdl : dn.length ≤ 4096 := by rw [HPM.out.length_eq]; exact hel
      have hpl : (dn.map (gE l)).Perm l := (HPM.out.map _).trans HP.out
      have HSC := Aside0.mk (sortE_calls HRR.out (by rw [List.length_map]; omega) HSZ.out (by
        have h1 := (hpl.map Prod.fst).nodup_iff.2 HND.out
        exact (List.pairwise_map.1 h1).imp (fun h e => h (by rw [e]))))
      have hse : sortE (dn.map (gE l)) = l := sorted_ext (sortE_sorted (by
        have h1 := (hpl.map Prod.fst).nodup_iff.2 HND.out
        exact (List.pairwise_map.1 h1).imp (fun h e => h (by rw [e])))) HS.out ((sortE_perm _).trans hpl)
      rw [hse] at HSC
      clear hpl hse
      go_wp2_with fail
      refine (HSC.out).mono ?_
      rintro e w7 ⟨rfl, ⟨A, c, rfl, hC⟩, hB7⟩
      have HC7 := Aside0.mk (And.intro hC hB7)
      have hbox7 : w7.cell? ⟨w.heap.size, 0, none⟩ = some (.slice A l.length c) := (hB7.cell (p := ⟨w.heap.size, 0, none⟩) (by show w.heap.size < w3.heap.size; omega)).trans hbox
      have HBOX := Aside0.mk hbox7
      clear hC hB7 hbox7
      go_wp2_with fail
      go_ret
      refine ⟨A, c, rfl, HBOX.out, ?_, HC7.out.1, HBX.out.trans (HC7.out.2.mono (by omega))⟩
      have := HC7.out.2.size
      have := HSZ.out
      omega
    · have hmem : q ∈ es := HPM.out.mem_iff.1 (List.mem_append_right _ (hp.mem_iff.1 List.mem_cons_self))
      obtain ⟨b, hqb, hbl, hbt⟩ := HQ.out q hmem
      have hB5 : Below (w.heap.size + 1) wr w5 := ⟨hgr.os, hgr.tape, hgr.output, hgr.size, fun k hk => hgr.block k (by have := HSZ.out; omega) (fun e => by injection e with e; omega)⟩
      have c1 : w5.cell? ⟨b, 1, none⟩ = some (.int .i64 (timeOf l q.1)) := pw_cell_below (HBX.out.trans (hB5.mono (by omega))) hbt
      have hbox5 : w5.cell? ⟨w.heap.size, 0, none⟩ = some v := (hB5.cell (p := ⟨w.heap.size, 0, none⟩) (by show w.heap.size < w.heap.size + 1; omega)).trans hbox
      have hfz5 : w5.frozen? ⟨w.heap.size, 0, none⟩ = false := by unfold World.frozen? at hfz ⊢; rw [hB5.block w.heap.size (by omega)]; exact hfz
      have hR5 : kE.R 84 w5 w3.heap.size (fun _ => True) v (dn.map (gE l)) := Kd.R_mono (Kd.R_step (ok := fun k => True ∧ w3.heap.size ≤ k) (Kd.R_mono (Kd.R_bound HRR.out) (fun k hk => ⟨hk.1, hk.2.1⟩)) (fun k ho hl => hgr.block k hl (fun e => by injection e with e; omega))) (fun _ ho => ho.1)
      obtain ⟨sq, vq⟩ := q
      simp only at hqb
      subst hqb
      have hlen : ((dn.map (gE l)).length + 1) * 24 ≤ 140737488355328 := by
        have h1 := HPM.out.length_eq
        have h2 := hp.length_eq
        simp at h1 h2 ⊢
        omega
      have HR5 := Aside0.mk hR5
      have HL5 := Aside0.mk hlen
      have HB5 := Aside0.mk hB5
      have HE5 := Aside0.mk (And.intro hp (And.intro hrg (And.intro hgr hsz)))
      simp only at c1 hrun hen
      generalize htm : timeOf l sq = tm at c1
      have HTM := Aside0.mk htm
      have hbe := build_E sq tm
      have hbox6 : (w5.alloc (.cells #[.string sq, .int .i64 tm] 84 (0, 0))).cell? ⟨w.heap.size, 0, none⟩ = some v := (World.cell?_alloc_lt _ _ _ (by show w.heap.size < w5.heap.size; have := HB5.out.size; have := HSZ.out; omega)).trans hbox5
      clear hR5 hlen hB5 hp hrg hgr hsz hmem hbt htm hbox hfz
      go_wp2_with fail
      go_region_law (refine pair_append (w0 := w5.drew) (W := w5.drew) w3.heap.size 18 25 82 84 rfl rfl Try.underlying82 infoE v (dn.map (gE l)) (sq, tm) (by rfl) (by rfl) (Kd.R_drew HR5.out) (Below.refl _ _) (Nat.le_trans HSZ.out HB5.out.size) HL5.out ?_; intro v1 w6 hR6 hB6 hg6; obtain ⟨A1, k1, rfl⟩ := Kd.R_slice hR6; have x1 : w6.cell? ⟨w.heap.size, 0, none⟩ = some v := (hB6.cell (p := ⟨w.heap.size, 0, none⟩) (by show w.heap.size < w3.heap.size; omega)).trans hbox5; have x2 : w6.frozen? ⟨w.heap.size, 0, none⟩ = false := (by unfold World.frozen? at hfz5 ⊢; rw [hB6.block w.heap.size (by omega)]; exact hfz5); have H6 := Aside0.mk (And.intro hR6 (And.intro hB6 hg6)); clear hR6 hB6 hg6)
      all_goals
        go_wp2_with fail
        go_roundg left'.length
        case measure =>
          have h1 := HE5.out.1.length_eq
          simp at h1
          omega
        case rel =>
          obtain ⟨hp, hrg, hgr, hsz⟩ := HE5.out
          obtain ⟨hR6, hB6, hg6⟩ := H6.out
          have hml := HML.out
          refine ⟨dn ++ [(sq, .pointer (some ⟨b, 0, none⟩))], left', _, rfl, ⟨?_⟩, World.cell?_setCell_same' _ _ _ (by rw [x1]; rfl), by rw [World.frozen?_setCell]; exact x2, ⟨?_⟩, ⟨?_⟩, ⟨?_⟩, ⟨?_⟩⟩
          · rw [List.append_assoc, List.singleton_append]
            exact (hp.append_left dn).trans HPM.out
          · refine hrg.move ?_ ?_
            · rw [Below.heap_setCell _ _ _ _ (by show m ≠ w.heap.size; omega)]
              exact hB6.block m (by omega)
            · rw [Below.heap_setCell _ _ _ _ (by show w.heap.size + 1 ≠ w.heap.size; omega)]
              exact hB6.block (w.heap.size + 1) (by omega)
          · have e : gE l (sq, .pointer (some ⟨b, 0, none⟩)) = (sq, tm) := by
              unfold gE
              rw [HTM.out]
            rw [List.map_append, List.map_cons, List.map_nil, e]
            have e2 : (dn.map (gE l) ++ [(sq, tm)]).length = dn.length + 1 := by simp
            rw [e2] at hR6
            exact Kd.R_mono (Kd.R_step (ok := fun k => True ∧ w3.heap.size ≤ k) (Kd.R_mono (Kd.R_bound hR6) (fun k hk => ⟨hk.1, hk.2.1⟩)) (fun k ho hl => Below.heap_setCell _ _ _ _ (by show k ≠ w.heap.size; omega))) (fun _ ho => ho.1)
          · refine ((HBX.out.trans (HB5.out.mono (by omega))).trans (show Below w.heap.size w5 w6 from (below_drew (Below.refl _ w5)).trans (hB6.mono (show w.heap.size ≤ w3.heap.size by omega)))).trans ?_
            exact (Below.refl _ _).setCell (p := ⟨w.heap.size, 0, none⟩) (Nat.le_refl _) _
          · rw [World.size_setCell]
            exact Nat.le_trans HSZ.out (Nat.le_trans HB5.out.size hB6.size)
end
end Go.Proofs.Ytaefbibkkkglnaa.Wh
