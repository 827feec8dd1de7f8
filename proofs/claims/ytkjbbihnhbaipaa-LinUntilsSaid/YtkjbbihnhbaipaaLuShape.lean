/- Fresh rows in which numbers may be written. No condition. -/
import Derived.Test.YtkjbbihnhbaipaaLuTwin
namespace Go.Proofs.Ytkjbbihnhbaipaa.Lu
open Go.RowKit Go.Proofs.YtkjbbihnhbaipaaW.PrintWords Go.Proofs.YtkjbbihnhbaipaaW.PrintLast Go.Proofs.YtkjbbihnhbaipaaW.PrintMore Go.Proofs.Ytkjbbihnhbaipaa.Mk Go.Proofs.Ytkjbbihnhbaipaa.PLinUntils
set_option linter.unusedVariables false
set_option linter.unusedSimpArgs false

def fld (ad : Addr) (k j : Nat) : Addr := ⟨(ad.add k).block, (ad.add k).off + j, none⟩
def IntAt (w : World) (p : Addr) : Prop := (∃ z, w.cell? p = some (.int .i64 z)) ∧ w.frozen? p = false
def RowInts (B : Nat) (w : World) (A : Option Addr) (n sz off : Nat) : Prop := n < 4611686018427387904 ∧ ∀ j, j < n → ∃ ad, A = some ad ∧ B ≤ ad.block ∧ IntAt w (fld ad (j * sz) off)
def Sh (B : Nat) (w : World) (A : Option Addr) (n : Nat) : Prop := ∀ i, i < n → ∃ ad A2 n2 c2 A9 n9 c9, A = some ad ∧ B ≤ ad.block ∧ IntAt w (fld ad (i * 14) 11) ∧ w.cell? (fld ad (i * 14) 2) = some (.slice A2 n2 c2) ∧ RowInts B w A2 n2 2 1 ∧ w.cell? (fld ad (i * 14) 9) = some (.slice A9 n9 c9) ∧ RowInts B w A9 n9 3 2

theorem IntAt.set {w : World} {p q : Addr} (hp : IntAt w p) (hq : IntAt w q) (z : Int) : IntAt (w.setCell p (.int .i64 z)) q := by
  refine ⟨?_, by rw [World.frozen?_setCell]; exact hq.2⟩
  by_cases e : p = q
  · subst e
    obtain ⟨z0, h0⟩ := hp.1
    exact ⟨z, World.cell?_setCell_same' _ _ _ (by rw [h0]; rfl)⟩
  · rw [World.cell?_setCell_other _ _ _ _ e]
    exact hq.1
theorem IntAt.slice {w : World} {p q : Addr} (hp : IntAt w p) {A : Option Addr} {n c : Nat} (hq : w.cell? q = some (.slice A n c)) (z : Int) : (w.setCell p (.int .i64 z)).cell? q = some (.slice A n c) := by
  by_cases e : p = q
  · subst e
    obtain ⟨z0, h0⟩ := hp.1
    rw [h0] at hq
    cases hq
  · rw [World.cell?_setCell_other _ _ _ _ e]
    exact hq
theorem RowInts.set {B : Nat} {w : World} {A : Option Addr} {n sz off : Nat} (h : RowInts B w A n sz off) {p : Addr} (hp : IntAt w p) (z : Int) : RowInts B (w.setCell p (.int .i64 z)) A n sz off :=
  ⟨h.1, fun j hj => by obtain ⟨ad, e, hb, hi⟩ := h.2 j hj; exact ⟨ad, e, hb, hp.set hi z⟩⟩
theorem Sh.set {B : Nat} {w : World} {A : Option Addr} {n : Nat} (h : Sh B w A n) {p : Addr} (hp : IntAt w p) (z : Int) : Sh B (w.setCell p (.int .i64 z)) A n := by
  intro i hi
  obtain ⟨ad, A2, n2, c2, A9, n9, c9, e, hb, h11, h2, r2, h9, r9⟩ := h i hi
  exact ⟨ad, A2, n2, c2, A9, n9, c9, e, hb, hp.set h11 z, hp.slice h2 z, r2.set hp z, hp.slice h9 z, r9.set hp z⟩

theorem R_at {α : Type} {d : Kd α} {e : Nat} {w : World} {base : Nat} {ok : Nat → Prop} {v : Value} {xs : List α} (h : d.R e w base ok v xs) (i : Nat) (x : α) (hx : xs[i]? = some x) :
    ∃ ad cap c, v = .slice (some ad) xs.length cap ∧ base ≤ ad.block ∧ (∀ j, w.frozen? (fld ad (i * d.sz) j) = false) ∧ d.M w base (fun k => ok k ∧ some k ≠ v.ownBlock) x c ∧ ∀ j u, c[j]? = some u → w.cell? (fld ad (i * d.sz) j) = some u := by
  obtain ⟨_, inner, ho, hr⟩ := h
  have hi := (List.getElem?_eq_some_iff.1 hx).1
  obtain ⟨g, cap, e1, hb, hlt⟩ := ho.form (by omega)
  subst e1
  refine ⟨⟨g, 0, none⟩, cap, _, rfl, hb, fun j => ?_, hr.2 i x hx, fun j u hu => ?_⟩
  · have := ho.frozenAt (i * d.sz + j)
    unfold fld
    rw [add_plain]
    simpa using this
  · have hlen : inner.length = xs.length * d.sz := hr.1
    rw [List.getElem?_take] at hu
    split at hu
    case isFalse => cases hu
    rw [List.getElem?_drop] at hu
    have := ho.cells (g := g) rfl (i * d.sz + j) u hu
    unfold fld
    rw [add_plain] at this ⊢
    simpa using this

theorem Sh_of_R {w : World} {B : Nat} {ok : Nat → Prop} {v : Value} {la : List S35} (h : k35.R 35 w B ok v la) (hg : ∀ y ∈ la, y.f0.f2.length < 4611686018427387904 ∧ y.f1.f3.length < 4611686018427387904) :
    ∃ A c, v = .slice A la.length c ∧ Sh B w A la.length := by
  obtain ⟨A, c, rfl, hc, hC⟩ := Kd.R_reads h
  refine ⟨A, c, rfl, fun i hi => ?_⟩
  obtain ⟨ad, cap, cs, e, hb, hf, hM, hcell⟩ := R_at h i la[i] (List.getElem?_eq_getElem hi)
  cases e
  obtain ⟨h2g, h9g⟩ := hg la[i] (List.getElem_mem hi)
  generalize la[i] = y at *
  obtain ⟨v2, v9, rfl, g2, g9⟩ := k35_openM hM
  obtain ⟨A2, c2, rfl, _, _⟩ := Kd.R_reads g2
  obtain ⟨A9, c9, rfl, _, _⟩ := Kd.R_reads g9
  refine ⟨ad, A2, _, c2, A9, _, c9, rfl, hb, ⟨⟨_, hcell 11 _ rfl⟩, hf 11⟩, hcell 2 _ rfl, ⟨h2g, fun j hj => ?_⟩, hcell 9 _ rfl, ⟨h9g, fun j hj => ?_⟩⟩
  · obtain ⟨a2, cap2, q2, e2, hb2, hf2, hM2, hcell2⟩ := R_at g2 j y.f0.f2[j] (List.getElem?_eq_getElem hj)
    cases e2
    obtain rfl := k40_openM hM2
    exact ⟨a2, rfl, hb2, ⟨_, hcell2 1 _ rfl⟩, hf2 1⟩
  · obtain ⟨a9, cap9, q9, e9, hb9, hf9, hM9, hcell9⟩ := R_at g9 j y.f1.f3[j] (List.getElem?_eq_getElem hj)
    cases e9
    obtain rfl := k42_openM hM9
    exact ⟨a9, rfl, hb9, ⟨_, hcell9 2 _ rfl⟩, hf9 2⟩
end Go.Proofs.Ytkjbbihnhbaipaa.Lu
