/- A history in memory of its own with marks: twin. No condition. -/
import Derived.Test.YtkjbbihnhbaipaaMarked
import Derived.Test.YtkjbbihnhbaipaaPLinUntilsx0
import Derived.Deep.DeepCutAuto
namespace Go.Proofs.Ytkjbbihnhbaipaa.Lu
open Go.RowKit Go.Proofs.YtkjbbihnhbaipaaW.PrintWords Go.Proofs.YtkjbbihnhbaipaaW.PrintMore Go.Proofs.Ytkjbbihnhbaipaa.Mk Go.Proofs.Ytkjbbihnhbaipaa.PLinUntils
set_option linter.unusedVariables false
set_option linter.unusedSimpArgs false

def markS : ByteArray := ⟨#[109, 97, 114, 107]⟩
def mkL (z : S40) : Prop := z.f0 = markS
def mkV (z : S42) : Prop := z.f0 = markS
def kReqM : Kd S30 := Kd.iso (Kd.pair Kd.string (Kd.pair (Kd.int .i64) (Kd.pair (marked k40 40 mkL) (Kd.pair Kd.string (Kd.pair (Kd.int .i64) (Kd.int .i64)))))) (fun x => (x.f0, x.f1, x.f2, x.f3, x.f4, x.f5))
def kRepM : Kd S33 := Kd.iso (Kd.pair Kd.string (Kd.pair (Kd.int .i64) (Kd.pair (Kd.int .i64) (Kd.pair (marked k42 42 mkV) (Kd.int .i64))))) (fun x => (x.f0, x.f1, x.f2, x.f3, x.f4))
def kOpM : Kd S35 := Kd.iso (Kd.pair kReqM (Kd.pair kRepM (Kd.pair (Kd.int .i64) (Kd.pair (Kd.int .i64) Kd.bool)))) (fun x => (x.f0, x.f1, x.f2, x.f3, x.f4))

theorem kOpM_mkM (w : World) (base : Nat) (ok : Nat → Prop) (x : S35) {A2 : Option Addr} {c2 : Nat} {z2 : S40} {A9 : Option Addr} {c9 : Nat} {z9 : S42} (h2 : x.f0.f2.length + 1 ≤ c2) (m2 : mkL z2) (g2 : k40.R 40 w base ok (.slice A2 (x.f0.f2 ++ [z2]).length c2) (x.f0.f2 ++ [z2]))
    (h9 : x.f1.f3.length + 1 ≤ c9) (m9 : mkV z9) (g9 : k42.R 42 w base ok (.slice A9 (x.f1.f3 ++ [z9]).length c9) (x.f1.f3 ++ [z9])) :
    kOpM.M w base ok x [.string x.f0.f0, .int .i64 x.f0.f1, .slice A2 x.f0.f2.length c2, .string x.f0.f3, .int .i64 x.f0.f4, .int .i64 x.f0.f5, .string x.f1.f0, .int .i64 x.f1.f1, .int .i64 x.f1.f2, .slice A9 x.f1.f3.length c9, .int .i64 x.f1.f4, .int .i64 x.f2, .int .i64 x.f3, .bool x.f4] :=
  ⟨[.string x.f0.f0, .int .i64 x.f0.f1, .slice A2 x.f0.f2.length c2, .string x.f0.f3, .int .i64 x.f0.f4, .int .i64 x.f0.f5], [.string x.f1.f0, .int .i64 x.f1.f1, .int .i64 x.f1.f2, .slice A9 x.f1.f3.length c9, .int .i64 x.f1.f4, .int .i64 x.f2, .int .i64 x.f3, .bool x.f4], rfl,
    ⟨[.string x.f0.f0], _, rfl, rfl, ⟨[.int .i64 x.f0.f1], _, rfl, rfl, ⟨[.slice A2 x.f0.f2.length c2], _, rfl, ⟨A2, c2, z2, rfl, h2, m2, g2⟩, ⟨[.string x.f0.f3], _, rfl, rfl, ⟨[.int .i64 x.f0.f4], _, rfl, rfl, rfl⟩⟩⟩⟩⟩,
    ⟨[.string x.f1.f0, .int .i64 x.f1.f1, .int .i64 x.f1.f2, .slice A9 x.f1.f3.length c9, .int .i64 x.f1.f4], _, rfl, ⟨[.string x.f1.f0], _, rfl, rfl, ⟨[.int .i64 x.f1.f1], _, rfl, rfl, ⟨[.int .i64 x.f1.f2], _, rfl, rfl, ⟨[.slice A9 x.f1.f3.length c9], _, rfl, ⟨A9, c9, z9, rfl, h9, m9, g9⟩, rfl⟩⟩⟩⟩,
      ⟨[.int .i64 x.f2], _, rfl, rfl, ⟨[.int .i64 x.f3], _, rfl, rfl, rfl⟩⟩⟩⟩
theorem line_M {w w1 : World} {base : Nat} {ok : Nat → Prop} (x : S40) (cs : List Value) (h : k40.K w x cs) : k40.M w1 base ok x cs := by
  obtain rfl := k40_open h
  exact k40_mkM _ _ _ _
theorem level_M {w w1 : World} {base : Nat} {ok : Nat → Prop} (x : S42) (cs : List Value) (h : k42.K w x cs) : k42.M w1 base ok x cs := by
  obtain rfl := k42_open h
  exact k42_mkM _ _ _ _
theorem infoLine : (Try.prog.info? 40).map (fun i => (i.zero, i.size, i.bytes)) = some (some (.agg #[.string ⟨#[]⟩, .int .i64 0]), 2, 24) := by kernel_rfl
theorem infoLevel : (Try.prog.info? 42).map (fun i => (i.zero, i.size, i.bytes)) = some (some (.agg #[.string ⟨#[]⟩, .int .i64 0, .int .i64 0]), 3, 32) := by kernel_rfl
theorem infoOp : (Try.prog.info? 35).map (fun i => (i.size, i.bytes)) = some (14, 168) := by kernel_rfl

end Go.Proofs.Ytkjbbihnhbaipaa.Lu
