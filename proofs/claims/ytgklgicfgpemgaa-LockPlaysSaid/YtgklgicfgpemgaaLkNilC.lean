/- Stripes: the functions of both tables at a table that there isn't. No condition. -/
import Derived.Test.YtgklgicfgpemgaaLkRef
namespace Go.Proofs.Ytgklgicfgpemgaa.Lk
open Go.RowKit Go.Proofs.YtgklgicfgpemgaaW.PrintWords
set_option linter.unusedVariables false
set_option linter.unusedSimpArgs false

theorem rnhas (s : Int) (w : World) :
    Calls Try.prog 38 #[.pointer none, .int .i64 s] w fun e w' => e = .returned (.bool false) ∧ w = w' := by
  go_enter Try.func38, Try.ntmps38
  go_wp2
  go_ret
  exact ⟨rfl, rfl⟩

set_option maxHeartbeats 1000000 in
theorem nticket (s : Int) (w : World) :
    Calls Try.prog 11 #[.pointer none, .int .i64 s] w fun e w' => e = .returned (.tuple #[.int .i64 0, .int .i64 0]) ∧ ∃ n, w' = w.drewN n := by
  go_enter Try.func11, Try.ntmps11
  go_wp2
  (try (go_quiet (fail)))
  (try go_wp2)
  go_ret2
  exact ⟨rfl, by first | exact ⟨0, rfl⟩ | exact ⟨_, rfl⟩⟩

set_option maxHeartbeats 1000000 in
theorem nserved (s t : Int) (w : World) :
    Calls Try.prog 12 #[.pointer none, .int .i64 s, .int .i64 t] w fun e w' => e = .returned (.bool false) ∧ ∃ n, w' = w.drewN n := by
  go_enter Try.func12, Try.ntmps12
  go_wp2_with (go_at_call 32; refine (at_nil s _).mono ?_; rintro e w' ⟨rfl, rfl⟩)
  (try (go_quiet (fail)))
  (try go_wp2)
  go_ret
  exact ⟨rfl, by first | exact ⟨0, rfl⟩ | exact ⟨_, rfl⟩⟩

set_option maxHeartbeats 1000000 in
theorem nseq (s : Int) (w : World) :
    Calls Try.prog 17 #[.pointer none, .int .i64 s] w fun e w' => e = .returned (.int .i64 0) ∧ ∃ n, w' = w.drewN n := by
  go_enter Try.func17, Try.ntmps17
  go_wp2_with (go_at_call 32; refine (at_nil s _).mono ?_; rintro e w' ⟨rfl, rfl⟩)
  (try (go_quiet (fail)))
  (try go_wp2)
  go_ret
  exact ⟨rfl, by first | exact ⟨0, rfl⟩ | exact ⟨_, rfl⟩⟩

set_option maxHeartbeats 1000000 in
theorem nwaiting (s : Int) (w : World) :
    Calls Try.prog 16 #[.pointer none, .int .i64 s] w fun e w' => e = .returned (.int .i64 0) ∧ ∃ n, w' = w.drewN n := by
  go_enter Try.func16, Try.ntmps16
  go_wp2_with (go_at_call 32; refine (at_nil s _).mono ?_; rintro e w' ⟨rfl, rfl⟩)
  (try (go_quiet (fail)))
  (try go_wp2)
  go_ret
  exact ⟨rfl, by first | exact ⟨0, rfl⟩ | exact ⟨_, rfl⟩⟩

set_option maxHeartbeats 1000000 in
theorem nleave (s t : Int) (w : World) :
    Calls Try.prog 13 #[.pointer none, .int .i64 s, .int .i64 t] w fun e w' => e = .returned (.int .i64 0) ∧ ∃ n, w' = w.drewN n := by
  go_enter Try.func13, Try.ntmps13
  go_wp2
  (try (go_quiet (fail)))
  (try go_wp2)
  go_ret
  exact ⟨rfl, by first | exact ⟨0, rfl⟩ | exact ⟨_, rfl⟩⟩

set_option maxHeartbeats 1000000 in
theorem nodd (s t : Int) (w : World) :
    Calls Try.prog 14 #[.pointer none, .int .i64 s, .int .i64 t] w fun e w' => e = .returned (.int .i64 0) ∧ ∃ n, w' = w.drewN n := by
  go_enter Try.func14, Try.ntmps14
  go_wp2
  (try (go_quiet (fail)))
  (try go_wp2)
  go_ret
  exact ⟨rfl, by first | exact ⟨0, rfl⟩ | exact ⟨_, rfl⟩⟩

set_option maxHeartbeats 1000000 in
theorem neven (s t : Int) (w : World) :
    Calls Try.prog 15 #[.pointer none, .int .i64 s, .int .i64 t] w fun e w' => e = .returned (.int .i64 0) ∧ ∃ n, w' = w.drewN n := by
  go_enter Try.func15, Try.ntmps15
  go_wp2
  (try (go_quiet (fail)))
  (try go_wp2)
  go_ret
  exact ⟨rfl, by first | exact ⟨0, rfl⟩ | exact ⟨_, rfl⟩⟩

set_option maxHeartbeats 1000000 in
theorem nstripes  (w : World) :
    Calls Try.prog 19 #[.pointer none] w fun e w' => e = .returned (.int .i64 0) ∧ ∃ n, w' = w.drewN n := by
  go_enter Try.func19, Try.ntmps19
  go_wp2
  (try (go_quiet (fail)))
  (try go_wp2)
  go_ret
  exact ⟨rfl, by first | exact ⟨0, rfl⟩ | exact ⟨_, rfl⟩⟩

set_option maxHeartbeats 1000000 in
theorem rnticket (s : Int) (w : World) :
    Calls Try.prog 21 #[.pointer none, .int .i64 s] w fun e w' => e = .returned (.tuple #[.int .i64 0, .int .i64 0]) ∧ ∃ n, w' = w.drewN n := by
  go_enter Try.func21, Try.ntmps21
  go_wp2
  (try (go_quiet (fail)))
  (try go_wp2)
  go_ret2
  exact ⟨rfl, by first | exact ⟨0, rfl⟩ | exact ⟨_, rfl⟩⟩

set_option maxHeartbeats 1000000 in
theorem rnserved (s t : Int) (w : World) :
    Calls Try.prog 22 #[.pointer none, .int .i64 s, .int .i64 t] w fun e w' => e = .returned (.bool false) ∧ ∃ n, w' = w.drewN n := by
  go_enter Try.func22, Try.ntmps22
  go_wp2_with (go_at_call 38; refine (rnhas s _).mono ?_; rintro e w' ⟨rfl, rfl⟩)
  (try (go_quiet (fail)))
  (try go_wp2)
  go_ret
  exact ⟨rfl, by first | exact ⟨0, rfl⟩ | exact ⟨_, rfl⟩⟩

set_option maxHeartbeats 1000000 in
theorem rnseq (s : Int) (w : World) :
    Calls Try.prog 26 #[.pointer none, .int .i64 s] w fun e w' => e = .returned (.int .i64 0) ∧ ∃ n, w' = w.drewN n := by
  go_enter Try.func26, Try.ntmps26
  go_wp2_with (go_at_call 38; refine (rnhas s _).mono ?_; rintro e w' ⟨rfl, rfl⟩)
  (try (go_quiet (fail)))
  (try go_wp2)
  go_ret
  exact ⟨rfl, by first | exact ⟨0, rfl⟩ | exact ⟨_, rfl⟩⟩

set_option maxHeartbeats 1000000 in
theorem rnwaiting (s : Int) (w : World) :
    Calls Try.prog 27 #[.pointer none, .int .i64 s] w fun e w' => e = .returned (.int .i64 0) ∧ ∃ n, w' = w.drewN n := by
  go_enter Try.func27, Try.ntmps27
  go_wp2_with (go_at_call 38; refine (rnhas s _).mono ?_; rintro e w' ⟨rfl, rfl⟩)
  (try (go_quiet (fail)))
  (try go_wp2)
  go_ret
  exact ⟨rfl, by first | exact ⟨0, rfl⟩ | exact ⟨_, rfl⟩⟩

set_option maxHeartbeats 1000000 in
theorem rnleave (s t : Int) (w : World) :
    Calls Try.prog 23 #[.pointer none, .int .i64 s, .int .i64 t] w fun e w' => e = .returned (.int .i64 0) ∧ ∃ n, w' = w.drewN n := by
  go_enter Try.func23, Try.ntmps23
  go_wp2
  (try (go_quiet (fail)))
  (try go_wp2)
  go_ret
  exact ⟨rfl, by first | exact ⟨0, rfl⟩ | exact ⟨_, rfl⟩⟩

set_option maxHeartbeats 1000000 in
theorem rnodd (s t : Int) (w : World) :
    Calls Try.prog 24 #[.pointer none, .int .i64 s, .int .i64 t] w fun e w' => e = .returned (.int .i64 0) ∧ ∃ n, w' = w.drewN n := by
  go_enter Try.func24, Try.ntmps24
  go_wp2
  (try (go_quiet (fail)))
  (try go_wp2)
  go_ret
  exact ⟨rfl, by first | exact ⟨0, rfl⟩ | exact ⟨_, rfl⟩⟩

set_option maxHeartbeats 1000000 in
theorem rneven (s t : Int) (w : World) :
    Calls Try.prog 25 #[.pointer none, .int .i64 s, .int .i64 t] w fun e w' => e = .returned (.int .i64 0) ∧ ∃ n, w' = w.drewN n := by
  go_enter Try.func25, Try.ntmps25
  go_wp2
  (try (go_quiet (fail)))
  (try go_wp2)
  go_ret
  exact ⟨rfl, by first | exact ⟨0, rfl⟩ | exact ⟨_, rfl⟩⟩

set_option maxHeartbeats 1000000 in
theorem rnstripes  (w : World) :
    Calls Try.prog 20 #[.pointer none] w fun e w' => e = .returned (.int .i64 0) ∧ ∃ n, w' = w.drewN n := by
  go_enter Try.func20, Try.ntmps20
  go_wp2
  (try (go_quiet (fail)))
  (try go_wp2)
  go_ret
  exact ⟨rfl, by first | exact ⟨0, rfl⟩ | exact ⟨_, rfl⟩⟩
end Go.Proofs.Ytgklgicfgpemgaa.Lk

