/- Walks of need, caught, check. -/
import Derived.Test.YtofllhbcediafaaWords
import Derived.Recover
namespace Go.Proofs.Ytofllhbcediafaa
open Go.RowKit
set_option linter.unusedVariables false

def bad (x : Int) : List PanicEntry := [{ v := .iface 26 (.int .i64 x), recovered := false }]
def endE (x : Int) : Ending := if x = 0 then .returned (.tuple #[]) else .panicked (bad x)

set_option maxHeartbeats 400000 in
theorem need_yes (x : Int) (w : World) : Calls Try.prog 29 #[.bool true, .int .i64 x] w fun e w' => e = .returned (.tuple #[]) ∧ w = w' := by
  go_enter Try.func29, Try.ntmps29
  go_wp2
  go_end0
  exact ⟨rfl, rfl⟩
set_option maxHeartbeats 400000 in
theorem need_no (x : Int) (w : World) : Calls Try.prog 29 #[.bool false, .int .i64 x] w fun e w' => e = .panicked (bad x) ∧ w = w' := by
  go_enter Try.func29, Try.ntmps29
  go_wp2
  exact ⟨rfl, rfl, rfl⟩

theorem assert26 (x : Int) (w : World) : (Instr.typeAssert (.iface 26 (.int .i64 x)) 20 26 true).run Try.prog w = .ok (.tuple #[.int .i64 x, .bool true]) w := by kernel_rfl

theorem caught_panics (p : Addr) (u : Value) (x : Int) (w : World) (hc : w.cell? p = some u) (hz : w.frozen? p = false) :
    CallsD Try.prog 23 #[.pointer (some p)] (.panicking (bad x)) w fun e u' w' =>
      e = .returned (.tuple #[]) ∧ u' = .panicking [{ v := .iface 26 (.int .i64 x), recovered := true }] ∧ w' = w.setCell p (.int .i64 x) := by
  refine callsD_of_wpS Try.func23 rfl fun c₀ cs hu => ?_
  apply wpS_seq
  apply wpS_region
  simp [wpOpsS, go_sem, recoverD, hu, Try.ntmps23, Exit.thenS, bad]
  refine wpS_of_wp ?_
  show Code.wp Try.prog _ _ { tmps := #[.pointer (some p), undef, undef, undef, undef, .iface 26 (.int .i64 x), undef, undef, undef, undef, undef, undef, undef, undef], defers := [] } w
  have hta := assert26
  go_wp2
  simp [bodyPostS, results, Try.results23]

theorem caught_idle (p : Addr) (w : World) :
    CallsD Try.prog 23 #[.pointer (some p)] .returning w fun e u' w' => e = .returned (.tuple #[]) ∧ u' = .returning ∧ w' = w := by
  refine callsD_of_wpS Try.func23 rfl fun c₀ cs hu => ?_
  apply wpS_seq
  apply wpS_region
  simp [wpOpsS, go_sem, recoverD, hu, Try.ntmps23, Exit.thenS]
  refine wpS_of_wp ?_
  show Code.wp Try.prog _ _ { tmps := #[.pointer (some p), undef, undef, undef, undef, .nilIface, undef, undef, undef, undef, undef, undef, undef, undef], defers := [] } w
  go_wp2
  cases c₀
  simp_all [bodyPostS, results, Try.results23]

end Go.Proofs.Ytofllhbcediafaa
