/- Walk of Decode's deferred function behind a panic. -/
import Derived.Test.YtnnddmhimnekaaaW14
namespace Go.Proofs.Ytnnddmhimnekaaa
open Go.RowKit
set_option linter.unusedVariables false
set_option linter.unusedSimpArgs false

theorem assert28 (x : Int) (w : World) : (Instr.typeAssert (.iface 28 (.int .i64 x)) 20 28 false).run Try.prog w = .ok (.int .i64 x) w := by kernel_rfl

set_option maxHeartbeats 1000000 in
theorem caught_panics (b1 b2 : Nat) (a b c d u : Value) (w : World) (h4 : Four w b1 a b c d) (hb : Boxed w b2 28 u) :
    CallsD Try.prog 31 #[.pointer (some ⟨b1, 0, none⟩), .pointer (some ⟨b2, 0, none⟩)] (.panicking bad) w fun e u' w' =>
      e = .returned (.tuple #[]) ∧ u' = .panicking [{ v := .iface 28 (.int .i64 10), recovered := true }] ∧ w' = (((((w.setCell ⟨b1, 0, none⟩ (.int .i64 0)).setCell ⟨b1, 1, none⟩ (.int .i64 0)).setCell ⟨b1, 2, none⟩ (.string ByteArray.empty)).setCell ⟨b1, 3, none⟩ (.slice none 0 0)).setCell ⟨b2, 0, none⟩ (.int .i64 10)).drew := by
  have hne1 : b1 ≠ b2 := fun e => by
    subst e
    have e1 : w.heap[b1]? = _ := h4
    have e2 : w.heap[b1]? = some (.cells #[u] 28 (0, 0)) := hb
    rw [e1] at e2
    injection e2 with e2
    injection e2 with _ e3
    exact absurd e3 (by decide)
  have hne2 : b2 ≠ b1 := fun e => hne1 e.symm
  have h0 := h4.c0
  have h1 := h4.c1
  have h2 := h4.c2
  have h3 := h4.c3
  have f0 := h4.f0 0
  have f1 := h4.f0 1
  have f2 := h4.f0 2
  have f3 := h4.f0 3
  have k0 := hb.cell
  have k1 := hb.frozen
  refine callsD_of_wpS Try.func31 rfl fun c₀ cs hu => ?_
  apply wpS_seq
  apply wpS_region
  simp [wpOpsS, go_sem, recoverD, hu, Try.ntmps31, Exit.thenS, bad]
  refine wpS_of_wp ?_
  show Code.wp Try.prog _ _ { tmps := #[.pointer (some ⟨b1, 0, none⟩), .pointer (some ⟨b2, 0, none⟩), .iface 28 (.int .i64 10), .iface 28 (.int .i64 10), undef, undef, undef, undef, undef], defers := [] } w
  have hta := assert28
  go_wp2_with (fail)
  go_region
  go_wp2_with (fail)
  simp [bodyPostS, results, Try.results31]
  rfl

end Go.Proofs.Ytnnddmhimnekaaa
