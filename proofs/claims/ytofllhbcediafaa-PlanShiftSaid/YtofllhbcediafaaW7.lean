/- Walk of Withdrawn. -/
import Derived.Test.YtofllhbcediafaaW6
import Derived.RecoverIn
namespace Go.Proofs.Ytofllhbcediafaa
open Go.RowKit
set_option linter.unusedVariables false
attribute [local go_sem] Oper.semAt_some

theorem caughtIn_panics (p : Addr) (u : Value) (x : Int) (w : World) (hc : w.cell? p = some u) (hz : w.frozen? p = false) :
    CallsDIn Fence.wide 0 Try.prog 23 #[.pointer (some p)] (.panicking (bad x)) w fun e u' w' =>
      e = .returned (.tuple #[]) ∧ u' = .panicking [{ v := .iface 26 (.int .i64 x), recovered := true }] ∧ w' = w.setCell p (.int .i64 x) := by
  refine callsDIn_of_wpSIn Try.func23 rfl trivial fun c₀ cs hu => ?_
  apply wpSIn_seq
  apply wpSIn_region
  simp [wpOpsSIn, go_sem, recoverD, hu, Try.ntmps23, Exit.thenS, bad]
  refine wpSIn_of_wpIn rfl (wpIn_wide.2 ?_)
  show Code.wp Try.prog _ _ { tmps := #[.pointer (some p), undef, undef, undef, undef, .iface 26 (.int .i64 x), undef, undef, undef, undef, undef, undef, undef, undef], defers := [] } w
  have hta := assert26
  go_wp2
  simp [bodyPostS, results, Try.results23]

theorem caughtIn_idle (p : Addr) (w : World) :
    CallsDIn Fence.wide 0 Try.prog 23 #[.pointer (some p)] .returning w fun e u' w' => e = .returned (.tuple #[]) ∧ u' = .returning ∧ w' = w := by
  refine callsDIn_of_wpSIn Try.func23 rfl trivial fun c₀ cs hu => ?_
  apply wpSIn_seq
  apply wpSIn_region
  simp [wpOpsSIn, go_sem, recoverD, hu, Try.ntmps23, Exit.thenS]
  refine wpSIn_of_wpIn rfl (wpIn_wide.2 ?_)
  show Code.wp Try.prog _ _ { tmps := #[.pointer (some p), undef, undef, undef, undef, .nilIface, undef, undef, undef, undef, undef, undef, undef, undef], defers := [] } w
  go_wp2
  cases c₀
  simp_all [bodyPostS, results, Try.results23]

theorem leavesM_fn {P : Program} {fn : Func} {tmps : Array Value} {R : Ending → World → Prop} {fv : Fn} {cap dargs : Array Value} {ds : List Deferred} {u : FrameMode} {w : World} {f : FuncId} {args : Array Value}
    (hu : u ≠ .run) (hi : (invoke (.fn fv cap) dargs).run P w = .ok (.enter f args) w)
    (h : CallsDIn Fence.wide 0 P f args u w fun
      | .returned _, u', w' => LeavesInM Fence.wide 0 P fn tmps R ds (settle u') w'
      | .panicked chain, u', w' => LeavesInM Fence.wide 0 P fn tmps R ds (raised u' chain) w'
      | .outgrown, _, w' => R .outgrown w') :
    LeavesInM Fence.wide 0 P fn tmps R ({ target := .fn fv cap, args := dargs } :: ds) u w :=
  ⟨hu, .inr ⟨fun h => by simp [Fence.wide] at h, fv, cap, f, args, rfl, hi, fun _ _ => trivial, h⟩⟩
theorem leavesM_mark {P : Program} {fn : Func} {tmps : Array Value} {R : Ending → World → Prop} {ds : List Deferred} {u : FrameMode} {w : World} {D : Nat}
    (hu : u ≠ .run) (hK : w.heap[D]? = some (.deferred (some []))) (h : LeavesInM Fence.wide 0 P fn tmps R ds u (w.putObj D (.deferred none))) :
    LeavesInM Fence.wide 0 P fn tmps R ({ target := .collected D, args := #[] } :: ds) u w :=
  ⟨hu, .inl ⟨_, _, rfl, run_takeDeferred hK, h⟩⟩

def wdE (l : List (List Pl.Life)) (ds s : List Int) : Int := if Pl.err l ds = 0 then (if Pl.inTime l ds s = true then 0 else 500) else Pl.err l ds
def wdN (l : List (List Pl.Life)) (ds s : List Int) : Int := if wdE l ds s = 0 then Pl.withdrawn l s else 0

set_option maxHeartbeats 400000 in
theorem lost_any (v u : Value) (w : World) (hv : ∃ A l c, v = .slice A l c) (hu : ∃ A l c, u = .slice A l c) :
    Calls Try.prog 30 #[v, u] w fun e w' => e = .returned (.func (.func 36) #[] #[.pointer (some ⟨w.heap.size, 0, none⟩), .pointer (some ⟨w.heap.size + 1, 0, none⟩)]) ∧ (w.alloc (.cells #[v] 22)).alloc (.cells #[u] 23) = w' := by
  obtain ⟨A, l, c, rfl⟩ := hv
  obtain ⟨A2, l2, c2, rfl⟩ := hu
  go_enter Try.func30, Try.ntmps30
  go_wp2
  go_ret
  exact ⟨rfl, rfl⟩

/-- the panicking ends of Withdrawn -/
theorem wd_bad {w w1 : World} {x : Int} {tmps : Array Value} {fn : Func} (hres : fn.results = #[.cell 6 3, .cell 7 26]) (t6 : tmps.getD 6 undef = .pointer (some ⟨w.heap.size, 0, none⟩)) (t7 : tmps.getD 7 undef = .pointer (some ⟨w.heap.size + 1, 0, none⟩))
    (h1 : Boxed w1 w.heap.size 3 (.int .i64 0)) (h2 : Boxed w1 (w.heap.size + 1) 26 (.int .i64 0)) (hb : Below w.heap.size w w1) (R : Ending → World → Prop)
    (hR : R (.returned (.tuple #[.int .i64 0, .int .i64 x])) (w1.setCell ⟨w.heap.size + 1, 0, none⟩ (.int .i64 x))) :
    bodyPostM Fence.wide 0 Try.prog fn R (.panic (bad x)) { tmps := tmps, defers := [{ target := .fn (.func 23) #[], args := #[.pointer (some ⟨w.heap.size + 1, 0, none⟩)] }] } w1 := by
  refine leavesM_fn (f := 23) (args := #[.pointer (some ⟨w.heap.size + 1, 0, none⟩)]) (by simp) (by simp [go_sem]) ?_
  refine (caughtIn_panics _ _ _ _ h2.cell h2.frozen).mono ?_
  rintro e u' w2 ⟨rfl, rfl, rfl⟩
  have hc1 := (h1.other (B' := w.heap.size + 1) (by omega) (.int .i64 x)).cell
  have hc2 := (h2.set (.int .i64 x)).cell
  have t6' : tmps[6]?.getD undef = .pointer (some ⟨w.heap.size, 0, none⟩) := by rw [← t6]; simp
  have t7' : tmps[7]?.getD undef = .pointer (some ⟨w.heap.size + 1, 0, none⟩) := by rw [← t7]; simp
  exact ⟨.tuple #[.int .i64 0, .int .i64 x], by simp [results, hres, go_sem, t6', t7', hc1, hc2], hR⟩

end Go.Proofs.Ytofllhbcediafaa
