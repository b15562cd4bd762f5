/- Walks of slices.Backward and Latest. -/
import Derived.Test.YtofllhbcediafaaW8
import Derived.Test.YtofllhbcediafaaPlain4
namespace Go.Proofs.Ytofllhbcediafaa
open Go.RowKit
set_option linter.unusedVariables false
attribute [local go_sem] Oper.semAt_some

def protB (bd n0 : Nat) : Nat → Prop := fun b => b = bd ∨ b < n0

set_option maxHeartbeats 1000000 in
theorem backward1_iter (bd : Nat) (A : Option Addr) (cap : Nat) (xs : List Int) (w0 W : World) (hd : W.cell? ⟨bd, 0, none⟩ = some (.slice A xs.length cap))
    (hr : RowAt w0 A (xs.map (Value.int .i64))) (hb0 : Below w0.heap.size w0 W) (hl : xs.length ≤ 9223372036854775807) :
    Iter Try.prog 34 #[.pointer (some ⟨bd, 0, none⟩)] (fun q : Nat × Int => #[.int .i64 q.1, .int .i64 q.2]) (Pl.downs xs) (protB bd w0.heap.size) W := by
  intro la J Jx hJ hJx hY h0
  have HR := Lib.hid hr
  have HD := Lib.hid hd
  have HY := Lib.hid hY
  have HB0 := Lib.hid hb0
  have hdl := Pl.downs_length xs
  have HDL := Lib.hid hdl
  clear hr hY hJ hJx hb0 hdl
  refine callsIn_of_wp Try.func34 rfl trivial ?_ rfl
  simp only [Try.ntmps34, List.size_toArray, List.length_cons, List.length_nil, Nat.reduceAdd, Nat.reduceSub, Array.replicate_succ, Array.replicate_zero, List.push_toArray, List.append_toArray, List.nil_append, List.cons_append]
  gi_wp2
  gi_loopw [3] (fun i wr => ∃ k : Nat, k ≤ xs.length ∧ i = .int .i64 ((xs.length : Int) - 1 - k) ∧ J k wr ∧ RStep W.heap.size (protB bd w0.heap.size) W wr) (fun i _ => (intOf i + 1).toNat)
  case atStart => exact ⟨0, Nat.zero_le _, by simp, h0, RStep.refl _ _ _⟩
  case round =>
    obtain ⟨k, hk, rfl, hj, hs⟩ := hrel
    by_cases hlt : k < xs.length
    · obtain ⟨p, hp⟩ : ∃ p : Nat, p + k + 1 = xs.length := ⟨xs.length - k - 1, by omega⟩
      rw [show ((xs.length : Int) - 1 - k) = (p : Int) by omega]
      have hpl : p < xs.length := by omega
      have HP := Lib.hid hp
      have hkd : k < (Pl.downs xs).length := by have := HDL.out; omega
      obtain ⟨b, off, rfl, hbb, hc0⟩ := ints_at HR.out hpl
      have hc := hs.cell (.inr hbb) ((HB0.out.cell (p := ⟨b, off + p, none⟩) hbb).trans hc0)
      have hd' := hs.cell (.inl rfl) HD.out
      obtain ⟨fn, tmps, assign, body, hy, hR⟩ := HY.out k hkd wr hj
      rw [Pl.downs_at xs k hkd p hp hpl] at hy
      have HRr := Lib.hid hR
      clear hc0 hR hp hd
      dsimp only at hy
      gi_wp2
      refine ⟨rfl, HRr.out.mono ?_⟩
      rintro e W3 (⟨rfl, hJ3, hs3⟩ | ⟨rfl, hJx3⟩)
      · gi_wp2
        go_roundw
        case rel => exact ⟨k + 1, by omega, by first | (congr 1; done) | (congr 1; have := HP.out; omega), hJ3, hs.trans hs3⟩
        case measure => first | omega | (simp [intOf]; done) | (simp [intOf]; omega)
      · gi_wp2
        refine bodyPost_ret (results_none rfl _ _ _) rfl ?_
        exact ⟨⟨_, rfl⟩, .inr ⟨_, hkd, hJx3⟩⟩
    · have hkx : k = xs.length := by omega
      rw [show ((xs.length : Int) - 1 - k) = -1 by omega]
      have HK := Lib.hid hkx
      clear hkx
      gi_wp2
      go_end0
      exact ⟨⟨_, rfl⟩, .inl (by rw [HDL.out, ← HK.out]; exact hj)⟩

set_option maxHeartbeats 400000 in
theorem backward_any (v : Value) (w : World) (hv : ∃ A l c, v = .slice A l c) :
    Calls Try.prog 25 #[v] w fun e w' => e = .returned (.func (.func 34) #[] #[.pointer (some ⟨w.heap.size, 0, none⟩)]) ∧ w.alloc (.cells #[v] 23) = w' := by
  obtain ⟨A, l, c, rfl⟩ := hv
  go_enter Try.func25, Try.ntmps25
  go_wp2
  go_ret
  exact ⟨rfl, rfl⟩

end Go.Proofs.Ytofllhbcediafaa
