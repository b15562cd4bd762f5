/- Decisions in memory; the walk of right. -/
import Derived.Test.YtninnpcggeofmaaW1
namespace Go.Proofs.Ytninnpcggeofmaa
open Go.RowKit
set_option linter.unusedVariables false
set_option linter.unusedSimpArgs false
attribute [local go_sem] frozen_new

/-- a box that holds a decision -/
def BoxH (W : World) (B : Nat) (h : Hh) : Prop := W.heap[B]? = some (.cells #[.int .i64 h.no, .int .i64 h.kind, .int .i64 h.spk, .int .i64 h.fst, .int .i64 h.lst, .int .i64 h.lang, .int .i64 h.frm, .int .i64 h.unt, .int .i64 h.known, .int .i64 h.ms] 24 (0, 0))
theorem BoxH.new (W : World) (h : Hh) : BoxH (W.alloc (.cells #[.int .i64 h.no, .int .i64 h.kind, .int .i64 h.spk, .int .i64 h.fst, .int .i64 h.lst, .int .i64 h.lang, .int .i64 h.frm, .int .i64 h.unt, .int .i64 h.known, .int .i64 h.ms] 24)) W.heap.size h := World.alloc_heap_new W _
theorem BoxH.lt {W : World} {B : Nat} {h : Hh} (hb : BoxH W B h) : B < W.heap.size := (Array.getElem?_eq_some_iff.1 hb).1
theorem BoxH.upb {W W' : World} {B : Nat} {h : Hh} (hb : BoxH W B h) (hk : Below W.heap.size W W') : BoxH W' B h := (hk.block B hb.lt).trans hb
theorem BoxH.alloc {W : World} {B : Nat} {h : Hh} (hb : BoxH W B h) (x : Obj) : BoxH (W.alloc x) B h := hb.upb (al1 W x)

theorem BoxH.c0 {W : World} {B : Nat} {h : Hh} (hb : BoxH W B h) : W.cell? ⟨B, 0, none⟩ = some (.int .i64 h.no) := by simp [World.cell?, show W.heap[B]? = _ from hb]
theorem BoxH.c1 {W : World} {B : Nat} {h : Hh} (hb : BoxH W B h) : W.cell? ⟨B, 1, none⟩ = some (.int .i64 h.kind) := by simp [World.cell?, show W.heap[B]? = _ from hb]
theorem BoxH.c2 {W : World} {B : Nat} {h : Hh} (hb : BoxH W B h) : W.cell? ⟨B, 2, none⟩ = some (.int .i64 h.spk) := by simp [World.cell?, show W.heap[B]? = _ from hb]
theorem BoxH.c3 {W : World} {B : Nat} {h : Hh} (hb : BoxH W B h) : W.cell? ⟨B, 3, none⟩ = some (.int .i64 h.fst) := by simp [World.cell?, show W.heap[B]? = _ from hb]
theorem BoxH.c4 {W : World} {B : Nat} {h : Hh} (hb : BoxH W B h) : W.cell? ⟨B, 4, none⟩ = some (.int .i64 h.lst) := by simp [World.cell?, show W.heap[B]? = _ from hb]
theorem BoxH.c5 {W : World} {B : Nat} {h : Hh} (hb : BoxH W B h) : W.cell? ⟨B, 5, none⟩ = some (.int .i64 h.lang) := by simp [World.cell?, show W.heap[B]? = _ from hb]
theorem BoxH.c6 {W : World} {B : Nat} {h : Hh} (hb : BoxH W B h) : W.cell? ⟨B, 6, none⟩ = some (.int .i64 h.frm) := by simp [World.cell?, show W.heap[B]? = _ from hb]
theorem BoxH.c7 {W : World} {B : Nat} {h : Hh} (hb : BoxH W B h) : W.cell? ⟨B, 7, none⟩ = some (.int .i64 h.unt) := by simp [World.cell?, show W.heap[B]? = _ from hb]
theorem BoxH.c8 {W : World} {B : Nat} {h : Hh} (hb : BoxH W B h) : W.cell? ⟨B, 8, none⟩ = some (.int .i64 h.known) := by simp [World.cell?, show W.heap[B]? = _ from hb]
theorem BoxH.c9 {W : World} {B : Nat} {h : Hh} (hb : BoxH W B h) : W.cell? ⟨B, 9, none⟩ = some (.int .i64 h.ms) := by simp [World.cell?, show W.heap[B]? = _ from hb]

def pre (h : Hh) : Nat → Bool
  | 0 => true
  | 1 => Hh.c1 h
  | 2 => Hh.c1 h && Hh.c2 h
  | 3 => Hh.c1 h && Hh.c2 h && Hh.c3 h
  | 4 => Hh.c1 h && Hh.c2 h && Hh.c3 h && Hh.c4 h
  | _ => Hh.right h
def fns : Value := .agg #[.func (.func 72) #[] #[], .func (.func 73) #[] #[], .func (.func 74) #[] #[], .func (.func 75) #[] #[], .func (.func 77) #[] #[]]
theorem idx0 (w : World) : (Instr.index 87 (.agg #[.func (.func 72) #[] #[], .func (.func 73) #[] #[], .func (.func 74) #[] #[], .func (.func 75) #[] #[], .func (.func 77) #[] #[]]) (.int .i64 0)).run Try.prog w = .ok (.agg #[.func (.func 72) #[] #[]]) w := by kernel_rfl
theorem idx1 (w : World) : (Instr.index 87 (.agg #[.func (.func 72) #[] #[], .func (.func 73) #[] #[], .func (.func 74) #[] #[], .func (.func 75) #[] #[], .func (.func 77) #[] #[]]) (.int .i64 1)).run Try.prog w = .ok (.agg #[.func (.func 73) #[] #[]]) w := by kernel_rfl
theorem idx2 (w : World) : (Instr.index 87 (.agg #[.func (.func 72) #[] #[], .func (.func 73) #[] #[], .func (.func 74) #[] #[], .func (.func 75) #[] #[], .func (.func 77) #[] #[]]) (.int .i64 2)).run Try.prog w = .ok (.agg #[.func (.func 74) #[] #[]]) w := by kernel_rfl
theorem idx3 (w : World) : (Instr.index 87 (.agg #[.func (.func 72) #[] #[], .func (.func 73) #[] #[], .func (.func 74) #[] #[], .func (.func 75) #[] #[], .func (.func 77) #[] #[]]) (.int .i64 3)).run Try.prog w = .ok (.agg #[.func (.func 75) #[] #[]]) w := by kernel_rfl
theorem idx4 (w : World) : (Instr.index 87 (.agg #[.func (.func 72) #[] #[], .func (.func 73) #[] #[], .func (.func 74) #[] #[], .func (.func 75) #[] #[], .func (.func 77) #[] #[]]) (.int .i64 4)).run Try.prog w = .ok (.agg #[.func (.func 77) #[] #[]]) w := by kernel_rfl
set_option maxHeartbeats 2000000 in
theorem right_any (h : Hh) (w : World) : Calls Try.prog 36 #[vH h] w (BPost (Hh.right h) w) := by
  have HB0 := Lib.hid (BoxH.new w h)
  have hvv : vH h = vH h := rfl
  unfold vH
  clear hvv
  go_enter Try.func36, Try.ntmps36
  go_wp2_with (fail)
  refine (conditions_any _).mono ?_
  rintro e w1 ⟨rfl, hb1⟩
  have HB := Lib.hid (HB0.out.upb hb1)
  have B1 := Lib.hid ((al1 w _).trans (hb1.mono (by simp)))
  clear hb1 HB0
  go_wp2_with (fail)
  go_loopw [6] (fun i wr => ∃ k : Nat, k ≤ 5 ∧ i = .int .i64 k ∧ Hid (pre h k = true) ∧ Hid (Below w1.heap.size w1 wr)) (fun i _ => 5 - (intOf i).toNat)
  case atStart => exact ⟨0, by omega, rfl, rfl, Below.refl _ _⟩
  case round =>
    obtain ⟨k, hk, rfl, HP, HK⟩ := hrel
    have HBr := Lib.hid (HB.out.upb HK.out)

    have q0 := HBr.out.c0
    have q1 := HBr.out.c1
    have q2 := HBr.out.c2
    have q3 := HBr.out.c3
    have q4 := HBr.out.c4
    have q5 := HBr.out.c5
    have q6 := HBr.out.c6
    have q7 := HBr.out.c7
    have q8 := HBr.out.c8
    have q9 := HBr.out.c9

    have hlt := HBr.out.lt
    have hk6 : k = 0 ∨ k = 1 ∨ k = 2 ∨ k = 3 ∨ k = 4 ∨ k = 5 := by omega
    rcases hk6 with rfl | rfl | rfl | rfl | rfl | rfl
    · have hix := idx0
      go_wp2_with (fail)
      clear hix
      refine (cond1_any h _).mono ?_
      rintro e w2 ⟨rfl, hb2⟩
      have HK2 := Lib.hid (HK.out.trans (((al1 wr _).trans (hb2.mono (by simp))).mono HK.out.size))
      clear hb2 q0 q1 q2 q3 q4 q5 q6 q7 q8 q9
      cases hc : Hh.c1 h
      · go_wp2_with (fail)
        go_ret
        exact ⟨ret_bool (by unfold Hh.right; rw [hc]; simp), B1.out.trans (HK2.out.mono B1.out.size)⟩
      · have HP2 := Lib.hid (show pre h 1 = true by have := HP.out; simp [pre, Hh.right] at this ⊢; simp [this, hc])
        go_wp2_with (fail)
        go_roundw
        case rel => exact ⟨1, by omega, rfl, HP2, HK2⟩
        case measure => first | omega | (simp [intOf]; omega) | (simp [intOf])
    · have hix := idx1
      go_wp2_with (fail)
      clear hix
      refine (cond2_any h _).mono ?_
      rintro e w2 ⟨rfl, hb2⟩
      have HK2 := Lib.hid (HK.out.trans (((al1 wr _).trans (hb2.mono (by simp))).mono HK.out.size))
      clear hb2 q0 q1 q2 q3 q4 q5 q6 q7 q8 q9
      cases hc : Hh.c2 h
      · go_wp2_with (fail)
        go_ret
        exact ⟨ret_bool (by unfold Hh.right; rw [hc]; simp), B1.out.trans (HK2.out.mono B1.out.size)⟩
      · have HP2 := Lib.hid (show pre h 2 = true by have := HP.out; simp [pre, Hh.right] at this ⊢; simp [this, hc])
        go_wp2_with (fail)
        go_roundw
        case rel => exact ⟨2, by omega, rfl, HP2, HK2⟩
        case measure => first | omega | (simp [intOf]; omega) | (simp [intOf])
    · have hix := idx2
      go_wp2_with (fail)
      clear hix
      refine (cond3_any h _).mono ?_
      rintro e w2 ⟨rfl, hb2⟩
      have HK2 := Lib.hid (HK.out.trans (((al1 wr _).trans (hb2.mono (by simp))).mono HK.out.size))
      clear hb2 q0 q1 q2 q3 q4 q5 q6 q7 q8 q9
      cases hc : Hh.c3 h
      · go_wp2_with (fail)
        go_ret
        exact ⟨ret_bool (by unfold Hh.right; rw [hc]; simp), B1.out.trans (HK2.out.mono B1.out.size)⟩
      · have HP2 := Lib.hid (show pre h 3 = true by have := HP.out; simp [pre, Hh.right] at this ⊢; simp [this, hc])
        go_wp2_with (fail)
        go_roundw
        case rel => exact ⟨3, by omega, rfl, HP2, HK2⟩
        case measure => first | omega | (simp [intOf]; omega) | (simp [intOf])
    · have hix := idx3
      go_wp2_with (fail)
      clear hix
      refine (cond4_any h _).mono ?_
      rintro e w2 ⟨rfl, hb2⟩
      have HK2 := Lib.hid (HK.out.trans (((al1 wr _).trans (hb2.mono (by simp))).mono HK.out.size))
      clear hb2 q0 q1 q2 q3 q4 q5 q6 q7 q8 q9
      cases hc : Hh.c4 h
      · go_wp2_with (fail)
        go_ret
        exact ⟨ret_bool (by unfold Hh.right; rw [hc]; simp), B1.out.trans (HK2.out.mono B1.out.size)⟩
      · have HP2 := Lib.hid (show pre h 4 = true by have := HP.out; simp [pre, Hh.right] at this ⊢; simp [this, hc])
        go_wp2_with (fail)
        go_roundw
        case rel => exact ⟨4, by omega, rfl, HP2, HK2⟩
        case measure => first | omega | (simp [intOf]; omega) | (simp [intOf])
    · have hix := idx4
      go_wp2_with (fail)
      clear hix
      refine (cond5_any h _).mono ?_
      rintro e w2 ⟨rfl, hb2⟩
      have HK2 := Lib.hid (HK.out.trans (((al1 wr _).trans (hb2.mono (by simp))).mono HK.out.size))
      clear hb2 q0 q1 q2 q3 q4 q5 q6 q7 q8 q9
      cases hc : Hh.c5 h
      · go_wp2_with (fail)
        go_ret
        exact ⟨ret_bool (by unfold Hh.right; rw [hc]; simp), B1.out.trans (HK2.out.mono B1.out.size)⟩
      · have HP2 := Lib.hid (show pre h 5 = true by have := HP.out; simp [pre, Hh.right] at this ⊢; simp [this, hc])
        go_wp2_with (fail)
        go_roundw
        case rel => exact ⟨5, by omega, rfl, HP2, HK2⟩
        case measure => first | omega | (simp [intOf]; omega) | (simp [intOf])
    · clear q0 q1 q2 q3 q4 q5 q6 q7 q8 q9
      go_wp2_with (fail)
      go_ret
      exact ⟨ret_bool HP.out.symm, B1.out.trans (HK.out.mono B1.out.size)⟩

end Go.Proofs.Ytninnpcggeofmaa
