/- Walk of the reference's Value: texts. -/
import Derived.Test.YtnnddmhimnekaaaW22
import Derived.StillTailTactics
namespace Go.Proofs.Ytnnddmhimnekaaa
open Go.RowKit
set_option linter.unusedVariables false
set_option linter.unusedSimpArgs false

theorem val2_bad {d : Nat} {c : UInt8} {bs : List UInt8} (hc : c.toNat = 2) {n : Nat} {t : List UInt8} {bad : Bool} (h : NumR (Cd.numD 0 0 bs) n t bad) (hb : bad = true ∨ t.length < n) : Cd.valD d (c :: bs) = none := by
  rw [Cd.valD_b d c bs hc]
  unfold Cd.lenD
  unfold NumR at h
  cases hn : Cd.numD 0 0 bs with
  | none => rfl
  | some p =>
    rw [hn] at h
    obtain ⟨rfl, rfl⟩ := h
    simp only [if_neg (show ¬ n ≤ t.length by simpa using hb)]
theorem val2_ok {d : Nat} {c : UInt8} {bs : List UInt8} (hc : c.toNat = 2) {n : Nat} {t : List UInt8} (h : NumR (Cd.numD 0 0 bs) n t false) (hb : n ≤ t.length) : Cd.valD d (c :: bs) = some (.mk 2 0 ⟨(t.take n).toArray⟩ [], t.drop n) := by
  rw [Cd.valD_b d c bs hc]
  unfold Cd.lenD
  unfold NumR at h
  cases hn : Cd.numD 0 0 bs with
  | none => rw [hn] at h; cases h
  | some p =>
    rw [hn] at h
    obtain ⟨rfl, _⟩ := h
    simp only [if_pos hb]

theorem slice_in {base : Nat} {w : World} {A : Option Addr} {m c pre n : Nat} {bs : List UInt8} (h : InB base w (.slice A m c) bs) (hn : pre + n ≤ bs.length) :
    ∃ A', (∀ W : World, (Instr.slice 27 (.slice A m c) (some (.int .i64 (pre : Int))) (some (.int .i64 ((pre : Int) + (n : Int)))) none).run Try.prog W = .ok (.slice A' n (c - pre)) W) ∧ InB base w (.slice A' n (c - pre)) ((bs.drop pre).take n) := by
  obtain ⟨A0, c0, e, i1, i2, i3, i4⟩ := h
  injection e with e1 e2 e3
  subst e1 e2 e3
  refine ⟨if c = pre then A else A.map (·.add (pre * 1)), fun W => ?_, ?_⟩
  · rw [run_slice_lh W 27 A bs.length c (by kernel_rfl) .i64 .i64 (pre : Int) ((pre : Int) + n) (by omega) (by omega) (by omega)]
    have hs : (sizeOf (Try.prog.elem 27)).run Try.prog W = .ok 1 W := by kernel_rfl
    rw [hs]
    simp only [Result.andThen, sliced]
    rw [show ((pre : Int)).toNat = pre by omega, show ((pre : Int) + (n : Int)).toNat = pre + n by omega, show pre + n - pre = n by omega]
  · have hl : ((bs.drop pre).take n).length = n := by simp; omega
    refine ⟨_, c - pre, by rw [hl], by rw [hl]; omega, by omega, ?_, fun hne => ?_⟩
    · intro e
      cases A with
      | none => have := i3 rfl; omega
      | some a => split at e <;> simp at e
    · have hn0 : 0 < n := by
        rcases Nat.eq_zero_or_pos n with h0 | h0
        · subst h0; simp at hne
        · exact h0
      obtain ⟨b, off, rfl, hb, hc⟩ := i4 (by intro h0; subst h0; simp at hn; omega)
      rw [if_neg (by omega)]
      refine ⟨b, off + pre, ?_, hb, fun i hi => ?_⟩
      · simp only [Option.map_some, Nat.mul_one]
        unfold Addr.add; split <;> simp_all
      · rw [List.getElem_take, List.getElem_drop, Nat.add_assoc]
        exact hc (pre + i) (by rw [hl] at hi; omega)

set_option maxRecDepth 100000 in
set_option maxHeartbeats 4000000 in
theorem rvalue_2 (base h d : Nat) (dp : Int) (all : List UInt8) (c : UInt8) (bs : List UInt8) (w : World) (hr : Rs base h w all (c :: bs) false) (hbh : base ≤ h) (hlen : all.length ≤ 1000000) (hc : c.toNat = 2) :
    Calls Try.prog 34 #[.pointer (some ⟨h, 0, none⟩), .int .i64 dp] w (WPost base h w all (Cd.valD d (c :: bs))) := by
  have HS := Lib.hid (Sr.start hr hbh (.int .i64 0) (.int .i64 0) (.string ByteArray.empty) (.slice none 0 0))
  have HC := Lib.hid hc
  clear hr
  go_enter Try.func34, Try.ntmps34
  go_wp2_with (fail)
  refine (next_is base h all c 2 (by omega) bs false _ HS.out.rd hbh hlen).mono ?_
  rintro e w1 ⟨rfl, hr1, hg1⟩
  have HS1 := Lib.hid (HS.out.reads hr1 hg1)
  clear hr1 hg1
  go_wp2_with (fail)
  refine (refNumber_all base h all bs _ HS1.out.rd hbh hlen).mono ?_
  rintro e w2 ⟨hg2, n, t, bad, hn, rfl, hr2, hnr⟩
  have HN := Lib.hid hnr
  have HS2 := Lib.hid (HS1.out.reads hr2 hg2)
  obtain ⟨pre, v, he, hT, hI⟩ := hr2
  have HI := Lib.hid hI
  obtain ⟨A, cp, rfl, i1, i2, _, _⟩ := hI
  have t0 := hT.c0
  have t1 := hT.c1
  have t2 := hT.c2
  have f2 := hT.fr 2
  have f1 := hT.fr 1
  have hal : all.length = pre.length + t.length := by rw [he]; simp
  have hal1 : all.length ≤ pre.length + t.length := by omega
  have hal2 : pre.length + t.length ≤ all.length := by omega
  have HE := Lib.hid he
  have HT := Lib.hid hT
  clear hg2 hnr hT he hal
  have q0 := HS2.out.four.c0
  have q1 := HS2.out.four.c1
  have q2 := HS2.out.four.c2
  have q3 := HS2.out.four.c3
  have k0 := HS2.out.four.f0 0
  have k1 := HS2.out.four.f0 1
  have k2 := HS2.out.four.f0 2
  have k3 := HS2.out.four.f0 3
  have hsub : IntKind.i64.wrap ((all.length : Int) - (pre.length : Int)) = (t.length : Int) := by rw [IntKind.wrap_i64]; omega
  have hu : IntKind.u64.wrap (t.length : Int) = (t.length : Int) := by rw [IntKind.wrap_u64]; omega
  cases bad with
  | true =>
    have HX := Lib.hid (val2_bad (d := d) HC.out HN.out (.inl rfl))
    go_wp2_with (fail)
    go_quiet (fail)
    clear hsub hu
    clear q0 q1 q2 q3 k0 k1 k2 k3
    have HB := Lib.hid ((HS2.out.drewN nq).bad hbh true)
    have q0 := HB.out.four.c0
    have q1 := HB.out.four.c1
    have q2 := HB.out.four.c2
    have q3 := HB.out.four.c3
    have k0 := HB.out.four.f0 0
    have k1 := HB.out.four.f0 1
    have k2 := HB.out.four.f0 2
    have k3 := HB.out.four.f0 3
    go_wp2_with (fail)
    clear q0 q1 q2 q3 k0 k1 k2 k3
    have HB2 := Lib.hid (HB.out.set4 hbh (.int .i64 0) (.int .i64 0) (.string ⟨#[]⟩) (.slice none 0 0))
    have q0 := HB2.out.four.c0
    have q1 := HB2.out.four.c1
    have q2 := HB2.out.four.c2
    have q3 := HB2.out.four.c3
    have k0 := HB2.out.four.f0 0
    have k1 := HB2.out.four.f0 1
    have k2 := HB2.out.four.f0 2
    have k3 := HB2.out.four.f0 3
    refine ⟨rfl, V0, ?_, HB2.out.gr, ?_⟩
    · simp [results, Try.results34, go_sem, q0, q1, q2, q3]
    · rw [HX.out]
      exact ⟨_, .mk 0 0 ByteArray.empty [], t, true, rfl, IsV.of IsVs.nil, HB2.out.rd, rfl⟩
  | false =>
    by_cases hle : n ≤ t.length
    · have HX := Lib.hid (val2_ok (d := d) HC.out HN.out hle)
      have hd : decide ((t.length : Int) < (n : Int)) = false := by simp; omega
      have hd' : decide (t.length < n) = false := by simp; omega
      go_wp2_with (fail)
      go_quiet (fail)
      clear hsub hu
      have hw1 : IntKind.i64.wrap (n : Int) = (n : Int) := by rw [IntKind.wrap_i64]; omega
      obtain ⟨A', hsl, hin⟩ := slice_in (pre := pre.length) (n := n) HI.out (by omega)
      have hdr : (all.drop pre.length).take n = t.take n := by rw [HE.out]; simp
      rw [hdr] at hin
      clear hdr
      have T1 := Lib.hid (HT.out.set1 (.int .i64 ((pre.length : Int) + (n : Int))))
      have hin2 := Lib.hid (inB_setAt hin hbh HT.out.lt 1 (.int .i64 ((pre.length : Int) + (n : Int))))
      have S1 := Lib.hid (Sr.reads (HS2.out.drewN nq) (X' := (w2.drewN nq).setCell ⟨h, 1, none⟩ (.int .i64 ((pre.length : Int) + (n : Int)))) (t := t.drop n) (bad' := false)
        ⟨pre ++ t.take n, _, by rw [HE.out]; simp, by
          rw [show (((pre ++ t.take n).length : Nat) : Int) = (pre.length : Int) + (n : Int) by simp; omega]
          exact T1.out, inB_setAt HI.out hbh HT.out.lt 1 _⟩ (grown_setAt _ h 1 _))
      clear hin
      go_wp2_with (fail)
      clear q0 q1 q2 q3 k0 k1 k2 k3 t0 t1 t2
      generalize hX : (w2.drewN nq).setCell ⟨h, 1, none⟩ (.int .i64 ((pre.length : Int) + (n : Int))) = X at *
      have t0 : X.cell? ⟨h, 0, none⟩ = some (.slice A all.length cp) := by rw [← hX]; exact T1.out.c0
      have t1 : X.cell? ⟨h, 1, none⟩ = some (.int .i64 ((pre.length : Int) + (n : Int))) := by rw [← hX]; exact T1.out.c1
      have hIX : IsBytes X (.slice A' n (cp - pre.length)) (t.take n) := by rw [← hX]; exact hin2.out.bytes (Nat.le_trans hbh (Nat.le_of_lt T1.out.lt))
      clear hX T1 hin2 hw1
      have hcv := conv_str hIX
      have hcv1 := conv_str (show IsBytes X.drew (.slice A' n (cp - pre.length)) (t.take n) from hIX)
      have hcv2 := fun m => conv_str (show IsBytes (X.drewN m) (.slice A' n (cp - pre.length)) (t.take n) from hIX)
      have hw1 : IntKind.i64.wrap (n : Int) = (n : Int) := by rw [IntKind.wrap_i64]; omega
      have hw2 : IntKind.i64.wrap ((pre.length : Int) + (n : Int) - (n : Int)) = (pre.length : Int) := by rw [IntKind.wrap_i64]; omega
      have hw3 : IntKind.i64.wrap (pre.length : Int) = (pre.length : Int) := by rw [IntKind.wrap_i64]; omega
      clear hIX
      have q0 := S1.out.four.c0
      have q1 := S1.out.four.c1
      have q2 := S1.out.four.c2
      have q3 := S1.out.four.c3
      have k0 := S1.out.four.f0 0
      have k1 := S1.out.four.f0 1
      have k2 := S1.out.four.f0 2
      have k3 := S1.out.four.f0 3
      have hsa : ∀ W : World, (Instr.sliceAt 27 (.slice A all.length cp) (some (.int .i64 (pre.length : Int))) (some (.int .i64 ((pre.length : Int) + (n : Int)))) none).run Try.prog W = .ok (.slice A' n (cp - pre.length)) W := fun W => (run_sliceAt_slice W 27 _ _ _ _ (by kernel_rfl)).trans (hsl W)
      clear hsl
      go_still_tail 18, (by kernel_rfl)
      go_wp2_with (fail)
      have HS3 := Lib.hid (Sr.drew (S1.out.set4 hbh (.int .i64 2) (.int .i64 0) (.string ⟨(t.take n).toArray⟩) (.slice none 0 0)))
      clear q0 q1 q2 q3 k0 k1 k2 k3
      have h0 := HS3.out.four.c0
      have h1 := HS3.out.four.c1
      have h2 := HS3.out.four.c2
      have h3 := HS3.out.four.c3
      refine ⟨rfl, .agg #[.int .i64 2, .int .i64 0, .string ⟨(t.take n).toArray⟩, .slice none 0 0], ?_, HS3.out.gr, ?_⟩
      · simp [results, Try.results34, go_sem, h0, h1, h2, h3]
      · rw [HX.out]
        exact ⟨_, .mk 2 0 ⟨(t.take n).toArray⟩ [], t.drop n, false, rfl, IsV.of IsVs.nil, HS3.out.rd, rfl, rfl⟩
    · have HX := Lib.hid (val2_bad (d := d) HC.out HN.out (.inr (by omega)))
      have hd : decide ((t.length : Int) < (n : Int)) = true := by simp; omega
      have hd' : decide (t.length < n) = true := by simp; omega
      go_wp2_with (fail)
      go_quiet (fail)
      clear hsub hu
      clear q0 q1 q2 q3 k0 k1 k2 k3
      have HB := Lib.hid ((HS2.out.drewN nq).bad hbh true)
      have q0 := HB.out.four.c0
      have q1 := HB.out.four.c1
      have q2 := HB.out.four.c2
      have q3 := HB.out.four.c3
      have k0 := HB.out.four.f0 0
      have k1 := HB.out.four.f0 1
      have k2 := HB.out.four.f0 2
      have k3 := HB.out.four.f0 3
      go_wp2_with (fail)
      clear q0 q1 q2 q3 k0 k1 k2 k3
      have HB2 := Lib.hid (HB.out.set4 hbh (.int .i64 0) (.int .i64 0) (.string ⟨#[]⟩) (.slice none 0 0))
      have q0 := HB2.out.four.c0
      have q1 := HB2.out.four.c1
      have q2 := HB2.out.four.c2
      have q3 := HB2.out.four.c3
      have k0 := HB2.out.four.f0 0
      have k1 := HB2.out.four.f0 1
      have k2 := HB2.out.four.f0 2
      have k3 := HB2.out.four.f0 3
      refine ⟨rfl, V0, ?_, HB2.out.gr, ?_⟩
      · simp [results, Try.results34, go_sem, q0, q1, q2, q3]
      · rw [HX.out]
        exact ⟨_, .mk 0 0 ByteArray.empty [], t, true, rfl, IsV.of IsVs.nil, HB2.out.rd, rfl⟩

end Go.Proofs.Ytnnddmhimnekaaa
