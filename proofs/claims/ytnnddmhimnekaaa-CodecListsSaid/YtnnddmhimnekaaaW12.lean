/- Walk of value: texts, and what is no value. -/
import Derived.Test.YtnnddmhimnekaaaW11
import Derived.Laws.IdiomStrings
namespace Go.Proofs.Ytnnddmhimnekaaa
open Go.RowKit
set_option linter.unusedVariables false
set_option linter.unusedSimpArgs false

theorem conv_str {X : World} {A : Option Addr} {n c : Nat} {bs : List UInt8} (h : IsBytes X (.slice A n c) bs) : (convert 27 9 (.slice A n c)).run Try.prog X = .ok (.string ⟨bs.toArray⟩) X := by
  obtain ⟨A', c', e, hr⟩ := h
  injection e with e1 e2 e3
  subst e1 e2 e3
  cases A with
  | none =>
    have h0 : bs = [] := by
      cases bs with
      | nil => rfl
      | cons b r =>
        obtain ⟨b', off, e, _⟩ := hr.at_ (k := 0) (by simp)
        cases e
    subst h0
    show (convert 27 9 (.slice none 0 c)).run Try.prog X = _
    rw [run_convert_bytes_string X 27 9 5 none 0 c Try.underlying27 Try.underlying5 Try.underlying9]
    rfl
  | some a =>
    refine run_convert_bytes_back X 27 9 5 a c bs Try.underlying27 Try.underlying5 Try.underlying9 (fun j hj => ?_)
    obtain ⟨b', off, e, _, hc⟩ := hr.at_ (k := j) (by simpa using hj)
    injection e with e
    subst e
    have hadd : (⟨b', off, none⟩ : Addr).add j = ⟨b', off + j, none⟩ := by unfold Addr.add; split <;> simp_all
    rw [hadd]
    simpa [encB] using hc

theorem lenD_le {bs : List UInt8} {n : Nat} {r : List UInt8} (h : Cd.lenD bs = some (n, r)) : n ≤ r.length := by
  unfold Cd.lenD at h
  split at h
  · split at h
    · simp only [Option.some.injEq, Prod.mk.injEq] at h
      obtain ⟨rfl, rfl⟩ := h
      assumption
    · cases h
  · cases h

set_option maxRecDepth 100000 in
set_option maxHeartbeats 4000000 in
theorem value_2 (base h d : Nat) (dp : Int) (c : UInt8) (bs : List UInt8) (w : World) (hr : Rd base h w (c :: bs)) (hbh : base ≤ h) (hc : c.toNat = 2) :
    Calls Try.prog 32 #[.pointer (some ⟨h, 0, none⟩), .int .i64 dp] w (VPost base h w (Cd.valD d (c :: bs))) := by
  have HS := Lib.hid (St.start hr hbh (.int .i64 0) (.int .i64 0) (.string ByteArray.empty) (.slice none 0 0))
  clear hr
  go_enter Try.func32, Try.ntmps32
  go_wp2_with (fail)
  refine (take_yes 1 base h (c :: bs) _ HS.out.rd hbh (by simp)).mono ?_
  rintro e w1 ⟨A1, rfl, hi1, hr1, hg1⟩
  obtain ⟨b1, off1, rfl, hb1, hc1⟩ := hi1.at_ (k := 0) (by simp)
  simp only [Nat.add_zero, List.take_succ_cons, List.getElem_cons_zero, hc] at hc1
  have HS1 := Lib.hid (HS.out.reads hr1 hg1)
  have hf := HS1.out.four.f0 0
  have h0 := HS1.out.four.c0
  clear hi1 hr1 hg1
  have HS2 := Lib.hid (HS1.out.set0 hbh (.int .i64 2))
  have HN := Lib.hid (length_any base h bs _ HS2.out.rd hbh)
  have HD := Lib.hid (valD_2 d c bs hc)
  cases hnum : Cd.lenD bs with
  | none =>
    rw [hnum] at HN HD
    go_wp2_with (fail)
    refine HN.out.mono ?_
    rintro e w2 ⟨hg2, he2⟩
    simp only at he2
    subst he2
    go_wp2_with (fail)
    refine ⟨rfl, HS2.out.gr.trans hg2, ?_⟩
    rw [HD.out]
  | some p =>
    obtain ⟨n, t⟩ := p
    have hle := lenD_le hnum
    rw [hnum] at HN HD
    go_wp2_with (fail)
    refine HN.out.mono ?_
    rintro e w2 ⟨hg2, he2, hr2⟩
    subst he2
    have HS3 := Lib.hid (HS2.out.reads hr2 hg2)
    clear h0 hf hc1 hr2 hg2
    go_wp2_with (fail)
    refine (take_yes n base h t _ HS3.out.rd hbh hle).mono ?_
    rintro e w3 ⟨A3, rfl, hi3, hr3, hg3⟩
    have HS4 := Lib.hid (HS3.out.reads hr3 hg3)
    have hcv := conv_str (hi3.bytes (Nat.le_trans hbh (Nat.le_of_lt hr3.lt)))
    clear hi3 hr3 hg3
    have hf0 := HS4.out.four.f0 0
    have hf1 := HS4.out.four.f0 1
    have hf2 := HS4.out.four.f0 2
    have hf3 := HS4.out.four.f0 3
    have h0 := HS4.out.four.c0
    have h1 := HS4.out.four.c1
    have h2 := HS4.out.four.c2
    have h3 := HS4.out.four.c3
    have HS5 := Lib.hid ((((((HS4.out.set2 hbh (.string ⟨(t.take n).toArray⟩)).set0 hbh (.int .i64 2)).set1 hbh (.int .i64 0)).set2 hbh (.string ⟨(t.take n).toArray⟩)).set3 hbh (.slice none 0 0)))
    go_wp2_with (fail)
    clear HS HS1 HS2 HS3 HS4 HN h0 h1 h2 h3 hf0 hf1 hf2 hf3
    have h0 := HS5.out.four.c0
    have h1 := HS5.out.four.c1
    have h2 := HS5.out.four.c2
    have h3 := HS5.out.four.c3
    refine ⟨rfl, .agg #[.int .i64 2, .int .i64 0, .string ⟨(t.take n).toArray⟩, .slice none 0 0], ?_, HS5.out.gr, ?_⟩
    · simp [results, Try.results32, go_sem, h0, h1, h2, h3]
    · rw [HD.out]
      exact ⟨_, rfl, IsV.of IsVs.nil, HS5.out.rd⟩

set_option maxRecDepth 100000 in
set_option maxHeartbeats 4000000 in
theorem value_x (base h d : Nat) (dp : Int) (c : UInt8) (bs : List UInt8) (w : World) (hr : Rd base h w (c :: bs)) (hbh : base ≤ h) (k1 : c.toNat ≠ 1) (k2 : c.toNat ≠ 2) (k3 : c.toNat ≠ 3) :
    Calls Try.prog 32 #[.pointer (some ⟨h, 0, none⟩), .int .i64 dp] w (VPost base h w (Cd.valD d (c :: bs))) := by
  have HS := Lib.hid (St.start hr hbh (.int .i64 0) (.int .i64 0) (.string ByteArray.empty) (.slice none 0 0))
  clear hr
  have HD := Lib.hid (valD_x d c bs k1 k2 k3)
  go_enter Try.func32, Try.ntmps32
  go_wp2_with (fail)
  refine (take_yes 1 base h (c :: bs) _ HS.out.rd hbh (by simp)).mono ?_
  rintro e w1 ⟨A1, rfl, hi1, hr1, hg1⟩
  obtain ⟨b1, off1, rfl, hb1, hc1⟩ := hi1.at_ (k := 0) (by simp)
  simp only [Nat.add_zero, List.take_succ_cons, List.getElem_cons_zero] at hc1
  have HS1 := Lib.hid (HS.out.reads hr1 hg1)
  have hf := HS1.out.four.f0 0
  have h0 := HS1.out.four.c0
  have hcl : c.toNat < 256 := c.toNat_lt
  generalize c.toNat = cn at *
  clear hi1 hr1 hg1
  have HS2 := Lib.hid (HS1.out.set0 hbh (.int .i64 cn))
  have e1 : ((cn : Int) == 1) = false := by simp; omega
  have e2 : ((cn : Int) == 2) = false := by simp; omega
  have e3 : ((cn : Int) == 3) = false := by simp; omega
  go_wp2_with (fail)
  refine (want_no _ _).mono ?_
  rintro e w2 ⟨rfl, rfl⟩
  go_wp2_with (fail)
  refine ⟨rfl, HS2.out.gr, ?_⟩
  rw [HD.out]

set_option maxRecDepth 100000 in
set_option maxHeartbeats 4000000 in
theorem value_30 (base h : Nat) (c : UInt8) (bs : List UInt8) (w : World) (hr : Rd base h w (c :: bs)) (hbh : base ≤ h) (hc : c.toNat = 3) :
    Calls Try.prog 32 #[.pointer (some ⟨h, 0, none⟩), .int .i64 16] w (VPost base h w (Cd.valD 0 (c :: bs))) := by
  have HS := Lib.hid (St.start hr hbh (.int .i64 0) (.int .i64 0) (.string ByteArray.empty) (.slice none 0 0))
  clear hr
  have HD := Lib.hid (valD_30 c bs hc)
  go_enter Try.func32, Try.ntmps32
  go_wp2_with (fail)
  refine (take_yes 1 base h (c :: bs) _ HS.out.rd hbh (by simp)).mono ?_
  rintro e w1 ⟨A1, rfl, hi1, hr1, hg1⟩
  obtain ⟨b1, off1, rfl, hb1, hc1⟩ := hi1.at_ (k := 0) (by simp)
  simp only [Nat.add_zero, List.take_succ_cons, List.getElem_cons_zero, hc] at hc1
  have HS1 := Lib.hid (HS.out.reads hr1 hg1)
  have hf := HS1.out.four.f0 0
  have h0 := HS1.out.four.c0
  clear hi1 hr1 hg1
  have HS2 := Lib.hid (HS1.out.set0 hbh (.int .i64 3))
  go_wp2_with (fail)
  refine (want_no _ _).mono ?_
  rintro e w2 ⟨rfl, rfl⟩
  go_wp2_with (fail)
  refine ⟨rfl, HS2.out.gr, ?_⟩
  rw [HD.out]

end Go.Proofs.Ytnnddmhimnekaaa
