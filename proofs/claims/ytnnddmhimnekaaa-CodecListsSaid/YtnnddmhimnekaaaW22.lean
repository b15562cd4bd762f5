/- Walk of the reference's Value: the state of a call, the end of the bytes, integers, other kinds. -/
import Derived.Test.YtnnddmhimnekaaaW21
import Derived.Test.YtnnddmhimnekaaaPlain5
namespace Go.Proofs.Ytnnddmhimnekaaa
open Go.RowKit
set_option linter.unusedVariables false
set_option linter.unusedSimpArgs false

/-- what was read of a number -/
def NumR (r : Option (Nat × List UInt8)) (n : Nat) (t : List UInt8) (bad : Bool) : Prop := match r with
  | some p => p = (n, t) ∧ bad = false
  | none => bad = true
def NuAny (base h : Nat) (w : World) (all : List UInt8) (r : Option (Nat × List UInt8)) (e : Ending) (w' : World) : Prop :=
  w.grownBy w' (some h) ∧ ∃ (n : Nat) (t : List UInt8) (bad : Bool), n < 18446744073709551616 ∧ e = .returned (.int .u64 (n : Int)) ∧ Rs base h w' all t bad ∧ NumR r n t bad
theorem refNumber_all (base h : Nat) (all bs : List UInt8) (w : World) (hr : Rs base h w all bs false) (hbh : base ≤ h) (hlen : all.length ≤ 1000000) :
    Calls Try.prog 49 #[.pointer (some ⟨h, 0, none⟩)] w (NuAny base h w all (Cd.numD 0 0 bs)) := by
  refine (refNumber_any base h all bs w hr hbh hlen).mono ?_
  rintro e w' ⟨hg, hm⟩
  refine ⟨hg, ?_⟩
  cases hn : Cd.numD 0 0 bs with
  | none =>
    rw [hn] at hm
    obtain ⟨n, t, h1, h2, h3⟩ := hm
    exact ⟨n, t, true, h1, h2, h3, rfl⟩
  | some p =>
    obtain ⟨n, t⟩ := p
    rw [hn] at hm
    exact ⟨n, t, false, (Cd.numD_bd hn (by omega) (by decide)).1, hm.1, hm.2, rfl, rfl⟩

/-- in a call of Value -/
structure Sr (base h : Nat) (w X : World) (a b c d : Value) (all bs : List UInt8) (bad : Bool) : Prop where
  four : Four X w.heap.size a b c d
  rd : Rs base h X all bs bad
  gr : w.grownBy X (some h)
  hl : h < w.heap.size
theorem Sr.start {base h : Nat} {w : World} {all bs : List UInt8} {bad : Bool} (k : Rs base h w all bs bad) (hbh : base ≤ h) (a b c d : Value) : Sr base h w (w.alloc (.cells #[a, b, c, d] 24)) a b c d all bs bad :=
  ⟨Four.new w a b c d, k.under hbh (blw1 w _), World.grownBy_alloc w _ _, k.lt⟩
theorem Sr.reads {base h : Nat} {w X X' : World} {a b c d : Value} {all bs t : List UInt8} {bad bad' : Bool} (k : Sr base h w X a b c d all bs bad) (hr : Rs base h X' all t bad') (hg : X.grownBy X' (some h)) : Sr base h w X' a b c d all t bad' :=
  ⟨(hg.block w.heap.size k.four.lt (fun e => by have := k.hl; injection e; omega)).trans k.four, hr, k.gr.trans hg, k.hl⟩
theorem grown_set4New {w X : World} {r : Option Nat} (k : w.grownBy X r) (x0 x1 x2 x3 : Value) : w.grownBy ((((X.setCell ⟨w.heap.size, 0, none⟩ x0).setCell ⟨w.heap.size, 1, none⟩ x1).setCell ⟨w.heap.size, 2, none⟩ x2).setCell ⟨w.heap.size, 3, none⟩ x3) r :=
  grown_setNew (grown_setNew (grown_setNew (grown_setNew k 0 x0) 1 x1) 2 x2) 3 x3
theorem Sr.set4 {base h : Nat} {w X : World} {a b c d : Value} {all bs : List UInt8} {bad : Bool} (k : Sr base h w X a b c d all bs bad) (hbh : base ≤ h) (x0 x1 x2 x3 : Value) :
    Sr base h w ((((X.setCell ⟨w.heap.size, 0, none⟩ x0).setCell ⟨w.heap.size, 1, none⟩ x1).setCell ⟨w.heap.size, 2, none⟩ x2).setCell ⟨w.heap.size, 3, none⟩ x3) x0 x1 x2 x3 all bs bad :=
  ⟨k.four.set4 x0 x1 x2 x3, k.rd.grows hbh (grown_set4 X w.heap.size x0 x1 x2 x3) (fun g e => by injection e with e; have := k.hl; omega), grown_set4New k.gr x0 x1 x2 x3, k.hl⟩
theorem Sr.bad {base h : Nat} {w X : World} {a b c d : Value} {all bs : List UInt8} {bad : Bool} (k : Sr base h w X a b c d all bs bad) (hbh : base ≤ h) (x : Bool) : Sr base h w (X.setCell ⟨h, 2, none⟩ (.bool x)) a b c d all bs x :=
  k.reads (k.rd.bad hbh x) (grown_setAt X h 2 _)
theorem Sr.drewN {base h : Nat} {w X : World} {a b c d : Value} {all bs : List UInt8} {bad : Bool} (k : Sr base h w X a b c d all bs bad) (n : Nat) : Sr base h w (X.drewN n) a b c d all bs bad := ⟨k.four, k.rd, grown_drewN k.gr n, k.hl⟩
theorem Sr.drew {base h : Nat} {w X : World} {a b c d : Value} {all bs : List UInt8} {bad : Bool} (k : Sr base h w X a b c d all bs bad) : Sr base h w X.drew a b c d all bs bad := ⟨k.four, k.rd, ⟨k.gr.os, k.gr.tape, k.gr.output, k.gr.size, k.gr.block⟩, k.hl⟩

def WPost (base h : Nat) (w : World) (all : List UInt8) (r : Option (Cd.Vl × List UInt8)) (e : Ending) (w' : World) : Prop :=
  w.grownBy w' (some h) ∧ ∃ v x t bad, e = .returned v ∧ IsV (fun b => w.heap.size ≤ b) w' v x ∧ Rs base h w' all t bad ∧ match r with
    | some p => p = (x, t) ∧ bad = false
    | none => bad = true

theorem next_is (base h : Nat) (all : List UInt8) (ch : UInt8) (n : Int) (hc : (ch.toNat : Int) = n) (bs : List UInt8) (bad : Bool) (w : World) (hr : Rs base h w all (ch :: bs) bad) (hbh : base ≤ h) (hlen : all.length ≤ 1000000) :
    Calls Try.prog 48 #[.pointer (some ⟨h, 0, none⟩)] w fun e w' => e = .returned (.int .u8 n) ∧ Rs base h w' all bs bad ∧ w.grownBy w' (some h) := by
  subst hc
  exact next_cons base h all ch bs bad w hr hbh hlen

abbrev V0 : Value := .agg #[.int .i64 0, .int .i64 0, .string ⟨#[]⟩, .slice none 0 0]

set_option maxRecDepth 100000 in
set_option maxHeartbeats 4000000 in
theorem rvalue_nil (base h d : Nat) (dp : Int) (all : List UInt8) (w : World) (hr : Rs base h w all [] false) (hbh : base ≤ h) (hlen : all.length ≤ 1000000) :
    Calls Try.prog 34 #[.pointer (some ⟨h, 0, none⟩), .int .i64 dp] w (WPost base h w all (Cd.valD d [])) := by
  have HS := Lib.hid (Sr.start hr hbh (.int .i64 0) (.int .i64 0) (.string ByteArray.empty) (.slice none 0 0))
  have HD := Lib.hid (show Cd.valD d [] = none by rw [Cd.valD.eq_def])
  clear hr
  go_enter Try.func34, Try.ntmps34
  go_wp2_with (fail)
  refine (next_nil base h all false _ HS.out.rd hbh hlen).mono ?_
  rintro e w1 ⟨rfl, hr1, hg1⟩
  have HS1 := Lib.hid (HS.out.reads hr1 hg1)
  have hc2 := hr1.c2
  have f2 := hr1.f2 2
  clear hr1 hg1
  have HS2 := Lib.hid (HS1.out.bad hbh true)
  have h0 := HS2.out.four.c0
  have h1 := HS2.out.four.c1
  have h2 := HS2.out.four.c2
  have h3 := HS2.out.four.c3
  have k0 := HS2.out.four.f0 0
  have k1 := HS2.out.four.f0 1
  have k2 := HS2.out.four.f0 2
  have k3 := HS2.out.four.f0 3
  go_wp2_with (fail)
  have HS3 := Lib.hid (HS2.out.set4 hbh (.int .i64 0) (.int .i64 0) (.string ⟨#[]⟩) (.slice none 0 0))
  clear h0 h1 h2 h3 k0 k1 k2 k3 hc2 f2
  have h0 := HS3.out.four.c0
  have h1 := HS3.out.four.c1
  have h2 := HS3.out.four.c2
  have h3 := HS3.out.four.c3
  refine ⟨rfl, V0, ?_, HS3.out.gr, ?_⟩
  · simp [results, Try.results34, go_sem, h0, h1, h2, h3]
  · rw [HD.out]
    exact ⟨_, .mk 0 0 ByteArray.empty [], [], true, rfl, IsV.of IsVs.nil, HS3.out.rd, rfl⟩

set_option maxRecDepth 100000 in
set_option maxHeartbeats 4000000 in
theorem rvalue_x (base h d : Nat) (dp : Int) (all : List UInt8) (c : UInt8) (bs : List UInt8) (w : World) (hr : Rs base h w all (c :: bs) false) (hbh : base ≤ h) (hlen : all.length ≤ 1000000) (k1 : c.toNat ≠ 1) (k2 : c.toNat ≠ 2) (k3 : c.toNat ≠ 3) :
    Calls Try.prog 34 #[.pointer (some ⟨h, 0, none⟩), .int .i64 dp] w (WPost base h w all (Cd.valD d (c :: bs))) := by
  have HS := Lib.hid (Sr.start hr hbh (.int .i64 0) (.int .i64 0) (.string ByteArray.empty) (.slice none 0 0))
  have HD := Lib.hid (Cd.valD_d d c bs k1 k2 k3)
  have b1 : ((c.toNat : Int) == 1) = false := by rw [beq_eq_false_iff_ne]; omega
  have b2 : ((c.toNat : Int) == 2) = false := by rw [beq_eq_false_iff_ne]; omega
  have b3 : ((c.toNat : Int) == 3) = false := by rw [beq_eq_false_iff_ne]; omega
  clear hr k1 k2 k3
  go_enter Try.func34, Try.ntmps34
  go_wp2_with (fail)
  refine (next_cons base h all c bs false _ HS.out.rd hbh hlen).mono ?_
  rintro e w1 ⟨rfl, hr1, hg1⟩
  have HS1 := Lib.hid (HS.out.reads hr1 hg1)
  have hc2 := hr1.c2
  have f2 := hr1.f2 2
  clear hr1 hg1
  have HS2 := Lib.hid (HS1.out.bad hbh true)
  have h0 := HS2.out.four.c0
  have h1 := HS2.out.four.c1
  have h2 := HS2.out.four.c2
  have h3 := HS2.out.four.c3
  have k0 := HS2.out.four.f0 0
  have k1 := HS2.out.four.f0 1
  have k2 := HS2.out.four.f0 2
  have k3 := HS2.out.four.f0 3
  go_wp2_with (fail)
  have HS3 := Lib.hid (HS2.out.set4 hbh (.int .i64 0) (.int .i64 0) (.string ⟨#[]⟩) (.slice none 0 0))
  clear h0 h1 h2 h3 k0 k1 k2 k3 hc2 f2
  have h0 := HS3.out.four.c0
  have h1 := HS3.out.four.c1
  have h2 := HS3.out.four.c2
  have h3 := HS3.out.four.c3
  refine ⟨rfl, V0, ?_, HS3.out.gr, ?_⟩
  · simp [results, Try.results34, go_sem, h0, h1, h2, h3]
  · rw [HD.out]
    exact ⟨_, .mk 0 0 ByteArray.empty [], bs, true, rfl, IsV.of IsVs.nil, HS3.out.rd, rfl⟩

theorem val1 {d : Nat} {c : UInt8} {bs : List UInt8} (hc : c.toNat = 1) {n : Nat} {t : List UInt8} {bad : Bool} (h : NumR (Cd.numD 0 0 bs) n t bad) : match Cd.valD d (c :: bs) with
    | some p => p = (.mk 1 (Cd.sgnD n) ByteArray.empty [], t) ∧ bad = false
    | none => bad = true := by
  rw [Cd.valD_a d c bs hc]
  unfold NumR at h
  cases hn : Cd.numD 0 0 bs with
  | none => rw [hn] at h; exact h
  | some p =>
    rw [hn] at h
    obtain ⟨rfl, rfl⟩ := h
    exact ⟨rfl, rfl⟩

set_option maxRecDepth 100000 in
set_option maxHeartbeats 4000000 in
theorem rvalue_1 (base h d : Nat) (dp : Int) (all : List UInt8) (c : UInt8) (bs : List UInt8) (w : World) (hr : Rs base h w all (c :: bs) false) (hbh : base ≤ h) (hlen : all.length ≤ 1000000) (hc : c.toNat = 1) :
    Calls Try.prog 34 #[.pointer (some ⟨h, 0, none⟩), .int .i64 dp] w (WPost base h w all (Cd.valD d (c :: bs))) := by
  have HS := Lib.hid (Sr.start hr hbh (.int .i64 0) (.int .i64 0) (.string ByteArray.empty) (.slice none 0 0))
  have HV := Lib.hid (fun n t bad => val1 (d := d) (bs := bs) hc (n := n) (t := t) (bad := bad))
  clear hr
  go_enter Try.func34, Try.ntmps34
  go_wp2_with (fail)
  refine (next_is base h all c 1 (by omega) bs false _ HS.out.rd hbh hlen).mono ?_
  rintro e w1 ⟨rfl, hr1, hg1⟩
  have HS1 := Lib.hid (HS.out.reads hr1 hg1)
  clear hr1 hg1
  go_wp2_with (fail)
  refine (refNumber_all base h all bs _ HS1.out.rd hbh hlen).mono ?_
  rintro e w2 ⟨hg2, n, t, bad, hn, rfl, hr2, hnr⟩
  have HQ := Lib.hid (HV.out n t bad hnr)
  have HS2 := Lib.hid (HS1.out.reads hr2 hg2)
  clear hg2 hr2 hnr HV
  have h0 := HS2.out.four.c0
  have h1 := HS2.out.four.c1
  have h2 := HS2.out.four.c2
  have h3 := HS2.out.four.c3
  have k0 := HS2.out.four.f0 0
  have k1 := HS2.out.four.f0 1
  have k2 := HS2.out.four.f0 2
  have k3 := HS2.out.four.f0 3
  by_cases hp : n % 2 = 1
  · have hb : (((n : Int) % 2) == 1) = true := by rw [beq_iff_eq]; omega
    have HG := Lib.hid (show Cd.sgnD n = -((n : Int) / 2) - 1 by unfold Cd.sgnD; rw [if_neg (by omega)]; omega)
    go_wp2_with (fail)
    have HS3 := Lib.hid (HS2.out.set4 hbh (.int .i64 1) (.int .i64 (-((n : Int) / 2) - 1)) (.string ⟨#[]⟩) (.slice none 0 0))
    clear h0 h1 h2 h3 k0 k1 k2 k3
    have h0 := HS3.out.four.c0
    have h1 := HS3.out.four.c1
    have h2 := HS3.out.four.c2
    have h3 := HS3.out.four.c3
    refine ⟨rfl, .agg #[.int .i64 1, .int .i64 (-((n : Int) / 2) - 1), .string ⟨#[]⟩, .slice none 0 0], ?_, HS3.out.gr, ?_⟩
    · simp [results, Try.results34, go_sem, h0, h1, h2, h3]
    · exact ⟨_, .mk 1 (Cd.sgnD n) ByteArray.empty [], t, bad, rfl, by rw [HG.out]; exact IsV.of IsVs.nil, HS3.out.rd, HQ.out⟩
  · have hb : (((n : Int) % 2) == 1) = false := by rw [beq_eq_false_iff_ne]; omega
    have HG := Lib.hid (show Cd.sgnD n = (n : Int) / 2 by unfold Cd.sgnD; rw [if_pos (by omega)]; omega)
    go_wp2_with (fail)
    have HS3 := Lib.hid (HS2.out.set4 hbh (.int .i64 1) (.int .i64 ((n : Int) / 2)) (.string ⟨#[]⟩) (.slice none 0 0))
    clear h0 h1 h2 h3 k0 k1 k2 k3
    have h0 := HS3.out.four.c0
    have h1 := HS3.out.four.c1
    have h2 := HS3.out.four.c2
    have h3 := HS3.out.four.c3
    refine ⟨rfl, .agg #[.int .i64 1, .int .i64 ((n : Int) / 2), .string ⟨#[]⟩, .slice none 0 0], ?_, HS3.out.gr, ?_⟩
    · simp [results, Try.results34, go_sem, h0, h1, h2, h3]
    · exact ⟨_, .mk 1 (Cd.sgnD n) ByteArray.empty [], t, bad, rfl, by rw [HG.out]; exact IsV.of IsVs.nil, HS3.out.rd, HQ.out⟩

end Go.Proofs.Ytnnddmhimnekaaa
