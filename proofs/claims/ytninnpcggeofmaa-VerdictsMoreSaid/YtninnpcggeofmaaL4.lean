/- The statement VerdictsKnown, walked. -/
import Derived.Test.YtninnpcggeofmaaPlain4
import Derived.Test.YtninnpcggeofmaaL2
namespace Go.Proofs.Ytninnpcggeofmaa
open Go.RowKit
set_option linter.unusedVariables false
set_option linter.unusedSimpArgs false
attribute [local go_sem] frozen_new

theorem Add_is {v : Value} {l : List Hh} {x : Hh} {c : Int} {w : World} (h : Hh.addE l x = c) (hv : IsHs w v l) (hl : l.length ≤ 9223372036854775807) : Calls Try.prog 16 #[v, vH x] w fun e w' => ∃ v', e = .returned (.tuple #[v', .int .i64 c]) ∧ OwnHs w' w.heap.size v' (Hh.addL l x) ∧ Below w.heap.size w w' := by
  subst h; exact Add_any v l x w hv hl
set_option maxHeartbeats 8000000 in
set_option maxRecDepth 100000 in
theorem VerdictsKnown_any (v : Value) (l : List Hh) (x : Hh) (q : Hh.Qq) (w : World) (hv : IsHs w v l) (hl : l.length ≤ 9223372036854775807) : Calls Try.prog 12 #[v, vH x, askV q] w fun e w' => e = .returned (.bool true) ∧ Below w.heap.size w w' := by
  have HV := Lib.hid hv
  obtain ⟨A, cap, rfl, hrow⟩ := id hv
  clear hrow hv
  have HX0 := Lib.hid ((BoxH.new w x).upb (al1 (w.alloc (.cells #[.int .i64 x.no, .int .i64 x.kind, .int .i64 x.spk, .int .i64 x.fst, .int .i64 x.lst, .int .i64 x.lang, .int .i64 x.frm, .int .i64 x.unt, .int .i64 x.known, .int .i64 x.ms] 24)) (.cells #[.int .i64 q.spk, .int .i64 q.beg, .int .i64 q.lang, .int .i64 q.at_, .int .i64 q.known] 48)))
  have HA0' := BoxA.new (w.alloc (.cells #[.int .i64 x.no, .int .i64 x.kind, .int .i64 x.spk, .int .i64 x.fst, .int .i64 x.lst, .int .i64 x.lang, .int .i64 x.frm, .int .i64 x.unt, .int .i64 x.known, .int .i64 x.ms] 24)) q
  simp only [World.size_alloc] at HA0'
  have HA0 := Lib.hid HA0'
  have HB0 := Lib.hid ((al1 w (.cells #[.int .i64 x.no, .int .i64 x.kind, .int .i64 x.spk, .int .i64 x.fst, .int .i64 x.lst, .int .i64 x.lang, .int .i64 x.frm, .int .i64 x.unt, .int .i64 x.known, .int .i64 x.ms] 24)).up (al1 (w.alloc (.cells #[.int .i64 x.no, .int .i64 x.kind, .int .i64 x.spk, .int .i64 x.fst, .int .i64 x.lst, .int .i64 x.lang, .int .i64 x.frm, .int .i64 x.unt, .int .i64 x.known, .int .i64 x.ms] 24)) (.cells #[.int .i64 q.spk, .int .i64 q.beg, .int .i64 q.lang, .int .i64 q.at_, .int .i64 q.known] 48)))
  have haa : askV q = askV q := rfl
  have hxx : vH x = vH x := rfl
  unfold askV vH
  clear haa hxx HA0'
  go_enter Try.func12, Try.ntmps12
  go_wp2_with (fail)
  refine (sane36_any _).mono ?_
  rintro e w1 ⟨rfl, b1⟩
  have HB := Lib.hid (HB0.out.up b1)
  have HA := Lib.hid (HA0.out.upb b1)
  have HX := Lib.hid (HX0.out.upb b1)
  clear b1 HB0 HA0 HX0
  have q0 := HA.out.c0
  have q1 := HA.out.c1
  have q2 := HA.out.c2
  have q3 := HA.out.c3
  have q4 := HA.out.c4
  go_wp2_with (fail)
  cases hrg : rgB l q
  · refine (right36_is (q := q) hrg (HV.out.upb HB.out) hl).mono ?_
    rintro e w2 ⟨rfl, b2⟩
    go_wp2_with (fail)
    go_ret
    exact ⟨rfl, HB.out.up b2⟩
  refine (right36_is (q := q) hrg (HV.out.upb HB.out) hl).mono ?_
  rintro e w2 ⟨rfl, b2⟩
  obtain ⟨h30, he, hask, harg, hinc⟩ := rgB_t hrg
  have HB2 := Lib.hid (HB.out.up b2)
  have HA2 := Lib.hid (HA.out.upb b2)
  have HX2 := Lib.hid (HX.out.upb b2)
  have he0 : (Hh.ver l q).e = 0 := (ver_reason he hask).1
  have HE0 := Lib.hid he0
  clear b2 HB HA HX q0 q1 q2 q3 q4 hrg he hask harg hinc he0
  have q0 := HA2.out.c0
  have q1 := HA2.out.c1
  have q2 := HA2.out.c2
  have q3 := HA2.out.c3
  have q4 := HA2.out.c4
  have x0 := HX2.out.c0
  have x1 := HX2.out.c1
  have x2 := HX2.out.c2
  have x3 := HX2.out.c3
  have x4 := HX2.out.c4
  have x5 := HX2.out.c5
  have x6 := HX2.out.c6
  have x7 := HX2.out.c7
  have x8 := HX2.out.c8
  have x9 := HX2.out.c9
  go_wp2_with (fail)
  obtain ⟨c, hc⟩ : ∃ c, Hh.addE l x = c := ⟨_, rfl⟩
  refine (Add_is hc (HV.out.upb HB2.out) hl).mono ?_
  rintro e w3 ⟨v', rfl, ho3, b3⟩
  have HB3 := Lib.hid (HB2.out.up b3)
  have HA3 := Lib.hid (HA2.out.upb b3)
  have HX3 := Lib.hid (HX2.out.upb b3)
  have HO3 := Lib.hid ho3.hs
  have HC := Lib.hid hc
  clear b3 ho3 hc HB2 HA2 HX2 q0 q1 q2 q3 q4 x0 x1 x2 x3 x4 x5 x6 x7 x8 x9
  have q0 := HA3.out.c0
  have q1 := HA3.out.c1
  have q2 := HA3.out.c2
  have q3 := HA3.out.c3
  have q4 := HA3.out.c4
  have x8 := HX3.out.c8
  by_cases hcz : c = 0
  rotate_left
  · have d0 : (c == 0) = false := by simpa using hcz
    have d1 : (c != 0) = true := by simpa using hcz
    go_wp2_with (fail)
    go_ret
    exact ⟨rfl, HB3.out⟩
  subst hcz
  cases dk : decide (x.known ≤ q.known)
  rotate_left
  · go_wp2_with (fail)
    go_ret
    exact ⟨rfl, HB3.out⟩
  have hk : q.known < x.known := by simpa using dk
  have hc0 : Hh.addE l x = 0 := by exact HC.out
  have hadd : Hh.addL l x = Hh.ins l x := by unfold Hh.addL; rw [if_pos hc0]
  have hve := ver_ins_no (q := q) hc0 hk
  have hil : (Hh.ins l x).length ≤ 9223372036854775807 := by have := (err_zero (err_ins hc0)).1; omega
  obtain ⟨a, ha⟩ : ∃ a, (Hh.ver l q).v = a := ⟨_, rfl⟩
  obtain ⟨b, hb⟩ : ∃ b, (Hh.ver l q).no = b := ⟨_, rfl⟩
  have HVC := Lib.hid (fun (W : World) (hv : IsHs W (.slice A l.length cap) l) => verdict36_any _ l q W hv hl ⟨ha, hb, HE0.out⟩)
  have HVD := Lib.hid (fun (W : World) (hv : IsHs W v' (Hh.ins l x)) => verdict36_any v' (Hh.ins l x) q W hv hil (a := a) (b := b) (by rw [hve]; exact ⟨ha, hb, HE0.out⟩))
  have HO4 := Lib.hid (show IsHs w3 v' (Hh.ins l x) from hadd ▸ HO3.out)
  obtain ⟨A2, c2, rfl, _⟩ := id HO4.out
  clear hk hc0 hadd hve hil ha hb HO3 HC
  go_wp2_with (fail)
  refine (HVC.out _ (HV.out.upb HB3.out)).mono ?_
  rintro e w4 ⟨rfl, b4⟩
  have HB4 := Lib.hid (HB3.out.up b4)
  have HA4 := Lib.hid (HA3.out.upb b4)
  have HO5 := Lib.hid (HO4.out.upb b4)
  clear b4 q0 q1 q2 q3 q4 x8 HB3 HA3 HX3 HO4 HVC
  have q0 := HA4.out.c0
  have q1 := HA4.out.c1
  have q2 := HA4.out.c2
  have q3 := HA4.out.c3
  have q4 := HA4.out.c4
  go_wp2_with (fail)
  refine (HVD.out _ HO5.out).mono ?_
  rintro e w5 ⟨rfl, b5⟩
  have HB5 := Lib.hid (HB4.out.up b5)
  clear b5 q0 q1 q2 q3 q4
  go_wp2_with (fail)
  go_ret
  exact ⟨rfl, HB5.out⟩
end Go.Proofs.Ytninnpcggeofmaa
