/- Walk of DiskReads. -/
import Derived.Test.YtimpnpdhhhbmgaaL3
import Derived.Test.YtimpnpdhhhbmgaaPlain3
namespace Go.Proofs.Ytimpnpdhhhbmgaa
open Go.RowKit
set_option linter.unusedVariables false
set_option linter.unusedSimpArgs false

def r0c (r : Bool) : Prop := r = true

set_option maxHeartbeats 8000000 in
set_option maxRecDepth 100000 in
theorem DiskReads_any {d : Dk} {v u1 u2 : Value} {a o : Int} {b c : By} {w : World} (hv : IsD w v d) (hs : Small d) (hu1 : IsBytes w u1 b) (hu2 : IsBytes w u2 c) :
    Calls Try.prog 7 #[v, .int .i64 a, .int .i64 o, u1, u2] w fun e w' => e = .returned (.bool true) ∧ Below w.heap.size w w' := by
  have F3 := Lib.hid hv
  have FB := Lib.hid hu1
  have FC := Lib.hid hu2
  obtain ⟨A, c1, A2, c2, rfl, _, _⟩ := hv.open_
  obtain ⟨AB, cB, rfl, _⟩ := id hu1
  obtain ⟨AC, cC, rfl, _⟩ := id hu2
  have HL := Lib.hid hs
  clear hv hs hu1 hu2
  obtain ⟨x, hx⟩ : ∃ x, Dv.wr d a b = x := ⟨_, rfl⟩
  obtain ⟨e1, he1⟩ : ∃ x, Dv.wrE d a b = x := ⟨_, rfl⟩
  obtain ⟨o0, ho0⟩ : ∃ x, Dv.rd d o = x := ⟨_, rfl⟩
  obtain ⟨e0, he0⟩ : ∃ x, Dv.rdE d o = x := ⟨_, rfl⟩
  have HX := Lib.hid (And.intro he1 hx)
  have HO := Lib.hid (And.intro he0 ho0)
  clear hx he1 ho0 he0
  have HW := Lib.hid (Bl.mk (Below.refl w.heap.size w))
  replace F3 := Lib.hid (F3.out.upb (al1 (w) (.cells #[.slice A d.ss.length c1, .slice A2 d.ps.length c2, .int .i64 d.left, .bool d.st] 25)))
  replace FB := Lib.hid (FB.out.upb (al1 (w) (.cells #[.slice A d.ss.length c1, .slice A2 d.ps.length c2, .int .i64 d.left, .bool d.st] 25)))
  replace FC := Lib.hid (FC.out.upb (al1 (w) (.cells #[.slice A d.ss.length c1, .slice A2 d.ps.length c2, .int .i64 d.left, .bool d.st] 25)))
  replace HW := Lib.hid (HW.out.upb (al1 (w) (.cells #[.slice A d.ss.length c1, .slice A2 d.ps.length c2, .int .i64 d.left, .bool d.st] 25)))
  have Z3 := Lib.hid (Cells.new (w) 25 [.slice A d.ss.length c1, .slice A2 d.ps.length c2, .int .i64 d.left, .bool d.st])
  go_enter Try.func7, Try.ntmps7
  go_wp2_with (fail)
  refine (sane_any _).mono ?_
  rintro e w1 ⟨rfl, hb⟩
  replace F3 := Lib.hid (F3.out.upb hb)
  replace FB := Lib.hid (FB.out.upb hb)
  replace FC := Lib.hid (FC.out.upb hb)
  replace HW := Lib.hid (HW.out.upb hb)
  replace Z3 := Lib.hid (Z3.out.upb hb)
  clear hb
  have Z3l := Z3.out.lt
  have Z3c0 := Z3.out.cell (k := 0) rfl
  have Z3c1 := Z3.out.cell (k := 1) rfl
  have Z3c2 := Z3.out.cell (k := 2) rfl
  have Z3c3 := Z3.out.cell (k := 3) rfl
  go_wp2_with (fail)
  refine (Few_any F3.out HL.out.1 HL.out.2).mono ?_
  rintro e w2 ⟨⟨fb, rfl⟩, hb⟩
  replace F3 := Lib.hid (F3.out.upb hb)
  replace FB := Lib.hid (FB.out.upb hb)
  replace FC := Lib.hid (FC.out.upb hb)
  replace HW := Lib.hid (HW.out.upb hb)
  replace Z3 := Lib.hid (Z3.out.upb hb)
  clear hb
  clear Z3l Z3c0 Z3c1 Z3c2 Z3c3
  cases fb with
  | false =>
    go_wp2_with (fail)
    go_ret
    exact ⟨rfl, HW.out.b⟩
  | true =>
  by_cases hb1 : (128 : Int) < (b.length : Int)
  case pos =>
    have t1 : decide ((128 : Int) < (b.length : Int)) = true := decide_eq_true hb1
    clear hb1
    go_wp2_with (fail)
    go_ret
    exact ⟨rfl, HW.out.b⟩
  case neg =>
  have t1 : decide ((128 : Int) < (b.length : Int)) = false := decide_eq_false hb1
  by_cases hb2 : (128 : Int) < (c.length : Int)
  case pos =>
    have t2 : decide ((128 : Int) < (c.length : Int)) = true := decide_eq_true hb2
    clear hb1 hb2
    go_wp2_with (fail)
    go_ret
    exact ⟨rfl, HW.out.b⟩
  case neg =>
  have t2 : decide ((128 : Int) < (c.length : Int)) = false := decide_eq_false hb2
  have HLB := Lib.hid (show b.length ≤ 128 ∧ c.length ≤ 128 by omega)
  clear hb1 hb2
  have Z3l := Z3.out.lt
  have Z3c0 := Z3.out.cell (k := 0) rfl
  have Z3c1 := Z3.out.cell (k := 1) rfl
  have Z3c2 := Z3.out.cell (k := 2) rfl
  have Z3c3 := Z3.out.cell (k := 3) rfl
  go_wp2_with (fail)
  refine (Read_is F3.out (a := o) HO.out.1 HO.out.2).mono ?_
  rintro e w3 ⟨A4, c4, rfl, ho, hb⟩
  replace F3 := Lib.hid (F3.out.upb hb)
  replace FB := Lib.hid (FB.out.upb hb)
  replace FC := Lib.hid (FC.out.upb hb)
  replace HW := Lib.hid (HW.out.upb hb)
  replace Z3 := Lib.hid (Z3.out.upb hb)
  clear hb
  clear Z3l Z3c0 Z3c1 Z3c2 Z3c3
  have O0 := Lib.hid ho
  clear ho
  have Z3l := Z3.out.lt
  have Z3c0 := Z3.out.cell (k := 0) rfl
  have Z3c1 := Z3.out.cell (k := 1) rfl
  have Z3c2 := Z3.out.cell (k := 2) rfl
  have Z3c3 := Z3.out.cell (k := 3) rfl
  go_wp2_with (fail)
  refine (Write_is F3.out FB.out (a := a) HX.out.1 HX.out.2).mono ?_
  rintro e w4 ⟨A5, c5, B5, d5, rfl, hd, hb, _⟩
  replace F3 := Lib.hid (F3.out.upb hb)
  replace FB := Lib.hid (FB.out.upb hb)
  replace FC := Lib.hid (FC.out.upb hb)
  replace HW := Lib.hid (HW.out.upb hb)
  replace Z3 := Lib.hid (Z3.out.upb hb)
  replace O0 := Lib.hid (O0.out.upb hb)
  clear hb
  clear Z3l Z3c0 Z3c1 Z3c2 Z3c3
  have F5 := Lib.hid hd
  clear hd
  by_cases hz0 : e0 = 0
  case neg =>
    have hq : (e0 != 0) = true := by rw [bne_iff_ne]; exact hz0
    clear hz0
    go_wp2_with (fail)
    go_ret
    exact ⟨rfl, HW.out.b.up (al1 _ _)⟩
  case pos =>
  subst hz0
  by_cases hz1 : e1 = 0
  case neg =>
    have hq : (e1 != 0) = true := by rw [bne_iff_ne]; exact hz1
    clear hz1
    go_wp2_with (fail)
    go_ret
    exact ⟨rfl, HW.out.b.up (al1 _ _)⟩
  case pos =>
  subst hz1
  obtain ⟨o1, ho1⟩ : ∃ x', Dv.rd x o = x' := ⟨_, rfl⟩
  obtain ⟨o2, ho2⟩ : ∃ x', Dv.rd x a = x' := ⟨_, rfl⟩
  have HM := Lib.hid (show Dv.rdE x o = 0 ∧ Dv.rdE x a = 0 ∧ o2 = Dv.pad b ∧ (a ≠ o → o1 = o0) from by
    obtain ⟨q1, q2⟩ := HX.out
    have q3 := Dv.rd_mine q1
    rw [← ho1, ← ho2, ← HO.out.2, ← q2]
    exact ⟨by rw [Dv.rdE_wr q1]; exact HO.out.1, q3.1, q3.2, fun h => Dv.rd_other q1 h⟩)
  have HR1 := Lib.hid ho1
  have HR2 := Lib.hid ho2
  have HO2 := Lib.hid (show o2.length = 128 ∧ o2.take b.length = b by rw [HM.out.2.2.1]; exact ⟨Dv.pad_len HLB.out.1, Dv.pad_take b⟩)
  clear ho1 ho2
  have Z3l := Z3.out.lt
  have Z3c0 := Z3.out.cell (k := 0) rfl
  have Z3c1 := Z3.out.cell (k := 1) rfl
  have Z3c2 := Z3.out.cell (k := 2) rfl
  have Z3c3 := Z3.out.cell (k := 3) rfl
  go_wp2_with (fail)
  replace F3 := Lib.hid (F3.out.upb (al1 (w4) (.cells #[.slice A5 x.ss.length c5, .slice B5 x.ps.length d5, .int .i64 x.left, .bool x.st] 25)))
  replace FB := Lib.hid (FB.out.upb (al1 (w4) (.cells #[.slice A5 x.ss.length c5, .slice B5 x.ps.length d5, .int .i64 x.left, .bool x.st] 25)))
  replace FC := Lib.hid (FC.out.upb (al1 (w4) (.cells #[.slice A5 x.ss.length c5, .slice B5 x.ps.length d5, .int .i64 x.left, .bool x.st] 25)))
  replace HW := Lib.hid (HW.out.upb (al1 (w4) (.cells #[.slice A5 x.ss.length c5, .slice B5 x.ps.length d5, .int .i64 x.left, .bool x.st] 25)))
  replace Z3 := Lib.hid (Z3.out.upb (al1 (w4) (.cells #[.slice A5 x.ss.length c5, .slice B5 x.ps.length d5, .int .i64 x.left, .bool x.st] 25)))
  replace O0 := Lib.hid (O0.out.upb (al1 (w4) (.cells #[.slice A5 x.ss.length c5, .slice B5 x.ps.length d5, .int .i64 x.left, .bool x.st] 25)))
  replace F5 := Lib.hid (F5.out.upb (al1 (w4) (.cells #[.slice A5 x.ss.length c5, .slice B5 x.ps.length d5, .int .i64 x.left, .bool x.st] 25)))
  have Z5 := Lib.hid (Cells.new (w4) 25 [.slice A5 x.ss.length c5, .slice B5 x.ps.length d5, .int .i64 x.left, .bool x.st])
  refine (Read_is F5.out (a := o) HM.out.1 HR1.out).mono ?_
  rintro e w5 ⟨A6, c6, rfl, ho, hb⟩
  replace F3 := Lib.hid (F3.out.upb hb)
  replace FB := Lib.hid (FB.out.upb hb)
  replace FC := Lib.hid (FC.out.upb hb)
  replace HW := Lib.hid (HW.out.upb hb)
  replace Z3 := Lib.hid (Z3.out.upb hb)
  replace O0 := Lib.hid (O0.out.upb hb)
  replace F5 := Lib.hid (F5.out.upb hb)
  replace Z5 := Lib.hid (Z5.out.upb hb)
  clear hb
  clear Z3l Z3c0 Z3c1 Z3c2 Z3c3
  have O1 := Lib.hid ho
  clear ho
  have Z5l := Z5.out.lt
  have Z5c0 := Z5.out.cell (k := 0) rfl
  have Z5c1 := Z5.out.cell (k := 1) rfl
  have Z5c2 := Z5.out.cell (k := 2) rfl
  have Z5c3 := Z5.out.cell (k := 3) rfl
  go_wp2_with (fail)
  refine (Read_is F5.out (a := a) HM.out.2.1 HR2.out).mono ?_
  rintro e w6 ⟨A7, c7, rfl, ho, hb⟩
  replace F3 := Lib.hid (F3.out.upb hb)
  replace FB := Lib.hid (FB.out.upb hb)
  replace FC := Lib.hid (FC.out.upb hb)
  replace HW := Lib.hid (HW.out.upb hb)
  replace Z3 := Lib.hid (Z3.out.upb hb)
  replace O0 := Lib.hid (O0.out.upb hb)
  replace F5 := Lib.hid (F5.out.upb hb)
  replace Z5 := Lib.hid (Z5.out.upb hb)
  replace O1 := Lib.hid (O1.out.upb hb)
  clear hb
  clear Z5l Z5c0 Z5c1 Z5c2 Z5c3
  have hl2 := HO2.out.1
  rw [hl2] at ho ⊢
  clear hl2
  have hc7 : 128 ≤ c7 := by obtain ⟨_, _, e9, h9, _⟩ := id ho; injection e9 with _ _ e9; have := HO2.out.1; omega
  have O2 := Lib.hid (show IsBytes _ (.slice A7 b.length c7) b from by have := bytes_take (c' := c7) ho (k := b.length) (by rw [HO2.out.1]; exact HLB.out.1) (by have := HLB.out.1; omega); rwa [HO2.out.2] at this)
  clear ho
  obtain ⟨wq, hwq⟩ : ∃ wq, w6 = wq := ⟨_, rfl⟩
  have k1 : (b.length : Int) ≤ (c7 : Int) := by have := HLB.out.1; omega
  have k2 : b.length ≤ c7 := by have := HLB.out.1; omega
  have k3 : (0 : Int) ≤ (b.length : Int) := by omega
  have v1 := fun m => conv_str (show IsBytes (w6.drewN m) _ _ from O2.out)
  have v2 := fun m => conv_str (show IsBytes (w6.drewN m) _ _ from FB.out)
  have v3 := fun m => conv_str (show IsBytes (w6.drewN m) _ _ from O0.out)
  have v4 := fun m => conv_str (show IsBytes (w6.drewN m) _ _ from O1.out)
  clear hwq wq
  obtain ⟨ro, hro⟩ : ∃ r, (a != o) = r := ⟨_, rfl⟩
  have HEQ := Lib.hid (show r0c ro → o1 = o0 from fun h => HM.out.2.2.2 (by unfold r0c at h; rw [h] at hro; simpa using hro))
  go_wp2_with (fail)
  have hG : ∃ nq, ∃ W9, W9 = (w6.drewN nq) := ⟨0, _, rfl⟩
  clear hG
  cases ro
  ·
    have Z5l := Z5.out.lt
    have Z5c0 := Z5.out.cell (k := 0) rfl
    have Z5c1 := Z5.out.cell (k := 1) rfl
    have Z5c2 := Z5.out.cell (k := 2) rfl
    have Z5c3 := Z5.out.cell (k := 3) rfl
    go_quiet (fail)
    go_wp2_with (fail)
    clear v1 v2 v3 v4
    clear Z5l Z5c0 Z5c1 Z5c2 Z5c3
    obtain ⟨X9, hX9⟩ : ∃ X, w6.drewN nq = X := ⟨_, rfl⟩
    have hb9 : Below w6.heap.size w6 X9 := by rw [← hX9]; exact below_drewN (Below.refl _ _) nq
    simp only [hX9]
    replace F3 := Lib.hid (F3.out.upb hb9)
    replace FB := Lib.hid (FB.out.upb hb9)
    replace FC := Lib.hid (FC.out.upb hb9)
    replace HW := Lib.hid (HW.out.upb hb9)
    replace Z3 := Lib.hid (Z3.out.upb hb9)
    replace O0 := Lib.hid (O0.out.upb hb9)
    replace F5 := Lib.hid (F5.out.upb hb9)
    replace Z5 := Lib.hid (Z5.out.upb hb9)
    replace O1 := Lib.hid (O1.out.upb hb9)
    replace O2 := Lib.hid (O2.out.upb hb9)
    clear hb9 hX9
    obtain ⟨y, hy⟩ : ∃ y, Dv.wr x o c = y := ⟨_, rfl⟩
    obtain ⟨e2, he2⟩ : ∃ y, Dv.wrE x o c = y := ⟨_, rfl⟩
    have HE := Lib.hid (And.intro he2 hy)
    have HE2 := Lib.hid (show (e2 = 0 ∧ Dv.Run y ∧ y.ss.length = d.ss.length) ∨ e2 = 2 from by
      obtain ⟨q1, q2⟩ := HX.out
      have q3 := Dv.wrE_after (c := c) q1 HO.out.1 HLB.out.2
      rw [q2, he2] at q3
      rcases q3 with q3 | q3
      · left
        rw [q3] at he2
        refine ⟨q3, hy ▸ (Dv.wr_ok he2).2.2.2.2, ?_⟩
        rw [← hy, (Dv.wr_ok he2).2.2.2.1, ← q2, (Dv.wr_ok q1).2.2.2.1]
      · exact .inr q3)
    clear hy he2
    refine (Write_is F5.out FC.out (a := o) HE.out.1 HE.out.2).mono ?_
    rintro e w7 ⟨A10, c10, B10, d10, rfl, hd, hb, _⟩
    replace F3 := Lib.hid (F3.out.upb hb)
    replace FB := Lib.hid (FB.out.upb hb)
    replace FC := Lib.hid (FC.out.upb hb)
    replace HW := Lib.hid (HW.out.upb hb)
    replace Z3 := Lib.hid (Z3.out.upb hb)
    replace O0 := Lib.hid (O0.out.upb hb)
    replace F5 := Lib.hid (F5.out.upb hb)
    replace Z5 := Lib.hid (Z5.out.upb hb)
    replace O1 := Lib.hid (O1.out.upb hb)
    replace O2 := Lib.hid (O2.out.upb hb)
    clear hb
    have F6 := Lib.hid hd
    clear hd
    rcases HE2.out with hcc | hcc
    case inr =>
      subst hcc
      go_wp2_with (fail)
      go_ret
      exact ⟨rfl, HW.out.b.up (al1 _ _)⟩
    case inl =>
    have HRY := Lib.hid hcc.2
    have h0 := hcc.1
    clear hcc HE2
    subst h0
    clear FB FC O0 O1 O2 F5 Z5 F3
    go_wp2_with (fail)
    replace HW := Lib.hid (HW.out.upb (al1 (w7) (.cells #[.slice A10 y.ss.length c10, .slice B10 y.ps.length d10, .int .i64 y.left, .bool y.st] 25)))
    replace Z3 := Lib.hid (Z3.out.upb (al1 (w7) (.cells #[.slice A10 y.ss.length c10, .slice B10 y.ps.length d10, .int .i64 y.left, .bool y.st] 25)))
    replace F6 := Lib.hid (F6.out.upb (al1 (w7) (.cells #[.slice A10 y.ss.length c10, .slice B10 y.ps.length d10, .int .i64 y.left, .bool y.st] 25)))
    have Z6 := Lib.hid (Cells.new (w7) 25 [.slice A10 y.ss.length c10, .slice B10 y.ps.length d10, .int .i64 y.left, .bool y.st])
    obtain ⟨z, hz⟩ : ∃ y', Dv.sy y = y' := ⟨_, rfl⟩
    obtain ⟨e3, he3⟩ : ∃ y', Dv.syE y = y' := ⟨_, rfl⟩
    have HZ := Lib.hid (And.intro he3 hz)
    have HZ2 := Lib.hid (show (e3 = 40 ∧ z.st = true) ∨ (e3 = 0 ∧ z.ps.length = 0 ∧ Dv.Run z ∧ ∀ k : Nat, k < d.ss.length → Dv.rdE y k = 0 ∧ Dv.rdE z k = 0 ∧ Dv.rd z k = Dv.rd y k) from by
      have q := Dv.sy_run HRY.out.1
      rw [he3, hz, HRY.out.2] at q
      rcases q with q | ⟨q1, q2, q3, q4⟩
      · exact .inl q
      · exact .inr ⟨q1, by rw [q2]; rfl, q3, q4⟩)
    clear hz he3
    refine (Sync_is F6.out HZ.out.1 HZ.out.2).mono ?_
    rintro e w8 ⟨A11, c11, B11, d11, rfl, hd, hb, _⟩
    replace HW := Lib.hid (HW.out.upb hb)
    replace Z3 := Lib.hid (Z3.out.upb hb)
    replace F6 := Lib.hid (F6.out.upb hb)
    replace Z6 := Lib.hid (Z6.out.upb hb)
    clear hb
    rcases HZ2.out with hcc | hcc
    case inl =>
      have h1 := hcc.2
      rw [h1]
      have h0 := hcc.1
      clear hcc HZ2 h1 hd
      subst h0
      go_wp2_with (fail)
      go_ret
      exact ⟨rfl, HW.out.b.up (al1 _ _)⟩
    case inr =>
    have h1 := hcc.2.1
    rw [h1] at hd ⊢
    have HZR := Lib.hid hcc.2.2
    have h0 := hcc.1
    clear hcc HZ2 h1
    subst h0
    have F7 := Lib.hid hd
    clear hd
    have Z3l := Z3.out.lt
    have Z3c0 := Z3.out.cell (k := 0) rfl
    have Z3c1 := Z3.out.cell (k := 1) rfl
    have Z3c2 := Z3.out.cell (k := 2) rfl
    have Z3c3 := Z3.out.cell (k := 3) rfl
    go_wp2_with (fail)
    clear Z3l Z3c0 Z3c1 Z3c2 Z3c3
    replace HW := Lib.hid (HW.out.upb (al1 (w8) (.cells #[.slice A11 z.ss.length c11, .slice B11 0 d11, .int .i64 z.left, .bool z.st] 25)))
    replace Z3 := Lib.hid (Z3.out.upb (al1 (w8) (.cells #[.slice A11 z.ss.length c11, .slice B11 0 d11, .int .i64 z.left, .bool z.st] 25)))
    replace F6 := Lib.hid (F6.out.upb (al1 (w8) (.cells #[.slice A11 z.ss.length c11, .slice B11 0 d11, .int .i64 z.left, .bool z.st] 25)))
    replace Z6 := Lib.hid (Z6.out.upb (al1 (w8) (.cells #[.slice A11 z.ss.length c11, .slice B11 0 d11, .int .i64 z.left, .bool z.st] 25)))
    replace F7 := Lib.hid (F7.out.upb (al1 (w8) (.cells #[.slice A11 z.ss.length c11, .slice B11 0 d11, .int .i64 z.left, .bool z.st] 25)))
    have Z7 := Lib.hid (Cells.new (w8) 25 [.slice A11 z.ss.length c11, .slice B11 0 d11, .int .i64 z.left, .bool z.st])
    go_loopw [23] (fun i wr => ∃ k : Nat, i = .int .i64 k ∧ k ≤ d.ss.length ∧ Hid (Bl w wr) ∧ Hid (Cells wr w.heap.size 25 [.slice A d.ss.length c1, .slice A2 d.ps.length c2, .int .i64 d.left, .bool d.st]) ∧ Hid (Cells wr w7.heap.size 25 [.slice A10 y.ss.length c10, .slice B10 y.ps.length d10, .int .i64 y.left, .bool y.st]) ∧ Hid (Cells wr w8.heap.size 25 [.slice A11 z.ss.length c11, .slice B11 0 d11, .int .i64 z.left, .bool z.st]) ∧ Hid (IsD wr (.agg #[.slice A10 y.ss.length c10, .slice B10 y.ps.length d10, .int .i64 y.left, .bool y.st]) y) ∧ Hid (IsD wr (.agg #[.slice A11 z.ss.length c11, .slice B11 0 d11, .int .i64 z.left, .bool z.st]) z)) (fun i _ => d.ss.length - (intOf i).toNat)
    case atStart => exact ⟨0, rfl, Nat.zero_le _, HW, Z3, Z6, Z7, F6, F7⟩
    case round =>
      clear HW Z3 Z6 Z7 F6 F7
      obtain ⟨k, rfl, hk, HW, Z3, Z6, Z7, F6, F7⟩ := hrel
      by_cases hlt : k < d.ss.length
      · have hd1 : decide ((k : Int) < (d.ss.length : Int)) = true := decide_eq_true (by omega)
        have hkm : (k : Int) ≤ 9223372036854775806 := by have := HL.out.1; omega
        obtain ⟨o5, ho5⟩ : ∃ o', Dv.rd y k = o' := ⟨_, rfl⟩
        have HK := Lib.hid (show Dv.rdE y k = 0 ∧ Dv.rdE z k = 0 ∧ Dv.rd y k = o5 ∧ Dv.rd z k = o5 from by obtain ⟨q1, q2, q3⟩ := HZR.out.2 k hlt; exact ⟨q1, q2, ho5, q3.trans ho5⟩)
        clear ho5
        have Z3l := Z3.out.lt
        have Z3c0 := Z3.out.cell (k := 0) rfl
        have Z3c1 := Z3.out.cell (k := 1) rfl
        have Z3c2 := Z3.out.cell (k := 2) rfl
        have Z3c3 := Z3.out.cell (k := 3) rfl
        have Z6l := Z6.out.lt
        have Z6c0 := Z6.out.cell (k := 0) rfl
        have Z6c1 := Z6.out.cell (k := 1) rfl
        have Z6c2 := Z6.out.cell (k := 2) rfl
        have Z6c3 := Z6.out.cell (k := 3) rfl
        have Z7l := Z7.out.lt
        have Z7c0 := Z7.out.cell (k := 0) rfl
        have Z7c1 := Z7.out.cell (k := 1) rfl
        have Z7c2 := Z7.out.cell (k := 2) rfl
        have Z7c3 := Z7.out.cell (k := 3) rfl
        go_wp2_with (fail)
        refine (Read_is F6.out (a := (k : Int)) HK.out.1 HK.out.2.2.1).mono ?_
        rintro e w21 ⟨A12, c12, rfl, ho, hb⟩
        replace HW := Lib.hid (HW.out.upb hb)
        replace Z3 := Lib.hid (Z3.out.upb hb)
        replace Z6 := Lib.hid (Z6.out.upb hb)
        replace Z7 := Lib.hid (Z7.out.upb hb)
        replace F6 := Lib.hid (F6.out.upb hb)
        replace F7 := Lib.hid (F7.out.upb hb)
        clear hb
        clear Z3l Z3c0 Z3c1 Z3c2 Z3c3 Z6l Z6c0 Z6c1 Z6c2 Z6c3 Z7l Z7c0 Z7c1 Z7c2 Z7c3
        have P1 := Lib.hid ho
        clear ho
        have Z3l := Z3.out.lt
        have Z3c0 := Z3.out.cell (k := 0) rfl
        have Z3c1 := Z3.out.cell (k := 1) rfl
        have Z3c2 := Z3.out.cell (k := 2) rfl
        have Z3c3 := Z3.out.cell (k := 3) rfl
        have Z6l := Z6.out.lt
        have Z6c0 := Z6.out.cell (k := 0) rfl
        have Z6c1 := Z6.out.cell (k := 1) rfl
        have Z6c2 := Z6.out.cell (k := 2) rfl
        have Z6c3 := Z6.out.cell (k := 3) rfl
        have Z7l := Z7.out.lt
        have Z7c0 := Z7.out.cell (k := 0) rfl
        have Z7c1 := Z7.out.cell (k := 1) rfl
        have Z7c2 := Z7.out.cell (k := 2) rfl
        have Z7c3 := Z7.out.cell (k := 3) rfl
        go_wp2_with (fail)
        refine (Read_is F7.out (a := (k : Int)) HK.out.2.1 HK.out.2.2.2).mono ?_
        rintro e w22 ⟨A13, c13, rfl, ho, hb⟩
        replace HW := Lib.hid (HW.out.upb hb)
        replace Z3 := Lib.hid (Z3.out.upb hb)
        replace Z6 := Lib.hid (Z6.out.upb hb)
        replace Z7 := Lib.hid (Z7.out.upb hb)
        replace F6 := Lib.hid (F6.out.upb hb)
        replace F7 := Lib.hid (F7.out.upb hb)
        replace P1 := Lib.hid (P1.out.upb hb)
        clear hb
        clear Z3l Z3c0 Z3c1 Z3c2 Z3c3 Z6l Z6c0 Z6c1 Z6c2 Z6c3 Z7l Z7c0 Z7c1 Z7c2 Z7c3
        have P2 := Lib.hid ho
        clear ho
        have Z3l := Z3.out.lt
        have Z3c0 := Z3.out.cell (k := 0) rfl
        have Z3c1 := Z3.out.cell (k := 1) rfl
        have Z3c2 := Z3.out.cell (k := 2) rfl
        have Z3c3 := Z3.out.cell (k := 3) rfl
        have Z6l := Z6.out.lt
        have Z6c0 := Z6.out.cell (k := 0) rfl
        have Z6c1 := Z6.out.cell (k := 1) rfl
        have Z6c2 := Z6.out.cell (k := 2) rfl
        have Z6c3 := Z6.out.cell (k := 3) rfl
        have Z7l := Z7.out.lt
        have Z7c0 := Z7.out.cell (k := 0) rfl
        have Z7c1 := Z7.out.cell (k := 1) rfl
        have Z7c2 := Z7.out.cell (k := 2) rfl
        have Z7c3 := Z7.out.cell (k := 3) rfl
        have v1 := conv_str P1.out
        have v2 := conv_str P2.out
        go_wp2_with (fail)
        go_roundw
        case rel => exact ⟨k + 1, by go_num, by omega, HW, Z3, Z6, Z7, F6, F7⟩
        case measure => first | omega | (simp [intOf]; done) | (simp [intOf]; omega)
      · obtain rfl : k = d.ss.length := by omega
        have hd1 : decide ((d.ss.length : Int) < (d.ss.length : Int)) = false := decide_eq_false (by omega)
        have Z3l := Z3.out.lt
        have Z3c0 := Z3.out.cell (k := 0) rfl
        have Z3c1 := Z3.out.cell (k := 1) rfl
        have Z3c2 := Z3.out.cell (k := 2) rfl
        have Z3c3 := Z3.out.cell (k := 3) rfl
        have Z6l := Z6.out.lt
        have Z6c0 := Z6.out.cell (k := 0) rfl
        have Z6c1 := Z6.out.cell (k := 1) rfl
        have Z6c2 := Z6.out.cell (k := 2) rfl
        have Z6c3 := Z6.out.cell (k := 3) rfl
        have Z7l := Z7.out.lt
        have Z7c0 := Z7.out.cell (k := 0) rfl
        have Z7c1 := Z7.out.cell (k := 1) rfl
        have Z7c2 := Z7.out.cell (k := 2) rfl
        have Z7c3 := Z7.out.cell (k := 3) rfl
        go_wp2_with (fail)
        refine (Check_is F7.out (Dv.chk_run HZR.out.1)).mono ?_
        rintro e w31 ⟨rfl, hb⟩
        replace HW := Lib.hid (HW.out.upb hb)
        replace Z3 := Lib.hid (Z3.out.upb hb)
        replace Z6 := Lib.hid (Z6.out.upb hb)
        replace Z7 := Lib.hid (Z7.out.upb hb)
        replace F6 := Lib.hid (F6.out.upb hb)
        replace F7 := Lib.hid (F7.out.upb hb)
        clear hb
        clear Z3l Z3c0 Z3c1 Z3c2 Z3c3 Z6l Z6c0 Z6c1 Z6c2 Z6c3 Z7l Z7c0 Z7c1 Z7c2 Z7c3
        have Z7l := Z7.out.lt
        have Z7c0 := Z7.out.cell (k := 0) rfl
        have Z7c1 := Z7.out.cell (k := 1) rfl
        have Z7c2 := Z7.out.cell (k := 2) rfl
        have Z7c3 := Z7.out.cell (k := 3) rfl
        go_wp2_with (fail)
        go_ret
        exact ⟨rfl, HW.out.b⟩
  · have e9 := HEQ.out rfl
    subst e9
    have Z5l := Z5.out.lt
    have Z5c0 := Z5.out.cell (k := 0) rfl
    have Z5c1 := Z5.out.cell (k := 1) rfl
    have Z5c2 := Z5.out.cell (k := 2) rfl
    have Z5c3 := Z5.out.cell (k := 3) rfl
    go_quiet (fail)
    go_wp2_with (fail)
    clear v1 v2 v3 v4
    clear Z5l Z5c0 Z5c1 Z5c2 Z5c3
    obtain ⟨X9, hX9⟩ : ∃ X, w6.drewN nq = X := ⟨_, rfl⟩
    have hb9 : Below w6.heap.size w6 X9 := by rw [← hX9]; exact below_drewN (Below.refl _ _) nq
    simp only [hX9]
    replace F3 := Lib.hid (F3.out.upb hb9)
    replace FB := Lib.hid (FB.out.upb hb9)
    replace FC := Lib.hid (FC.out.upb hb9)
    replace HW := Lib.hid (HW.out.upb hb9)
    replace Z3 := Lib.hid (Z3.out.upb hb9)
    replace O0 := Lib.hid (O0.out.upb hb9)
    replace F5 := Lib.hid (F5.out.upb hb9)
    replace Z5 := Lib.hid (Z5.out.upb hb9)
    replace O1 := Lib.hid (O1.out.upb hb9)
    replace O2 := Lib.hid (O2.out.upb hb9)
    clear hb9 hX9
    obtain ⟨y, hy⟩ : ∃ y, Dv.wr x o c = y := ⟨_, rfl⟩
    obtain ⟨e2, he2⟩ : ∃ y, Dv.wrE x o c = y := ⟨_, rfl⟩
    have HE := Lib.hid (And.intro he2 hy)
    have HE2 := Lib.hid (show (e2 = 0 ∧ Dv.Run y ∧ y.ss.length = d.ss.length) ∨ e2 = 2 from by
      obtain ⟨q1, q2⟩ := HX.out
      have q3 := Dv.wrE_after (c := c) q1 HO.out.1 HLB.out.2
      rw [q2, he2] at q3
      rcases q3 with q3 | q3
      · left
        rw [q3] at he2
        refine ⟨q3, hy ▸ (Dv.wr_ok he2).2.2.2.2, ?_⟩
        rw [← hy, (Dv.wr_ok he2).2.2.2.1, ← q2, (Dv.wr_ok q1).2.2.2.1]
      · exact .inr q3)
    clear hy he2
    refine (Write_is F5.out FC.out (a := o) HE.out.1 HE.out.2).mono ?_
    rintro e w7 ⟨A10, c10, B10, d10, rfl, hd, hb, _⟩
    replace F3 := Lib.hid (F3.out.upb hb)
    replace FB := Lib.hid (FB.out.upb hb)
    replace FC := Lib.hid (FC.out.upb hb)
    replace HW := Lib.hid (HW.out.upb hb)
    replace Z3 := Lib.hid (Z3.out.upb hb)
    replace O0 := Lib.hid (O0.out.upb hb)
    replace F5 := Lib.hid (F5.out.upb hb)
    replace Z5 := Lib.hid (Z5.out.upb hb)
    replace O1 := Lib.hid (O1.out.upb hb)
    replace O2 := Lib.hid (O2.out.upb hb)
    clear hb
    have F6 := Lib.hid hd
    clear hd
    rcases HE2.out with hcc | hcc
    case inr =>
      subst hcc
      go_wp2_with (fail)
      go_ret
      exact ⟨rfl, HW.out.b.up (al1 _ _)⟩
    case inl =>
    have HRY := Lib.hid hcc.2
    have h0 := hcc.1
    clear hcc HE2
    subst h0
    clear FB FC O0 O1 O2 F5 Z5 F3
    go_wp2_with (fail)
    replace HW := Lib.hid (HW.out.upb (al1 (w7) (.cells #[.slice A10 y.ss.length c10, .slice B10 y.ps.length d10, .int .i64 y.left, .bool y.st] 25)))
    replace Z3 := Lib.hid (Z3.out.upb (al1 (w7) (.cells #[.slice A10 y.ss.length c10, .slice B10 y.ps.length d10, .int .i64 y.left, .bool y.st] 25)))
    replace F6 := Lib.hid (F6.out.upb (al1 (w7) (.cells #[.slice A10 y.ss.length c10, .slice B10 y.ps.length d10, .int .i64 y.left, .bool y.st] 25)))
    have Z6 := Lib.hid (Cells.new (w7) 25 [.slice A10 y.ss.length c10, .slice B10 y.ps.length d10, .int .i64 y.left, .bool y.st])
    obtain ⟨z, hz⟩ : ∃ y', Dv.sy y = y' := ⟨_, rfl⟩
    obtain ⟨e3, he3⟩ : ∃ y', Dv.syE y = y' := ⟨_, rfl⟩
    have HZ := Lib.hid (And.intro he3 hz)
    have HZ2 := Lib.hid (show (e3 = 40 ∧ z.st = true) ∨ (e3 = 0 ∧ z.ps.length = 0 ∧ Dv.Run z ∧ ∀ k : Nat, k < d.ss.length → Dv.rdE y k = 0 ∧ Dv.rdE z k = 0 ∧ Dv.rd z k = Dv.rd y k) from by
      have q := Dv.sy_run HRY.out.1
      rw [he3, hz, HRY.out.2] at q
      rcases q with q | ⟨q1, q2, q3, q4⟩
      · exact .inl q
      · exact .inr ⟨q1, by rw [q2]; rfl, q3, q4⟩)
    clear hz he3
    refine (Sync_is F6.out HZ.out.1 HZ.out.2).mono ?_
    rintro e w8 ⟨A11, c11, B11, d11, rfl, hd, hb, _⟩
    replace HW := Lib.hid (HW.out.upb hb)
    replace Z3 := Lib.hid (Z3.out.upb hb)
    replace F6 := Lib.hid (F6.out.upb hb)
    replace Z6 := Lib.hid (Z6.out.upb hb)
    clear hb
    rcases HZ2.out with hcc | hcc
    case inl =>
      have h1 := hcc.2
      rw [h1]
      have h0 := hcc.1
      clear hcc HZ2 h1 hd
      subst h0
      go_wp2_with (fail)
      go_ret
      exact ⟨rfl, HW.out.b.up (al1 _ _)⟩
    case inr =>
    have h1 := hcc.2.1
    rw [h1] at hd ⊢
    have HZR := Lib.hid hcc.2.2
    have h0 := hcc.1
    clear hcc HZ2 h1
    subst h0
    have F7 := Lib.hid hd
    clear hd
    have Z3l := Z3.out.lt
    have Z3c0 := Z3.out.cell (k := 0) rfl
    have Z3c1 := Z3.out.cell (k := 1) rfl
    have Z3c2 := Z3.out.cell (k := 2) rfl
    have Z3c3 := Z3.out.cell (k := 3) rfl
    go_wp2_with (fail)
    clear Z3l Z3c0 Z3c1 Z3c2 Z3c3
    replace HW := Lib.hid (HW.out.upb (al1 (w8) (.cells #[.slice A11 z.ss.length c11, .slice B11 0 d11, .int .i64 z.left, .bool z.st] 25)))
    replace Z3 := Lib.hid (Z3.out.upb (al1 (w8) (.cells #[.slice A11 z.ss.length c11, .slice B11 0 d11, .int .i64 z.left, .bool z.st] 25)))
    replace F6 := Lib.hid (F6.out.upb (al1 (w8) (.cells #[.slice A11 z.ss.length c11, .slice B11 0 d11, .int .i64 z.left, .bool z.st] 25)))
    replace Z6 := Lib.hid (Z6.out.upb (al1 (w8) (.cells #[.slice A11 z.ss.length c11, .slice B11 0 d11, .int .i64 z.left, .bool z.st] 25)))
    replace F7 := Lib.hid (F7.out.upb (al1 (w8) (.cells #[.slice A11 z.ss.length c11, .slice B11 0 d11, .int .i64 z.left, .bool z.st] 25)))
    have Z7 := Lib.hid (Cells.new (w8) 25 [.slice A11 z.ss.length c11, .slice B11 0 d11, .int .i64 z.left, .bool z.st])
    go_loopw [23] (fun i wr => ∃ k : Nat, i = .int .i64 k ∧ k ≤ d.ss.length ∧ Hid (Bl w wr) ∧ Hid (Cells wr w.heap.size 25 [.slice A d.ss.length c1, .slice A2 d.ps.length c2, .int .i64 d.left, .bool d.st]) ∧ Hid (Cells wr w7.heap.size 25 [.slice A10 y.ss.length c10, .slice B10 y.ps.length d10, .int .i64 y.left, .bool y.st]) ∧ Hid (Cells wr w8.heap.size 25 [.slice A11 z.ss.length c11, .slice B11 0 d11, .int .i64 z.left, .bool z.st]) ∧ Hid (IsD wr (.agg #[.slice A10 y.ss.length c10, .slice B10 y.ps.length d10, .int .i64 y.left, .bool y.st]) y) ∧ Hid (IsD wr (.agg #[.slice A11 z.ss.length c11, .slice B11 0 d11, .int .i64 z.left, .bool z.st]) z)) (fun i _ => d.ss.length - (intOf i).toNat)
    case atStart => exact ⟨0, rfl, Nat.zero_le _, HW, Z3, Z6, Z7, F6, F7⟩
    case round =>
      clear HW Z3 Z6 Z7 F6 F7
      obtain ⟨k, rfl, hk, HW, Z3, Z6, Z7, F6, F7⟩ := hrel
      by_cases hlt : k < d.ss.length
      · have hd1 : decide ((k : Int) < (d.ss.length : Int)) = true := decide_eq_true (by omega)
        have hkm : (k : Int) ≤ 9223372036854775806 := by have := HL.out.1; omega
        obtain ⟨o5, ho5⟩ : ∃ o', Dv.rd y k = o' := ⟨_, rfl⟩
        have HK := Lib.hid (show Dv.rdE y k = 0 ∧ Dv.rdE z k = 0 ∧ Dv.rd y k = o5 ∧ Dv.rd z k = o5 from by obtain ⟨q1, q2, q3⟩ := HZR.out.2 k hlt; exact ⟨q1, q2, ho5, q3.trans ho5⟩)
        clear ho5
        have Z3l := Z3.out.lt
        have Z3c0 := Z3.out.cell (k := 0) rfl
        have Z3c1 := Z3.out.cell (k := 1) rfl
        have Z3c2 := Z3.out.cell (k := 2) rfl
        have Z3c3 := Z3.out.cell (k := 3) rfl
        have Z6l := Z6.out.lt
        have Z6c0 := Z6.out.cell (k := 0) rfl
        have Z6c1 := Z6.out.cell (k := 1) rfl
        have Z6c2 := Z6.out.cell (k := 2) rfl
        have Z6c3 := Z6.out.cell (k := 3) rfl
        have Z7l := Z7.out.lt
        have Z7c0 := Z7.out.cell (k := 0) rfl
        have Z7c1 := Z7.out.cell (k := 1) rfl
        have Z7c2 := Z7.out.cell (k := 2) rfl
        have Z7c3 := Z7.out.cell (k := 3) rfl
        go_wp2_with (fail)
        refine (Read_is F6.out (a := (k : Int)) HK.out.1 HK.out.2.2.1).mono ?_
        rintro e w21 ⟨A12, c12, rfl, ho, hb⟩
        replace HW := Lib.hid (HW.out.upb hb)
        replace Z3 := Lib.hid (Z3.out.upb hb)
        replace Z6 := Lib.hid (Z6.out.upb hb)
        replace Z7 := Lib.hid (Z7.out.upb hb)
        replace F6 := Lib.hid (F6.out.upb hb)
        replace F7 := Lib.hid (F7.out.upb hb)
        clear hb
        clear Z3l Z3c0 Z3c1 Z3c2 Z3c3 Z6l Z6c0 Z6c1 Z6c2 Z6c3 Z7l Z7c0 Z7c1 Z7c2 Z7c3
        have P1 := Lib.hid ho
        clear ho
        have Z3l := Z3.out.lt
        have Z3c0 := Z3.out.cell (k := 0) rfl
        have Z3c1 := Z3.out.cell (k := 1) rfl
        have Z3c2 := Z3.out.cell (k := 2) rfl
        have Z3c3 := Z3.out.cell (k := 3) rfl
        have Z6l := Z6.out.lt
        have Z6c0 := Z6.out.cell (k := 0) rfl
        have Z6c1 := Z6.out.cell (k := 1) rfl
        have Z6c2 := Z6.out.cell (k := 2) rfl
        have Z6c3 := Z6.out.cell (k := 3) rfl
        have Z7l := Z7.out.lt
        have Z7c0 := Z7.out.cell (k := 0) rfl
        have Z7c1 := Z7.out.cell (k := 1) rfl
        have Z7c2 := Z7.out.cell (k := 2) rfl
        have Z7c3 := Z7.out.cell (k := 3) rfl
        go_wp2_with (fail)
        refine (Read_is F7.out (a := (k : Int)) HK.out.2.1 HK.out.2.2.2).mono ?_
        rintro e w22 ⟨A13, c13, rfl, ho, hb⟩
        replace HW := Lib.hid (HW.out.upb hb)
        replace Z3 := Lib.hid (Z3.out.upb hb)
        replace Z6 := Lib.hid (Z6.out.upb hb)
        replace Z7 := Lib.hid (Z7.out.upb hb)
        replace F6 := Lib.hid (F6.out.upb hb)
        replace F7 := Lib.hid (F7.out.upb hb)
        replace P1 := Lib.hid (P1.out.upb hb)
        clear hb
        clear Z3l Z3c0 Z3c1 Z3c2 Z3c3 Z6l Z6c0 Z6c1 Z6c2 Z6c3 Z7l Z7c0 Z7c1 Z7c2 Z7c3
        have P2 := Lib.hid ho
        clear ho
        have Z3l := Z3.out.lt
        have Z3c0 := Z3.out.cell (k := 0) rfl
        have Z3c1 := Z3.out.cell (k := 1) rfl
        have Z3c2 := Z3.out.cell (k := 2) rfl
        have Z3c3 := Z3.out.cell (k := 3) rfl
        have Z6l := Z6.out.lt
        have Z6c0 := Z6.out.cell (k := 0) rfl
        have Z6c1 := Z6.out.cell (k := 1) rfl
        have Z6c2 := Z6.out.cell (k := 2) rfl
        have Z6c3 := Z6.out.cell (k := 3) rfl
        have Z7l := Z7.out.lt
        have Z7c0 := Z7.out.cell (k := 0) rfl
        have Z7c1 := Z7.out.cell (k := 1) rfl
        have Z7c2 := Z7.out.cell (k := 2) rfl
        have Z7c3 := Z7.out.cell (k := 3) rfl
        have v1 := conv_str P1.out
        have v2 := conv_str P2.out
        go_wp2_with (fail)
        go_roundw
        case rel => exact ⟨k + 1, by go_num, by omega, HW, Z3, Z6, Z7, F6, F7⟩
        case measure => first | omega | (simp [intOf]; done) | (simp [intOf]; omega)
      · obtain rfl : k = d.ss.length := by omega
        have hd1 : decide ((d.ss.length : Int) < (d.ss.length : Int)) = false := decide_eq_false (by omega)
        have Z3l := Z3.out.lt
        have Z3c0 := Z3.out.cell (k := 0) rfl
        have Z3c1 := Z3.out.cell (k := 1) rfl
        have Z3c2 := Z3.out.cell (k := 2) rfl
        have Z3c3 := Z3.out.cell (k := 3) rfl
        have Z6l := Z6.out.lt
        have Z6c0 := Z6.out.cell (k := 0) rfl
        have Z6c1 := Z6.out.cell (k := 1) rfl
        have Z6c2 := Z6.out.cell (k := 2) rfl
        have Z6c3 := Z6.out.cell (k := 3) rfl
        have Z7l := Z7.out.lt
        have Z7c0 := Z7.out.cell (k := 0) rfl
        have Z7c1 := Z7.out.cell (k := 1) rfl
        have Z7c2 := Z7.out.cell (k := 2) rfl
        have Z7c3 := Z7.out.cell (k := 3) rfl
        go_wp2_with (fail)
        refine (Check_is F7.out (Dv.chk_run HZR.out.1)).mono ?_
        rintro e w31 ⟨rfl, hb⟩
        replace HW := Lib.hid (HW.out.upb hb)
        replace Z3 := Lib.hid (Z3.out.upb hb)
        replace Z6 := Lib.hid (Z6.out.upb hb)
        replace Z7 := Lib.hid (Z7.out.upb hb)
        replace F6 := Lib.hid (F6.out.upb hb)
        replace F7 := Lib.hid (F7.out.upb hb)
        clear hb
        clear Z3l Z3c0 Z3c1 Z3c2 Z3c3 Z6l Z6c0 Z6c1 Z6c2 Z6c3 Z7l Z7c0 Z7c1 Z7c2 Z7c3
        have Z7l := Z7.out.lt
        have Z7c0 := Z7.out.cell (k := 0) rfl
        have Z7c1 := Z7.out.cell (k := 1) rfl
        have Z7c2 := Z7.out.cell (k := 2) rfl
        have Z7c3 := Z7.out.cell (k := 3) rfl
        go_wp2_with (fail)
        go_ret
        exact ⟨rfl, HW.out.b⟩
end Go.Proofs.Ytimpnpdhhhbmgaa
