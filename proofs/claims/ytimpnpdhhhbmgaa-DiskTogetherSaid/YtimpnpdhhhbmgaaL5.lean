/- Walk of DiskTogether. -/
import Derived.Test.YtimpnpdhhhbmgaaL3
import Derived.Test.YtimpnpdhhhbmgaaL1
import Derived.Test.YtimpnpdhhhbmgaaPlain5
import Derived.Deep.Cut
import Derived.Deep.CutBlock
import Derived.Deep.CutRange
namespace Go.Proofs.Ytimpnpdhhhbmgaa
open Go.RowKit
set_option linter.unusedVariables false
set_option linter.unusedSimpArgs false

theorem Dv.ta_mod (d : Dk) (a : UInt8) : (wrap64 (a.toNat : Int)).tmod (d.ss.length : Int) = Dv.ta d a := by
  have h := a.toNat_lt
  rw [IntWalk.wrap64_in _ (by omega)]
  rfl
theorem small_qd {d : Dk} {ac : List Ac} (h : Small d) (hi : Dv.In1 d ac) (k : Nat) : Small (Dv.qd d ac k) := by
  refine ⟨h.1, ?_⟩
  have h1 := hi.2.2.1
  show ((Dv.qs d ac).take k).length ≤ _
  rw [List.length_take, Dv.qs_len]
  omega
theorem cells4 {W : World} {B : Nat} {a b c d : Value} (h : Cells W B 25 [a, b, c, d]) : W.cell? ⟨B, 0, none⟩ = some a ∧ W.cell? ⟨B, 1, none⟩ = some b ∧ W.cell? ⟨B, 2, none⟩ = some c ∧ W.cell? ⟨B, 3, none⟩ = some d := ⟨h.cell rfl, h.cell rfl, h.cell rfl, h.cell rfl⟩
theorem two_boxes (W : World) (cs : List Value) : Below W.heap.size W ((W.alloc (.cells cs.toArray 25)).alloc (.cells cs.toArray 25)).drew ∧ Cells ((W.alloc (.cells cs.toArray 25)).alloc (.cells cs.toArray 25)).drew W.heap.size 25 cs ∧ Cells ((W.alloc (.cells cs.toArray 25)).alloc (.cells cs.toArray 25)).drew (W.heap.size + 1) 25 cs := by
  refine ⟨below_drewN ((al1 W _).up (al1 _ _)) 1, ?_, ?_⟩
  · exact Cells.drewN ((Cells.new W 25 cs).upb (al1 _ _)) 1
  · have h := Cells.new (W.alloc (.cells cs.toArray 25)) 25 cs
    rw [World.size_alloc] at h
    exact Cells.drewN h 1

set_option maxHeartbeats 8000000 in
set_option maxRecDepth 100000 in
theorem DiskTogether_any {d : Dk} {v u : Value} {ac : List Ac} {w : World} (hv : IsD w v d) (hs : Small d) (hu : IsActs w u ac) :
    Calls Try.prog 8 #[v, u] w fun e w' => e = .returned (.bool true) ∧ Below w.heap.size w w' := by
  have F2 := Lib.hid hv
  have FU := Lib.hid hu
  obtain ⟨A, c1, A2, c2, rfl, _, _⟩ := hv.open_
  obtain ⟨AU, cU, rfl, _⟩ := id hu
  have HL := Lib.hid hs
  have F20 := Lib.hid hv
  have FU0 := Lib.hid hu
  clear hv hs hu
  obtain ⟨k0, hk⟩ : ∃ x, Dv.chk d = x := ⟨_, rfl⟩
  have HK := Lib.hid hk
  clear hk
  have HW := Lib.hid (Bl.mk (Below.refl w.heap.size w))
  replace F2 := Lib.hid (F2.out.upb (al1 (w) (.cells #[.slice A d.ss.length c1, .slice A2 d.ps.length c2, .int .i64 d.left, .bool d.st] 25)))
  replace FU := Lib.hid (FU.out.upb (al1 (w) (.cells #[.slice A d.ss.length c1, .slice A2 d.ps.length c2, .int .i64 d.left, .bool d.st] 25)))
  replace HW := Lib.hid (HW.out.upb (al1 (w) (.cells #[.slice A d.ss.length c1, .slice A2 d.ps.length c2, .int .i64 d.left, .bool d.st] 25)))
  have Z2 := Lib.hid (Cells.new (w) 25 [.slice A d.ss.length c1, .slice A2 d.ps.length c2, .int .i64 d.left, .bool d.st])
  go_enter Try.func8, Try.ntmps8
  go_wp2_with (fail)
  refine (sane_any _).mono ?_
  rintro e w1 ⟨rfl, hb⟩
  replace F2 := Lib.hid (F2.out.upb hb)
  replace FU := Lib.hid (FU.out.upb hb)
  replace HW := Lib.hid (HW.out.upb hb)
  replace Z2 := Lib.hid (Z2.out.upb hb)
  clear hb
  have Z2l := Z2.out.lt
  have Z2c0 := Z2.out.cell (k := 0) rfl
  have Z2c1 := Z2.out.cell (k := 1) rfl
  have Z2c2 := Z2.out.cell (k := 2) rfl
  have Z2c3 := Z2.out.cell (k := 3) rfl
  go_wp2_with (fail)
  refine (Few_any F2.out HL.out.1 HL.out.2).mono ?_
  rintro e w2 ⟨⟨fb, rfl⟩, hb⟩
  replace F2 := Lib.hid (F2.out.upb hb)
  replace FU := Lib.hid (FU.out.upb hb)
  replace HW := Lib.hid (HW.out.upb hb)
  replace Z2 := Lib.hid (Z2.out.upb hb)
  clear hb
  clear Z2l Z2c0 Z2c1 Z2c2 Z2c3
  have Z2l := Z2.out.lt
  have Z2c0 := Z2.out.cell (k := 0) rfl
  have Z2c1 := Z2.out.cell (k := 1) rfl
  have Z2c2 := Z2.out.cell (k := 2) rfl
  have Z2c3 := Z2.out.cell (k := 3) rfl
  cases fb with
  | false =>
    go_wp2_with (fail)
    go_ret
    exact ⟨rfl, HW.out.b⟩
  | true =>
  by_cases hb1 : (20 : Int) < (ac.length : Int)
  case pos =>
    have t1 : decide ((20 : Int) < (ac.length : Int)) = true := decide_eq_true hb1
    clear hb1
    go_wp2_with (fail)
    go_ret
    exact ⟨rfl, HW.out.b⟩
  case neg =>
  have t1 : decide ((20 : Int) < (ac.length : Int)) = false := decide_eq_false hb1
  obtain ⟨np, hnp⟩ : ∃ np, d.ps.length = np := ⟨_, rfl⟩
  rw [hnp] at Z2c1
  cases np with
  | succ m =>
    have t2 : decide ((0 : Int) < (m : Int) + 1) = true := by rw [decide_eq_true_eq]; omega
    clear hb1
    go_wp2_with (fail)
    go_ret
    exact ⟨rfl, HW.out.b⟩
  | zero =>
  rw [hnp] at F2 F20 Z2
  have HN := Lib.hid (show ac.length ≤ 20 ∧ d.ps = [] from ⟨by omega, List.eq_nil_of_length_eq_zero hnp⟩)
  clear hb1 hnp
  by_cases hb3 : (d.ss.length : Int) = 0
  case pos =>
    have t3 : ((d.ss.length : Int) == 0) = true := by rw [beq_iff_eq]; exact hb3
    clear hb3
    go_wp2_with (fail)
    go_ret
    exact ⟨rfl, HW.out.b⟩
  case neg =>
  have t3 : ((d.ss.length : Int) == 0) = false := by rw [beq_eq_false_iff_ne]; exact hb3
  clear hb3
  go_wp2_with (fail)
  refine (Check_is F2.out HK.out).mono ?_
  rintro e w3 ⟨rfl, hb⟩
  replace F2 := Lib.hid (F2.out.upb hb)
  replace FU := Lib.hid (FU.out.upb hb)
  replace HW := Lib.hid (HW.out.upb hb)
  replace Z2 := Lib.hid (Z2.out.upb hb)
  clear hb
  clear Z2l Z2c0 Z2c1 Z2c2 Z2c3
  have Z2l := Z2.out.lt
  have Z2c0 := Z2.out.cell (k := 0) rfl
  have Z2c1 := Z2.out.cell (k := 1) rfl
  have Z2c2 := Z2.out.cell (k := 2) rfl
  have Z2c3 := Z2.out.cell (k := 3) rfl
  by_cases hb4 : k0 = 0
  case neg =>
    have t4 : (k0 != 0) = true := by rw [bne_iff_ne]; exact hb4
    clear hb4
    go_wp2_with (fail)
    go_ret
    exact ⟨rfl, HW.out.b⟩
  case pos =>
  subst hb4
  obtain ⟨st, hst⟩ : ∃ b, d.st = b := ⟨_, rfl⟩
  cases st
  case true =>
    rw [hst] at Z2c3
    go_wp2_with (fail)
    go_ret
    exact ⟨rfl, HW.out.b⟩
  case false =>
  have HR := Lib.hid (show Dv.Run d from by
    have hc := HK.out
    unfold Dv.chk at hc
    split at hc
    case isTrue h => exact ⟨h, hst⟩
    case isFalse => cases hc)
  have Z2s := Z2c3
  rw [hst] at Z2c3
  clear hst Z2s
  go_upto_region 5 with (fail)
  go_cut [5, 6] from 47 (fun s5 s6 wc => ∃ B5 B6, s5 = .pointer (some ⟨B5, 0, none⟩) ∧ s6 = .pointer (some ⟨B6, 0, none⟩) ∧ Hid (B5 ≠ B6 ∧ w3.heap.size ≤ B5 ∧ w3.heap.size ≤ B6) ∧ Hid (Below w3.heap.size w3 wc) ∧ Hid (Cells wc B5 25 [.slice A d.ss.length c1, .slice A2 0 c2, .int .i64 d.left, .bool false]) ∧ Hid (Cells wc B6 25 [.slice A d.ss.length c1, .slice A2 0 c2, .int .i64 d.left, .bool false]))
  case first =>
    have HT := Lib.hid (two_boxes w3 [.slice A d.ss.length c1, .slice A2 0 c2, .int .i64 d.left, .bool false])
    go_region
    all_goals (go_wp2_with (fail); go_meet)
    case rel => exact ⟨_, _, rfl, rfl, Lib.hid ⟨by omega, by omega, by omega⟩, Lib.hid HT.out.1, Lib.hid HT.out.2.1, Lib.hid HT.out.2.2⟩
    case rel => exact ⟨_, _, rfl, rfl, Lib.hid ⟨by omega, by omega, by omega⟩, Lib.hid HT.out.1, Lib.hid HT.out.2.2, Lib.hid HT.out.2.1⟩
  case rest =>
  obtain ⟨B5, B6, rfl, rfl, HB, HBc, Z5, Z6⟩ := hcut
  clear Z2l Z2c0 Z2c1 Z2c2 Z2c3
  have hst : d.st = false := HR.out.2
  rw [hst] at F2 F20 Z2
  clear hst
  have HN5 := Lib.hid (nb_new (B := B5) F2.out HB.out.2.1)
  have HN6 := Lib.hid (nb_new (B := B6) F2.out HB.out.2.2)
  have HB7 := Lib.hid (show w.heap.size < w3.heap.size from Z2.out.lt)
  have HBW := Lib.hid (show w.heap.size ≤ B5 ∧ w.heap.size ≤ B6 ∧ w.heap.size ≠ B5 ∧ w.heap.size ≠ B6 from by have h1 := HB7.out; have h2 := HB.out; omega)
  clear HB7
  replace F2 := Lib.hid (F2.out.upb HBc.out)
  replace FU := Lib.hid (FU.out.upb HBc.out)
  replace HW := Lib.hid (HW.out.upb HBc.out)
  replace Z2 := Lib.hid (Z2.out.upb HBc.out)
  clear HBc
  have HI := Lib.hid (show Dv.In1 d ac from ⟨HR.out, HN.out.2, HN.out.1, by have := t3; rw [beq_eq_false_iff_ne] at this; omega⟩)
  have HT0 := Lib.hid (Dv.T1_zero HI.out)
  have hps0 : d.ps.length = 0 := by rw [HN.out.2]; rfl
  obtain ⟨eq, heq⟩ : ∃ e, Dv.syE (Dv.qd d ac ac.length) = e := ⟨_, rfl⟩
  obtain ⟨xq, hxq⟩ : ∃ e, Dv.sy (Dv.qd d ac ac.length) = e := ⟨_, rfl⟩
  have HQ := Lib.hid (And.intro heq hxq)
  have HP0 := Lib.hid hps0
  clear heq hxq hps0
  go_upto_block 0 with (fail)
  go_cut [4, 7, 8, 9, 10, 11] from 49 (fun s4 s7 s8 s9 s10 s11 wx => s7 = .int .i64 eq ∧ ∃ (A5 A6 : Option Addr) (c5 c6 : Nat), Hid (Bl w wx) ∧ Hid (Cells wx w.heap.size 25 [.slice A d.ss.length c1, .slice A2 0 c2, .int .i64 d.left, .bool false]) ∧ Hid (Cells wx B6 25 [.slice A d.ss.length c1, .slice A2 0 c2, .int .i64 d.left, .bool false]) ∧ Hid (Cells wx B5 25 [.slice A5 xq.ss.length c5, .slice A6 xq.ps.length c6, .int .i64 xq.left, .bool xq.st]) ∧ Hid (IsD wx (.agg #[.slice A5 xq.ss.length c5, .slice A6 xq.ps.length c6, .int .i64 xq.left, .bool xq.st]) xq) ∧ Hid (NB B5 (.agg #[.slice A5 xq.ss.length c5, .slice A6 xq.ps.length c6, .int .i64 xq.left, .bool xq.st]) xq ∧ NB B6 (.agg #[.slice A5 xq.ss.length c5, .slice A6 xq.ps.length c6, .int .i64 xq.left, .bool xq.st]) xq))
  case first =>
    go_wp2_with (fail)
    go_loopw [7, 8] (fun s7 s8 wr => ∃ (k : Nat) (e : Int) (x : Dk) (A5 A6 : Option Addr) (c5 c6 : Nat), s7 = .int .i64 e ∧ s8 = .int .i64 k ∧ k ≤ ac.length ∧ Hid (Dv.T1 d ac k e x) ∧ Hid (Bl w wr) ∧ Hid (Cells wr w.heap.size 25 [.slice A d.ss.length c1, .slice A2 0 c2, .int .i64 d.left, .bool false]) ∧ Hid (Cells wr B6 25 [.slice A d.ss.length c1, .slice A2 0 c2, .int .i64 d.left, .bool false]) ∧ Hid (Cells wr B5 25 [.slice A5 x.ss.length c5, .slice A6 x.ps.length c6, .int .i64 x.left, .bool x.st]) ∧ Hid (IsD wr (.agg #[.slice A5 x.ss.length c5, .slice A6 x.ps.length c6, .int .i64 x.left, .bool x.st]) x) ∧ Hid (NB B5 (.agg #[.slice A5 x.ss.length c5, .slice A6 x.ps.length c6, .int .i64 x.left, .bool x.st]) x ∧ NB B6 (.agg #[.slice A5 x.ss.length c5, .slice A6 x.ps.length c6, .int .i64 x.left, .bool x.st]) x)) (fun _ s8 _ => ac.length - (intOf s8).toNat)
    case atStart => 
      have hx := HP0.out
      have hst := HR.out.2
      refine ⟨0, 0, d, A, A2, c1, c2, rfl, rfl, Nat.zero_le _, HT0, HW, Z2, Z6, ?_, ?_, ?_⟩
      all_goals rw [hx, hst]
      · exact Z5
      · exact F2
      · exact Lib.hid ⟨HN5.out, HN6.out⟩
    case round =>
      clear HW FU Z2 F2 Z6 Z5
      obtain ⟨k, e, x, A5, A6, c5, c6, rfl, rfl, hk, HT, HW, Z2, Z6, Z5, F5, HN5x⟩ := hrel
      by_cases hlt : k < ac.length
      case neg =>
        have hd1 : decide ((k : Int) < (ac.length : Int)) = false := decide_eq_false (by omega)
        obtain ⟨h1, h2⟩ := Dv.T1_end HI.out hk HT.out (.inl (by omega))
        have HE := Lib.hid (And.intro h1 h2)
        clear h1 h2
        go_wp2_with (fail)
        obtain ⟨h1, h2⟩ := HQ.out
        have h3 := HE.out.1.symm.trans h1
        have h4 := HE.out.2.symm.trans h2
        clear h1 h2
        subst h3 h4
        go_meet
        case rel => exact ⟨rfl, _, _, _, _, HW, Z2, Z6, Z5, F5, HN5x⟩
      case pos =>
      have hd1 : decide ((k : Int) < (ac.length : Int)) = true := decide_eq_true (by omega)
      by_cases he : e = 0
      case neg =>
        obtain ⟨h1, h2⟩ := Dv.T1_end HI.out hk HT.out (.inr he)
        have HE := Lib.hid (And.intro h1 h2)
        have hd2 : (e == 0) = false := by rw [beq_eq_false_iff_ne]; exact he
        clear h1 h2 he
        go_wp2_with (fail)
        obtain ⟨h1, h2⟩ := HQ.out
        have h3 := HE.out.1.symm.trans h1
        have h4 := HE.out.2.symm.trans h2
        clear h1 h2
        subst h3 h4
        go_meet
        case rel => exact ⟨rfl, _, _, _, _, HW, Z2, Z6, Z5, F5, HN5x⟩
      case pos =>
      subst he
      obtain ⟨pa, hpa⟩ : ∃ p, ac[k].a = p := ⟨_, rfl⟩
      obtain ⟨pb, hpb⟩ : ∃ p, ac[k].b = p := ⟨_, rfl⟩
      obtain ⟨bu, ou, hAU, hbu, hu0, hu1, hu2⟩ := acts_at (FU0.out.upb HW.out.b) hlt
      have HST := Lib.hid (Dv.T1_step HI.out hlt HT.out)
      rw [hpa] at hu1 HST
      rw [hpb] at hu2 HST
      clear hpa hpb hu0
      subst hAU
      have HU := Lib.hid hu2
      have Z2c0 := Z2.out.cell (k := 0) rfl
      have hnz : ¬ d.ss.length = 0 := by have := HI.out.2.2.2; omega
      go_wp2_with (fail)
      go_quiet (fail)
      go_wp2_with (fail)
      rw [Dv.ta_mod]
      obtain ⟨at0, hat⟩ : ∃ a, Dv.ta d pa = a := ⟨_, rfl⟩
      rw [hat] at HST ⊢
      clear hat hu1 Z2c0
      obtain ⟨X9, hX9⟩ : ∃ X, wr.drewN nq = X := ⟨_, rfl⟩
      have hb9 : Below wr.heap.size wr X9 := by rw [← hX9]; exact below_drewN (Below.refl _ _) nq
      simp only [hX9]
      have hu2 := ((bcell hb9).1 _ _ (cell_lt HU.out)).trans HU.out
      obtain ⟨u, hu⟩ : ∃ u, Dv.wr x at0 [pb] = u := ⟨_, rfl⟩
      obtain ⟨x', hx'⟩ : ∃ u', Dv.sy u = u' := ⟨_, rfl⟩
      obtain ⟨e', he'⟩ : ∃ u', Dv.syE u = u' := ⟨_, rfl⟩
      rw [hu, hx', he'] at HST
      have HU2 := Lib.hid hu
      have HSY := Lib.hid (And.intro he' hx')
      clear hu hx' he' HU
      replace HW := Lib.hid (HW.out.upb hb9)
      replace Z2 := Lib.hid (Z2.out.upb hb9)
      replace Z6 := Lib.hid (Z6.out.upb hb9)
      replace Z5 := Lib.hid (Z5.out.upb hb9)
      replace F5 := Lib.hid (F5.out.upb hb9)
      clear hb9 hX9
      go_cut [10, 11] from 49 to 87 (fun s10 s11 wy => ∃ (B10 : Nat) (A7 A8 : Option Addr) (c7 c8 : Nat), s10 = .pointer (some ⟨B10, 0, none⟩) ∧ s11 = .int .i64 0 ∧ Hid (Below X9.heap.size X9 wy) ∧ Hid (Cells wy B10 25 [.slice A7 u.ss.length c7, .slice A8 u.ps.length c8, .int .i64 u.left, .bool u.st]) ∧ Hid (IsD wy (.agg #[.slice A7 u.ss.length c7, .slice A8 u.ps.length c8, .int .i64 u.left, .bool u.st]) u) ∧ Hid (NB B5 (.agg #[.slice A7 u.ss.length c7, .slice A8 u.ps.length c8, .int .i64 u.left, .bool u.st]) u ∧ NB B6 (.agg #[.slice A7 u.ss.length c7, .slice A8 u.ps.length c8, .int .i64 u.left, .bool u.st]) u))
      case first =>
        have HSd := Lib.hid (show Below (X9).heap.size (X9) (X9).drew from below_drewN (Below.refl _ _) 1)
        refine wp_region_noPanic ?_
        refine wp_region_U 13 (fun X => Below (X9).heap.size (X9) X) (by kernel_rfl) ?_
        refine wpAnyU_takeD (i := 0) (v := .agg #[.slice A5 x.ss.length c5, .slice A6 x.ps.length c6, .int .i64 x.left, .bool x.st]) 70 rfl rfl (by kernel_rfl) (by kernel_rfl) (by kernel_rfl) (by kernel_rfl) (by kernel_rfl) (by kernel_rfl) (fun _ _ _ h => h) (.inl ⟨rfl, fun X hX => ?_⟩) HSd.out ?_
        · obtain ⟨z0, z1, z2, z3⟩ := Z5.out.upb hX |> cells4; go_simp
        refine wpAnyU_takeD (i := 1) (v := .int .i64 at0) 71 rfl rfl (by kernel_rfl) (by kernel_rfl) (by kernel_rfl) (by kernel_rfl) (by kernel_rfl) (by kernel_rfl) (fun _ _ _ h => h) (.inl ⟨rfl, fun X hX => ?_⟩) HSd.out ?_
        · go_simp
        refine wpAnyU_takeD (i := 2) (v := .slice (some ⟨bu, ou, none⟩) ac.length cU) 72 rfl rfl (by kernel_rfl) (by kernel_rfl) (by kernel_rfl) (by kernel_rfl) (by kernel_rfl) (by kernel_rfl) (fun _ _ _ h => h) (.inl ⟨rfl, fun X hX => ?_⟩) HSd.out ?_
        · go_simp
        refine wpAnyU_takeD (i := 3) (v := .int .i64 (k : Int)) 73 rfl rfl (by kernel_rfl) (by kernel_rfl) (by kernel_rfl) (by kernel_rfl) (by kernel_rfl) (by kernel_rfl) (fun _ _ _ h => h) (.inl ⟨rfl, fun X hX => ?_⟩) HSd.out ?_
        · go_simp
        refine wpAnyU_takeD (i := 4) (v := .pointer (some ⟨bu, ou + k * 3, none⟩)) 74 rfl rfl (by kernel_rfl) (by kernel_rfl) (by kernel_rfl) (by kernel_rfl) (by kernel_rfl) (by kernel_rfl) (fun _ _ _ h => h) (.inl ⟨rfl, fun X hX => ?_⟩) HSd.out ?_
        · go_simp
        refine wpAnyU_takeD (i := 5) (v := .pointer (some ⟨bu, ou + k * 3 + 2, none⟩)) 75 rfl rfl (by kernel_rfl) (by kernel_rfl) (by kernel_rfl) (by kernel_rfl) (by kernel_rfl) (by kernel_rfl) (fun _ _ _ h => h) (.inl ⟨rfl, fun X hX => ?_⟩) HSd.out ?_
        · go_simp
        refine wpAnyU_takeD (i := 6) (v := .int .u8 (pb.toNat : Int)) 76 rfl rfl (by kernel_rfl) (by kernel_rfl) (by kernel_rfl) (by kernel_rfl) (by kernel_rfl) (by kernel_rfl) (fun _ _ _ h => h) (.inl ⟨rfl, fun X hX => ?_⟩) HSd.out ?_
        · have z := ((bcell hX).1 _ _ (cell_lt hu2)).trans hu2; go_simp
        refine wpAnyU_two (i := 7) (j := 12) (by kernel_rfl) rfl rfl (fun K hK => ?_) (fun K hK => ?_)
        ·
          go_simp
          refine hK.out _ _ (fun _ => (HSd.out.up (al1 _ (.cells #[.int .u8 (pb.toNat : Int)] 5)))) (fun _ => ?_)
          clear hK K
          refine wpAnyU_two (i := 8) (j := 12) (by kernel_rfl) rfl rfl (fun K hK => ?_) (fun K hK => ?_)
          ·
            have HBy := Lib.hid ((HSd.out.up (al1 _ (.cells #[.int .u8 (pb.toNat : Int)] 5))))
            have BY := Lib.hid (one_bytes pb _ rfl (show Cells ((X9).drew.alloc (.cells #[.int .u8 (pb.toNat : Int)] 5)) (X9).heap.size 5 [.int .u8 (pb.toNat : Int)] from Cells.new (X9).drew 5 [.int .u8 (pb.toNat : Int)]))
            refine step_fn rfl (.func 19) #[.tmp 70, .tmp 71, .tmp 77] _ rfl 19 #[] rfl #[.agg #[.slice A5 x.ss.length c5, .slice A6 x.ps.length c6, .int .i64 x.left, .bool x.st], .int .i64 at0, .slice (some ⟨(X9).heap.size, 0, none⟩) 1 1] (by simp [Act.eval, Act.put]) (enters_of Try.func19 (by kernel_rfl) rfl) (Write_is (F5.out.upb HBy.out) BY.out (a := at0) HST.out.1 HU2.out) ?_
            rintro e wz ⟨A7, c7, A8, c8, rfl, hd, hb, hsec⟩
            have HBz := Lib.hid (HBy.out.up hb)
            have FZ := Lib.hid hd
            have NB5' := Lib.hid (And.intro (nb_sec (F5.out.upb HBy.out) hd hsec HN5x.out.1 (Nat.lt_of_lt_of_le Z5.out.lt HBy.out.size)) (nb_sec (F5.out.upb HBy.out) hd hsec HN5x.out.2 (Nat.lt_of_lt_of_le Z6.out.lt HBy.out.size)))
            clear hd hsec
            refine ⟨_, rfl, hK.out _ _ (fun _ => HBz.out) (fun _ => ?_)⟩
            clear hK K hb HBy BY
            refine wpAnyU_take0D (i := 9) (v := .tuple #[.agg #[.slice A7 u.ss.length c7, .slice A8 u.ps.length c8, .int .i64 u.left, .bool u.st], .int .i64 0]) 69 rfl rfl (by kernel_rfl) (by kernel_rfl) (by kernel_rfl) (by kernel_rfl) (fun _ _ _ h => h) (.inl ⟨rfl, fun X hX => by go_simp⟩) (fun _ => HBz.out) ?_
            refine wpAnyU_take0D (i := 10) (v := .agg #[.slice A7 u.ss.length c7, .slice A8 u.ps.length c8, .int .i64 u.left, .bool u.st]) 79 rfl rfl (by kernel_rfl) (by kernel_rfl) (by kernel_rfl) (by kernel_rfl) (fun _ _ _ h => h) (.inl ⟨rfl, fun X hX => by go_simp⟩) (fun _ => HBz.out) ?_
            refine wpAnyU_take0D (i := 11) (v := .int .i64 0) 80 rfl rfl (by kernel_rfl) (by kernel_rfl) (by kernel_rfl) (by kernel_rfl) (fun _ _ _ h => h) (.inl ⟨rfl, fun X hX => by go_simp⟩) (fun _ => HBz.out) ?_
            refine wpAnyU_one (i := 12) (by kernel_rfl) rfl (fun K hK => ?_)
            go_simp
            refine hK.out _ _ (fun _ => HBz.out.up (al1 wz (.cells #[.slice none 0 0, .slice none 0 0, .int .i64 0, .bool false] 25))) (fun _ => ?_)
            clear hK K
            refine wpAnyU_one (i := 13) (by kernel_rfl) rfl (fun K hK => ?_)
            go_simp
            refine hK.out _ _ (fun h => absurd h (by decide)) (fun _ => ?_)
            clear hK K
            refine wpAnyU_one (i := 14) (by kernel_rfl) rfl (fun K hK => ?_)
            go_simp
            refine hK.out _ _ (fun h => absurd h (by decide)) (fun _ => ?_)
            clear hK K
            refine wpAnyU_done (by kernel_rfl) (NoPanic.normal ?_) _
            go_wp2_with (fail)
            go_meet
            case rel => exact ⟨_, _, _, _, _, rfl, rfl, Lib.hid (HBz.out.up (al1 wz _)), Lib.hid (Cells.new wz 25 _), Lib.hid (FZ.out.upb (al1 wz _)), NB5'⟩
          ·
            go_simp
            refine hK.out _ _ (fun _ => (HSd.out.up (al1 _ (.cells #[.int .u8 (pb.toNat : Int)] 5))).up (al1 _ (.cells #[.slice none 0 0, .slice none 0 0, .int .i64 0, .bool false] 25))) (fun _ => ?_)
            clear hK K
            refine wpAnyU_one (i := 8) (by kernel_rfl) rfl (fun K hK => ?_)
            have HBy := Lib.hid ((HSd.out.up (al1 _ (.cells #[.int .u8 (pb.toNat : Int)] 5))).up (al1 _ (.cells #[.slice none 0 0, .slice none 0 0, .int .i64 0, .bool false] 25)))
            have BY := Lib.hid (one_bytes pb _ rfl ((show Cells ((X9).drew.alloc (.cells #[.int .u8 (pb.toNat : Int)] 5)) (X9).heap.size 5 [.int .u8 (pb.toNat : Int)] from Cells.new (X9).drew 5 [.int .u8 (pb.toNat : Int)]).upb (al1 _ (.cells #[.slice none 0 0, .slice none 0 0, .int .i64 0, .bool false] 25))))
            refine step_fn rfl (.func 19) #[.tmp 70, .tmp 71, .tmp 77] _ rfl 19 #[] rfl #[.agg #[.slice A5 x.ss.length c5, .slice A6 x.ps.length c6, .int .i64 x.left, .bool x.st], .int .i64 at0, .slice (some ⟨(X9).heap.size, 0, none⟩) 1 1] (by simp [Act.eval, Act.put]) (enters_of Try.func19 (by kernel_rfl) rfl) (Write_is (F5.out.upb HBy.out) BY.out (a := at0) HST.out.1 HU2.out) ?_
            rintro e wz ⟨A7, c7, A8, c8, rfl, hd, hb, hsec⟩
            have HBz := Lib.hid (HBy.out.up hb)
            have FZ := Lib.hid hd
            have NB5' := Lib.hid (And.intro (nb_sec (F5.out.upb HBy.out) hd hsec HN5x.out.1 (Nat.lt_of_lt_of_le Z5.out.lt HBy.out.size)) (nb_sec (F5.out.upb HBy.out) hd hsec HN5x.out.2 (Nat.lt_of_lt_of_le Z6.out.lt HBy.out.size)))
            have HC6 := Lib.hid (((show Cells (((X9).drew.alloc (.cells #[.int .u8 (pb.toNat : Int)] 5)).alloc (.cells #[.slice none 0 0, .slice none 0 0, .int .i64 0, .bool false] 25)) ((X9).heap.size + 1) 25 [.slice none 0 0, .slice none 0 0, .int .i64 0, .bool false] from by have h := Cells.new ((X9).drew.alloc (.cells #[.int .u8 (pb.toNat : Int)] 5)) 25 [.slice none 0 0, .slice none 0 0, .int .i64 0, .bool false]; simpa using h)).upb hb)
            have c60 := HC6.out.cell (k := 0) rfl
            have c61 := HC6.out.cell (k := 1) rfl
            have c62 := HC6.out.cell (k := 2) rfl
            have c63 := HC6.out.cell (k := 3) rfl
            have d60 := HC6.out.frozen 0
            have d61 := HC6.out.frozen 1
            have d62 := HC6.out.frozen 2
            have d63 := HC6.out.frozen 3
            have NBX := Lib.hid (nb_sec (B := (X9).heap.size + 1) (F5.out.upb HBy.out) hd hsec (nb_new F5.out (by omega)) (HC6.out.lt |> fun _ => by have := HBy.out.size; simp only [World.size_alloc, World.size_drew] at this ⊢; omega))
            clear hd hsec
            refine ⟨_, rfl, hK.out _ _ (fun _ => HBz.out) (fun _ => ?_)⟩
            clear hK K hb HBy BY
            refine wpAnyU_take0D (i := 9) (v := .tuple #[.agg #[.slice A7 u.ss.length c7, .slice A8 u.ps.length c8, .int .i64 u.left, .bool u.st], .int .i64 0]) 69 rfl rfl (by kernel_rfl) (by kernel_rfl) (by kernel_rfl) (by kernel_rfl) (fun _ _ _ h => h) (.inl ⟨rfl, fun X hX => by go_simp⟩) (fun _ => HBz.out) ?_
            refine wpAnyU_take0D (i := 10) (v := .agg #[.slice A7 u.ss.length c7, .slice A8 u.ps.length c8, .int .i64 u.left, .bool u.st]) 79 rfl rfl (by kernel_rfl) (by kernel_rfl) (by kernel_rfl) (by kernel_rfl) (fun _ _ _ h => h) (.inl ⟨rfl, fun X hX => by go_simp⟩) (fun _ => HBz.out) ?_
            refine wpAnyU_take0D (i := 11) (v := .int .i64 0) 80 rfl rfl (by kernel_rfl) (by kernel_rfl) (by kernel_rfl) (by kernel_rfl) (fun _ _ _ h => h) (.inl ⟨rfl, fun X hX => by go_simp⟩) (fun _ => HBz.out) ?_
            refine wpAnyU_one (i := 13) (by kernel_rfl) rfl (fun K hK => ?_)
            go_simp
            refine hK.out _ _ (fun h => absurd h (by decide)) (fun _ => ?_)
            clear hK K
            refine wpAnyU_one (i := 14) (by kernel_rfl) rfl (fun K hK => ?_)
            go_simp
            refine hK.out _ _ (fun h => absurd h (by decide)) (fun _ => ?_)
            clear hK K
            refine wpAnyU_done (by kernel_rfl) (NoPanic.normal ?_) _
            go_wp2_with (fail)
            go_meet
            case rel => exact ⟨_, _, _, _, _, rfl, rfl, Lib.hid (below_set4 HBz.out (by omega) _ _ _ _), Lib.hid (HC6.out.set4 _ _ _ _), Lib.hid (FZ.out.box NBX.out HC6.out (grown_set4 _ _ _ _ _ _)), NB5'⟩
        ·
          go_simp
          refine hK.out _ _ (fun _ => (HSd.out.up (al1 _ (.cells #[.slice none 0 0, .slice none 0 0, .int .i64 0, .bool false] 25)))) (fun _ => ?_)
          clear hK K
          refine wpAnyU_one (i := 7) (by kernel_rfl) rfl (fun K hK => ?_)
          go_simp
          refine hK.out _ _ (fun _ => (HSd.out.up (al1 _ (.cells #[.slice none 0 0, .slice none 0 0, .int .i64 0, .bool false] 25))).up (al1 _ (.cells #[.int .u8 (pb.toNat : Int)] 5))) (fun _ => ?_)
          clear hK K
          refine wpAnyU_one (i := 8) (by kernel_rfl) rfl (fun K hK => ?_)
          have HBy := Lib.hid ((HSd.out.up (al1 _ (.cells #[.slice none 0 0, .slice none 0 0, .int .i64 0, .bool false] 25))).up (al1 _ (.cells #[.int .u8 (pb.toNat : Int)] 5)))
          have BY := Lib.hid (one_bytes pb _ rfl (show Cells (((X9).drew.alloc (.cells #[.slice none 0 0, .slice none 0 0, .int .i64 0, .bool false] 25)).alloc (.cells #[.int .u8 (pb.toNat : Int)] 5)) ((X9).heap.size + 1) 5 [.int .u8 (pb.toNat : Int)] from by have h := Cells.new ((X9).drew.alloc (.cells #[.slice none 0 0, .slice none 0 0, .int .i64 0, .bool false] 25)) 5 [.int .u8 (pb.toNat : Int)]; simpa using h))
          refine step_fn rfl (.func 19) #[.tmp 70, .tmp 71, .tmp 77] _ rfl 19 #[] rfl #[.agg #[.slice A5 x.ss.length c5, .slice A6 x.ps.length c6, .int .i64 x.left, .bool x.st], .int .i64 at0, .slice (some ⟨(X9).heap.size + 1, 0, none⟩) 1 1] (by simp [Act.eval, Act.put]) (enters_of Try.func19 (by kernel_rfl) rfl) (Write_is (F5.out.upb HBy.out) BY.out (a := at0) HST.out.1 HU2.out) ?_
          rintro e wz ⟨A7, c7, A8, c8, rfl, hd, hb, hsec⟩
          have HBz := Lib.hid (HBy.out.up hb)
          have FZ := Lib.hid hd
          have NB5' := Lib.hid (And.intro (nb_sec (F5.out.upb HBy.out) hd hsec HN5x.out.1 (Nat.lt_of_lt_of_le Z5.out.lt HBy.out.size)) (nb_sec (F5.out.upb HBy.out) hd hsec HN5x.out.2 (Nat.lt_of_lt_of_le Z6.out.lt HBy.out.size)))
          have HC6 := Lib.hid ((((show Cells ((X9).drew.alloc (.cells #[.slice none 0 0, .slice none 0 0, .int .i64 0, .bool false] 25)) (X9).heap.size 25 [.slice none 0 0, .slice none 0 0, .int .i64 0, .bool false] from Cells.new (X9).drew 25 [.slice none 0 0, .slice none 0 0, .int .i64 0, .bool false]).upb (al1 _ (.cells #[.int .u8 (pb.toNat : Int)] 5)))).upb hb)
          have c60 := HC6.out.cell (k := 0) rfl
          have c61 := HC6.out.cell (k := 1) rfl
          have c62 := HC6.out.cell (k := 2) rfl
          have c63 := HC6.out.cell (k := 3) rfl
          have d60 := HC6.out.frozen 0
          have d61 := HC6.out.frozen 1
          have d62 := HC6.out.frozen 2
          have d63 := HC6.out.frozen 3
          have NBX := Lib.hid (nb_sec (B := (X9).heap.size) (F5.out.upb HBy.out) hd hsec (nb_new F5.out (by omega)) (HC6.out.lt |> fun _ => by have := HBy.out.size; simp only [World.size_alloc, World.size_drew] at this ⊢; omega))
          clear hd hsec
          refine ⟨_, rfl, hK.out _ _ (fun _ => HBz.out) (fun _ => ?_)⟩
          clear hK K hb HBy BY
          refine wpAnyU_take0D (i := 9) (v := .tuple #[.agg #[.slice A7 u.ss.length c7, .slice A8 u.ps.length c8, .int .i64 u.left, .bool u.st], .int .i64 0]) 69 rfl rfl (by kernel_rfl) (by kernel_rfl) (by kernel_rfl) (by kernel_rfl) (fun _ _ _ h => h) (.inl ⟨rfl, fun X hX => by go_simp⟩) (fun _ => HBz.out) ?_
          refine wpAnyU_take0D (i := 10) (v := .agg #[.slice A7 u.ss.length c7, .slice A8 u.ps.length c8, .int .i64 u.left, .bool u.st]) 79 rfl rfl (by kernel_rfl) (by kernel_rfl) (by kernel_rfl) (by kernel_rfl) (fun _ _ _ h => h) (.inl ⟨rfl, fun X hX => by go_simp⟩) (fun _ => HBz.out) ?_
          refine wpAnyU_take0D (i := 11) (v := .int .i64 0) 80 rfl rfl (by kernel_rfl) (by kernel_rfl) (by kernel_rfl) (by kernel_rfl) (fun _ _ _ h => h) (.inl ⟨rfl, fun X hX => by go_simp⟩) (fun _ => HBz.out) ?_
          refine wpAnyU_one (i := 13) (by kernel_rfl) rfl (fun K hK => ?_)
          go_simp
          refine hK.out _ _ (fun h => absurd h (by decide)) (fun _ => ?_)
          clear hK K
          refine wpAnyU_one (i := 14) (by kernel_rfl) rfl (fun K hK => ?_)
          go_simp
          refine hK.out _ _ (fun h => absurd h (by decide)) (fun _ => ?_)
          clear hK K
          refine wpAnyU_done (by kernel_rfl) (NoPanic.normal ?_) _
          go_wp2_with (fail)
          go_meet
          case rel => exact ⟨_, _, _, _, _, rfl, rfl, Lib.hid (below_set4 HBz.out (by omega) _ _ _ _), Lib.hid (HC6.out.set4 _ _ _ _), Lib.hid (FZ.out.box NBX.out HC6.out (grown_set4 _ _ _ _ _ _)), NB5'⟩
      case rest =>
      obtain ⟨B10, A7, A8, c7, c8, rfl, rfl, HBc, Z10, F10, NB10⟩ := hcut
      replace HW := Lib.hid (HW.out.upb HBc.out)
      replace Z2 := Lib.hid (Z2.out.upb HBc.out)
      replace Z6 := Lib.hid (Z6.out.upb HBc.out)
      replace Z5 := Lib.hid (Z5.out.upb HBc.out)
      replace F5 := Lib.hid (F5.out.upb HBc.out)
      clear HBc
      have Z10l := Z10.out.lt
      have Z10c0 := Z10.out.cell (k := 0) rfl
      have Z10c1 := Z10.out.cell (k := 1) rfl
      have Z10c2 := Z10.out.cell (k := 2) rfl
      have Z10c3 := Z10.out.cell (k := 3) rfl
      go_wp2_with (fail)
      have hkm : (k : Int) ≤ 9223372036854775806 := by have := HN.out.1; omega
      have hl5 := Z5.out.lt
      have hl6 := Z6.out.lt
      refine (Sync_is F10.out HSY.out.1 HSY.out.2).mono ?_
      rintro e w9 ⟨A11, c11, A12, c12, rfl, hd, hb, hsec⟩
      have HNs := Lib.hid (And.intro (nb_sec F10.out hd hsec NB10.out.1 hl5) (nb_sec F10.out hd hsec NB10.out.2 hl6))
      have FS := Lib.hid hd
      replace HW := Lib.hid (HW.out.upb hb)
      replace Z2 := Lib.hid (Z2.out.upb hb)
      replace Z6 := Lib.hid (Z6.out.upb hb)
      replace Z5 := Lib.hid (Z5.out.upb hb)
      clear Z10l Z10c0 Z10c1 Z10c2 Z10c3
      clear hb hd hsec hl5 hl6 Z10 F10 NB10 F5 HN5x
      have Z5l := Z5.out.lt
      have Z5c0 := Z5.out.cell (k := 0) rfl
      have Z5c1 := Z5.out.cell (k := 1) rfl
      have Z5c2 := Z5.out.cell (k := 2) rfl
      have Z5c3 := Z5.out.cell (k := 3) rfl
      have Z5f0 := Z5.out.frozen 0
      have Z5f1 := Z5.out.frozen 1
      have Z5f2 := Z5.out.frozen 2
      have Z5f3 := Z5.out.frozen 3
      go_wp2_with (fail)
      clear Z5l Z5c0 Z5c1 Z5c2 Z5c3 Z5f0 Z5f1 Z5f2 Z5f3
      have GR := Lib.hid (grown_set4 w9 B5 (.slice A11 x'.ss.length c11) (.slice A12 x'.ps.length c12) (.int .i64 x'.left) (.bool x'.st))
      have FS' := Lib.hid (FS.out.box HNs.out.1 Z5.out GR.out)
      have Z5' := Lib.hid (Z5.out.set4 (.slice A11 x'.ss.length c11) (.slice A12 x'.ps.length c12) (.int .i64 x'.left) (.bool x'.st))
      have Z6' := Lib.hid (grownK Z6.out GR.out (fun h => HB.out.1 h.symm))
      have Z2' := Lib.hid (grownK Z2.out GR.out HBW.out.2.2.1)
      have HW' := Lib.hid (HW.out.set4 HBW.out.1 (.slice A11 x'.ss.length c11) (.slice A12 x'.ps.length c12) (.int .i64 x'.left) (.bool x'.st))
      unfold set4 at FS' Z5' Z6' Z2' HW'
      go_roundw
      case rel => exact ⟨k + 1, e', x', A11, A12, c11, c12, rfl, by go_num, by omega, Lib.hid HST.out.2, HW', Z2', Z6', Z5', FS', HNs⟩
      case measure => first | omega | (simp [intOf]; done) | (simp [intOf]; omega)
  case rest =>
  clear HW FU Z2 F2 Z6 Z5
  obtain ⟨rfl, A5, A6, c5, c6, HW, Z2, Z6, Z5, F5, HNX⟩ := hcut
  clear HT0 HN5
  have HSM := Lib.hid (show Small xq from by rw [← HQ.out.2]; exact small_sy (small_qd HL.out HI.out ac.length))
  have HQ0 := Lib.hid (Dv.qd_zero HI.out)
  go_wp2_with (fail)
  go_loopw [12] (fun s12 wr => ∃ (k : Nat) (y : Dk) (A7 A8 : Option Addr) (c7 c8 : Nat), s12 = .int .i64 k ∧ k ≤ ac.length ∧ Hid (Dv.qd d ac k = y) ∧ Hid (Bl w wr) ∧ Hid (Cells wr w.heap.size 25 [.slice A d.ss.length c1, .slice A2 0 c2, .int .i64 d.left, .bool false]) ∧ Hid (Cells wr B5 25 [.slice A5 xq.ss.length c5, .slice A6 xq.ps.length c6, .int .i64 xq.left, .bool xq.st]) ∧ Hid (IsD wr (.agg #[.slice A5 xq.ss.length c5, .slice A6 xq.ps.length c6, .int .i64 xq.left, .bool xq.st]) xq) ∧ Hid (Cells wr B6 25 [.slice A7 y.ss.length c7, .slice A8 y.ps.length c8, .int .i64 y.left, .bool y.st]) ∧ Hid (IsD wr (.agg #[.slice A7 y.ss.length c7, .slice A8 y.ps.length c8, .int .i64 y.left, .bool y.st]) y) ∧ Hid (NB B6 (.agg #[.slice A7 y.ss.length c7, .slice A8 y.ps.length c8, .int .i64 y.left, .bool y.st]) y)) (fun s12 _ => ac.length - (intOf s12).toNat)
  case atStart =>
    have hx := HP0.out
    have hst := HR.out.2
    refine ⟨0, d, A, A2, c1, c2, rfl, Nat.zero_le _, HQ0, HW, Z2, Z5, F5, ?_, ?_, ?_⟩
    all_goals rw [hx, hst]
    · exact Z6
    · exact Lib.hid (F20.out.upb HW.out.b)
    · exact HN6
  case round =>
    clear HW Z2 Z5 F5 Z6 HQ0 HN6
    obtain ⟨k, y, A7, A8, c7, c8, rfl, hk, HY, HW, Z2, Z5, F5, Z6, F6, HN6⟩ := hrel
    by_cases hlt : k < ac.length
    case neg =>
      obtain rfl : k = ac.length := by omega
      have hd1 : decide ((ac.length : Int) < (ac.length : Int)) = false := decide_eq_false (by omega)
      have hl6 := Z6.out.lt
      have Z6l := Z6.out.lt
      have Z6c0 := Z6.out.cell (k := 0) rfl
      have Z6c1 := Z6.out.cell (k := 1) rfl
      have Z6c2 := Z6.out.cell (k := 2) rfl
      have Z6c3 := Z6.out.cell (k := 3) rfl
      go_upto_region 22 with (fail)
      go_wp2_with (fail)
      refine (Sync_is F6.out (show Dv.syE y = eq by rw [← HY.out]; exact HQ.out.1) (show Dv.sy y = xq by rw [← HY.out]; exact HQ.out.2)).mono ?_
      rintro e w9 ⟨A11, c11, A12, c12, rfl, hd, hb, hsec⟩
      have FS := Lib.hid hd
      have NB6s := Lib.hid (nb_sec F6.out hd hsec HN6.out hl6)
      replace HW := Lib.hid (HW.out.upb hb)
      replace Z5 := Lib.hid (Z5.out.upb hb)
      replace F5 := Lib.hid (F5.out.upb hb)
      replace Z6 := Lib.hid (Z6.out.upb hb)
      clear Z6l Z6c0 Z6c1 Z6c2 Z6c3
      clear hb hd hsec hl6 Z2 F6 HN6
      have Z6l := Z6.out.lt
      have Z6c0 := Z6.out.cell (k := 0) rfl
      have Z6c1 := Z6.out.cell (k := 1) rfl
      have Z6c2 := Z6.out.cell (k := 2) rfl
      have Z6c3 := Z6.out.cell (k := 3) rfl
      have Z6f0 := Z6.out.frozen 0
      have Z6f1 := Z6.out.frozen 1
      have Z6f2 := Z6.out.frozen 2
      have Z6f3 := Z6.out.frozen 3
      go_upto_region 23 with (fail)
      clear Z6l Z6c0 Z6c1 Z6c2 Z6c3 Z6f0 Z6f1 Z6f2 Z6f3
      have GR := Lib.hid (grown_set4 w9 B6 (.slice A11 xq.ss.length c11) (.slice A12 xq.ps.length c12) (.int .i64 xq.left) (.bool xq.st))
      have F6' := Lib.hid (FS.out.box NB6s.out Z6.out GR.out)
      have Z6' := Lib.hid (Z6.out.set4 (.slice A11 xq.ss.length c11) (.slice A12 xq.ps.length c12) (.int .i64 xq.left) (.bool xq.st))
      have Z5' := Lib.hid (grownK Z5.out GR.out HB.out.1)
      have F5' := Lib.hid (F5.out.box HNX.out.2 Z6.out GR.out)
      have HW' := Lib.hid (HW.out.set4 HBW.out.2.1 (.slice A11 xq.ss.length c11) (.slice A12 xq.ps.length c12) (.int .i64 xq.left) (.bool xq.st))
      clear GR FS Z6 Z5 F5 HW NB6s
      unfold set4 at F6' Z5' Z6' HW' F5'
      obtain ⟨wz, hwz⟩ : ∃ X, ((((w9.setCell ⟨B6, 0, none⟩ (.slice A11 xq.ss.length c11)).setCell ⟨B6, 1, none⟩ (.slice A12 xq.ps.length c12)).setCell ⟨B6, 2, none⟩ (.int .i64 xq.left)).setCell ⟨B6, 3, none⟩ (.bool xq.st)) = X := ⟨_, rfl⟩
      rw [hwz] at F6' Z5' Z6' HW' F5'
      simp only [hwz]
      clear hwz
      have hee : (eq == eq) = true := beq_self_eq_true eq
      have Z5'l := Z5'.out.lt
      have Z5'c0 := Z5'.out.cell (k := 0) rfl
      have Z5'c1 := Z5'.out.cell (k := 1) rfl
      have Z5'c2 := Z5'.out.cell (k := 2) rfl
      have Z5'c3 := Z5'.out.cell (k := 3) rfl
      have Z6'l := Z6'.out.lt
      have Z6'c0 := Z6'.out.cell (k := 0) rfl
      have Z6'c1 := Z6'.out.cell (k := 1) rfl
      have Z6'c2 := Z6'.out.cell (k := 2) rfl
      have Z6'c3 := Z6'.out.cell (k := 3) rfl
      go_wp2_with (fail)
      refine (Same_is F5'.out F6'.out HSM.out.1 HSM.out.2 (decide_eq_true rfl)).mono ?_
      rintro e w10 ⟨rfl, hb⟩
      replace HW' := Lib.hid (HW'.out.upb hb)
      clear hb
      clear Z5'l Z5'c0 Z5'c1 Z5'c2 Z5'c3 Z6'l Z6'c0 Z6'c1 Z6'c2 Z6'c3
      go_wp2_with (fail)
      go_ret
      exact ⟨rfl, HW'.out.b⟩
    case pos =>
    have hd1 : decide ((k : Int) < (ac.length : Int)) = true := decide_eq_true (by omega)
    obtain ⟨pa, hpa⟩ : ∃ p, ac[k].a = p := ⟨_, rfl⟩
    obtain ⟨pb, hpb⟩ : ∃ p, ac[k].b = p := ⟨_, rfl⟩
    obtain ⟨bu, ou, hAU, hbu, hu0, hu1, hu2⟩ := acts_at (FU0.out.upb HW.out.b) hlt
    have HST := Lib.hid (Dv.qd_step HI.out hlt)
    rw [hpa] at hu1 HST
    rw [hpb] at hu2 HST
    clear hpa hpb hu0
    subst hAU
    have hnz : ¬ d.ss.length = 0 := by have := HI.out.2.2.2; omega
    have hna : (wrap64 (pa.toNat : Int)).tmod (d.ss.length : Int) = Dv.ta d pa := Dv.ta_mod d pa
    have hHna := Lib.hid hna
    clear hna
    go_wp2_with (fail)
    obtain ⟨at0, hat⟩ : ∃ a, Dv.ta d pa = a := ⟨_, rfl⟩
    rw [hat] at HST hHna
    clear hat
    obtain ⟨y', hy'⟩ : ∃ u, Dv.qd d ac (k + 1) = u := ⟨_, rfl⟩
    rw [HY.out, hy'] at HST
    have HY' := Lib.hid hy'
    clear hy'
    go_cut [13, 14] from 88 to 117 (fun s13 s14 wy => ∃ (B10 : Nat) (A9 A10 : Option Addr) (c9 c10 : Nat), s13 = .pointer (some ⟨B10, 0, none⟩) ∧ s14 = .int .i64 0 ∧ Hid (Below wr.heap.size wr wy) ∧ Hid (Cells wy B10 25 [.slice A9 y'.ss.length c9, .slice A10 y'.ps.length c10, .int .i64 y'.left, .bool y'.st]) ∧ Hid (IsD wy (.agg #[.slice A9 y'.ss.length c9, .slice A10 y'.ps.length c10, .int .i64 y'.left, .bool y'.st]) y') ∧ Hid (NB B6 (.agg #[.slice A9 y'.ss.length c9, .slice A10 y'.ps.length c10, .int .i64 y'.left, .bool y'.st]) y'))
    case first =>
      have HSd := Lib.hid (show Below (wr).heap.size (wr) (wr).drew from below_drewN (Below.refl _ _) 1)
      refine wp_region_noPanic ?_
      refine wp_region_U 22 (fun X => Below (wr).heap.size (wr) X) (by kernel_rfl) ?_
      refine wpAnyU_takeD (i := 0) (v := .agg #[.slice A7 y.ss.length c7, .slice A8 y.ps.length c8, .int .i64 y.left, .bool y.st]) 95 rfl rfl (by kernel_rfl) (by kernel_rfl) (by kernel_rfl) (by kernel_rfl) (by kernel_rfl) (by kernel_rfl) (fun _ _ _ h => h) (.inl ⟨rfl, fun X hX => ?_⟩) HSd.out ?_
      · obtain ⟨z0, z1, z2, z3⟩ := Z6.out.upb hX |> cells4; go_simp
      refine wpAnyU_takeD (i := 1) (v := .slice (some ⟨bu, ou, none⟩) ac.length cU) 96 rfl rfl (by kernel_rfl) (by kernel_rfl) (by kernel_rfl) (by kernel_rfl) (by kernel_rfl) (by kernel_rfl) (fun _ _ _ h => h) (.inl ⟨rfl, fun X hX => ?_⟩) HSd.out ?_
      · go_simp
      refine wpAnyU_takeD (i := 2) (v := .int .i64 (k : Int)) 97 rfl rfl (by kernel_rfl) (by kernel_rfl) (by kernel_rfl) (by kernel_rfl) (by kernel_rfl) (by kernel_rfl) (fun _ _ _ h => h) (.inl ⟨rfl, fun X hX => ?_⟩) HSd.out ?_
      · go_simp
      refine wpAnyU_takeD (i := 3) (v := .pointer (some ⟨bu, ou + k * 3, none⟩)) 98 rfl rfl (by kernel_rfl) (by kernel_rfl) (by kernel_rfl) (by kernel_rfl) (by kernel_rfl) (by kernel_rfl) (fun _ _ _ h => h) (.inl ⟨rfl, fun X hX => ?_⟩) HSd.out ?_
      · go_simp
      refine wpAnyU_takeD (i := 4) (v := .pointer (some ⟨bu, ou + k * 3 + 1, none⟩)) 99 rfl rfl (by kernel_rfl) (by kernel_rfl) (by kernel_rfl) (by kernel_rfl) (by kernel_rfl) (by kernel_rfl) (fun _ _ _ h => h) (.inl ⟨rfl, fun X hX => ?_⟩) HSd.out ?_
      · go_simp
      refine wpAnyU_takeD (i := 5) (v := .int .u8 (pa.toNat : Int)) 100 rfl rfl (by kernel_rfl) (by kernel_rfl) (by kernel_rfl) (by kernel_rfl) (by kernel_rfl) (by kernel_rfl) (fun _ _ _ h => h) (.inl ⟨rfl, fun X hX => ?_⟩) HSd.out ?_
      · have z := ((bcell hX).1 _ _ (cell_lt hu1)).trans hu1; go_simp
      refine wpAnyU_takeD (i := 6) (v := .int .i64 (wrap64 (pa.toNat : Int))) 101 rfl rfl (by kernel_rfl) (by kernel_rfl) (by kernel_rfl) (by kernel_rfl) (by kernel_rfl) (by kernel_rfl) (fun _ _ _ h => h) (.inl ⟨rfl, fun X hX => ?_⟩) HSd.out ?_
      · go_simp; have := pa.toNat_lt; rw [IntWalk.i64_in _ (by omega), IntWalk.wrap64_in _ (by omega)]
      refine wpAnyU_takeD (i := 7) (v := .pointer (some ⟨w.heap.size, 0, none⟩)) 102 rfl rfl (by kernel_rfl) (by kernel_rfl) (by kernel_rfl) (by kernel_rfl) (by kernel_rfl) (by kernel_rfl) (fun _ _ _ h => h) (.inl ⟨rfl, fun X hX => ?_⟩) HSd.out ?_
      · go_simp
      refine wpAnyU_takeD (i := 8) (v := .slice A d.ss.length c1) 103 rfl rfl (by kernel_rfl) (by kernel_rfl) (by kernel_rfl) (by kernel_rfl) (by kernel_rfl) (by kernel_rfl) (fun _ _ _ h => h) (.inl ⟨rfl, fun X hX => ?_⟩) HSd.out ?_
      · obtain ⟨z0, z1, z2, z3⟩ := Z2.out.upb hX |> cells4; go_simp
      refine wpAnyU_takeD (i := 9) (v := .int .i64 (d.ss.length : Int)) 104 rfl rfl (by kernel_rfl) (by kernel_rfl) (by kernel_rfl) (by kernel_rfl) (by kernel_rfl) (by kernel_rfl) (fun _ _ _ h => h) (.inl ⟨rfl, fun X hX => ?_⟩) HSd.out ?_
      · go_simp
      refine wpAnyU_takeD (i := 10) (v := .int .i64 ((wrap64 (pa.toNat : Int)).tmod (d.ss.length : Int))) 105 rfl rfl (by kernel_rfl) (by kernel_rfl) (by kernel_rfl) (by kernel_rfl) (by kernel_rfl) (by kernel_rfl) (fun _ _ _ h => h) (.inl ⟨rfl, fun X hX => ?_⟩) HSd.out ?_
      · go_simp
      refine wpAnyU_takeD (i := 11) (v := .slice (some ⟨bu, ou, none⟩) ac.length cU) 106 rfl rfl (by kernel_rfl) (by kernel_rfl) (by kernel_rfl) (by kernel_rfl) (by kernel_rfl) (by kernel_rfl) (fun _ _ _ h => h) (.inl ⟨rfl, fun X hX => ?_⟩) HSd.out ?_
      · go_simp
      refine wpAnyU_takeD (i := 12) (v := .int .i64 (k : Int)) 107 rfl rfl (by kernel_rfl) (by kernel_rfl) (by kernel_rfl) (by kernel_rfl) (by kernel_rfl) (by kernel_rfl) (fun _ _ _ h => h) (.inl ⟨rfl, fun X hX => ?_⟩) HSd.out ?_
      · go_simp
      refine wpAnyU_takeD (i := 13) (v := .pointer (some ⟨bu, ou + k * 3, none⟩)) 108 rfl rfl (by kernel_rfl) (by kernel_rfl) (by kernel_rfl) (by kernel_rfl) (by kernel_rfl) (by kernel_rfl) (fun _ _ _ h => h) (.inl ⟨rfl, fun X hX => ?_⟩) HSd.out ?_
      · go_simp
      refine wpAnyU_takeD (i := 14) (v := .pointer (some ⟨bu, ou + k * 3 + 2, none⟩)) 109 rfl rfl (by kernel_rfl) (by kernel_rfl) (by kernel_rfl) (by kernel_rfl) (by kernel_rfl) (by kernel_rfl) (fun _ _ _ h => h) (.inl ⟨rfl, fun X hX => ?_⟩) HSd.out ?_
      · go_simp
      refine wpAnyU_takeD (i := 15) (v := .int .u8 (pb.toNat : Int)) 110 rfl rfl (by kernel_rfl) (by kernel_rfl) (by kernel_rfl) (by kernel_rfl) (by kernel_rfl) (by kernel_rfl) (fun _ _ _ h => h) (.inl ⟨rfl, fun X hX => ?_⟩) HSd.out ?_
      · have z := ((bcell hX).1 _ _ (cell_lt hu2)).trans hu2; go_simp
      refine wpAnyU_two (i := 16) (j := 21) (by kernel_rfl) rfl rfl (fun K hK => ?_) (fun K hK => ?_)
      ·
        go_simp
        refine hK.out _ _ (fun _ => (HSd.out.up (al1 _ (.cells #[.int .u8 (pb.toNat : Int)] 5)))) (fun _ => ?_)
        clear hK K
        refine wpAnyU_two (i := 17) (j := 21) (by kernel_rfl) rfl rfl (fun K hK => ?_) (fun K hK => ?_)
        ·
          have HBy := Lib.hid ((HSd.out.up (al1 _ (.cells #[.int .u8 (pb.toNat : Int)] 5))))
          have BY := Lib.hid (one_bytes pb _ rfl (show Cells ((wr).drew.alloc (.cells #[.int .u8 (pb.toNat : Int)] 5)) (wr).heap.size 5 [.int .u8 (pb.toNat : Int)] from Cells.new (wr).drew 5 [.int .u8 (pb.toNat : Int)]))
          refine step_fn rfl (.func 19) #[.tmp 95, .tmp 105, .tmp 111] _ rfl 19 #[] rfl #[.agg #[.slice A7 y.ss.length c7, .slice A8 y.ps.length c8, .int .i64 y.left, .bool y.st], .int .i64 ((wrap64 (pa.toNat : Int)).tmod (d.ss.length : Int)), .slice (some ⟨(wr).heap.size, 0, none⟩) 1 1] (by simp [Act.eval, Act.put]) (enters_of Try.func19 (by kernel_rfl) rfl) (Write_is (F6.out.upb HBy.out) BY.out (show Dv.wrE y ((wrap64 (pa.toNat : Int)).tmod (d.ss.length : Int)) [pb] = 0 by rw [hHna.out]; exact HST.out.1) (show Dv.wr y ((wrap64 (pa.toNat : Int)).tmod (d.ss.length : Int)) [pb] = y' by rw [hHna.out]; exact HST.out.2)) ?_
          rintro e wz ⟨A9, c9, A10, c10, rfl, hd, hb, hsec⟩
          have HBz := Lib.hid (HBy.out.up hb)
          have FZ := Lib.hid hd
          have NB6' := Lib.hid (nb_sec (F6.out.upb HBy.out) hd hsec HN6.out (Nat.lt_of_lt_of_le Z6.out.lt HBy.out.size))
          clear hd hsec
          refine ⟨_, rfl, hK.out _ _ (fun _ => HBz.out) (fun _ => ?_)⟩
          clear hK K hb HBy BY
          refine wpAnyU_take0D (i := 18) (v := .tuple #[.agg #[.slice A9 y'.ss.length c9, .slice A10 y'.ps.length c10, .int .i64 y'.left, .bool y'.st], .int .i64 0]) 94 rfl rfl (by kernel_rfl) (by kernel_rfl) (by kernel_rfl) (by kernel_rfl) (fun _ _ _ h => h) (.inl ⟨rfl, fun X hX => by go_simp⟩) (fun _ => HBz.out) ?_
          refine wpAnyU_take0D (i := 19) (v := .agg #[.slice A9 y'.ss.length c9, .slice A10 y'.ps.length c10, .int .i64 y'.left, .bool y'.st]) 113 rfl rfl (by kernel_rfl) (by kernel_rfl) (by kernel_rfl) (by kernel_rfl) (fun _ _ _ h => h) (.inl ⟨rfl, fun X hX => by go_simp⟩) (fun _ => HBz.out) ?_
          refine wpAnyU_take0D (i := 20) (v := .int .i64 0) 114 rfl rfl (by kernel_rfl) (by kernel_rfl) (by kernel_rfl) (by kernel_rfl) (fun _ _ _ h => h) (.inl ⟨rfl, fun X hX => by go_simp⟩) (fun _ => HBz.out) ?_
          refine wpAnyU_one (i := 21) (by kernel_rfl) rfl (fun K hK => ?_)
          go_simp
          refine hK.out _ _ (fun _ => HBz.out.up (al1 wz (.cells #[.slice none 0 0, .slice none 0 0, .int .i64 0, .bool false] 25))) (fun _ => ?_)
          clear hK K
          refine wpAnyU_one (i := 22) (by kernel_rfl) rfl (fun K hK => ?_)
          go_simp
          refine hK.out _ _ (fun h => absurd h (by decide)) (fun _ => ?_)
          clear hK K
          refine wpAnyU_one (i := 23) (by kernel_rfl) rfl (fun K hK => ?_)
          go_simp
          refine hK.out _ _ (fun h => absurd h (by decide)) (fun _ => ?_)
          clear hK K
          refine wpAnyU_done (by kernel_rfl) (NoPanic.normal ?_) _
          go_wp2_with (fail)
          go_meet
          case rel => exact ⟨_, _, _, _, _, rfl, rfl, Lib.hid (HBz.out.up (al1 wz _)), Lib.hid (Cells.new wz 25 _), Lib.hid (FZ.out.upb (al1 wz _)), NB6'⟩
        ·
          go_simp
          refine hK.out _ _ (fun _ => (HSd.out.up (al1 _ (.cells #[.int .u8 (pb.toNat : Int)] 5))).up (al1 _ (.cells #[.slice none 0 0, .slice none 0 0, .int .i64 0, .bool false] 25))) (fun _ => ?_)
          clear hK K
          refine wpAnyU_one (i := 17) (by kernel_rfl) rfl (fun K hK => ?_)
          have HBy := Lib.hid ((HSd.out.up (al1 _ (.cells #[.int .u8 (pb.toNat : Int)] 5))).up (al1 _ (.cells #[.slice none 0 0, .slice none 0 0, .int .i64 0, .bool false] 25)))
          have BY := Lib.hid (one_bytes pb _ rfl ((show Cells ((wr).drew.alloc (.cells #[.int .u8 (pb.toNat : Int)] 5)) (wr).heap.size 5 [.int .u8 (pb.toNat : Int)] from Cells.new (wr).drew 5 [.int .u8 (pb.toNat : Int)]).upb (al1 _ (.cells #[.slice none 0 0, .slice none 0 0, .int .i64 0, .bool false] 25))))
          refine step_fn rfl (.func 19) #[.tmp 95, .tmp 105, .tmp 111] _ rfl 19 #[] rfl #[.agg #[.slice A7 y.ss.length c7, .slice A8 y.ps.length c8, .int .i64 y.left, .bool y.st], .int .i64 ((wrap64 (pa.toNat : Int)).tmod (d.ss.length : Int)), .slice (some ⟨(wr).heap.size, 0, none⟩) 1 1] (by simp [Act.eval, Act.put]) (enters_of Try.func19 (by kernel_rfl) rfl) (Write_is (F6.out.upb HBy.out) BY.out (show Dv.wrE y ((wrap64 (pa.toNat : Int)).tmod (d.ss.length : Int)) [pb] = 0 by rw [hHna.out]; exact HST.out.1) (show Dv.wr y ((wrap64 (pa.toNat : Int)).tmod (d.ss.length : Int)) [pb] = y' by rw [hHna.out]; exact HST.out.2)) ?_
          rintro e wz ⟨A9, c9, A10, c10, rfl, hd, hb, hsec⟩
          have HBz := Lib.hid (HBy.out.up hb)
          have FZ := Lib.hid hd
          have NB6' := Lib.hid (nb_sec (F6.out.upb HBy.out) hd hsec HN6.out (Nat.lt_of_lt_of_le Z6.out.lt HBy.out.size))
          have HC6 := Lib.hid (((show Cells (((wr).drew.alloc (.cells #[.int .u8 (pb.toNat : Int)] 5)).alloc (.cells #[.slice none 0 0, .slice none 0 0, .int .i64 0, .bool false] 25)) ((wr).heap.size + 1) 25 [.slice none 0 0, .slice none 0 0, .int .i64 0, .bool false] from by have h := Cells.new ((wr).drew.alloc (.cells #[.int .u8 (pb.toNat : Int)] 5)) 25 [.slice none 0 0, .slice none 0 0, .int .i64 0, .bool false]; simpa using h)).upb hb)
          have c60 := HC6.out.cell (k := 0) rfl
          have c61 := HC6.out.cell (k := 1) rfl
          have c62 := HC6.out.cell (k := 2) rfl
          have c63 := HC6.out.cell (k := 3) rfl
          have d60 := HC6.out.frozen 0
          have d61 := HC6.out.frozen 1
          have d62 := HC6.out.frozen 2
          have d63 := HC6.out.frozen 3
          have NBX := Lib.hid (nb_sec (B := (wr).heap.size + 1) (F6.out.upb HBy.out) hd hsec (nb_new F6.out (by omega)) (HC6.out.lt |> fun _ => by have := HBy.out.size; simp only [World.size_alloc, World.size_drew] at this ⊢; omega))
          clear hd hsec
          refine ⟨_, rfl, hK.out _ _ (fun _ => HBz.out) (fun _ => ?_)⟩
          clear hK K hb HBy BY
          refine wpAnyU_take0D (i := 18) (v := .tuple #[.agg #[.slice A9 y'.ss.length c9, .slice A10 y'.ps.length c10, .int .i64 y'.left, .bool y'.st], .int .i64 0]) 94 rfl rfl (by kernel_rfl) (by kernel_rfl) (by kernel_rfl) (by kernel_rfl) (fun _ _ _ h => h) (.inl ⟨rfl, fun X hX => by go_simp⟩) (fun _ => HBz.out) ?_
          refine wpAnyU_take0D (i := 19) (v := .agg #[.slice A9 y'.ss.length c9, .slice A10 y'.ps.length c10, .int .i64 y'.left, .bool y'.st]) 113 rfl rfl (by kernel_rfl) (by kernel_rfl) (by kernel_rfl) (by kernel_rfl) (fun _ _ _ h => h) (.inl ⟨rfl, fun X hX => by go_simp⟩) (fun _ => HBz.out) ?_
          refine wpAnyU_take0D (i := 20) (v := .int .i64 0) 114 rfl rfl (by kernel_rfl) (by kernel_rfl) (by kernel_rfl) (by kernel_rfl) (fun _ _ _ h => h) (.inl ⟨rfl, fun X hX => by go_simp⟩) (fun _ => HBz.out) ?_
          refine wpAnyU_one (i := 22) (by kernel_rfl) rfl (fun K hK => ?_)
          go_simp
          refine hK.out _ _ (fun h => absurd h (by decide)) (fun _ => ?_)
          clear hK K
          refine wpAnyU_one (i := 23) (by kernel_rfl) rfl (fun K hK => ?_)
          go_simp
          refine hK.out _ _ (fun h => absurd h (by decide)) (fun _ => ?_)
          clear hK K
          refine wpAnyU_done (by kernel_rfl) (NoPanic.normal ?_) _
          go_wp2_with (fail)
          go_meet
          case rel => exact ⟨_, _, _, _, _, rfl, rfl, Lib.hid (below_set4 HBz.out (by omega) _ _ _ _), Lib.hid (HC6.out.set4 _ _ _ _), Lib.hid (FZ.out.box NBX.out HC6.out (grown_set4 _ _ _ _ _ _)), NB6'⟩
      ·
        go_simp
        refine hK.out _ _ (fun _ => (HSd.out.up (al1 _ (.cells #[.slice none 0 0, .slice none 0 0, .int .i64 0, .bool false] 25)))) (fun _ => ?_)
        clear hK K
        refine wpAnyU_one (i := 16) (by kernel_rfl) rfl (fun K hK => ?_)
        go_simp
        refine hK.out _ _ (fun _ => (HSd.out.up (al1 _ (.cells #[.slice none 0 0, .slice none 0 0, .int .i64 0, .bool false] 25))).up (al1 _ (.cells #[.int .u8 (pb.toNat : Int)] 5))) (fun _ => ?_)
        clear hK K
        refine wpAnyU_one (i := 17) (by kernel_rfl) rfl (fun K hK => ?_)
        have HBy := Lib.hid ((HSd.out.up (al1 _ (.cells #[.slice none 0 0, .slice none 0 0, .int .i64 0, .bool false] 25))).up (al1 _ (.cells #[.int .u8 (pb.toNat : Int)] 5)))
        have BY := Lib.hid (one_bytes pb _ rfl (show Cells (((wr).drew.alloc (.cells #[.slice none 0 0, .slice none 0 0, .int .i64 0, .bool false] 25)).alloc (.cells #[.int .u8 (pb.toNat : Int)] 5)) ((wr).heap.size + 1) 5 [.int .u8 (pb.toNat : Int)] from by have h := Cells.new ((wr).drew.alloc (.cells #[.slice none 0 0, .slice none 0 0, .int .i64 0, .bool false] 25)) 5 [.int .u8 (pb.toNat : Int)]; simpa using h))
        refine step_fn rfl (.func 19) #[.tmp 95, .tmp 105, .tmp 111] _ rfl 19 #[] rfl #[.agg #[.slice A7 y.ss.length c7, .slice A8 y.ps.length c8, .int .i64 y.left, .bool y.st], .int .i64 ((wrap64 (pa.toNat : Int)).tmod (d.ss.length : Int)), .slice (some ⟨(wr).heap.size + 1, 0, none⟩) 1 1] (by simp [Act.eval, Act.put]) (enters_of Try.func19 (by kernel_rfl) rfl) (Write_is (F6.out.upb HBy.out) BY.out (show Dv.wrE y ((wrap64 (pa.toNat : Int)).tmod (d.ss.length : Int)) [pb] = 0 by rw [hHna.out]; exact HST.out.1) (show Dv.wr y ((wrap64 (pa.toNat : Int)).tmod (d.ss.length : Int)) [pb] = y' by rw [hHna.out]; exact HST.out.2)) ?_
        rintro e wz ⟨A9, c9, A10, c10, rfl, hd, hb, hsec⟩
        have HBz := Lib.hid (HBy.out.up hb)
        have FZ := Lib.hid hd
        have NB6' := Lib.hid (nb_sec (F6.out.upb HBy.out) hd hsec HN6.out (Nat.lt_of_lt_of_le Z6.out.lt HBy.out.size))
        have HC6 := Lib.hid ((((show Cells ((wr).drew.alloc (.cells #[.slice none 0 0, .slice none 0 0, .int .i64 0, .bool false] 25)) (wr).heap.size 25 [.slice none 0 0, .slice none 0 0, .int .i64 0, .bool false] from Cells.new (wr).drew 25 [.slice none 0 0, .slice none 0 0, .int .i64 0, .bool false]).upb (al1 _ (.cells #[.int .u8 (pb.toNat : Int)] 5)))).upb hb)
        have c60 := HC6.out.cell (k := 0) rfl
        have c61 := HC6.out.cell (k := 1) rfl
        have c62 := HC6.out.cell (k := 2) rfl
        have c63 := HC6.out.cell (k := 3) rfl
        have d60 := HC6.out.frozen 0
        have d61 := HC6.out.frozen 1
        have d62 := HC6.out.frozen 2
        have d63 := HC6.out.frozen 3
        have NBX := Lib.hid (nb_sec (B := (wr).heap.size) (F6.out.upb HBy.out) hd hsec (nb_new F6.out (by omega)) (HC6.out.lt |> fun _ => by have := HBy.out.size; simp only [World.size_alloc, World.size_drew] at this ⊢; omega))
        clear hd hsec
        refine ⟨_, rfl, hK.out _ _ (fun _ => HBz.out) (fun _ => ?_)⟩
        clear hK K hb HBy BY
        refine wpAnyU_take0D (i := 18) (v := .tuple #[.agg #[.slice A9 y'.ss.length c9, .slice A10 y'.ps.length c10, .int .i64 y'.left, .bool y'.st], .int .i64 0]) 94 rfl rfl (by kernel_rfl) (by kernel_rfl) (by kernel_rfl) (by kernel_rfl) (fun _ _ _ h => h) (.inl ⟨rfl, fun X hX => by go_simp⟩) (fun _ => HBz.out) ?_
        refine wpAnyU_take0D (i := 19) (v := .agg #[.slice A9 y'.ss.length c9, .slice A10 y'.ps.length c10, .int .i64 y'.left, .bool y'.st]) 113 rfl rfl (by kernel_rfl) (by kernel_rfl) (by kernel_rfl) (by kernel_rfl) (fun _ _ _ h => h) (.inl ⟨rfl, fun X hX => by go_simp⟩) (fun _ => HBz.out) ?_
        refine wpAnyU_take0D (i := 20) (v := .int .i64 0) 114 rfl rfl (by kernel_rfl) (by kernel_rfl) (by kernel_rfl) (by kernel_rfl) (fun _ _ _ h => h) (.inl ⟨rfl, fun X hX => by go_simp⟩) (fun _ => HBz.out) ?_
        refine wpAnyU_one (i := 22) (by kernel_rfl) rfl (fun K hK => ?_)
        go_simp
        refine hK.out _ _ (fun h => absurd h (by decide)) (fun _ => ?_)
        clear hK K
        refine wpAnyU_one (i := 23) (by kernel_rfl) rfl (fun K hK => ?_)
        go_simp
        refine hK.out _ _ (fun h => absurd h (by decide)) (fun _ => ?_)
        clear hK K
        refine wpAnyU_done (by kernel_rfl) (NoPanic.normal ?_) _
        go_wp2_with (fail)
        go_meet
        case rel => exact ⟨_, _, _, _, _, rfl, rfl, Lib.hid (below_set4 HBz.out (by omega) _ _ _ _), Lib.hid (HC6.out.set4 _ _ _ _), Lib.hid (FZ.out.box NBX.out HC6.out (grown_set4 _ _ _ _ _ _)), NB6'⟩
    case rest =>
    obtain ⟨B10, A9, A10, c9, c10, rfl, rfl, HBc, Z10, F10, NB10⟩ := hcut
    replace HW := Lib.hid (HW.out.upb HBc.out)
    replace Z2 := Lib.hid (Z2.out.upb HBc.out)
    replace Z5 := Lib.hid (Z5.out.upb HBc.out)
    replace F5 := Lib.hid (F5.out.upb HBc.out)
    replace Z6 := Lib.hid (Z6.out.upb HBc.out)
    clear HBc F6 HN6
    have Z10l := Z10.out.lt
    have Z10c0 := Z10.out.cell (k := 0) rfl
    have Z10c1 := Z10.out.cell (k := 1) rfl
    have Z10c2 := Z10.out.cell (k := 2) rfl
    have Z10c3 := Z10.out.cell (k := 3) rfl
    have Z6l := Z6.out.lt
    have Z6c0 := Z6.out.cell (k := 0) rfl
    have Z6c1 := Z6.out.cell (k := 1) rfl
    have Z6c2 := Z6.out.cell (k := 2) rfl
    have Z6c3 := Z6.out.cell (k := 3) rfl
    have Z6f0 := Z6.out.frozen 0
    have Z6f1 := Z6.out.frozen 1
    have Z6f2 := Z6.out.frozen 2
    have Z6f3 := Z6.out.frozen 3
    have hkm : (k : Int) ≤ 9223372036854775806 := by have := HI.out.2.2.1; omega
    go_wp2_with (fail)
    clear Z10l Z10c0 Z10c1 Z10c2 Z10c3 Z6l Z6c0 Z6c1 Z6c2 Z6c3 Z6f0 Z6f1 Z6f2 Z6f3
    have F6' := Lib.hid (F10.out.box NB10.out Z6.out (grown_set4 _ B6 (.slice A9 y'.ss.length c9) (.slice A10 y'.ps.length c10) (.int .i64 y'.left) (.bool y'.st)))
    have Z6' := Lib.hid (Z6.out.set4 (.slice A9 y'.ss.length c9) (.slice A10 y'.ps.length c10) (.int .i64 y'.left) (.bool y'.st))
    have Z5' := Lib.hid (grownK Z5.out (grown_set4 _ B6 (.slice A9 y'.ss.length c9) (.slice A10 y'.ps.length c10) (.int .i64 y'.left) (.bool y'.st)) HB.out.1)
    have F5' := Lib.hid (F5.out.box HNX.out.2 Z6.out (grown_set4 _ B6 (.slice A9 y'.ss.length c9) (.slice A10 y'.ps.length c10) (.int .i64 y'.left) (.bool y'.st)))
    have Z2' := Lib.hid (grownK Z2.out (grown_set4 _ B6 (.slice A9 y'.ss.length c9) (.slice A10 y'.ps.length c10) (.int .i64 y'.left) (.bool y'.st)) HBW.out.2.2.2)
    have HW' := Lib.hid (HW.out.set4 HBW.out.2.1 (.slice A9 y'.ss.length c9) (.slice A10 y'.ps.length c10) (.int .i64 y'.left) (.bool y'.st))
    unfold set4 at F6' Z5' Z6' Z2' HW' F5'
    go_roundw
    case rel => exact ⟨k + 1, y', A9, A10, c9, c10, by go_num, by omega, HY', HW', Z2', Z5', F5', Z6', F6', NB10⟩
    case measure => first | omega | (simp [intOf]; done) | (simp [intOf]; omega)
end Go.Proofs.Ytimpnpdhhhbmgaa
