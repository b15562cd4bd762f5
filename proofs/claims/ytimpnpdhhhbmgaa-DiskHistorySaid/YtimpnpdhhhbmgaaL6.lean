/- Walk of DiskHistory. -/
import Derived.Test.YtimpnpdhhhbmgaaW29
import Derived.Test.YtimpnpdhhhbmgaaL1
import Derived.StillTailTactics
import Derived.Deep.Cut
import Derived.Deep.CutBlock
import Derived.Deep.CutRange
namespace Go.Proofs.Ytimpnpdhhhbmgaa
open Go.RowKit
set_option linter.unusedVariables false
set_option linter.unusedSimpArgs false

theorem hs_d128 {d : Dk} {L F : List UInt8} {wt : List Ac} {room : Nat} (h : Dv.Hs d L F wt room) : D128 d := by
  refine ⟨fun q hq => ?_, fun p hp => ?_⟩
  · rw [h.ss] at hq
    obtain ⟨c, _, rfl⟩ := List.mem_map.1 hq
    exact Dv.two_len c c
  · rw [h.ps] at hp
    obtain ⟨q, _, rfl⟩ := List.mem_map.1 hp
    exact Dv.two_len _ _

theorem sync_d128 {d : Dk} {L F : List UInt8} {wt : List Ac} {room : Nat} (h : Dv.Hs d L F wt room) (hn : wt.length ≤ 4096) : D128 (Dv.sy d) := by
  by_cases hs : room < wt.length
  · have h3 := (h.sync_stop hs).2.2
    refine ⟨fun q hq => ?_, fun p hp => ?_⟩
    · rw [h3] at hq
      rcases List.mem_or_eq_of_mem_set hq with hm | rfl
      · obtain ⟨c, _, rfl⟩ := List.mem_map.1 hm
        exact Dv.two_len c c
      · exact Dv.two_len _ _
    · have hst : Dv.Stops d := by
        unfold Dv.Stops
        rw [h.left, h.ps, Dv.pw, List.length_map]
        omega
      have h1 : Dv.sy d = ⟨Dv.halfS d d.left.toNat, [], 0, true⟩ := by unfold Dv.sy; rw [if_pos h.run, if_pos hst]
      rw [h1] at hp
      cases hp
  · exact hs_d128 (h.sync_ok (by omega) hn).2
theorem cells4 {W : World} {B : Nat} {a b c d : Value} (h : Cells W B 25 [a, b, c, d]) : W.cell? ⟨B, 0, none⟩ = some a ∧ W.cell? ⟨B, 1, none⟩ = some b ∧ W.cell? ⟨B, 2, none⟩ = some c ∧ W.cell? ⟨B, 3, none⟩ = some d := ⟨h.cell rfl, h.cell rfl, h.cell rfl, h.cell rfl⟩
theorem start_boxes (W : World) (base : Nat) (hb : base ≤ W.heap.size) :
    Below W.heap.size W ((((W.alloc (.cells #[.int .u8 0, .int .u8 0, .int .u8 0, .int .u8 0] 44)).alloc (.cells #[.int .u8 0, .int .u8 0, .int .u8 0, .int .u8 0] 44)).alloc (.cells #[.int .u8 0, .int .u8 0, .int .u8 0, .int .u8 0] 44)).alloc (.cells #[] 46)) ∧
    Q4 ((((W.alloc (.cells #[.int .u8 0, .int .u8 0, .int .u8 0, .int .u8 0] 44)).alloc (.cells #[.int .u8 0, .int .u8 0, .int .u8 0, .int .u8 0] 44)).alloc (.cells #[.int .u8 0, .int .u8 0, .int .u8 0, .int .u8 0] 44)).alloc (.cells #[] 46)) W.heap.size [0, 0, 0, 0] ∧
    Q4 ((((W.alloc (.cells #[.int .u8 0, .int .u8 0, .int .u8 0, .int .u8 0] 44)).alloc (.cells #[.int .u8 0, .int .u8 0, .int .u8 0, .int .u8 0] 44)).alloc (.cells #[.int .u8 0, .int .u8 0, .int .u8 0, .int .u8 0] 44)).alloc (.cells #[] 46)) (W.heap.size + 1) [0, 0, 0, 0] ∧
    Q4 ((((W.alloc (.cells #[.int .u8 0, .int .u8 0, .int .u8 0, .int .u8 0] 44)).alloc (.cells #[.int .u8 0, .int .u8 0, .int .u8 0, .int .u8 0] 44)).alloc (.cells #[.int .u8 0, .int .u8 0, .int .u8 0, .int .u8 0] 44)).alloc (.cells #[] 46)) (W.heap.size + 1 + 1) [0, 0, 0, 0] ∧
    OwnA2 ((((W.alloc (.cells #[.int .u8 0, .int .u8 0, .int .u8 0, .int .u8 0] 44)).alloc (.cells #[.int .u8 0, .int .u8 0, .int .u8 0, .int .u8 0] 44)).alloc (.cells #[.int .u8 0, .int .u8 0, .int .u8 0, .int .u8 0] 44)).alloc (.cells #[] 46)) base (.slice (some ⟨W.heap.size + 1 + 1 + 1, 0, none⟩) 0 0) [] := by
  have q : ∀ X : World, Q4 (X.alloc (.cells #[.int .u8 0, .int .u8 0, .int .u8 0, .int .u8 0] 44)) X.heap.size [0, 0, 0, 0] := fun X => ⟨rfl, Cells.new X 44 [.int .u8 0, .int .u8 0, .int .u8 0, .int .u8 0]⟩
  refine ⟨(((al1 W _).up (al1 _ _)).up (al1 _ _)).up (al1 _ _), (((q W).upb (al1 _ _)).upb (al1 _ _)).upb (al1 _ _), ?_, ?_, ?_⟩
  · have h := ((q (W.alloc (.cells #[.int .u8 0, .int .u8 0, .int .u8 0, .int .u8 0] 44))).upb (al1 _ (.cells #[.int .u8 0, .int .u8 0, .int .u8 0, .int .u8 0] 44))).upb (al1 _ (.cells #[] 46))
    rw [World.size_alloc] at h
    exact h
  · have h := (q ((W.alloc (.cells #[.int .u8 0, .int .u8 0, .int .u8 0, .int .u8 0] 44)).alloc (.cells #[.int .u8 0, .int .u8 0, .int .u8 0, .int .u8 0] 44))).upb (al1 _ (.cells #[] 46))
    rw [World.size_alloc, World.size_alloc] at h
    exact h
  · have h := OwnA2.empty (((W.alloc (.cells #[.int .u8 0, .int .u8 0, .int .u8 0, .int .u8 0] 44)).alloc (.cells #[.int .u8 0, .int .u8 0, .int .u8 0, .int .u8 0] 44)).alloc (.cells #[.int .u8 0, .int .u8 0, .int .u8 0, .int .u8 0] 44)) base (by simp only [World.size_alloc]; omega)
    rw [World.size_alloc, World.size_alloc, World.size_alloc] at h
    exact h

set_option maxHeartbeats 8000000 in
set_option maxRecDepth 100000 in
theorem DiskHistory_any {u : Value} {ac : List Ac} {lf : UInt8} {w : World} (hu : IsActs w u ac) :
    Calls Try.prog 6 #[u, .int .u8 (lf.toNat : Int)] w fun e w' => e = .returned (.bool true) ∧ Below w.heap.size w w' := by
  have FU := Lib.hid hu
  obtain ⟨AU, cU, rfl, _⟩ := id hu
  have FU0 := Lib.hid hu
  clear hu
  obtain ⟨lf, hlf, hl8⟩ : ∃ n : Nat, lf.toNat = n ∧ n < 256 := ⟨_, rfl, lf.toNat_lt⟩
  rw [hlf]
  clear hlf
  have HS := Lib.hid (Dv.Hs.start lf (by omega))
  have HW := Lib.hid (Bl.mk (Below.refl w.heap.size w))
  go_enter Try.func6, Try.ntmps6
  go_wp2_with (fail)
  refine (sane_any _).mono ?_
  rintro e w1 ⟨rfl, hb⟩
  replace FU := Lib.hid (FU.out.upb hb)
  replace HW := Lib.hid (HW.out.upb hb)
  clear hb
  by_cases hb1 : (40 : Int) < (ac.length : Int)
  case pos =>
    have t1 : decide ((40 : Int) < (ac.length : Int)) = true := decide_eq_true hb1
    clear hb1
    go_wp2_with (fail)
    go_ret
    exact ⟨rfl, HW.out.b⟩
  case neg =>
  have t1 : decide ((40 : Int) < (ac.length : Int)) = false := decide_eq_false hb1
  have HN := Lib.hid (show ac.length ≤ 40 by omega)
  clear hb1
  obtain ⟨q0, hq0⟩ : ∃ q, Dv.nw 4 = q := ⟨_, rfl⟩
  obtain ⟨q1, hq1⟩ : ∃ q, Dv.stp q0 (lf : Int) = q := ⟨_, rfl⟩
  rw [hq0, hq1] at HS
  have HQ := Lib.hid (And.intro hq0 hq1)
  clear hq0 hq1
  go_upto_region 5 with (fail)
  go_wp2_with (fail)
  refine (New_is (n := 4) HS.out.1 HQ.out.1).mono ?_
  rintro e w2 ⟨A1, c1, B1, d1, rfl, hd, hb⟩
  replace FU := Lib.hid (FU.out.upb hb)
  replace HW := Lib.hid (HW.out.upb hb)
  clear hb
  have F1 := Lib.hid hd
  clear hd
  have HB5 := Lib.hid HW.out.b.size
  go_upto_region 6 with (fail)
  replace FU := Lib.hid (FU.out.upb (al1 (w2) (.cells #[.slice A1 q0.ss.length c1, .slice B1 q0.ps.length d1, .int .i64 q0.left, .bool q0.st] 25)))
  replace HW := Lib.hid (HW.out.upb (al1 (w2) (.cells #[.slice A1 q0.ss.length c1, .slice B1 q0.ps.length d1, .int .i64 q0.left, .bool q0.st] 25)))
  replace F1 := Lib.hid (F1.out.upb (al1 (w2) (.cells #[.slice A1 q0.ss.length c1, .slice B1 q0.ps.length d1, .int .i64 q0.left, .bool q0.st] 25)))
  have Z5 := Lib.hid (Cells.new (w2) 25 [.slice A1 q0.ss.length c1, .slice B1 q0.ps.length d1, .int .i64 q0.left, .bool q0.st])
  have Z5l := Z5.out.lt
  have Z5c0 := Z5.out.cell (k := 0) rfl
  have Z5c1 := Z5.out.cell (k := 1) rfl
  have Z5c2 := Z5.out.cell (k := 2) rfl
  have Z5c3 := Z5.out.cell (k := 3) rfl
  have hl64 : (lf : Int) ≤ 255 := by omega
  go_wp2_with (fail)
  refine (Stop_is F1.out (a := (lf : Int)) HS.out.2.1 HQ.out.2).mono ?_
  rintro e w3 ⟨A2, c2, B2, d2, rfl, hd, hb, hsec⟩
  replace FU := Lib.hid (FU.out.upb hb)
  replace HW := Lib.hid (HW.out.upb hb)
  replace F1 := Lib.hid (F1.out.upb hb)
  replace Z5 := Lib.hid (Z5.out.upb hb)
  clear hb
  clear Z5l Z5c0 Z5c1 Z5c2 Z5c3
  have F2 := Lib.hid hd
  clear hd hsec
  clear F1
  have Z5l := Z5.out.lt
  have Z5c0 := Z5.out.cell (k := 0) rfl
  have Z5c1 := Z5.out.cell (k := 1) rfl
  have Z5c2 := Z5.out.cell (k := 2) rfl
  have Z5c3 := Z5.out.cell (k := 3) rfl
  have Z5f0 := Z5.out.frozen 0
  have Z5f1 := Z5.out.frozen 1
  have Z5f2 := Z5.out.frozen 2
  have Z5f3 := Z5.out.frozen 3
  go_upto_region 7 with (fail)
  clear Z5l Z5c0 Z5c1 Z5c2 Z5c3 Z5f0 Z5f1 Z5f2 Z5f3
  have GR := Lib.hid (grown_set4 w3 w2.heap.size (.slice A2 q1.ss.length c2) (.slice B2 q1.ps.length d2) (.int .i64 q1.left) (.bool q1.st))
  have h4q : q1.ss.length = 4 := HS.out.2.2.sl
  replace F2 := Lib.hid (F2.out.box4 (by omega) Z5.out GR.out)
  replace Z5 := Lib.hid (Z5.out.set4 (.slice A2 q1.ss.length c2) (.slice B2 q1.ps.length d2) (.int .i64 q1.left) (.bool q1.st))
  have hws : w.heap.size ≤ w2.heap.size := HB5.out
  replace HW := Lib.hid (HW.out.set4 hws (.slice A2 q1.ss.length c2) (.slice B2 q1.ps.length d2) (.int .i64 q1.left) (.bool q1.st))
  replace FU := Lib.hid (FU0.out.upb HW.out.b)
  clear GR h4q hws
  unfold set4 at F2 Z5 HW FU
  obtain ⟨wz, hwz⟩ : ∃ X, ((((w3.setCell ⟨w2.heap.size, 0, none⟩ (.slice A2 q1.ss.length c2)).setCell ⟨w2.heap.size, 1, none⟩ (.slice B2 q1.ps.length d2)).setCell ⟨w2.heap.size, 2, none⟩ (.int .i64 q1.left)).setCell ⟨w2.heap.size, 3, none⟩ (.bool q1.st)) = X := ⟨_, rfl⟩
  rw [hwz] at F2 Z5 HW FU
  simp only [hwz]
  clear hwz
  obtain ⟨B5, hB5⟩ : ∃ B, w2.heap.size = B := ⟨_, rfl⟩
  rw [hB5] at Z5 HB5
  simp only [hB5]
  clear hB5
  go_upto_region 10 with (fail)
  have HT := Lib.hid (start_boxes wz w.heap.size HW.out.b.size)
  have h5 := Z5.out.lt
  have h5w := HB5.out
  have HWZ := Lib.hid HW.out.b.size
  have HNE := Lib.hid (show B5 ≠ wz.heap.size ∧ B5 ≠ wz.heap.size + 1 ∧ B5 ≠ wz.heap.size + 1 + 1 from ⟨by omega, by omega, by omega⟩)
  clear h5 h5w
  go_wp2_with (fail)
  obtain ⟨X0, hX0⟩ : ∃ X, ((((wz.alloc (.cells #[.int .u8 0, .int .u8 0, .int .u8 0, .int .u8 0] 44)).alloc (.cells #[.int .u8 0, .int .u8 0, .int .u8 0, .int .u8 0] 44)).alloc (.cells #[.int .u8 0, .int .u8 0, .int .u8 0, .int .u8 0] 44)).alloc (.cells #[] 46)) = X := ⟨_, rfl⟩
  rw [hX0] at HT
  simp only [hX0]
  clear hX0
  have HT1 := Lib.hid HT.out.1
  have Q8 := Lib.hid HT.out.2.1
  have Q9 := Lib.hid HT.out.2.2.1
  have Q10 := Lib.hid HT.out.2.2.2.1
  have OW := Lib.hid HT.out.2.2.2.2
  clear HT
  replace HW := Lib.hid (HW.out.upb HT1.out)
  replace F2 := Lib.hid (F2.out.upb HT1.out)
  replace Z5 := Lib.hid (Z5.out.upb HT1.out)
  clear HT1 FU
  have HB8 := Lib.hid (HWZ.out)
  obtain ⟨B8, hB8⟩ : ∃ B, wz.heap.size = B := ⟨_, rfl⟩
  rw [hB8] at Q8 Q9 Q10 OW HNE HB8
  simp only [hB8]
  clear hB8
  go_loopw [11, 12, 13] (fun s11 s12 s13 wr => ∃ (k room : Nat) (x : Dk) (L F : By) (wt : List Ac) (A5 A6 A11 : Option Addr) (c5 c6 c11 : Nat), s11 = .slice A11 wt.length c11 ∧ s12 = .int .i64 room ∧ s13 = .int .i64 k ∧ k ≤ ac.length ∧ Hid (wt.length ≤ k) ∧ room ≤ 255 ∧ Hid (Dv.Hs x L F wt room) ∧ Hid (Bl w wr) ∧ Hid (Cells wr B5 25 [.slice A5 x.ss.length c5, .slice A6 x.ps.length c6, .int .i64 x.left, .bool x.st]) ∧ Hid (IsD wr (.agg #[.slice A5 x.ss.length c5, .slice A6 x.ps.length c6, .int .i64 x.left, .bool x.st]) x) ∧ Hid (Q4 wr B8 L) ∧ Hid (Q4 wr (B8 + 1) F) ∧ Hid (Q4 wr (B8 + 1 + 1) F) ∧ Hid (OwnA2 wr w.heap.size (.slice A11 wt.length c11) wt)) (fun _ _ s13 _ => ac.length - (intOf s13).toNat)
  case atStart => exact ⟨0, lf, q1, [0, 0, 0, 0], [0, 0, 0, 0], [], A2, B2, some ⟨B8 + 1 + 1 + 1, 0, none⟩, c2, d2, 0, rfl, rfl, rfl, Nat.zero_le _, Lib.hid (Nat.zero_le _), by omega, Lib.hid HS.out.2.2, HW, Z5, F2, Q8, Q9, Q10, OW⟩
  case round =>
    clear HW Z5 F2 Q8 Q9 Q10 OW HS HQ
    obtain ⟨k, room, x, L, F, wt, A5, A6, A11, c5, c6, c11, rfl, rfl, rfl, hk, HWT, hroom, HH, HW, Z5, F5, Q8, Q9, Q10, OW⟩ := hrel
    by_cases hlt : k < ac.length
    case neg =>
      obtain rfl : k = ac.length := by omega
      have hd1 : decide ((ac.length : Int) < (ac.length : Int)) = false := decide_eq_false (by omega)
      have h3 := HH.out.restart
      obtain ⟨r, hr⟩ : ∃ r, Dv.rs x = r := ⟨_, rfl⟩
      rw [hr] at h3
      obtain ⟨f0, f1, f2, f3, rfl⟩ := four_of Q9.out.1
      have HR := Lib.hid (And.intro hr h3)
      clear h3 hr
      go_wp2_with (fail)
      have HSd := Lib.hid (show Below wr.heap.size wr wr.drew from below_drewN (Below.refl _ _) 1)
      refine wp_region_noPanic ?_
      refine wp_region_U 5 (fun X => Below wr.heap.size wr X) (by kernel_rfl) ?_
      refine wpAnyU_takeD (i := 0) (v := .agg #[.slice A5 x.ss.length c5, .slice A6 x.ps.length c6, .int .i64 x.left, .bool x.st]) 158 rfl rfl (by kernel_rfl) (by kernel_rfl) (by kernel_rfl) (by kernel_rfl) (by kernel_rfl) (by kernel_rfl) (fun _ _ _ h => h) (.inl ⟨by simp [Region.wanted, yielded, Act.put], fun X hX => ?_⟩) HSd.out ?_
      · obtain ⟨z0, z1, z2, z3⟩ := Z5.out.upb hX |> cells4; go_simp
      refine wpAnyU_takeD (i := 2) (v := .agg #[.int .u8 (f0.toNat : Int), .int .u8 (f1.toNat : Int), .int .u8 (f2.toNat : Int), .int .u8 (f3.toNat : Int)]) 160 rfl rfl (by kernel_rfl) (by kernel_rfl) (by kernel_rfl) (by kernel_rfl) (by kernel_rfl) (by kernel_rfl) (fun _ _ _ h => h) (.inl ⟨by simp [Region.wanted, yielded, Act.put], fun X hX => ?_⟩) HSd.out ?_
      · have q0 : _ = some (Value.int .u8 (f0.toNat : Int)) := (Q9.out.2.upb hX).cell (k := 0) rfl; have q1 : _ = some (Value.int .u8 (f1.toNat : Int)) := (Q9.out.2.upb hX).cell (k := 1) rfl; have q2 : _ = some (Value.int .u8 (f2.toNat : Int)) := (Q9.out.2.upb hX).cell (k := 2) rfl; have q3 : _ = some (Value.int .u8 (f3.toNat : Int)) := (Q9.out.2.upb hX).cell (k := 3) rfl; go_simp
      refine wpAnyU_takeD (i := 3) (v := .agg #[.int .u8 (f0.toNat : Int), .int .u8 (f1.toNat : Int), .int .u8 (f2.toNat : Int), .int .u8 (f3.toNat : Int)]) 161 rfl rfl (by kernel_rfl) (by kernel_rfl) (by kernel_rfl) (by kernel_rfl) (by kernel_rfl) (by kernel_rfl) (fun _ _ _ h => h) (.inl ⟨by simp [Region.wanted, yielded, Act.put], fun X hX => ?_⟩) HSd.out ?_
      · have q0 : _ = some (Value.int .u8 (f0.toNat : Int)) := (Q10.out.2.upb hX).cell (k := 0) rfl; have q1 : _ = some (Value.int .u8 (f1.toNat : Int)) := (Q10.out.2.upb hX).cell (k := 1) rfl; have q2 : _ = some (Value.int .u8 (f2.toNat : Int)) := (Q10.out.2.upb hX).cell (k := 2) rfl; have q3 : _ = some (Value.int .u8 (f3.toNat : Int)) := (Q10.out.2.upb hX).cell (k := 3) rfl; go_simp
      refine wpAnyU_call (i := 1) 159 (by kernel_rfl) rfl rfl (by simp [Region.wanted, yielded, Act.put]) (.func 17) #[.tmp 158] _ rfl 17 #[] rfl #[.agg #[.slice A5 x.ss.length c5, .slice A6 x.ps.length c6, .int .i64 x.left, .bool x.st]] (by simp [Act.eval, Act.put]) (enters_of Try.func17 (by kernel_rfl) rfl) (Restart_is (F5.out.upb HSd.out) HR.out.1) ?_
      rintro e wy ⟨A20, c20, A21, c21, rfl, hd, hb, _⟩
      have HB1 := Lib.hid (HSd.out.up hb)
      have F20 := Lib.hid hd
      refine ⟨_, rfl, HB1.out, ?_⟩
      clear hb hd
      refine wpAnyU_call (i := 4) 162 (by kernel_rfl) rfl rfl (by simp [Region.wanted, yielded, Act.put]) (.func 28) #[.tmp 159, .tmp 160, .tmp 161] _ rfl 28 #[] rfl #[.agg #[.slice A20 r.ss.length c20, .slice A21 r.ps.length c21, .int .i64 r.left, .bool r.st], .agg #[.int .u8 (f0.toNat : Int), .int .u8 (f1.toNat : Int), .int .u8 (f2.toNat : Int), .int .u8 (f3.toNat : Int)], .agg #[.int .u8 (f0.toNat : Int), .int .u8 (f1.toNat : Int), .int .u8 (f2.toNat : Int), .int .u8 (f3.toNat : Int)]] (by simp [Act.eval, Act.put]) (enters_of Try.func28 (by kernel_rfl) rfl) (holds_is F20.out HR.out.2) ?_
      rintro e wv ⟨rfl, hb⟩
      have HB2 := Lib.hid (HB1.out.up hb)
      refine ⟨_, rfl, HB2.out, ?_⟩
      clear hb
      refine wpAnyU_yield (i := 5) (v := .bool true) 4 (by kernel_rfl) rfl rfl (.inl ⟨by simp [Region.wanted, yielded, Act.put], fun X hX => ?_⟩) HB2.out ?_
      · go_simp
      refine wpAnyU_done (by kernel_rfl) (NoPanic.normal ?_) _
      go_wp2_with (fail)
      go_ret
      refine ⟨?_, HW.out.b.up HB2.out⟩
      go_simp
    case pos =>
    have hd1 : decide ((k : Int) < (ac.length : Int)) = true := decide_eq_true (by omega)
    have hkm : (k : Int) ≤ 9223372036854775806 := by have := HN.out; omega
    obtain ⟨ps, hps⟩ : ∃ p, ac[k].s = p := ⟨_, rfl⟩
    obtain ⟨pa, hpa⟩ : ∃ p, ac[k].a = p := ⟨_, rfl⟩
    obtain ⟨pb, hpb⟩ : ∃ p, ac[k].b = p := ⟨_, rfl⟩
    obtain ⟨bu, ou, hAU, hbu, hu0, hu1, hu2⟩ := acts_at (FU0.out.upb HW.out.b) hlt
    rw [hps] at hu0
    rw [hpa] at hu1
    rw [hpb] at hu2
    clear hps hpa hpb
    subst hAU
    cases ps with
    | true =>
    replace HW := Lib.hid (HW.out.upb (al1 (wr) (.cells #[.bool true, .int .u8 (pa.toNat : Int), .int .u8 (pb.toNat : Int)] 46)))
    replace Z5 := Lib.hid (Z5.out.upb (al1 (wr) (.cells #[.bool true, .int .u8 (pa.toNat : Int), .int .u8 (pb.toNat : Int)] 46)))
    replace F5 := Lib.hid (F5.out.upb (al1 (wr) (.cells #[.bool true, .int .u8 (pa.toNat : Int), .int .u8 (pb.toNat : Int)] 46)))
    replace Q8 := Lib.hid (Q8.out.upb (al1 (wr) (.cells #[.bool true, .int .u8 (pa.toNat : Int), .int .u8 (pb.toNat : Int)] 46)))
    replace Q9 := Lib.hid (Q9.out.upb (al1 (wr) (.cells #[.bool true, .int .u8 (pa.toNat : Int), .int .u8 (pb.toNat : Int)] 46)))
    replace Q10 := Lib.hid (Q10.out.upb (al1 (wr) (.cells #[.bool true, .int .u8 (pa.toNat : Int), .int .u8 (pb.toNat : Int)] 46)))
    replace OW := Lib.hid (OW.out.upb (al1 (wr) (.cells #[.bool true, .int .u8 (pa.toNat : Int), .int .u8 (pb.toNat : Int)] 46)))
    have Z14 := Lib.hid (Cells.new wr 46 [.bool true, .int .u8 (pa.toNat : Int), .int .u8 (pb.toNat : Int)])
    have z140 := Z14.out.cell (k := 0) rfl
    have z141 := Z14.out.cell (k := 1) rfl
    have z142 := Z14.out.cell (k := 2) rfl
    have Z5l := Z5.out.lt
    have Z5c0 := Z5.out.cell (k := 0) rfl
    have Z5c1 := Z5.out.cell (k := 1) rfl
    have Z5c2 := Z5.out.cell (k := 2) rfl
    have Z5c3 := Z5.out.cell (k := 3) rfl
    obtain ⟨y, hy⟩ : ∃ y, Dv.sy x = y := ⟨_, rfl⟩
    obtain ⟨e0, he⟩ : ∃ y, Dv.syE x = y := ⟨_, rfl⟩
    have HY := Lib.hid hy
    have HE := Lib.hid he
    have H8 := Lib.hid (show D128 y by rw [← hy]; exact sync_d128 HH.out (by have := HWT.out; have := HN.out; omega))
    clear hy he
    have hwm : (wt.length : Int) ≤ 9223372036854775807 := by have := HWT.out; have := HN.out; omega
    go_upto_region 23 with (fail)
    clear z140 z141 z142 Z14 hu0 hu1 hu2 hbu
    obtain ⟨X9, hX9⟩ : ∃ X, wr.alloc (.cells #[.bool true, .int .u8 (pa.toNat : Int), .int .u8 (pb.toNat : Int)] 46) = X := ⟨_, rfl⟩
    obtain ⟨B14, hB14⟩ : ∃ B, wr.heap.size = B := ⟨_, rfl⟩
    clear Z5l Z5c0 Z5c1 Z5c2 Z5c3
    rw [hX9] at HW Z5 F5 Q8 Q9 Q10 OW
    simp only [hX9, hB14]
    clear hX9 hB14
    have Z5l := Z5.out.lt
    have Z5c0 := Z5.out.cell (k := 0) rfl
    have Z5c1 := Z5.out.cell (k := 1) rfl
    have Z5c2 := Z5.out.cell (k := 2) rfl
    have Z5c3 := Z5.out.cell (k := 3) rfl
    go_wp2_with (fail)
    refine (Sync_is F5.out HE.out HY.out).mono ?_
    rintro e w41 ⟨A7, c7, A8, c8, rfl, hd, hb, _⟩
    replace HW := Lib.hid (HW.out.upb hb)
    replace Z5 := Lib.hid (Z5.out.upb hb)
    replace F5 := Lib.hid (F5.out.upb hb)
    replace Q8 := Lib.hid (Q8.out.upb hb)
    replace Q9 := Lib.hid (Q9.out.upb hb)
    replace Q10 := Lib.hid (Q10.out.upb hb)
    replace OW := Lib.hid (OW.out.upb hb)
    clear hb
    clear Z5l Z5c0 Z5c1 Z5c2 Z5c3
    have F17 := Lib.hid hd
    clear hd
    have HNE17 := Lib.hid (show w41.heap.size ≠ B5 ∧ w41.heap.size ≠ B8 ∧ w41.heap.size ≠ B8 + 1 ∧ w41.heap.size ≠ B8 + 1 + 1 by have := Z5.out.lt; have := Q8.out.lt; have := Q9.out.lt; have := Q10.out.lt; omega)
    go_upto_region 24 with (fail)
    replace HW := Lib.hid (HW.out.upb (al1 (w41) (.cells #[.slice A7 y.ss.length c7, .slice A8 y.ps.length c8, .int .i64 y.left, .bool y.st] 25)))
    replace Z5 := Lib.hid (Z5.out.upb (al1 (w41) (.cells #[.slice A7 y.ss.length c7, .slice A8 y.ps.length c8, .int .i64 y.left, .bool y.st] 25)))
    replace F5 := Lib.hid (F5.out.upb (al1 (w41) (.cells #[.slice A7 y.ss.length c7, .slice A8 y.ps.length c8, .int .i64 y.left, .bool y.st] 25)))
    replace Q8 := Lib.hid (Q8.out.upb (al1 (w41) (.cells #[.slice A7 y.ss.length c7, .slice A8 y.ps.length c8, .int .i64 y.left, .bool y.st] 25)))
    replace Q9 := Lib.hid (Q9.out.upb (al1 (w41) (.cells #[.slice A7 y.ss.length c7, .slice A8 y.ps.length c8, .int .i64 y.left, .bool y.st] 25)))
    replace Q10 := Lib.hid (Q10.out.upb (al1 (w41) (.cells #[.slice A7 y.ss.length c7, .slice A8 y.ps.length c8, .int .i64 y.left, .bool y.st] 25)))
    replace OW := Lib.hid (OW.out.upb (al1 (w41) (.cells #[.slice A7 y.ss.length c7, .slice A8 y.ps.length c8, .int .i64 y.left, .bool y.st] 25)))
    replace F17 := Lib.hid (F17.out.upb (al1 (w41) (.cells #[.slice A7 y.ss.length c7, .slice A8 y.ps.length c8, .int .i64 y.left, .bool y.st] 25)))
    have Z17 := Lib.hid (Cells.new (w41) 25 [.slice A7 y.ss.length c7, .slice A8 y.ps.length c8, .int .i64 y.left, .bool y.st])
    obtain ⟨Y0, hY0⟩ : ∃ X, w41.alloc (.cells #[.slice A7 y.ss.length c7, .slice A8 y.ps.length c8, .int .i64 y.left, .bool y.st] 25) = X := ⟨_, rfl⟩
    obtain ⟨B17, hB17⟩ : ∃ B, w41.heap.size = B := ⟨_, rfl⟩
    rw [hY0] at HW Z5 F5 Q8 Q9 Q10 OW F17 Z17
    rw [hB17] at Z17 HNE17
    simp only [hY0, hB17]
    clear hY0 hB17
    obtain ⟨stb, hstb⟩ : ∃ b, decide (room < wt.length) = b := ⟨_, rfl⟩
    go_upto_block 2 with (fail)
    have HSTB := Lib.hid hstb
    clear hstb
    have E0 := Lib.hid (show Dv.fillB F (wt.take 0) = F from rfl)
    go_wp2_with (fail)
    go_loopw [20] (fun s20 wr2 => ∃ j : Nat, s20 = .int .i64 j ∧ j ≤ wt.length ∧ Hid (j ≤ room + 1) ∧ Hid (Bl w wr2) ∧ Hid (Cells wr2 B5 25 [.slice A5 x.ss.length c5, .slice A6 x.ps.length c6, .int .i64 x.left, .bool x.st]) ∧ Hid (Q4 wr2 B8 L) ∧ Hid (Q4 wr2 (B8 + 1) (Dv.fillB F (wt.take j))) ∧ Hid (Q4 wr2 (B8 + 1 + 1) (Dv.fillB F (wt.take (min j room)))) ∧ Hid (OwnA2 wr2 w.heap.size (.slice A11 wt.length c11) wt) ∧ Hid (Cells wr2 B17 25 [.slice A7 y.ss.length c7, .slice A8 y.ps.length c8, .int .i64 y.left, .bool y.st]) ∧ Hid (IsD wr2 (.agg #[.slice A7 y.ss.length c7, .slice A8 y.ps.length c8, .int .i64 y.left, .bool y.st]) y)) (fun s20 _ => wt.length - (intOf s20).toNat)
    case atStart => exact ⟨0, rfl, Nat.zero_le _, Lib.hid (Nat.zero_le _), HW, Z5, Q8, Q9, Lib.hid (show Q4 Y0 (B8 + 1 + 1) (Dv.fillB F (wt.take (min 0 room))) by rw [Nat.zero_min]; exact Q10.out), OW, Z17, F17⟩
    case round =>
      clear HW Z5 Q8 Q9 Q10 OW Z17 F17 F5 E0
      rename World => Yr
      obtain ⟨j, rfl, hj, HJ, HW, Z5, Q8, Q9, Q10, OW, Z17, F17⟩ := hrel
      have hjr : (room : Int) ≤ 255 := by omega
      by_cases hc : j < wt.length ∧ j ≤ room
      case pos =>
        have t1 : decide ((j : Int) < (wt.length : Int)) = true := decide_eq_true (by omega)
        have t2 : decide (j ≤ room) = true := decide_eq_true (by omega)
        have t3 : decide (j < wt.length) = true := decide_eq_true (by omega)
        have hjl : j < wt.length := hc.1
        have hjl2 : (j : Int) < (wt.length : Int) := by omega
        have HC := Lib.hid hc
        clear hc
        obtain ⟨p, hp⟩ : ∃ p, wt[j] = p := ⟨_, rfl⟩
        obtain ⟨bw, ow, hAw, hbw, hw0, hw1, hw2⟩ := acts_at OW.out.own.is hjl
        have HF := Lib.hid (show Dv.fillB F (wt.take (j + 1)) = (Dv.fillB F (wt.take j)).set (p.a.toNat % 4) p.b by rw [← hp]; exact Dv.fillB_succ hjl F)
        rw [hp] at hw1 hw2
        have HP := Lib.hid hp
        clear hp hw0
        subst hAw
        obtain ⟨ps, pa, pb⟩ := p
        simp only at hw1 hw2 HF
        obtain ⟨an, han, hanb⟩ : ∃ n : Nat, pa.toNat = n ∧ n < 256 := ⟨_, rfl, pa.toNat_lt⟩
        rw [han] at hw1 HF
        have HPA := Lib.hid han
        clear han
        have htm : (an : Int).tmod 4 = (an : Int) % 4 := Int.tmod_eq_emod_of_nonneg (by omega)
        have htl : ¬ (an : Int) % 4 < 0 := by omega
        have htl2 : 0 ≤ (an : Int) % 4 := by omega
        have hth : (an : Int) % 4 < 4 := by omega
        have htn : ((an : Int) % 4).toNat = an % 4 := by omega
        have hn4 : an % 4 < 4 := by omega
        have q9c := Q9.out.cell (k := an % 4) hn4
        have q9f := Q9.out.frozen (an % 4)
        have q9l := Q9.out.lt
        have hk1 : (j : Int) ≤ 9223372036854775806 := by omega
        go_wp2_with (fail)
        by_cases hr : j < room
        case pos =>
          have t4 : decide (j < room) = true := decide_eq_true hr
          go_still_tail 12, (by kernel_rfl)
          go_wp2_with (fail)
          clear q9c q9f q9l hw1 hw2 htm
          replace Q10 := Lib.hid (show Q4 Yr (B8 + 1 + 1) (Dv.fillB F (List.take j wt)) by have h := Q10.out; rwa [Nat.min_eq_left (by omega)] at h)
          have GR := Lib.hid (grown_trans (grown_set Yr (B8 + 1) (an % 4) (.int .u8 (pb.toNat : Int))) (show (Yr.setCell ⟨B8 + 1, an % 4, none⟩ (.int .u8 (pb.toNat : Int))).grownBy (Yr.setCell ⟨B8 + 1, an % 4, none⟩ (.int .u8 (pb.toNat : Int))).drew (some (B8 + 1)) from ⟨rfl, rfl, rfl, Nat.le_refl _, fun _ _ _ => rfl⟩))
          replace Z5 := Lib.hid (grownK Z5.out GR.out HNE.out.2.1)
          replace Z17 := Lib.hid (grownK Z17.out GR.out HNE17.out.2.2.1)
          replace F17 := Lib.hid (F17.out.box44 H8.out Q9.out GR.out)
          replace OW := Lib.hid (OW.out.box Q9.out.2 (by decide) GR.out)
          replace Q8 := Lib.hid (Q8.out.kept GR.out (by omega))
          replace Q10 := Lib.hid (Q10.out.kept GR.out (by omega))
          replace HW := Lib.hid (Bl.mk (below_drewN (HW.out.b.setCell (p := ⟨B8 + 1, an % 4, none⟩) (show w.heap.size ≤ B8 + 1 by have := HB8.out; omega) (.int .u8 (pb.toNat : Int))) 1))
          replace Q9 := Lib.hid (show Q4 (Yr.setCell ⟨B8 + 1, an % 4, none⟩ (.int .u8 (pb.toNat : Int))).drew (B8 + 1) _ from Q9.out.set (an % 4) pb)
          clear GR
          have HW := Lib.hid (show Bl w (Yr.setCell ⟨B8 + 1, an % 4, none⟩ (.int .u8 (pb.toNat : Int))).drew from HW.out)
          obtain ⟨Ys, hwz⟩ : ∃ X, (Yr.setCell ⟨B8 + 1, an % 4, none⟩ (.int .u8 (pb.toNat : Int))).drew = X := ⟨_, rfl⟩
          rw [hwz] at Z5 Z17 F17 OW HW Q9 Q8 Q10
          simp only [hwz]
          clear hwz
          obtain ⟨_, _, e, hbw2, _, hw1, hw2⟩ := acts_at OW.out.own.is hjl
          injection e with e
          injection e with e1 e2
          subst e1 e2
          rw [HP.out] at hw1 hw2
          simp only at hw1 hw2
          rw [HPA.out] at hw1
          have htm : (an : Int).tmod 4 = (an : Int) % 4 := Int.tmod_eq_emod_of_nonneg (by omega)
          have q9c := Q10.out.cell (k := an % 4) hn4
          have q9f := Q10.out.frozen (an % 4)
          have q9l := Q10.out.lt
          go_still_tail 12, (by kernel_rfl)
          go_wp2_with (fail)
          clear q9c q9f q9l hw1 hw2 htm
          have GR := Lib.hid (grown_trans (grown_set Ys (B8 + 1 + 1) (an % 4) (.int .u8 (pb.toNat : Int))) (show (Ys.setCell ⟨B8 + 1 + 1, an % 4, none⟩ (.int .u8 (pb.toNat : Int))).grownBy (Ys.setCell ⟨B8 + 1 + 1, an % 4, none⟩ (.int .u8 (pb.toNat : Int))).drew (some (B8 + 1 + 1)) from ⟨rfl, rfl, rfl, Nat.le_refl _, fun _ _ _ => rfl⟩))
          replace Z5 := Lib.hid (grownK Z5.out GR.out HNE.out.2.2)
          replace Z17 := Lib.hid (grownK Z17.out GR.out HNE17.out.2.2.2)
          replace F17 := Lib.hid (F17.out.box44 H8.out Q10.out GR.out)
          replace OW := Lib.hid (OW.out.box Q10.out.2 (by decide) GR.out)
          replace Q8 := Lib.hid (Q8.out.kept GR.out (by omega))
          replace Q9 := Lib.hid (Q9.out.kept GR.out (by omega))
          replace HW := Lib.hid (Bl.mk (below_drewN (HW.out.b.setCell (p := ⟨B8 + 1 + 1, an % 4, none⟩) (show w.heap.size ≤ B8 + 1 + 1 by have := HB8.out; omega) (.int .u8 (pb.toNat : Int))) 1))
          replace Q10 := Lib.hid (show Q4 (Ys.setCell ⟨B8 + 1 + 1, an % 4, none⟩ (.int .u8 (pb.toNat : Int))).drew (B8 + 1 + 1) _ from Q10.out.set (an % 4) pb)
          clear GR
          have HW := Lib.hid (show Bl w (Ys.setCell ⟨B8 + 1 + 1, an % 4, none⟩ (.int .u8 (pb.toNat : Int))).drew from HW.out)
          obtain ⟨Yt, hwz⟩ : ∃ X, (Ys.setCell ⟨B8 + 1 + 1, an % 4, none⟩ (.int .u8 (pb.toNat : Int))).drew = X := ⟨_, rfl⟩
          rw [hwz] at Z5 Z17 F17 OW HW Q10 Q8 Q9
          simp only [hwz]
          clear hwz
          go_roundw
          case rel => exact ⟨j + 1, by go_num, by omega, Lib.hid (by have := HC.out; omega), HW, Z5, Q8, by rw [HF.out]; exact Q9, by rw [Nat.min_eq_left (show j + 1 ≤ room by omega), HF.out]; exact Q10, OW, Z17, F17⟩
          case measure => first | omega | (simp [intOf]; done) | (simp [intOf]; omega)
        case neg =>
          have t4 : decide (j < room) = false := decide_eq_false hr
          go_still_tail 12, (by kernel_rfl)
          go_wp2_with (fail)
          clear q9c q9f q9l hw1 hw2 htm
          have GR := Lib.hid (grown_trans (grown_set Yr (B8 + 1) (an % 4) (.int .u8 (pb.toNat : Int))) (show (Yr.setCell ⟨B8 + 1, an % 4, none⟩ (.int .u8 (pb.toNat : Int))).grownBy (Yr.setCell ⟨B8 + 1, an % 4, none⟩ (.int .u8 (pb.toNat : Int))).drew (some (B8 + 1)) from ⟨rfl, rfl, rfl, Nat.le_refl _, fun _ _ _ => rfl⟩))
          replace Z5 := Lib.hid (grownK Z5.out GR.out HNE.out.2.1)
          replace Z17 := Lib.hid (grownK Z17.out GR.out HNE17.out.2.2.1)
          replace F17 := Lib.hid (F17.out.box44 H8.out Q9.out GR.out)
          replace OW := Lib.hid (OW.out.box Q9.out.2 (by decide) GR.out)
          replace Q8 := Lib.hid (Q8.out.kept GR.out (by omega))
          replace Q10 := Lib.hid (Q10.out.kept GR.out (by omega))
          replace HW := Lib.hid (Bl.mk (below_drewN (HW.out.b.setCell (p := ⟨B8 + 1, an % 4, none⟩) (show w.heap.size ≤ B8 + 1 by have := HB8.out; omega) (.int .u8 (pb.toNat : Int))) 1))
          replace Q9 := Lib.hid (show Q4 (Yr.setCell ⟨B8 + 1, an % 4, none⟩ (.int .u8 (pb.toNat : Int))).drew (B8 + 1) _ from Q9.out.set (an % 4) pb)
          clear GR
          have HW := Lib.hid (show Bl w (Yr.setCell ⟨B8 + 1, an % 4, none⟩ (.int .u8 (pb.toNat : Int))).drew from HW.out)
          obtain ⟨Ys, hwz⟩ : ∃ X, (Yr.setCell ⟨B8 + 1, an % 4, none⟩ (.int .u8 (pb.toNat : Int))).drew = X := ⟨_, rfl⟩
          rw [hwz] at Z5 Z17 F17 OW HW Q9 Q8 Q10
          simp only [hwz]
          clear hwz
          go_roundw
          case rel => exact ⟨j + 1, by go_num, by omega, Lib.hid (by have := HC.out; omega), HW, Z5, Q8, by rw [HF.out]; exact Q9, by rw [Nat.min_eq_right (show room ≤ j + 1 by omega)]; rw [Nat.min_eq_right (show room ≤ j by omega)] at Q10; exact Q10, OW, Z17, F17⟩
          case measure => first | omega | (simp [intOf]; done) | (simp [intOf]; omega)
      case neg =>
      have HX := Lib.hid hc
      clear hc
      have hcase : (decide ((j : Int) < (wt.length : Int)) = false ∧ decide (j < wt.length) = false) ∨ (decide ((j : Int) < (wt.length : Int)) = true ∧ decide (j < wt.length) = true ∧ decide (j ≤ room) = false) := by
        by_cases h : j < wt.length
        · exact .inr ⟨decide_eq_true (by omega), decide_eq_true h, decide_eq_false (fun h2 => HX.out ⟨h, h2⟩)⟩
        · exact .inl ⟨decide_eq_false (by omega), decide_eq_false h⟩
      cases stb with
      | true =>
        have hs : room < wt.length := by have := HSTB.out; simpa using this
        have hj2 : j = room + 1 := by have h1 := HX.out; have h2 := HJ.out; omega
        obtain ⟨h1, h2, h9⟩ := HH.out.sync_stop hs
        clear h9
        have h3 := HH.out.stop_holds hs
        rw [HY.out] at h2 h3
        rw [HE.out] at h1
        rw [← hj2] at h3
        obtain ⟨r, hr⟩ : ∃ r, Dv.rs y = r := ⟨_, rfl⟩
        rw [hr] at h3
        rw [h2] at Z17 F17
        have hm : min j room = room := by omega
        rw [hm] at Q10
        obtain ⟨f, hf⟩ : ∃ f, Dv.fillB F (wt.take j) = f := ⟨_, rfl⟩
        obtain ⟨g, hg⟩ : ∃ f, Dv.fillB F (wt.take room) = f := ⟨_, rfl⟩
        rw [hf] at Q9 h3
        rw [hg] at Q10 h3
        obtain ⟨f0, f1, f2, f3, rfl⟩ := four_of Q9.out.1
        obtain ⟨g0, g1, g2, g3, rfl⟩ := four_of Q10.out.1
        have HR := Lib.hid (And.intro hr h3)
        clear hm hs hj2 h2 h3 hf hg hr HX
        subst h1
        rcases hcase with ⟨t1, t3⟩ | ⟨t1, t3, t2⟩
        all_goals
          go_wp2_with (fail)
          have HSd := Lib.hid (show Below Yr.heap.size Yr Yr.drew from below_drewN (Below.refl _ _) 1)
          refine wp_region_noPanic ?_
          refine wp_region_U 13 (fun X => Below Yr.heap.size Yr X) (by kernel_rfl) ?_
          refine wpAnyU_takeD (i := 0) (v := .int .i64 40) 132 rfl rfl (by kernel_rfl) (by kernel_rfl) (by kernel_rfl) (by kernel_rfl) (by kernel_rfl) (by kernel_rfl) (fun _ _ _ h => h) (.inl ⟨by simp [Region.wanted, yielded, Act.put], fun X hX => ?_⟩) HSd.out ?_
          · go_simp
          refine wpAnyU_takeD (i := 1) (v := .bool true) 133 rfl rfl (by kernel_rfl) (by kernel_rfl) (by kernel_rfl) (by kernel_rfl) (by kernel_rfl) (by kernel_rfl) (fun _ _ _ h => h) (.inl ⟨by simp [Region.wanted, yielded, Act.put], fun X hX => ?_⟩) HSd.out ?_
          · go_simp
          refine wpAnyU_takeD (i := 2) (v := .bool true) 134 rfl rfl (by kernel_rfl) (by kernel_rfl) (by kernel_rfl) (by kernel_rfl) (by kernel_rfl) (by kernel_rfl) (fun _ _ _ h => h) (.inl ⟨by simp [Region.wanted, yielded, Act.put], fun X hX => ?_⟩) HSd.out ?_
          · go_simp
          refine wpAnyU_takeD (i := 3) (v := .pointer (some ⟨B17, 3, none⟩)) 135 rfl rfl (by kernel_rfl) (by kernel_rfl) (by kernel_rfl) (by kernel_rfl) (by kernel_rfl) (by kernel_rfl) (fun _ _ _ h => h) (.inl ⟨by simp [Region.wanted, yielded, Act.put], fun X hX => ?_⟩) HSd.out ?_
          · go_simp
          refine wpAnyU_takeD (i := 4) (v := .bool true) 136 rfl rfl (by kernel_rfl) (by kernel_rfl) (by kernel_rfl) (by kernel_rfl) (by kernel_rfl) (by kernel_rfl) (fun _ _ _ h => h) (.inl ⟨by simp [Region.wanted, yielded, Act.put], fun X hX => ?_⟩) HSd.out ?_
          · have z0 := (Z17.out.upb hX).cell (k := 0) rfl; have z1 := (Z17.out.upb hX).cell (k := 1) rfl; have z2 := (Z17.out.upb hX).cell (k := 2) rfl; have z3 := (Z17.out.upb hX).cell (k := 3) rfl; go_simp
          refine wpAnyU_takeD (i := 5) (v := .bool true) 137 rfl rfl (by kernel_rfl) (by kernel_rfl) (by kernel_rfl) (by kernel_rfl) (by kernel_rfl) (by kernel_rfl) (fun _ _ _ h => h) (.inl ⟨by simp [Region.wanted, yielded, Act.put], fun X hX => ?_⟩) HSd.out ?_
          · go_simp
          refine wpAnyU_takeD (i := 6) (v := .bool true) 138 rfl rfl (by kernel_rfl) (by kernel_rfl) (by kernel_rfl) (by kernel_rfl) (by kernel_rfl) (by kernel_rfl) (fun _ _ _ h => h) (.inl ⟨by simp [Region.wanted, yielded, Act.put], fun X hX => ?_⟩) HSd.out ?_
          · go_simp
          refine wpAnyU_takeD (i := 7) (v := .agg #[.slice A7 y.ss.length c7, .slice A8 y.ps.length c8, .int .i64 y.left, .bool true]) 139 rfl rfl (by kernel_rfl) (by kernel_rfl) (by kernel_rfl) (by kernel_rfl) (by kernel_rfl) (by kernel_rfl) (fun _ _ _ h => h) (.inl ⟨by simp [Region.wanted, yielded, Act.put], fun X hX => ?_⟩) HSd.out ?_
          · have z0 := (Z17.out.upb hX).cell (k := 0) rfl; have z1 := (Z17.out.upb hX).cell (k := 1) rfl; have z2 := (Z17.out.upb hX).cell (k := 2) rfl; have z3 := (Z17.out.upb hX).cell (k := 3) rfl; go_simp
          refine wpAnyU_takeD (i := 9) (v := .agg #[.int .u8 (f0.toNat : Int), .int .u8 (f1.toNat : Int), .int .u8 (f2.toNat : Int), .int .u8 (f3.toNat : Int)]) 141 rfl rfl (by kernel_rfl) (by kernel_rfl) (by kernel_rfl) (by kernel_rfl) (by kernel_rfl) (by kernel_rfl) (fun _ _ _ h => h) (.inl ⟨by simp [Region.wanted, yielded, Act.put], fun X hX => ?_⟩) HSd.out ?_
          · have q0 : _ = some (Value.int .u8 (f0.toNat : Int)) := (Q9.out.2.upb hX).cell (k := 0) rfl; have q1 : _ = some (Value.int .u8 (f1.toNat : Int)) := (Q9.out.2.upb hX).cell (k := 1) rfl; have q2 : _ = some (Value.int .u8 (f2.toNat : Int)) := (Q9.out.2.upb hX).cell (k := 2) rfl; have q3 : _ = some (Value.int .u8 (f3.toNat : Int)) := (Q9.out.2.upb hX).cell (k := 3) rfl; go_simp
          refine wpAnyU_takeD (i := 10) (v := .agg #[.int .u8 (g0.toNat : Int), .int .u8 (g1.toNat : Int), .int .u8 (g2.toNat : Int), .int .u8 (g3.toNat : Int)]) 142 rfl rfl (by kernel_rfl) (by kernel_rfl) (by kernel_rfl) (by kernel_rfl) (by kernel_rfl) (by kernel_rfl) (fun _ _ _ h => h) (.inl ⟨by simp [Region.wanted, yielded, Act.put], fun X hX => ?_⟩) HSd.out ?_
          · have q0 : _ = some (Value.int .u8 (g0.toNat : Int)) := (Q10.out.2.upb hX).cell (k := 0) rfl; have q1 : _ = some (Value.int .u8 (g1.toNat : Int)) := (Q10.out.2.upb hX).cell (k := 1) rfl; have q2 : _ = some (Value.int .u8 (g2.toNat : Int)) := (Q10.out.2.upb hX).cell (k := 2) rfl; have q3 : _ = some (Value.int .u8 (g3.toNat : Int)) := (Q10.out.2.upb hX).cell (k := 3) rfl; go_simp
          refine wpAnyU_call (i := 8) 140 (by kernel_rfl) rfl rfl (by simp [Region.wanted, yielded, Act.put]) (.func 17) #[.tmp 139] _ rfl 17 #[] rfl #[.agg #[.slice A7 y.ss.length c7, .slice A8 y.ps.length c8, .int .i64 y.left, .bool true]] (by simp [Act.eval, Act.put]) (enters_of Try.func17 (by kernel_rfl) rfl) (Restart_is (F17.out.upb HSd.out) HR.out.1) ?_
          rintro e wy ⟨A20, c20, A21, c21, rfl, hd, hb, _⟩
          have HB1 := Lib.hid (HSd.out.up hb)
          have F20 := Lib.hid hd
          refine ⟨_, rfl, HB1.out, ?_⟩
          clear hb hd
          refine wpAnyU_call (i := 11) 143 (by kernel_rfl) rfl rfl (by simp [Region.wanted, yielded, Act.put]) (.func 28) #[.tmp 140, .tmp 141, .tmp 142] _ rfl 28 #[] rfl #[.agg #[.slice A20 r.ss.length c20, .slice A21 r.ps.length c21, .int .i64 r.left, .bool r.st], .agg #[.int .u8 (f0.toNat : Int), .int .u8 (f1.toNat : Int), .int .u8 (f2.toNat : Int), .int .u8 (f3.toNat : Int)], .agg #[.int .u8 (g0.toNat : Int), .int .u8 (g1.toNat : Int), .int .u8 (g2.toNat : Int), .int .u8 (g3.toNat : Int)]] (by simp [Act.eval, Act.put]) (enters_of Try.func28 (by kernel_rfl) rfl) (holds_is F20.out HR.out.2) ?_
          rintro e wv ⟨rfl, hb⟩
          have HB2 := Lib.hid (HB1.out.up hb)
          refine ⟨_, rfl, HB2.out, ?_⟩
          clear hb
          refine wpAnyU_yield (i := 12) (v := .bool true) 144 (by kernel_rfl) rfl rfl (.inl ⟨by simp [Region.wanted, yielded, Act.put], fun X hX => ?_⟩) HB2.out ?_
          · go_simp
          refine wpAnyU_yield (i := 13) (v := .bool true) 4 (by kernel_rfl) rfl rfl (.inl ⟨by simp [Region.wanted, yielded, Act.put], fun X hX => ?_⟩) HB2.out ?_
          · go_simp
          refine wpAnyU_done (by kernel_rfl) (NoPanic.normal ?_) _
          go_wp2_with (fail)
          go_ret
          refine ⟨?_, HW.out.b.up HB2.out⟩
          go_simp
      | false =>
        have hs : wt.length ≤ room := by have := HSTB.out; simpa using this
        have hj2 : j = wt.length := by have h1 := HX.out; have h2 := HJ.out; omega
        have t1 : decide ((j : Int) < (wt.length : Int)) = false := decide_eq_false (by omega)
        have t3 : decide (j < wt.length) = false := decide_eq_false (by omega)
        obtain ⟨h1, h2⟩ := HH.out.sync_ok hs (by have := HWT.out; have := HN.out; omega)
        rw [HY.out] at h2
        rw [HE.out] at h1
        have HS2 := Lib.hid h2
        replace Q9 := Lib.hid (show Q4 Yr (B8 + 1) L by have h := Q9.out; rwa [hj2, List.take_length, ← HH.out.last] at h)
        replace Q10 := Lib.hid (show Q4 Yr (B8 + 1 + 1) L by have h := Q10.out; rwa [hj2, Nat.min_eq_left hs, List.take_length, ← HH.out.last] at h)
        obtain ⟨room', hro, hro2⟩ : ∃ r, room - wt.length = r ∧ r ≤ 255 := ⟨_, rfl, by omega⟩
        rw [hro] at HS2
        have hsub : (room : Int) - (wt.length : Int) = (room' : Int) := by omega
        have H3 := Lib.hid (show 3 ≤ y.ss.length by have := HS2.out.sl; omega)
        subst h1
        have HSUB := Lib.hid hsub
        clear hj2 h2 hro HX hcase hs hsub
        have HBY := Lib.hid HW.out.b.size
        have hsub := HSUB.out
        go_upto_region 37 with (fail)
        try clear hsub
        replace OW := Lib.hid (OwnA2.empty Yr w.heap.size HBY.out)
        replace HW := Lib.hid (HW.out.upb (al1 Yr (.cells #[] 46)))
        replace Z5 := Lib.hid (Z5.out.upb (al1 Yr (.cells #[] 46)))
        replace Q8 := Lib.hid (Q8.out.upb (al1 Yr (.cells #[] 46)))
        replace Q9 := Lib.hid (Q9.out.upb (al1 Yr (.cells #[] 46)))
        replace Q10 := Lib.hid (Q10.out.upb (al1 Yr (.cells #[] 46)))
        replace Z17 := Lib.hid (Z17.out.upb (al1 Yr (.cells #[] 46)))
        replace F17 := Lib.hid (F17.out.upb (al1 Yr (.cells #[] 46)))
        obtain ⟨Ya, hYa⟩ : ∃ X, Yr.alloc (.cells #[] 46) = X := ⟨_, rfl⟩
        obtain ⟨BW, hBW⟩ : ∃ B, Yr.heap.size = B := ⟨_, rfl⟩
        rw [hYa] at HW Z5 Q8 Q9 Q10 Z17 F17 OW
        rw [hBW] at OW
        simp only [hYa, hBW]
        clear hYa hBW HBY
        have Z17l := Z17.out.lt
        have Z17c0 := Z17.out.cell (k := 0) rfl
        have Z17c1 := Z17.out.cell (k := 1) rfl
        have Z17c2 := Z17.out.cell (k := 2) rfl
        have Z17c3 := Z17.out.cell (k := 3) rfl
        have Z5l := Z5.out.lt
        have Z5c0 := Z5.out.cell (k := 0) rfl
        have Z5c1 := Z5.out.cell (k := 1) rfl
        have Z5c2 := Z5.out.cell (k := 2) rfl
        have Z5c3 := Z5.out.cell (k := 3) rfl
        have Z5f0 := Z5.out.frozen 0
        have Z5f1 := Z5.out.frozen 1
        have Z5f2 := Z5.out.frozen 2
        have Z5f3 := Z5.out.frozen 3
        go_upto_region 38 with (fail)
        clear Z17l Z17c0 Z17c1 Z17c2 Z17c3 Z5l Z5c0 Z5c1 Z5c2 Z5c3 Z5f0 Z5f1 Z5f2 Z5f3
        have GR := Lib.hid (grown_set4 Ya B5 (.slice A7 y.ss.length c7) (.slice A8 y.ps.length c8) (.int .i64 y.left) (.bool y.st))
        have F5 := Lib.hid (F17.out.box4 H3.out Z5.out GR.out)
        replace Q8 := Lib.hid (Q8.out.kept GR.out (fun h => HNE.out.1 h.symm))
        replace Q9 := Lib.hid (Q9.out.kept GR.out (fun h => HNE.out.2.1 h.symm))
        replace Q10 := Lib.hid (Q10.out.kept GR.out (fun h => HNE.out.2.2 h.symm))
        replace OW := Lib.hid (OW.out.box Z5.out (by decide) GR.out)
        replace Z5 := Lib.hid (Z5.out.set4 (.slice A7 y.ss.length c7) (.slice A8 y.ps.length c8) (.int .i64 y.left) (.bool y.st))
        replace HW := Lib.hid (HW.out.set4 HB5.out (.slice A7 y.ss.length c7) (.slice A8 y.ps.length c8) (.int .i64 y.left) (.bool y.st))
        clear GR
        unfold set4 at F5 Q8 Q9 Q10 OW Z5 HW
        obtain ⟨wa, hwz⟩ : ∃ X, ((((Ya.setCell ⟨B5, 0, none⟩ (.slice A7 y.ss.length c7)).setCell ⟨B5, 1, none⟩ (.slice A8 y.ps.length c8)).setCell ⟨B5, 2, none⟩ (.int .i64 y.left)).setCell ⟨B5, 3, none⟩ (.bool y.st)) = X := ⟨_, rfl⟩
        rw [hwz] at F5 Q8 Q9 Q10 OW Z5 HW
        simp only [hwz]
        clear hwz
        clear Z17 F17
        obtain ⟨l0, l1, l2, l3, rfl⟩ := four_of Q8.out.1
        have q80 : _ = some (Value.int .u8 (l0.toNat : Int)) := Q8.out.2.cell (k := 0) rfl
        have q81 : _ = some (Value.int .u8 (l1.toNat : Int)) := Q8.out.2.cell (k := 1) rfl
        have q82 : _ = some (Value.int .u8 (l2.toNat : Int)) := Q8.out.2.cell (k := 2) rfl
        have q83 : _ = some (Value.int .u8 (l3.toNat : Int)) := Q8.out.2.cell (k := 3) rfl
        have Z5l := Z5.out.lt
        have Z5c0 := Z5.out.cell (k := 0) rfl
        have Z5c1 := Z5.out.cell (k := 1) rfl
        have Z5c2 := Z5.out.cell (k := 2) rfl
        have Z5c3 := Z5.out.cell (k := 3) rfl
        go_wp2_with (fail)
        refine (holds_is F5.out HS2.out.holds).mono ?_
        rintro e w8 ⟨rfl, hb⟩
        clear q80 q81 q82 q83
        replace HW := Lib.hid (HW.out.upb hb)
        replace Z5 := Lib.hid (Z5.out.upb hb)
        replace F5 := Lib.hid (F5.out.upb hb)
        replace Q8 := Lib.hid (Q8.out.upb hb)
        replace Q9 := Lib.hid (Q9.out.upb hb)
        replace Q10 := Lib.hid (Q10.out.upb hb)
        replace OW := Lib.hid (OW.out.upb hb)
        clear hb
        clear Z5l Z5c0 Z5c1 Z5c2 Z5c3
        go_wp2_with (fail)
        go_roundw
        case rel => exact ⟨k + 1, room', y, _, _, [], A7, A8, some ⟨BW, 0, none⟩, c7, c8, 0, rfl, rfl, by go_num, by omega, Lib.hid (Nat.zero_le _), by omega, HS2, HW, Z5, F5, Q8, Q9, Q10, OW⟩
        case measure => first | omega | (simp [intOf]; done) | (simp [intOf]; omega)
    | false =>
    have HWr := Lib.hid HW.out
    have HNE0 := Lib.hid (show wr.heap.size ≠ B5 ∧ wr.heap.size ≠ B8 ∧ wr.heap.size ≠ B8 + 1 ∧ wr.heap.size ≠ B8 + 1 + 1 by have := Z5.out.lt; have := Q8.out.lt; have := Q9.out.lt; have := Q10.out.lt; omega)
    replace HW := Lib.hid (HW.out.upb (al1 (wr) (.cells #[.bool false, .int .u8 (pa.toNat : Int), .int .u8 (pb.toNat : Int)] 46)))
    replace Z5 := Lib.hid (Z5.out.upb (al1 (wr) (.cells #[.bool false, .int .u8 (pa.toNat : Int), .int .u8 (pb.toNat : Int)] 46)))
    replace F5 := Lib.hid (F5.out.upb (al1 (wr) (.cells #[.bool false, .int .u8 (pa.toNat : Int), .int .u8 (pb.toNat : Int)] 46)))
    replace Q8 := Lib.hid (Q8.out.upb (al1 (wr) (.cells #[.bool false, .int .u8 (pa.toNat : Int), .int .u8 (pb.toNat : Int)] 46)))
    replace Q9 := Lib.hid (Q9.out.upb (al1 (wr) (.cells #[.bool false, .int .u8 (pa.toNat : Int), .int .u8 (pb.toNat : Int)] 46)))
    replace Q10 := Lib.hid (Q10.out.upb (al1 (wr) (.cells #[.bool false, .int .u8 (pa.toNat : Int), .int .u8 (pb.toNat : Int)] 46)))
    replace OW := Lib.hid (OW.out.upb (al1 (wr) (.cells #[.bool false, .int .u8 (pa.toNat : Int), .int .u8 (pb.toNat : Int)] 46)))
    have Z14 := Lib.hid (Cells.new wr 46 [.bool false, .int .u8 (pa.toNat : Int), .int .u8 (pb.toNat : Int)])
    have z140 := Z14.out.cell (k := 0) rfl
    have z141 := Z14.out.cell (k := 1) rfl
    have z142 := Z14.out.cell (k := 2) rfl
    have Z5l := Z5.out.lt
    have Z5c0 := Z5.out.cell (k := 0) rfl
    have Z5c1 := Z5.out.cell (k := 1) rfl
    have Z5c2 := Z5.out.cell (k := 2) rfl
    have Z5c3 := Z5.out.cell (k := 3) rfl
    go_upto_region 17 with (fail)
    clear Z5l Z5c0 Z5c1 Z5c2 Z5c3
    clear z140 z141 z142
    clear hu0 hu1 hu2 hbu
    obtain ⟨X9, hX9⟩ : ∃ X, wr.alloc (.cells #[.bool false, .int .u8 (pa.toNat : Int), .int .u8 (pb.toNat : Int)] 46) = X := ⟨_, rfl⟩
    obtain ⟨B14, hB14⟩ : ∃ B, wr.heap.size = B := ⟨_, rfl⟩
    rw [hX9] at HW Z5 F5 Q8 Q9 Q10 OW Z14
    rw [hB14] at Z14 HNE0
    simp only [hX9, hB14]
    have HNE14 := Lib.hid (show B14 ≠ B5 ∧ B14 ≠ B8 ∧ B14 ≠ B8 + 1 ∧ B14 ≠ B8 + 1 + 1 from HNE0.out)
    clear hX9 hB14 HNE0
    have HST := Lib.hid (HH.out.write ⟨false, pa, pb⟩ (by have := HWT.out; have := HN.out; omega))
    obtain ⟨an, han, hanb⟩ : ∃ n : Nat, pa.toNat = n ∧ n < 256 := ⟨_, rfl, pa.toNat_lt⟩
    have HPA := Lib.hid han
    obtain ⟨db, hdb⟩ : ∃ b, Dv.dbl pb = b := ⟨_, rfl⟩
    have HST := Lib.hid (show Dv.wrE x ((an % 4 : Nat) : Int) db = 0 ∧ Dv.Hs (Dv.wr x ((an % 4 : Nat) : Int) db) (L.set (an % 4) pb) F (wt ++ [⟨false, pa, pb⟩]) room by have h := HST.out; simp only [Dv.aw, han, hdb] at h; exact h)
    rw [han] at Z14
    have HDB := Lib.hid hdb
    clear hdb han
    simp only [HPA.out]
    obtain ⟨y, hy⟩ : ∃ y, Dv.wr x ((an % 4 : Nat) : Int) db = y := ⟨_, rfl⟩
    rw [hy] at HST
    have HY := Lib.hid hy
    clear hy
    go_cut [15, 16] from 46 to 157 (fun s15 s16 wy => ∃ (B15 : Nat) (A7 A8 : Option Addr) (c7 c8 : Nat), s15 = .pointer (some ⟨B15, 0, none⟩) ∧ s16 = .int .i64 0 ∧ Hid (Below X9.heap.size X9 wy) ∧ Hid (Cells wy B15 25 [.slice A7 y.ss.length c7, .slice A8 y.ps.length c8, .int .i64 y.left, .bool y.st]) ∧ Hid (IsD wy (.agg #[.slice A7 y.ss.length c7, .slice A8 y.ps.length c8, .int .i64 y.left, .bool y.st]) y))
    case first =>
      have HSd := Lib.hid (show Below X9.heap.size X9 X9.drew from below_drewN (Below.refl _ _) 1)
      refine wp_region_noPanic ?_
      refine wp_region_U 13 (fun X => Below X9.heap.size X9 X) (by kernel_rfl) ?_
      refine wpAnyU_takeD (i := 0) (v := .agg #[.slice A5 x.ss.length c5, .slice A6 x.ps.length c6, .int .i64 x.left, .bool x.st]) 60 rfl rfl (by kernel_rfl) (by kernel_rfl) (by kernel_rfl) (by kernel_rfl) (by kernel_rfl) (by kernel_rfl) (fun _ _ _ h => h) (.inl ⟨rfl, fun X hX => ?_⟩) HSd.out ?_
      · obtain ⟨z0, z1, z2, z3⟩ := Z5.out.upb hX |> cells4; go_simp
      refine wpAnyU_takeD (i := 1) (v := .pointer (some ⟨B14, 1, none⟩)) 61 rfl rfl (by kernel_rfl) (by kernel_rfl) (by kernel_rfl) (by kernel_rfl) (by kernel_rfl) (by kernel_rfl) (fun _ _ _ h => h) (.inl ⟨rfl, fun X hX => ?_⟩) HSd.out ?_
      · go_simp
      refine wpAnyU_takeD (i := 2) (v := .int .u8 (an : Int)) 62 rfl rfl (by kernel_rfl) (by kernel_rfl) (by kernel_rfl) (by kernel_rfl) (by kernel_rfl) (by kernel_rfl) (fun _ _ _ h => h) (.inl ⟨rfl, fun X hX => ?_⟩) HSd.out ?_
      · have z0 := (Z14.out.upb hX).cell (k := 0) rfl; have z1 := (Z14.out.upb hX).cell (k := 1) rfl; have z2 := (Z14.out.upb hX).cell (k := 2) rfl; go_simp
      refine wpAnyU_takeD (i := 3) (v := .int .u8 ((an % 4 : Nat) : Int)) 63 rfl rfl (by kernel_rfl) (by kernel_rfl) (by kernel_rfl) (by kernel_rfl) (by kernel_rfl) (by kernel_rfl) (fun _ _ _ h => h) (.inl ⟨rfl, fun X hX => ?_⟩) HSd.out ?_
      · go_simp; exact Int.tmod_eq_emod_of_nonneg (by omega)
      refine wpAnyU_takeD (i := 4) (v := .int .i64 ((an % 4 : Nat) : Int)) 64 rfl rfl (by kernel_rfl) (by kernel_rfl) (by kernel_rfl) (by kernel_rfl) (by kernel_rfl) (by kernel_rfl) (fun _ _ _ h => h) (.inl ⟨rfl, fun X hX => ?_⟩) HSd.out ?_
      · go_simp; exact IntWalk.i64_in _ (by omega)
      refine wpAnyU_takeD (i := 5) (v := .pointer (some ⟨B14, 2, none⟩)) 65 rfl rfl (by kernel_rfl) (by kernel_rfl) (by kernel_rfl) (by kernel_rfl) (by kernel_rfl) (by kernel_rfl) (fun _ _ _ h => h) (.inl ⟨rfl, fun X hX => ?_⟩) HSd.out ?_
      · go_simp
      refine wpAnyU_takeD (i := 6) (v := .int .u8 (pb.toNat : Int)) 66 rfl rfl (by kernel_rfl) (by kernel_rfl) (by kernel_rfl) (by kernel_rfl) (by kernel_rfl) (by kernel_rfl) (fun _ _ _ h => h) (.inl ⟨rfl, fun X hX => ?_⟩) HSd.out ?_
      · have z0 := (Z14.out.upb hX).cell (k := 0) rfl; have z1 := (Z14.out.upb hX).cell (k := 1) rfl; have z2 := (Z14.out.upb hX).cell (k := 2) rfl; go_simp
      have H3 := Lib.hid (show 3 ≤ y.ss.length by have := HST.out.2.sl; omega)
      refine wpAnyU_two (i := 7) (j := 12) (by kernel_rfl) rfl rfl (fun K hK => ?_) (fun K hK => ?_)
      ·
        refine step_fn rfl (.func 27) #[.tmp 66] _ rfl 27 #[] rfl #[.int .u8 (pb.toNat : Int)] (by simp [Act.eval, Act.put]) (enters_of Try.func27 (by kernel_rfl) rfl) (double_is rfl HDB.out) ?_
        rintro e wd ⟨Ad, cd, rfl, hbd, hb⟩
        have BY := Lib.hid hbd
        have HBd := Lib.hid (HSd.out.up hb)
        refine ⟨_, rfl, hK.out _ _ (fun _ => HBd.out) (fun _ => ?_)⟩
        clear hK K hbd
        clear hb
        refine wpAnyU_two (i := 8) (j := 12) (by kernel_rfl) rfl rfl (fun K hK => ?_) (fun K hK => ?_)
        ·
          have HBy := Lib.hid (HBd.out)
          have BYy := Lib.hid (BY.out)
          refine step_fn rfl (.func 19) #[.tmp 60, .tmp 64, .tmp 67] _ rfl 19 #[] rfl #[.agg #[.slice A5 x.ss.length c5, .slice A6 x.ps.length c6, .int .i64 x.left, .bool x.st], .int .i64 ((an % 4 : Nat) : Int), .slice Ad db.length cd] (by simp [Act.eval, Act.put]) (enters_of Try.func19 (by kernel_rfl) rfl) (Write_is (F5.out.upb HBy.out) BYy.out (a := ((an % 4 : Nat) : Int)) HST.out.1 HY.out) ?_
          rintro e wz ⟨A7, c7, A8, c8, rfl, hd, hb, _⟩
          have HBz := Lib.hid (HBy.out.up hb)
          have FZ := Lib.hid hd
          clear hd
          refine ⟨_, rfl, hK.out _ _ (fun _ => HBz.out) (fun _ => ?_)⟩
          clear hK K hb HBy BYy
          refine wpAnyU_take0D (i := 9) (v := .tuple #[.agg #[.slice A7 y.ss.length c7, .slice A8 y.ps.length c8, .int .i64 y.left, .bool y.st], .int .i64 0]) 59 rfl rfl (by kernel_rfl) (by kernel_rfl) (by kernel_rfl) (by kernel_rfl) (fun _ _ _ h => h) (.inl ⟨rfl, fun X hX => by go_simp⟩) (fun _ => HBz.out) ?_
          refine wpAnyU_take0D (i := 10) (v := .agg #[.slice A7 y.ss.length c7, .slice A8 y.ps.length c8, .int .i64 y.left, .bool y.st]) 69 rfl rfl (by kernel_rfl) (by kernel_rfl) (by kernel_rfl) (by kernel_rfl) (fun _ _ _ h => h) (.inl ⟨rfl, fun X hX => by go_simp⟩) (fun _ => HBz.out) ?_
          refine wpAnyU_take0D (i := 11) (v := .int .i64 0) 70 rfl rfl (by kernel_rfl) (by kernel_rfl) (by kernel_rfl) (by kernel_rfl) (fun _ _ _ h => h) (.inl ⟨rfl, fun X hX => by go_simp⟩) (fun _ => HBz.out) ?_
          refine wpAnyU_one (i := 12) (by kernel_rfl) rfl (fun K hK => ?_)
          go_simp
          refine hK.out _ _ (fun _ => HBz.out.up (al1 wz (.cells #[.slice none 0 0, .slice none 0 0, .int .i64 0, .bool false] 25))) (fun _ => ?_)
          clear hK K
          refine wpAnyU_one (i := 13) (by kernel_rfl) rfl (fun K hK => ?_)
          go_simp
          refine hK.out _ _ (fun h => absurd h (by decide)) (fun _ => ?_)
          clear hK K
          refine wpAnyU_one (i := 14) (by kernel_rfl) rfl (fun K hK => ?_)
          go_simp
          refine hK.out _ _ (fun h => absurd h (by decide)) (fun _ => ?_)
          clear hK K
          refine wpAnyU_done (by kernel_rfl) (NoPanic.normal ?_) _
          go_wp2_with (fail)
          go_meet
          case rel => exact ⟨_, _, _, _, _, rfl, rfl, Lib.hid (HBz.out.up (al1 wz _)), Lib.hid (Cells.new wz 25 _), Lib.hid (FZ.out.upb (al1 wz _))⟩
        ·
          go_simp
          refine hK.out _ _ (fun _ => HBd.out.up (al1 wd (.cells #[.slice none 0 0, .slice none 0 0, .int .i64 0, .bool false] 25))) (fun _ => ?_)
          clear hK K
          have hwd := HBd.out.size
          refine wpAnyU_one (i := 8) (by kernel_rfl) rfl (fun K hK => ?_)
          have HBy := Lib.hid (HBd.out.up (al1 wd (.cells #[.slice none 0 0, .slice none 0 0, .int .i64 0, .bool false] 25)))
          have BYy := Lib.hid (BY.out.upb (al1 wd (.cells #[.slice none 0 0, .slice none 0 0, .int .i64 0, .bool false] 25)))
          refine step_fn rfl (.func 19) #[.tmp 60, .tmp 64, .tmp 67] _ rfl 19 #[] rfl #[.agg #[.slice A5 x.ss.length c5, .slice A6 x.ps.length c6, .int .i64 x.left, .bool x.st], .int .i64 ((an % 4 : Nat) : Int), .slice Ad db.length cd] (by simp [Act.eval, Act.put]) (enters_of Try.func19 (by kernel_rfl) rfl) (Write_is (F5.out.upb HBy.out) BYy.out (a := ((an % 4 : Nat) : Int)) HST.out.1 HY.out) ?_
          rintro e wz ⟨A7, c7, A8, c8, rfl, hd, hb, _⟩
          have HBz := Lib.hid (HBy.out.up hb)
          have FZ := Lib.hid hd
          clear hd
          have HC6 := Lib.hid ((Cells.new wd 25 [.slice none 0 0, .slice none 0 0, .int .i64 0, .bool false]).upb hb)
          have c60 := HC6.out.cell (k := 0) rfl
          have c61 := HC6.out.cell (k := 1) rfl
          have c62 := HC6.out.cell (k := 2) rfl
          have c63 := HC6.out.cell (k := 3) rfl
          have d60 := HC6.out.frozen 0
          have d61 := HC6.out.frozen 1
          have d62 := HC6.out.frozen 2
          have d63 := HC6.out.frozen 3
          refine ⟨_, rfl, hK.out _ _ (fun _ => HBz.out) (fun _ => ?_)⟩
          clear hK K hb HBy BYy
          refine wpAnyU_take0D (i := 9) (v := .tuple #[.agg #[.slice A7 y.ss.length c7, .slice A8 y.ps.length c8, .int .i64 y.left, .bool y.st], .int .i64 0]) 59 rfl rfl (by kernel_rfl) (by kernel_rfl) (by kernel_rfl) (by kernel_rfl) (fun _ _ _ h => h) (.inl ⟨rfl, fun X hX => by go_simp⟩) (fun _ => HBz.out) ?_
          refine wpAnyU_take0D (i := 10) (v := .agg #[.slice A7 y.ss.length c7, .slice A8 y.ps.length c8, .int .i64 y.left, .bool y.st]) 69 rfl rfl (by kernel_rfl) (by kernel_rfl) (by kernel_rfl) (by kernel_rfl) (fun _ _ _ h => h) (.inl ⟨rfl, fun X hX => by go_simp⟩) (fun _ => HBz.out) ?_
          refine wpAnyU_take0D (i := 11) (v := .int .i64 0) 70 rfl rfl (by kernel_rfl) (by kernel_rfl) (by kernel_rfl) (by kernel_rfl) (fun _ _ _ h => h) (.inl ⟨rfl, fun X hX => by go_simp⟩) (fun _ => HBz.out) ?_
          refine wpAnyU_one (i := 13) (by kernel_rfl) rfl (fun K hK => ?_)
          go_simp
          refine hK.out _ _ (fun h => absurd h (by decide)) (fun _ => ?_)
          clear hK K
          refine wpAnyU_one (i := 14) (by kernel_rfl) rfl (fun K hK => ?_)
          go_simp
          refine hK.out _ _ (fun h => absurd h (by decide)) (fun _ => ?_)
          clear hK K
          refine wpAnyU_done (by kernel_rfl) (NoPanic.normal ?_) _
          go_wp2_with (fail)
          go_meet
          case rel => exact ⟨_, _, _, _, _, rfl, rfl, Lib.hid (below_set4 HBz.out (by omega) _ _ _ _), Lib.hid (HC6.out.set4 _ _ _ _), Lib.hid (FZ.out.box4 H3.out HC6.out (grown_set4 _ _ _ _ _ _))⟩
      ·
        go_simp
        refine hK.out _ _ (fun _ => HSd.out.up (al1 _ (.cells #[.slice none 0 0, .slice none 0 0, .int .i64 0, .bool false] 25))) (fun _ => ?_)
        clear hK K
        refine wpAnyU_one (i := 7) (by kernel_rfl) rfl (fun K hK => ?_)
        refine step_fn rfl (.func 27) #[.tmp 66] _ rfl 27 #[] rfl #[.int .u8 (pb.toNat : Int)] (by simp [Act.eval, Act.put]) (enters_of Try.func27 (by kernel_rfl) rfl) (double_is rfl HDB.out) ?_
        rintro e wd ⟨Ad, cd, rfl, hbd, hb⟩
        have BY := Lib.hid hbd
        have HBd := Lib.hid ((HSd.out.up (al1 X9.drew (.cells #[.slice none 0 0, .slice none 0 0, .int .i64 0, .bool false] 25))).up hb)
        refine ⟨_, rfl, hK.out _ _ (fun _ => HBd.out) (fun _ => ?_)⟩
        clear hK K hbd
        have HC5 := Lib.hid ((show Cells (X9.drew.alloc (.cells #[.slice none 0 0, .slice none 0 0, .int .i64 0, .bool false] 25)) X9.heap.size 25 [.slice none 0 0, .slice none 0 0, .int .i64 0, .bool false] from Cells.new X9.drew 25 [.slice none 0 0, .slice none 0 0, .int .i64 0, .bool false]).upb hb)
        clear hb
        refine wpAnyU_one (i := 8) (by kernel_rfl) rfl (fun K hK => ?_)
        have HBy := Lib.hid (HBd.out)
        have BYy := Lib.hid (BY.out)
        refine step_fn rfl (.func 19) #[.tmp 60, .tmp 64, .tmp 67] _ rfl 19 #[] rfl #[.agg #[.slice A5 x.ss.length c5, .slice A6 x.ps.length c6, .int .i64 x.left, .bool x.st], .int .i64 ((an % 4 : Nat) : Int), .slice Ad db.length cd] (by simp [Act.eval, Act.put]) (enters_of Try.func19 (by kernel_rfl) rfl) (Write_is (F5.out.upb HBy.out) BYy.out (a := ((an % 4 : Nat) : Int)) HST.out.1 HY.out) ?_
        rintro e wz ⟨A7, c7, A8, c8, rfl, hd, hb, _⟩
        have HBz := Lib.hid (HBy.out.up hb)
        have FZ := Lib.hid hd
        clear hd
        have HC6 := Lib.hid ((HC5.out).upb hb)
        have c60 := HC6.out.cell (k := 0) rfl
        have c61 := HC6.out.cell (k := 1) rfl
        have c62 := HC6.out.cell (k := 2) rfl
        have c63 := HC6.out.cell (k := 3) rfl
        have d60 := HC6.out.frozen 0
        have d61 := HC6.out.frozen 1
        have d62 := HC6.out.frozen 2
        have d63 := HC6.out.frozen 3
        refine ⟨_, rfl, hK.out _ _ (fun _ => HBz.out) (fun _ => ?_)⟩
        clear hK K hb HBy BYy
        refine wpAnyU_take0D (i := 9) (v := .tuple #[.agg #[.slice A7 y.ss.length c7, .slice A8 y.ps.length c8, .int .i64 y.left, .bool y.st], .int .i64 0]) 59 rfl rfl (by kernel_rfl) (by kernel_rfl) (by kernel_rfl) (by kernel_rfl) (fun _ _ _ h => h) (.inl ⟨rfl, fun X hX => by go_simp⟩) (fun _ => HBz.out) ?_
        refine wpAnyU_take0D (i := 10) (v := .agg #[.slice A7 y.ss.length c7, .slice A8 y.ps.length c8, .int .i64 y.left, .bool y.st]) 69 rfl rfl (by kernel_rfl) (by kernel_rfl) (by kernel_rfl) (by kernel_rfl) (fun _ _ _ h => h) (.inl ⟨rfl, fun X hX => by go_simp⟩) (fun _ => HBz.out) ?_
        refine wpAnyU_take0D (i := 11) (v := .int .i64 0) 70 rfl rfl (by kernel_rfl) (by kernel_rfl) (by kernel_rfl) (by kernel_rfl) (fun _ _ _ h => h) (.inl ⟨rfl, fun X hX => by go_simp⟩) (fun _ => HBz.out) ?_
        refine wpAnyU_one (i := 13) (by kernel_rfl) rfl (fun K hK => ?_)
        go_simp
        refine hK.out _ _ (fun h => absurd h (by decide)) (fun _ => ?_)
        clear hK K
        refine wpAnyU_one (i := 14) (by kernel_rfl) rfl (fun K hK => ?_)
        go_simp
        refine hK.out _ _ (fun h => absurd h (by decide)) (fun _ => ?_)
        clear hK K
        refine wpAnyU_done (by kernel_rfl) (NoPanic.normal ?_) _
        go_wp2_with (fail)
        go_meet
        case rel => exact ⟨_, _, _, _, _, rfl, rfl, Lib.hid (below_set4 HBz.out (by omega) _ _ _ _), Lib.hid (HC6.out.set4 _ _ _ _), Lib.hid (FZ.out.box4 H3.out HC6.out (grown_set4 _ _ _ _ _ _))⟩
    case rest =>
    obtain ⟨B15, A7, A8, c7, c8, rfl, rfl, HBc, Z15, F15⟩ := hcut
    clear F5
    replace HW := Lib.hid (HW.out.upb HBc.out)
    replace Z5 := Lib.hid (Z5.out.upb HBc.out)
    replace Q8 := Lib.hid (Q8.out.upb HBc.out)
    replace Q9 := Lib.hid (Q9.out.upb HBc.out)
    replace Q10 := Lib.hid (Q10.out.upb HBc.out)
    replace OW := Lib.hid (OW.out.upb HBc.out)
    replace Z14 := Lib.hid (Z14.out.upb HBc.out)
    clear HBc
    have H3 := Lib.hid (show 3 ≤ y.ss.length by have := HST.out.2.sl; omega)
    have Z15l := Z15.out.lt
    have Z15c0 := Z15.out.cell (k := 0) rfl
    have Z15c1 := Z15.out.cell (k := 1) rfl
    have Z15c2 := Z15.out.cell (k := 2) rfl
    have Z15c3 := Z15.out.cell (k := 3) rfl
    have Z5l := Z5.out.lt
    have Z5c0 := Z5.out.cell (k := 0) rfl
    have Z5c1 := Z5.out.cell (k := 1) rfl
    have Z5c2 := Z5.out.cell (k := 2) rfl
    have Z5c3 := Z5.out.cell (k := 3) rfl
    have Z5f0 := Z5.out.frozen 0
    have Z5f1 := Z5.out.frozen 1
    have Z5f2 := Z5.out.frozen 2
    have Z5f3 := Z5.out.frozen 3
    go_upto_region 21 with (fail)
    clear Z15l Z15c0 Z15c1 Z15c2 Z15c3 Z5l Z5c0 Z5c1 Z5c2 Z5c3 Z5f0 Z5f1 Z5f2 Z5f3
    have GR := Lib.hid (grown_set4 wc B5 (.slice A7 y.ss.length c7) (.slice A8 y.ps.length c8) (.int .i64 y.left) (.bool y.st))
    have F5 := Lib.hid (F15.out.box4 H3.out Z5.out GR.out)
    replace Q8 := Lib.hid (Q8.out.kept GR.out (fun h => HNE.out.1 h.symm))
    replace Q9 := Lib.hid (Q9.out.kept GR.out (fun h => HNE.out.2.1 h.symm))
    replace Q10 := Lib.hid (Q10.out.kept GR.out (fun h => HNE.out.2.2 h.symm))
    replace OW := Lib.hid (OW.out.box Z5.out (by decide) GR.out)
    replace Z14 := Lib.hid (grownK Z14.out GR.out HNE14.out.1)
    replace Z5 := Lib.hid (Z5.out.set4 (.slice A7 y.ss.length c7) (.slice A8 y.ps.length c8) (.int .i64 y.left) (.bool y.st))
    replace HW := Lib.hid (HW.out.set4 HB5.out (.slice A7 y.ss.length c7) (.slice A8 y.ps.length c8) (.int .i64 y.left) (.bool y.st))
    clear GR
    unfold set4 at F5 Q8 Q9 Q10 OW Z5 HW Z14
    obtain ⟨wa, hwz⟩ : ∃ X, ((((wc.setCell ⟨B5, 0, none⟩ (.slice A7 y.ss.length c7)).setCell ⟨B5, 1, none⟩ (.slice A8 y.ps.length c8)).setCell ⟨B5, 2, none⟩ (.int .i64 y.left)).setCell ⟨B5, 3, none⟩ (.bool y.st)) = X := ⟨_, rfl⟩
    rw [hwz] at F5 Q8 Q9 Q10 OW Z5 HW Z14
    simp only [hwz]
    clear hwz
    clear Z15 F15
    have z140 := Z14.out.cell (k := 0) rfl
    have z141 := Z14.out.cell (k := 1) rfl
    have z142 := Z14.out.cell (k := 2) rfl
    have q8c := Q8.out.cell (k := an % 4) (by omega)
    have q8f := Q8.out.frozen (an % 4)
    have q8l := Q8.out.lt
    go_upto_region 22 with (fail)
    clear z140 z141 z142 q8c q8f q8l
    have GR := Lib.hid (grown_set wa B8 (an % 4) (.int .u8 (pb.toNat : Int)))
    have HD8 := Lib.hid (hs_d128 HST.out.2)
    replace F5 := Lib.hid (F5.out.box44 HD8.out Q8.out GR.out)
    replace Z5 := Lib.hid (grownK Z5.out GR.out HNE.out.1)
    replace Q9 := Lib.hid (Q9.out.kept GR.out (by omega))
    replace Q10 := Lib.hid (Q10.out.kept GR.out (by omega))
    replace OW := Lib.hid (OW.out.box Q8.out.2 (by decide) GR.out)
    replace Z14 := Lib.hid (grownK Z14.out GR.out HNE14.out.2.1)
    replace HW := Lib.hid (Bl.mk (HW.out.b.setCell (p := ⟨B8, an % 4, none⟩) HB8.out (.int .u8 (pb.toNat : Int))))
    replace Q8 := Lib.hid (Q8.out.set (an % 4) pb)
    clear GR
    obtain ⟨wb, hwz⟩ : ∃ X, wa.setCell ⟨B8, an % 4, none⟩ (.int .u8 (pb.toNat : Int)) = X := ⟨_, rfl⟩
    rw [hwz] at F5 Q8 Q9 Q10 OW Z5 HW Z14
    simp only [hwz]
    clear hwz
    obtain ⟨L', hL'⟩ : ∃ L', List.set L (an % 4) pb = L' := ⟨_, rfl⟩
    rw [hL'] at Q8 HST
    clear hL'
    have z140 := Z14.out.cell (k := 0) rfl
    have z141 := Z14.out.cell (k := 1) rfl
    have z142 := Z14.out.cell (k := 2) rfl
    have han := HPA.out
    subst han
    have HLW := Lib.hid (show wt.length ≤ 1000000 by have := HWT.out; have := HN.out; omega)
    have HLB := Lib.hid HW.out.b.size
    go_upto_region 38 with (at_builtin; go_must (refine wpList_pushA2 rfl (.tmp 80) (.tmp 82) rfl w.heap.size (.slice A11 wt.length c11) wt rfl OW.out ⟨false, pa, pb⟩ _ rfl rfl HLW.out HLB.out ?_); intro v1 w7 hown hgr; have HO := Lib.hid hown; have HG := Lib.hid hgr; clear hown hgr; obtain ⟨A12, c12, hv1⟩ := HO.out.own.slice; subst hv1)
    clear z140 z141 z142 HLW HLB Z14
    replace F5 := Lib.hid (F5.out.pushed HD8.out HG.out OW.out)
    replace Z5 := Lib.hid (Z5.out.pushed HG.out OW.out (by decide))
    replace Q8 := Lib.hid (Q8.out.pushed HG.out OW.out)
    replace Q9 := Lib.hid (Q9.out.pushed HG.out OW.out)
    replace Q10 := Lib.hid (Q10.out.pushed HG.out OW.out)
    replace HW := Lib.hid (HW.out.pushed HG.out OW.out)
    clear HG OW
    rename Hid (OwnA2 _ _ _ _) => OW
    have HS2 := Lib.hid HST.out.2
    clear HST HY HD8 H3 HDB HPA hanb HNE14 HWr
    obtain ⟨wt', hwt⟩ : ∃ l, wt ++ [⟨false, pa, pb⟩] = l := ⟨_, rfl⟩
    have hwl : wt.length + 1 = wt'.length := by rw [← hwt]; simp
    have HWT' := Lib.hid (show wt'.length ≤ k + 1 by rw [← hwl]; have := HWT.out; omega)
    rw [hwt] at OW HS2
    simp only [hwl]
    clear hwt hwl
    obtain ⟨l0, l1, l2, l3, rfl⟩ := four_of Q8.out.1
    have q80 : _ = some (Value.int .u8 (l0.toNat : Int)) := Q8.out.2.cell (k := 0) rfl
    have q81 : _ = some (Value.int .u8 (l1.toNat : Int)) := Q8.out.2.cell (k := 1) rfl
    have q82 : _ = some (Value.int .u8 (l2.toNat : Int)) := Q8.out.2.cell (k := 2) rfl
    have q83 : _ = some (Value.int .u8 (l3.toNat : Int)) := Q8.out.2.cell (k := 3) rfl
    have Z5l := Z5.out.lt
    have Z5c0 := Z5.out.cell (k := 0) rfl
    have Z5c1 := Z5.out.cell (k := 1) rfl
    have Z5c2 := Z5.out.cell (k := 2) rfl
    have Z5c3 := Z5.out.cell (k := 3) rfl
    go_wp2_with (fail)
    refine (holds_is F5.out HS2.out.holds).mono ?_
    rintro e w8 ⟨rfl, hb⟩
    clear q80 q81 q82 q83
    replace HW := Lib.hid (HW.out.upb hb)
    replace Z5 := Lib.hid (Z5.out.upb hb)
    replace F5 := Lib.hid (F5.out.upb hb)
    replace Q8 := Lib.hid (Q8.out.upb hb)
    replace Q9 := Lib.hid (Q9.out.upb hb)
    replace Q10 := Lib.hid (Q10.out.upb hb)
    replace OW := Lib.hid (OW.out.upb hb)
    clear hb
    clear Z5l Z5c0 Z5c1 Z5c2 Z5c3
    go_wp2_with (fail)
    go_roundw
    case rel => exact ⟨k + 1, room, y, _, F, wt', A7, A8, A12, c7, c8, c12, rfl, rfl, by go_num, by omega, HWT', by omega, HS2, HW, Z5, F5, Q8, Q9, Q10, OW⟩
    case measure => first | omega | (simp [intOf]; done) | (simp [intOf]; omega)
end Go.Proofs.Ytimpnpdhhhbmgaa
