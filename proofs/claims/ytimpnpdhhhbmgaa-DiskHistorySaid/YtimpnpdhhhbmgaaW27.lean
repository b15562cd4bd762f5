/- Contract of holds (hansardlaw04), for the case that it holds. -/
import Derived.Test.YtimpnpdhhhbmgaaW26
import Derived.Test.YtimpnpdhhhbmgaaPlain6
namespace Go.Proofs.Ytimpnpdhhhbmgaa
open Go.RowKit
set_option linter.unusedVariables false
set_option linter.unusedSimpArgs false
theorem four_at {a b c e : UInt8} {k : Nat} (hk : k < 4) : ([.int .u8 a.toNat, .int .u8 b.toNat, .int .u8 c.toNat, .int .u8 e.toNat] : List Value)[k]? = some (.int .u8 (([a, b, c, e] : List UInt8).getD k 0).toNat) := by
  have : k = 0 ∨ k = 1 ∨ k = 2 ∨ k = 3 := by omega
  rcases this with rfl | rfl | rfl | rfl <;> rfl
set_option maxHeartbeats 4000000 in
set_option maxRecDepth 100000 in
theorem holds_is {d : Dk} {v : Value} {f0 f1 f2 f3 s0 s1 s2 s3 : UInt8} {w : World} (hv : IsD w v d) (hh : Dv.Holds d [f0, f1, f2, f3] [s0, s1, s2, s3]) :
    Calls Try.prog 28 #[v, .agg #[.int .u8 f0.toNat, .int .u8 f1.toNat, .int .u8 f2.toNat, .int .u8 f3.toNat], .agg #[.int .u8 s0.toNat, .int .u8 s1.toNat, .int .u8 s2.toNat, .int .u8 s3.toNat]] w fun e w' => e = .returned (.bool true) ∧ Below w.heap.size w w' := by
  have HV := Lib.hid hv
  have HH := Lib.hid hh
  obtain ⟨A, c, A2, c2, rfl, _, _⟩ := hv.open_
  clear hv hh
  obtain ⟨W0, hW0⟩ : ∃ W, ((w.alloc (.cells #[.slice A d.ss.length c, .slice A2 d.ps.length c2, .int .i64 d.left, .bool d.st] 25)).alloc (.cells #[.int .u8 f0.toNat, .int .u8 f1.toNat, .int .u8 f2.toNat, .int .u8 f3.toNat] 44)).alloc (.cells #[.int .u8 s0.toNat, .int .u8 s1.toNat, .int .u8 s2.toNat, .int .u8 s3.toNat] 44) = W := ⟨_, rfl⟩
  have HB0 := Lib.hid (show Below w.heap.size w W0 from by rw [← hW0]; exact (al1 w _).up ((al1 _ _).up (al1 _ _)))
  have HD := Lib.hid (show Cells W0 w.heap.size 25 [.slice A d.ss.length c, .slice A2 d.ps.length c2, .int .i64 d.left, .bool d.st] from by rw [← hW0]; exact ((Cells.new w 25 [_, _, _, _]).upb (al1 _ _)).upb (al1 _ _))
  have HF := Lib.hid (show Cells W0 (w.heap.size + 1) 44 [.int .u8 f0.toNat, .int .u8 f1.toNat, .int .u8 f2.toNat, .int .u8 f3.toNat] from by rw [← hW0]; have h := Cells.new (w.alloc (.cells #[.slice A d.ss.length c, .slice A2 d.ps.length c2, .int .i64 d.left, .bool d.st] 25)) 44 [.int .u8 f0.toNat, .int .u8 f1.toNat, .int .u8 f2.toNat, .int .u8 f3.toNat]; rw [World.size_alloc] at h; exact h.upb (al1 _ _))
  have HS := Lib.hid (show Cells W0 (w.heap.size + 1 + 1) 44 [.int .u8 s0.toNat, .int .u8 s1.toNat, .int .u8 s2.toNat, .int .u8 s3.toNat] from by rw [← hW0]; have h := Cells.new ((w.alloc (.cells #[.slice A d.ss.length c, .slice A2 d.ps.length c2, .int .i64 d.left, .bool d.st] 25)).alloc (.cells #[.int .u8 f0.toNat, .int .u8 f1.toNat, .int .u8 f2.toNat, .int .u8 f3.toNat] 44)) 44 [.int .u8 s0.toNat, .int .u8 s1.toNat, .int .u8 s2.toNat, .int .u8 s3.toNat]; rw [World.size_alloc, World.size_alloc] at h; exact h)
  have HWE := Lib.hid hW0
  clear hW0
  go_enter Try.func28, Try.ntmps28
  go_wp2_with (fail)
  simp only [HWE.out]
  have HR := Lib.hid (Below.refl W0.heap.size W0)
  go_loopw [7] (fun i wr => ∃ k : Nat, i = .int .i64 k ∧ k ≤ 4 ∧ Hid (Below W0.heap.size W0 wr)) (fun i _ => 4 - (intOf i).toNat)
  case atStart => exact ⟨0, rfl, by omega, HR⟩
  case round =>
    clear HR
    obtain ⟨k, rfl, hk, HB⟩ := hrel
    by_cases hlt : k < 4
    case neg =>
      obtain rfl : k = 4 := by omega
      go_wp2_with (fail)
      go_ret
      exact ⟨rfl, HB0.out.up HB.out⟩
    case pos =>
      have hd1 : decide ((k : Int) < 4) = true := decide_eq_true (by omega)
      have HHK := Lib.hid (HH.out k hlt)
      have HV2 := Lib.hid ((HV.out.upb HB0.out).upb HB.out)
      have HD2 := Lib.hid (HD.out.upb HB.out)
      have b0 := HD2.out.cell (k := 0) rfl
      have b1 := HD2.out.cell (k := 1) rfl
      have b2 := HD2.out.cell (k := 2) rfl
      have b3 := HD2.out.cell (k := 3) rfl
      have HF2 := Lib.hid (HF.out.upb HB.out)
      have HS2 := Lib.hid (HS.out.upb HB.out)
      go_wp2_with (fail)
      refine (Read_is HV2.out HHK.out.1 HHK.out.2).mono ?_
      rintro e w5 ⟨A5, c5, rfl, hb5, hb⟩
      have HB5 := Lib.hid (HB.out.up hb)
      have g0 := (HF2.out.upb hb).cell (four_at (a := f0) (b := f1) (c := f2) (e := f3) hlt)
      have g1 := (HS2.out.upb hb).cell (four_at (a := s0) (b := s1) (c := s2) (e := s3) hlt)
      have HQ := Lib.hid hb5
      clear hb5 hb b0 b1 b2 b3 HHK HV2 HD2 HF2 HS2
      generalize ([f0, f1, f2, f3] : List UInt8).getD k 0 = a at *
      generalize ([s0, s1, s2, s3] : List UInt8).getD k 0 = b at *
      simp only [Dv.two_len] at HQ ⊢
      obtain ⟨bl, of, rfl, _, q0⟩ := bytes_atq HQ.out (k := 0) (v := a) rfl
      obtain ⟨_, _, e, _, q1⟩ := bytes_atq HQ.out (k := 1) (v := 0) rfl
      injection e with e; injection e with e1 e2; subst e1 e2
      obtain ⟨_, _, e, _, q64⟩ := bytes_atq HQ.out (k := 64) (v := b) rfl
      injection e with e; injection e with e1 e2; subst e1 e2
      obtain ⟨_, _, e, _, q127⟩ := bytes_atq HQ.out (k := 127) (v := 0) rfl
      injection e with e; injection e with e1 e2; subst e1 e2
      have t0 : ((a.toNat : Int) == (a.toNat : Int)) = true := beq_self_eq_true _
      have t1 : ((b.toNat : Int) == (b.toNat : Int)) = true := beq_self_eq_true _
      rw [Nat.add_zero] at q0
      have hz : (((0 : UInt8).toNat : Nat) : Int) = 0 := rfl
      rw [hz] at q1 q127
      clear hz
      go_upto_region 5 with (fail)
      go_quiet (fail)
      go_wp2_with (fail)
      go_roundw
      case rel => exact ⟨k + 1, by go_num, by omega, Lib.hid (below_drewN HB5.out _)⟩
      case measure => first | omega | (simp [intOf]; done) | (simp [intOf]; omega)
end Go.Proofs.Ytimpnpdhhhbmgaa
