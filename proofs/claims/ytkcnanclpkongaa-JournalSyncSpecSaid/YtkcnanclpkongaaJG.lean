/- Walks of used, Check, Room and Append, of both sides, for records of any size. -/
import Derived.Test.YtkcnanclpkongaaJC
import Derived.Test.YtkcnanclpkongaaTB
namespace Go.Proofs.Ytkcnanclpkongaa
open Go.RowKit
set_option linter.unusedVariables false
set_option linter.unusedSimpArgs false
set_option maxRecDepth 20000

namespace Jn
def nsI (n : Nat) : Int := max 1 (wrap64 ((wrap64 (wrap64 ((n : Int) + 112) - 1)).tdiv 112))
def usI (rs : List By) : Int := rs.foldl (fun a b => wrap64 (a + nsI b.length)) 0
theorem usI_take {l : List By} {k : Nat} (hk : k < l.length) : usI (l.take (k + 1)) = wrap64 (usI (l.take k) + nsI l[k].length) := by
  unfold usI
  rw [List.take_succ_eq_append_getElem hk, List.foldl_append]
  rfl
def OkI (j : Jl) : Prop := 1 ≤ j.many ∧ j.many ≤ 4096 ∧ 0 ≤ j.syn ∧ j.syn ≤ j.rs.length ∧ usI j.rs ≤ j.many
instance (j : Jl) : Decidable (OkI j) := by unfold OkI; infer_instance
def chkI (j : Jl) : Int := if OkI j then 0 else 1
def rmI (j : Jl) : Int := if OkI j then wrap64 (112 * wrap64 (j.many - usI j.rs)) else 0
end Jn

set_option maxHeartbeats 1000000 in
theorem sectorsI_any {v : Value} {b : By} {w : World} (hv : IsBytes w v b) :
    Calls Try.prog 35 #[v] w fun e w' => e = .returned (.int .i64 (Jn.nsI b.length)) ∧ w = w' := by
  obtain ⟨A, c, rfl, _⟩ := id hv
  clear hv
  obtain ⟨z, hz⟩ : ∃ z, wrap64 ((wrap64 (wrap64 ((b.length : Int) + 112) - 1)).tdiv 112) = z := ⟨_, rfl⟩
  have HM := Lib.hid (show Jn.nsI b.length = max 1 z from by rw [← hz]; rfl)
  go_enter Try.func35, Try.ntmps35
  go_wp2_with (fail)
  all_goals
    go_ret
    refine ⟨congrArg (fun z => Ending.returned (Value.int .i64 z)) ?_, rfl⟩
    rw [HM.out]
    omega
set_option maxHeartbeats 1000000 in
theorem refSectorsI_any {n : Nat} {w : World} :
    Calls Try.prog 39 #[.int .i64 n] w fun e w' => e = .returned (.int .i64 (Jn.nsI n)) ∧ w = w' := by
  obtain ⟨z, hz⟩ : ∃ z, wrap64 ((wrap64 (wrap64 ((n : Int) + 112) - 1)).tdiv 112) = z := ⟨_, rfl⟩
  have HM := Lib.hid (show Jn.nsI n = max 1 z from by rw [← hz]; rfl)
  go_enter Try.func39, Try.ntmps39
  go_wp2_with (fail)
  all_goals
    go_ret
    refine ⟨congrArg (fun z => Ending.returned (Value.int .i64 z)) ?_, rfl⟩
    rw [HM.out]
    omega

set_option maxHeartbeats 2000000 in
theorem usedI_any {v : Value} {rs : List By} {w : World} (hv : IsBs w v rs) (hl : rs.length ≤ 9223372036854775807) :
    Calls Try.prog 36 #[v] w fun e w' => e = .returned (.int .i64 (Jn.usI rs)) ∧ w = w' := by
  have HV := Lib.hid hv
  obtain ⟨A, c, vs, rfl, _⟩ := id hv
  clear hv
  go_enter Try.func36, Try.ntmps36
  go_wp2_with (fail)
  go_loop [2, 7] (fun n i => ∃ k : Nat, k ≤ rs.length ∧ i = .int .i64 k ∧ n = .int .i64 (Jn.usI (rs.take k))) (fun _ i => rs.length - (intOf i).toNat)
  case atStart => exact ⟨0, Nat.zero_le _, rfl, rfl⟩
  case round =>
    obtain ⟨k, hk, rfl, rfl⟩ := hrel
    by_cases hlt : k < rs.length
    · have hd : decide ((k : Int) < (rs.length : Int)) = true := decide_eq_true (by omega)
      have HU := Lib.hid (Jn.usI_take hlt)
      obtain ⟨b1, off1, A7, c7, hA7, hbb1, hc1, hb1⟩ := bs_at HV.out hlt
      subst hA7
      have HB := Lib.hid hb1
      obtain ⟨m, hm⟩ : ∃ m, Jn.usI (rs.take k) = m := ⟨_, rfl⟩
      rw [hm] at HU ⊢
      clear hb1 hm
      generalize rs[k] = b at *
      have hkl : (k : Int) < (rs.length : Int) := by omega
      have hkm : wrap64 ((k : Int) + 1) = k + 1 := IntWalk.wrap64_in _ (by omega)
      have hkm2 : IntKind.i64.wrap ((k : Int) + 1) = k + 1 := IntWalk.i64_in _ (by omega)
      obtain ⟨y, hy⟩ : ∃ y, Jn.nsI b.length = y := ⟨_, rfl⟩
      have HY := Lib.hid hy
      rw [hy] at HU
      clear hy
      go_wp2_with (fail)
      refine (sectorsI_any HB.out).mono ?_
      rintro e wx ⟨rfl, rfl⟩
      rw [HY.out]
      go_wp2_with (fail)
      go_round
      case rel => exact ⟨k + 1, by omega, by go_num, by rw [HU.out]⟩
      case measure => simp [intOf]; omega
    · obtain rfl : k = rs.length := by omega
      have hd : decide ((rs.length : Int) < (rs.length : Int)) = false := decide_eq_false (by omega)
      rw [List.take_length]
      go_wp2_with (fail)
      go_ret
      exact ⟨rfl, rfl⟩
theorem usedI_q {v : Value} {rs : List By} {w : World} {m : Int} {n : Nat} (hv : IsBs w v rs) (hl : rs.length ≤ 9223372036854775807) (hm : Jn.usI rs = m) :
    Calls Try.prog 36 #[v] (w.drewN n) fun e w'' => e = .returned (.int .i64 m) ∧ ∃ m', w'' = w.drewN m' := by
  subst hm
  exact (usedI_any (show IsBs (w.drewN n) v rs from hv) hl).mono fun _ _ ⟨he, hw⟩ => ⟨he, n, hw.symm⟩

set_option maxHeartbeats 2000000 in
theorem refUsedI_any {v : Value} {rs : List By} {w : World} (hv : IsBs w v rs) (hl : rs.length ≤ 9223372036854775807) :
    Calls Try.prog 40 #[v] w fun e w' => e = .returned (.int .i64 (Jn.usI rs)) ∧ w = w' := by
  have HV := Lib.hid hv
  obtain ⟨A, c, vs, rfl, _⟩ := id hv
  clear hv
  go_enter Try.func40, Try.ntmps40
  go_wp2_with (fail)
  go_loop [3, 4] (fun n i => ∃ k : Nat, k ≤ rs.length ∧ i = .int .i64 k ∧ n = .int .i64 (Jn.usI (rs.take k))) (fun _ i => rs.length - (intOf i).toNat)
  case atStart => exact ⟨0, Nat.zero_le _, rfl, rfl⟩
  case round =>
    obtain ⟨k, hk, rfl, rfl⟩ := hrel
    by_cases hlt : k < rs.length
    · have hd : decide ((k : Int) < (rs.length : Int)) = true := decide_eq_true (by omega)
      have HU := Lib.hid (Jn.usI_take hlt)
      obtain ⟨b1, off1, A7, c7, hA7, hbb1, hc1, hb1⟩ := bs_at HV.out hlt
      subst hA7
      have HB := Lib.hid hb1
      obtain ⟨m, hm⟩ : ∃ m, Jn.usI (rs.take k) = m := ⟨_, rfl⟩
      rw [hm] at HU ⊢
      clear hb1 hm
      generalize rs[k] = b at *
      have hkl : (k : Int) < (rs.length : Int) := by omega
      have hkm : wrap64 ((k : Int) + 1) = k + 1 := IntWalk.wrap64_in _ (by omega)
      have hkm2 : IntKind.i64.wrap ((k : Int) + 1) = k + 1 := IntWalk.i64_in _ (by omega)
      obtain ⟨y, hy⟩ : ∃ y, Jn.nsI b.length = y := ⟨_, rfl⟩
      have HY := Lib.hid hy
      rw [hy] at HU
      clear hy
      go_wp2_with (fail)
      refine (refSectorsI_any (n := b.length)).mono ?_
      rintro e wx ⟨rfl, rfl⟩
      rw [HY.out]
      go_wp2_with (fail)
      go_round
      case rel => exact ⟨k + 1, by omega, by go_num, by rw [HU.out]⟩
      case measure => simp [intOf]; omega
    · obtain rfl : k = rs.length := by omega
      have hd : decide ((rs.length : Int) < (rs.length : Int)) = false := decide_eq_false (by omega)
      rw [List.take_length]
      go_wp2_with (fail)
      go_ret
      exact ⟨rfl, rfl⟩
theorem refUsedI_q {v : Value} {rs : List By} {w : World} {m : Int} {n : Nat} (hv : IsBs w v rs) (hl : rs.length ≤ 9223372036854775807) (hm : Jn.usI rs = m) :
    Calls Try.prog 40 #[v] (w.drewN n) fun e w'' => e = .returned (.int .i64 m) ∧ ∃ m', w'' = w.drewN m' := by
  subst hm
  exact (refUsedI_any (show IsBs (w.drewN n) v rs from hv) hl).mono fun _ _ ⟨he, hw⟩ => ⟨he, n, hw.symm⟩

set_option maxHeartbeats 8000000 in
set_option maxRecDepth 100000 in
theorem JCheckI_any {v : Value} {j : Jl} {w : World} (hv : IsJ w v j) (hs : j.rs.length ≤ 9223372036854775807) :
    Calls Try.prog 17 #[v] w fun e w' => e = .returned (.int .i64 (Jn.chkI j)) ∧ Below w.heap.size w w' := by
  obtain ⟨A, c, rfl, hb⟩ := hv.open_
  obtain ⟨rs, many, syn⟩ := j
  simp only at hb hs ⊢
  have HB := Lib.hid (hb.upb (al1 w (.cells #[.slice A rs.length c, .int .i64 many, .int .i64 syn] 29)))
  have HW := Lib.hid (al1 w (.cells #[.slice A rs.length c, .int .i64 many, .int .i64 syn] 29))
  have HS := Lib.hid hs
  have hl := hs
  obtain ⟨u, hu⟩ : ∃ u, Jn.usI rs = u := ⟨_, rfl⟩
  have HU := Lib.hid hu
  obtain ⟨r, hr⟩ : ∃ r, Jn.chkI ⟨rs, many, syn⟩ = r := ⟨_, rfl⟩
  have HNO := Lib.hid (show ¬ (1 ≤ many ∧ many ≤ 4096 ∧ 0 ≤ syn ∧ syn ≤ rs.length ∧ u ≤ many) → r = 1 from fun h => by rw [← hr]; unfold Jn.chkI; rw [if_neg]; intro h2; exact h (by rw [← hu]; exact h2))
  have HYES := Lib.hid (show (1 ≤ many ∧ many ≤ 4096 ∧ 0 ≤ syn ∧ syn ≤ rs.length ∧ u ≤ many) → r = 0 from fun h => by rw [← hr]; unfold Jn.chkI; rw [if_pos]; rw [← hu] at h; exact h)
  rw [hr]
  clear hv hs hb hu hr
  go_enter Try.func17, Try.ntmps17
  go_wp2_with (fail)
  by_cases h_t1 : many < 1
  case pos =>
    have t1 : (decide (many < 1)) = true := by rw [decide_eq_true_eq]; omega
    obtain rfl : r = 1 := HNO.out (by rintro ⟨h, _⟩; omega)
    clear HNO HYES
    go_quiet ((go_at_call 36; with_reducible exact (usedI_q HB.out HS.out HU.out)))
    go_wp2_with (fail)
    go_ret
    exact ⟨rfl, below_drewN HW.out _⟩
  case neg =>
  have t1 : (decide (many < 1)) = false := by rw [decide_eq_false_iff_not]; omega
  by_cases h_t2 : 4096 < many
  case pos =>
    have t2 : (decide (4096 < many)) = true := by rw [decide_eq_true_eq]; omega
    obtain rfl : r = 1 := HNO.out (by rintro ⟨_, h, _⟩; omega)
    clear HNO HYES
    go_quiet ((go_at_call 36; with_reducible exact (usedI_q HB.out HS.out HU.out)))
    go_wp2_with (fail)
    go_ret
    exact ⟨rfl, below_drewN HW.out _⟩
  case neg =>
  have t2 : (decide (4096 < many)) = false := by rw [decide_eq_false_iff_not]; omega
  by_cases h_t3 : syn < 0
  case pos =>
    have t3 : (decide (syn < 0)) = true := by rw [decide_eq_true_eq]; omega
    obtain rfl : r = 1 := HNO.out (by rintro ⟨_, _, h, _⟩; omega)
    clear HNO HYES
    go_quiet ((go_at_call 36; with_reducible exact (usedI_q HB.out HS.out HU.out)))
    go_wp2_with (fail)
    go_ret
    exact ⟨rfl, below_drewN HW.out _⟩
  case neg =>
  have t3 : (decide (syn < 0)) = false := by rw [decide_eq_false_iff_not]; omega
  by_cases h_t4 : (rs.length : Int) < syn
  case pos =>
    have t4 : (decide ((rs.length : Int) < syn)) = true := by rw [decide_eq_true_eq]; omega
    obtain rfl : r = 1 := HNO.out (by rintro ⟨_, _, _, h, _⟩; omega)
    clear HNO HYES
    go_quiet ((go_at_call 36; with_reducible exact (usedI_q HB.out HS.out HU.out)))
    go_wp2_with (fail)
    go_ret
    exact ⟨rfl, below_drewN HW.out _⟩
  case neg =>
  have t4 : (decide ((rs.length : Int) < syn)) = false := by rw [decide_eq_false_iff_not]; omega
  by_cases h_t5 : many < u
  case pos =>
    have t5 : (decide (many < u)) = true := by rw [decide_eq_true_eq]; omega
    obtain rfl : r = 1 := HNO.out (by rintro ⟨_, _, _, _, h⟩; omega)
    clear HNO HYES
    go_quiet ((go_at_call 36; with_reducible exact (usedI_q HB.out HS.out HU.out)))
    go_wp2_with (fail)
    go_ret
    exact ⟨rfl, below_drewN HW.out _⟩
  case neg =>
  have t5 : (decide (many < u)) = false := by rw [decide_eq_false_iff_not]; omega
  obtain rfl : r = 0 := HYES.out ⟨by omega, by omega, by omega, by omega, by omega⟩
  clear HNO HYES
  go_quiet ((go_at_call 36; with_reducible exact (usedI_q HB.out HS.out HU.out)))
  go_wp2_with (fail)
  go_ret
  exact ⟨rfl, below_drewN HW.out _⟩
theorem JCheckI_is {v : Value} {j : Jl} {w : World} {r : Int} (hv : IsJ w v j) (hs : j.rs.length ≤ 9223372036854775807) (hr : Jn.chkI j = r) :
    Calls Try.prog 17 #[v] w fun e w' => e = .returned (.int .i64 r) ∧ Below w.heap.size w w' := by subst hr; exact JCheckI_any hv hs

set_option maxHeartbeats 8000000 in
set_option maxRecDepth 100000 in
theorem JrefCheckI_any {v : Value} {j : Jl} {w : World} (hv : IsJ w v j) (hs : j.rs.length ≤ 9223372036854775807) :
    Calls Try.prog 18 #[v] w fun e w' => e = .returned (.int .i64 (Jn.chkI j)) ∧ Below w.heap.size w w' := by
  obtain ⟨A, c, rfl, hb⟩ := hv.open_
  obtain ⟨rs, many, syn⟩ := j
  simp only at hb hs ⊢
  have HB := Lib.hid (hb.upb (al1 w (.cells #[.slice A rs.length c, .int .i64 many, .int .i64 syn] 29)))
  have HW := Lib.hid (al1 w (.cells #[.slice A rs.length c, .int .i64 many, .int .i64 syn] 29))
  have HS := Lib.hid hs
  have hl := hs
  obtain ⟨u, hu⟩ : ∃ u, Jn.usI rs = u := ⟨_, rfl⟩
  have HU := Lib.hid hu
  obtain ⟨r, hr⟩ : ∃ r, Jn.chkI ⟨rs, many, syn⟩ = r := ⟨_, rfl⟩
  have HNO := Lib.hid (show ¬ (1 ≤ many ∧ many ≤ 4096 ∧ 0 ≤ syn ∧ syn ≤ rs.length ∧ u ≤ many) → r = 1 from fun h => by rw [← hr]; unfold Jn.chkI; rw [if_neg]; intro h2; exact h (by rw [← hu]; exact h2))
  have HYES := Lib.hid (show (1 ≤ many ∧ many ≤ 4096 ∧ 0 ≤ syn ∧ syn ≤ rs.length ∧ u ≤ many) → r = 0 from fun h => by rw [← hr]; unfold Jn.chkI; rw [if_pos]; rw [← hu] at h; exact h)
  rw [hr]
  clear hv hs hb hu hr
  go_enter Try.func18, Try.ntmps18
  go_wp2_with (fail)
  by_cases h_t1 : many < 1
  case pos =>
    have t1 : (decide (many < 1)) = true := by rw [decide_eq_true_eq]; omega
    obtain rfl : r = 1 := HNO.out (by rintro ⟨h, _⟩; omega)
    clear HNO HYES
    go_quiet ((go_at_call 40; with_reducible exact (refUsedI_q HB.out HS.out HU.out)))
    go_wp2_with (fail)
    go_ret
    exact ⟨rfl, below_drewN HW.out _⟩
  case neg =>
  have t1 : (decide (many < 1)) = false := by rw [decide_eq_false_iff_not]; omega
  by_cases h_t2 : 4096 < many
  case pos =>
    have t2 : (decide (4096 < many)) = true := by rw [decide_eq_true_eq]; omega
    obtain rfl : r = 1 := HNO.out (by rintro ⟨_, h, _⟩; omega)
    clear HNO HYES
    go_quiet ((go_at_call 40; with_reducible exact (refUsedI_q HB.out HS.out HU.out)))
    go_wp2_with (fail)
    go_ret
    exact ⟨rfl, below_drewN HW.out _⟩
  case neg =>
  have t2 : (decide (4096 < many)) = false := by rw [decide_eq_false_iff_not]; omega
  by_cases h_t3 : syn < 0
  case pos =>
    have t3 : (decide (syn < 0)) = true := by rw [decide_eq_true_eq]; omega
    obtain rfl : r = 1 := HNO.out (by rintro ⟨_, _, h, _⟩; omega)
    clear HNO HYES
    go_quiet ((go_at_call 40; with_reducible exact (refUsedI_q HB.out HS.out HU.out)))
    go_wp2_with (fail)
    go_ret
    exact ⟨rfl, below_drewN HW.out _⟩
  case neg =>
  have t3 : (decide (syn < 0)) = false := by rw [decide_eq_false_iff_not]; omega
  by_cases h_t4 : (rs.length : Int) < syn
  case pos =>
    have t4 : (decide ((rs.length : Int) < syn)) = true := by rw [decide_eq_true_eq]; omega
    obtain rfl : r = 1 := HNO.out (by rintro ⟨_, _, _, h, _⟩; omega)
    clear HNO HYES
    go_quiet ((go_at_call 40; with_reducible exact (refUsedI_q HB.out HS.out HU.out)))
    go_wp2_with (fail)
    go_ret
    exact ⟨rfl, below_drewN HW.out _⟩
  case neg =>
  have t4 : (decide ((rs.length : Int) < syn)) = false := by rw [decide_eq_false_iff_not]; omega
  by_cases h_t5 : many < u
  case pos =>
    have t5 : (decide (many < u)) = true := by rw [decide_eq_true_eq]; omega
    obtain rfl : r = 1 := HNO.out (by rintro ⟨_, _, _, _, h⟩; omega)
    clear HNO HYES
    go_quiet ((go_at_call 40; with_reducible exact (refUsedI_q HB.out HS.out HU.out)))
    go_wp2_with (fail)
    go_ret
    exact ⟨rfl, below_drewN HW.out _⟩
  case neg =>
  have t5 : (decide (many < u)) = false := by rw [decide_eq_false_iff_not]; omega
  obtain rfl : r = 0 := HYES.out ⟨by omega, by omega, by omega, by omega, by omega⟩
  clear HNO HYES
  go_quiet ((go_at_call 40; with_reducible exact (refUsedI_q HB.out HS.out HU.out)))
  go_wp2_with (fail)
  go_ret
  exact ⟨rfl, below_drewN HW.out _⟩
theorem JrefCheckI_is {v : Value} {j : Jl} {w : World} {r : Int} (hv : IsJ w v j) (hs : j.rs.length ≤ 9223372036854775807) (hr : Jn.chkI j = r) :
    Calls Try.prog 18 #[v] w fun e w' => e = .returned (.int .i64 r) ∧ Below w.heap.size w w' := by subst hr; exact JrefCheckI_any hv hs

set_option maxHeartbeats 8000000 in
set_option maxRecDepth 100000 in
theorem RoomI_any {v : Value} {j : Jl} {w : World} (hv : IsJ w v j) (hs : j.rs.length ≤ 9223372036854775807) :
    Calls Try.prog 19 #[v] w fun e w' => e = .returned (.int .i64 (Jn.rmI j)) ∧ Below w.heap.size w w' := by
  obtain ⟨A, c, rfl, hb⟩ := hv.open_
  obtain ⟨rs, many, syn⟩ := j
  simp only at hb hs ⊢
  have HZ := Lib.hid (Cells.new w 29 [.slice A rs.length c, .int .i64 many, .int .i64 syn])
  have HW := Lib.hid (al1 w (.cells #[.slice A rs.length c, .int .i64 many, .int .i64 syn] 29))
  have HV := Lib.hid (hv.upb HW.out)
  have HB := Lib.hid (hb.upb HW.out)
  have HS := Lib.hid hs
  obtain ⟨k, hk⟩ : ∃ k, Jn.chkI ⟨rs, many, syn⟩ = k := ⟨_, rfl⟩
  have HK := Lib.hid hk
  obtain ⟨r, hr⟩ : ∃ r, Jn.rmI ⟨rs, many, syn⟩ = r := ⟨_, rfl⟩
  have HR := Lib.hid hr
  rw [hr]
  clear hv hs hb hk hr
  obtain ⟨B, hB⟩ : ∃ B, w.heap.size = B := ⟨_, rfl⟩
  have HBs := Lib.hid hB
  rw [hB] at HZ
  go_enter Try.func19, Try.ntmps19
  go_upto_region 1 with (fail)
  obtain ⟨W0, hW0⟩ : ∃ W, w.alloc (.cells #[.slice A rs.length c, .int .i64 many, .int .i64 syn] 29) = W := ⟨_, rfl⟩
  rw [hW0] at HZ HW HV HB
  simp only [hW0, hB]
  clear hW0 hB
  have z0 := HZ.out.cell (k := 0) rfl
  have z1 := HZ.out.cell (k := 1) rfl
  have z2 := HZ.out.cell (k := 2) rfl
  go_wp2_with (fail)
  refine (JCheckI_is HV.out HS.out HK.out).mono ?_
  rintro e w1 ⟨rfl, hb1⟩
  have HW1 := Lib.hid (HW.out.up hb1)
  have HB1 := Lib.hid (HB.out.upb hb1)
  replace HZ := Lib.hid (HZ.out.upb hb1)
  clear z0 z1 z2 hb1
  by_cases hok : Jn.OkI ⟨rs, many, syn⟩
  case neg =>
    obtain rfl : k = 1 := by rw [← HK.out]; unfold Jn.chkI; rw [if_neg hok]
    obtain rfl : r = 0 := by rw [← HR.out]; unfold Jn.rmI; rw [if_neg hok]
    clear hok
    go_wp2_with (fail)
    go_ret
    exact ⟨rfl, HW1.out⟩
  case pos =>
    obtain rfl : k = 0 := by rw [← HK.out]; unfold Jn.chkI; rw [if_pos hok]
    obtain ⟨u, hu⟩ : ∃ u, Jn.usI rs = u := ⟨_, rfl⟩
    obtain rfl : r = wrap64 (112 * wrap64 (many - u)) := by rw [← HR.out, ← hu]; unfold Jn.rmI; rw [if_pos hok]
    have HU := Lib.hid hu
    have hb := hok
    obtain ⟨m1, m2, _, _, m5⟩ := hb
    simp only [hu] at m1 m2 m5
    clear hok hu
    have z0 := HZ.out.cell (k := 0) rfl
    have z1 := HZ.out.cell (k := 1) rfl
    have z2 := HZ.out.cell (k := 2) rfl
    go_wp2_with (fail)
    go_quiet ((go_at_call 36; with_reducible exact (usedI_q HB1.out HS.out HU.out)))
    go_wp2_with (fail)
    go_ret
    exact ⟨rfl, below_drewN HW1.out _⟩
theorem RoomI_is {v : Value} {j : Jl} {w : World} {r : Int} (hv : IsJ w v j) (hs : j.rs.length ≤ 9223372036854775807) (hr : Jn.rmI j = r) :
    Calls Try.prog 19 #[v] w fun e w' => e = .returned (.int .i64 r) ∧ Below w.heap.size w w' := by subst hr; exact RoomI_any hv hs

set_option maxHeartbeats 8000000 in
set_option maxRecDepth 100000 in
theorem refRoomI_any {v : Value} {j : Jl} {w : World} (hv : IsJ w v j) (hs : j.rs.length ≤ 9223372036854775807) :
    Calls Try.prog 20 #[v] w fun e w' => e = .returned (.int .i64 (Jn.rmI j)) ∧ Below w.heap.size w w' := by
  obtain ⟨A, c, rfl, hb⟩ := hv.open_
  obtain ⟨rs, many, syn⟩ := j
  simp only at hb hs ⊢
  have HZ := Lib.hid (Cells.new w 29 [.slice A rs.length c, .int .i64 many, .int .i64 syn])
  have HW := Lib.hid (al1 w (.cells #[.slice A rs.length c, .int .i64 many, .int .i64 syn] 29))
  have HV := Lib.hid (hv.upb HW.out)
  have HB := Lib.hid (hb.upb HW.out)
  have HS := Lib.hid hs
  obtain ⟨k, hk⟩ : ∃ k, Jn.chkI ⟨rs, many, syn⟩ = k := ⟨_, rfl⟩
  have HK := Lib.hid hk
  obtain ⟨r, hr⟩ : ∃ r, Jn.rmI ⟨rs, many, syn⟩ = r := ⟨_, rfl⟩
  have HR := Lib.hid hr
  rw [hr]
  clear hv hs hb hk hr
  obtain ⟨B, hB⟩ : ∃ B, w.heap.size = B := ⟨_, rfl⟩
  have HBs := Lib.hid hB
  rw [hB] at HZ
  go_enter Try.func20, Try.ntmps20
  go_upto_region 1 with (fail)
  obtain ⟨W0, hW0⟩ : ∃ W, w.alloc (.cells #[.slice A rs.length c, .int .i64 many, .int .i64 syn] 29) = W := ⟨_, rfl⟩
  rw [hW0] at HZ HW HV HB
  simp only [hW0, hB]
  clear hW0 hB
  have z0 := HZ.out.cell (k := 0) rfl
  have z1 := HZ.out.cell (k := 1) rfl
  have z2 := HZ.out.cell (k := 2) rfl
  go_wp2_with (fail)
  refine (JrefCheckI_is HV.out HS.out HK.out).mono ?_
  rintro e w1 ⟨rfl, hb1⟩
  have HW1 := Lib.hid (HW.out.up hb1)
  have HB1 := Lib.hid (HB.out.upb hb1)
  replace HZ := Lib.hid (HZ.out.upb hb1)
  clear z0 z1 z2 hb1
  by_cases hok : Jn.OkI ⟨rs, many, syn⟩
  case neg =>
    obtain rfl : k = 1 := by rw [← HK.out]; unfold Jn.chkI; rw [if_neg hok]
    obtain rfl : r = 0 := by rw [← HR.out]; unfold Jn.rmI; rw [if_neg hok]
    clear hok
    go_wp2_with (fail)
    go_ret
    exact ⟨rfl, HW1.out⟩
  case pos =>
    obtain rfl : k = 0 := by rw [← HK.out]; unfold Jn.chkI; rw [if_pos hok]
    obtain ⟨u, hu⟩ : ∃ u, Jn.usI rs = u := ⟨_, rfl⟩
    obtain rfl : r = wrap64 (112 * wrap64 (many - u)) := by rw [← HR.out, ← hu]; unfold Jn.rmI; rw [if_pos hok]
    have HU := Lib.hid hu
    have hb := hok
    obtain ⟨m1, m2, _, _, m5⟩ := hb
    simp only [hu] at m1 m2 m5
    clear hok hu
    have z0 := HZ.out.cell (k := 0) rfl
    have z1 := HZ.out.cell (k := 1) rfl
    have z2 := HZ.out.cell (k := 2) rfl
    go_wp2_with (fail)
    go_quiet ((go_at_call 40; with_reducible exact (refUsedI_q HB1.out HS.out HU.out)))
    go_wp2_with (fail)
    go_ret
    exact ⟨rfl, below_drewN HW1.out _⟩
theorem refRoomI_is {v : Value} {j : Jl} {w : World} {r : Int} (hv : IsJ w v j) (hs : j.rs.length ≤ 9223372036854775807) (hr : Jn.rmI j = r) :
    Calls Try.prog 20 #[v] w fun e w' => e = .returned (.int .i64 r) ∧ Below w.heap.size w w' := by subst hr; exact refRoomI_any hv hs

theorem appSI_run {W : World} {base : Nat} (ty : TypeId) {v : Value} {ss ts : List By} (hown : OwnSs W base v ss) {A : Option Addr} {c : Nat} {us : List Value} (hl : us.length = ts.length) (hr : RowAt W A us) (hi : ∀ i (h : i < us.length) (h' : i < ts.length), OffB v.ownBlock W us[i] ts[i]) (hlen : ss.length + ts.length ≤ 5864062014700) (hb : base ≤ W.heap.size) :
    ∃ v' w', (Builtin.append_ #[22, 22] ty #[v, .slice A ts.length c]).run Try.prog W = .ok v' w' ∧ OwnSs w' base v' (ss ++ ts) ∧ W.grownBy w' v.ownBlock ∧ (v'.ownBlock = v.ownBlock ∨ v'.ownBlock = some W.heap.size) := by
  obtain ⟨vs, hlv, ho, hiv⟩ := hown
  obtain ⟨v', w', h1, h2, h3, h4⟩ := app_run W base 22 ty 35 _ 1 24 Try.underlying22 info35 rfl (by decide) v _ _ ho A ts.length c us (by omega) hr (vals_one hl (fun i h h' => (hi i h h').bytes)) (by unfold maxLen; omega) (by omega) hb
  have ha : App W w' base 35 1 v v' (ss.length + ts.length) (vs ++ us) := ⟨h2, h3, h4⟩
  refine ⟨v', w', h1, ⟨vs ++ us, by simp [hlv, hl], by rw [List.length_append]; exact h2, fun i k1 k2 => ?_⟩, h3, h4⟩
  by_cases e : i < vs.length
  · rw [List.getElem_append_left e, List.getElem_append_left (by omega)]
    exact (hiv i e (by omega)).app ha
  · rw [List.getElem_append_right (by omega), List.getElem_append_right (by omega)]
    simp only [List.length_append] at k1
    have hx := (hi (i - vs.length) (by omega) (by omega)).app ha
    have : ts[i - ss.length]'(by omega) = ts[i - vs.length]'(by omega) := by simp only [hlv]
    rw [this]; exact hx

theorem appSI_is {w X : World} {v u : Value} {ss ts : List By} (ty : TypeId) (hb : Below w.heap.size w X) (hu : IsBs w u ts) (hown : OwnSs X w.heap.size v ss) (hlen : ss.length + ts.length ≤ 5864062014700) :
    ∃ v' w', (Builtin.append_ #[22, 22] ty #[v, u]).run Try.prog X = .ok v' w' ∧ OwnSs w' w.heap.size v' (ss ++ ts) ∧ X.grownBy w' v.ownBlock ∧ (v'.ownBlock = v.ownBlock ∨ v'.ownBlock = some X.heap.size) := by
  obtain ⟨A, c, us, rfl, hl, hr, hi⟩ := offS hu
  have hlt := hown
  obtain ⟨vs, _, ho, _⟩ := hlt
  exact appSI_run ty hown hl (hr.below hb) (hi X _ hb (fun g hg => (World.ownsRow.lt ho g hg).1)) hlen hb.size

theorem pushSI_run {W : World} (ty : TypeId) {A : Option Addr} {ss : List By} {vs : List Value} {b : By} {dv : Value} (hl : vs.length = ss.length) (hr : RowAt W A vs) (hi : ∀ i (h : i < vs.length) (h' : i < ss.length), IsBytes W vs[i] ss[i])
    (hA : A = none → ss.length = 0) (hd : IsBytes W dv b) (hlen : ss.length ≤ 5864062014634) :
    ∃ v' w', (Builtin.append_ #[22, 22] ty #[.slice A ss.length ss.length, .slice (some ⟨W.heap.size, 0, none⟩) 1 1]).run Try.prog (W.alloc (.cells #[dv] 35)) = .ok v' w' ∧
      (IsBs w' v' (ss ++ [b]) ∧ Below W.heap.size W w' ∧ ∃ g cap, v' = .slice (some ⟨g, 0, none⟩) (ss.length + 1) cap ∧ W.heap.size < g) := by
  obtain ⟨i0, hi0, hz0, hz1, hz2⟩ := info_parts info35
  have hb := al1 W (.cells #[dv] 35)
  have fin : ∀ v' w', w'.ownsRow (W.alloc (.cells #[dv] 35)).heap.size 35 1 v' (ss.length + 1) (vs ++ [dv]) → (W.alloc (.cells #[dv] 35)).grownBy w' none →
      (IsBs w' v' (ss ++ [b]) ∧ Below W.heap.size W w' ∧ ∃ g cap, v' = .slice (some ⟨g, 0, none⟩) (ss.length + 1) cap ∧ W.heap.size < g) := fun v' w' h1 h2 => by
    have hb2 := hb.up (below_none h2)
    obtain ⟨g, cap, e, hg, _⟩ := own_form h1 (by omega)
    obtain ⟨A', c', e', k1, k2, _⟩ := own_rowAt h1
    refine ⟨⟨A', c', vs ++ [dv], by rw [e']; simp, by simpa using k1, by simp [hl], k2, fun i q1 q2 => ?_⟩, hb2, g, cap, e, by simp at hg; omega⟩
    by_cases e : i < vs.length
    · rw [List.getElem_append_left e, List.getElem_append_left (by omega)]
      exact (hi i e (by omega)).upb hb2
    · simp only [List.length_append, List.length_cons, List.length_nil] at q1
      have e2 : i = vs.length := by omega
      subst e2
      have e3 : (ss ++ [b])[vs.length]'q2 = b := by simp [hl]
      have e4 : (vs ++ [dv])[vs.length]'(by simp) = dv := by simp
      rw [e3, e4]
      exact hd.upb hb2
  have hone : ∀ u ∈ [dv], u.oneCell' = true := by
    intro u hu
    simp at hu
    subst hu
    exact hd.one
  cases A with
  | none =>
    have h0 := hA rfl
    have hp : ss = [] := List.eq_nil_of_length_eq_zero h0
    subst hp
    have hv : vs = [] := List.eq_nil_of_length_eq_zero (by simpa using hl)
    subst hv
    obtain ⟨v', w', h1, h2, h3, _⟩ := run_append_own (P := Try.prog) _ (W.alloc (.cells #[dv] 35)).heap.size 22 ty 35 i0 _ 1 24 Try.underlying22 hi0 hz0 hz1 hz2 rfl (by decide) (.slice none 0 0) 0 [] (World.ownsRow_nil _ _ 35 1) ⟨W.heap.size, 0, none⟩ 1 1 [dv] rfl (cell_one_new W dv 35) hone (by unfold maxLen; omega) (by omega) (Nat.le_refl _)
    exact ⟨v', w', h1, fin v' w' h2 h3⟩
  | some ad =>
    obtain ⟨v', w', h1, h2, h3⟩ := run_append_arg_grows (P := Try.prog) (W.alloc (.cells #[dv] 35)) 22 ty 35 i0 _ 1 24 Try.underlying22 hi0 hz0 hz1 hz2 rfl (by decide) ad ss.length ss.length vs (by omega) (rowAt_cells (hr.below hb)) ⟨W.heap.size, 0, none⟩ 1 1 [dv] rfl (cell_one_new W dv 35) (by omega) (by unfold maxLen; omega) (by omega)
    exact ⟨v', w', h1, fin v' w' h2 h3⟩

set_option maxHeartbeats 4000000 in
theorem SameRecordsI_any {u v : Value} {a b : List By} {w : World} (hu : IsBs w u a) (hv : IsBs w v b) (hl : a.length ≤ 9223372036854775806) :
    Calls Try.prog 24 #[u, v] w fun e w' => e = .returned (.bool (decide (a = b))) ∧ ∃ n, w' = w.drewN n := by
  have HU := Lib.hid hu
  have HV := Lib.hid hv
  obtain ⟨A, c, _, rfl, _⟩ := id hu
  obtain ⟨A2, c2, _, rfl, _⟩ := id hv
  obtain ⟨r, hr⟩ : ∃ r, decide (a = b) = r := ⟨_, rfl⟩
  have HR := Lib.hid hr
  have HNO := Lib.hid (show ¬ (a = b) → r = false from fun h => by rw [← hr]; exact decide_eq_false h)
  rw [hr]
  clear hu hv hr
  by_cases e1 : a.length = b.length
  case neg =>
    obtain rfl : r = false := HNO.out (fun h => e1 (by rw [h]))
    have hl1 : ((a.length : Int) != (b.length : Int)) = true := by rw [bne_iff_ne]; omega
    clear e1
    go_enter Try.func24, Try.ntmps24
    go_wp2_with (fail)
    go_ret
    exact ⟨rfl, 0, rfl⟩
  case pos =>
  have E1 := Lib.hid e1
  have hl1 : ((a.length : Int) != (b.length : Int)) = false := by simp [e1]
  clear e1
  go_enter Try.func24, Try.ntmps24
  go_wp2_with (fail)
  go_loopw [5] (fun i wr => ∃ k q : Nat, i = .int .i64 k ∧ k ≤ a.length ∧ Hid (a.take k = b.take k) ∧ wr = w.drewN q) (fun i _ => a.length - (intOf i).toNat)
  case atStart => exact ⟨0, 0, rfl, Nat.zero_le _, Lib.hid rfl, rfl⟩
  case round =>
    obtain ⟨k, q, rfl, hk, HT, rfl⟩ := hrel
    by_cases hlt : k < a.length
    · have hd : decide ((k : Int) < (a.length : Int)) = true := decide_eq_true (by omega)
      have hlb : k < b.length := by have := E1.out; omega
      have hkm : wrap64 ((k : Int) + 1) = k + 1 := IntWalk.wrap64_in _ (by omega)
      have hkm2 : IntKind.i64.wrap ((k : Int) + 1) = k + 1 := IntWalk.i64_in _ (by omega)
      have hkl : (k : Int) < (a.length : Int) := by omega
      have hkl2 : (k : Int) < (b.length : Int) := by omega
      obtain ⟨b1, o1, A7, c7, hA7, hbb1, hc1, hb1⟩ := bs_at HU.out hlt
      obtain ⟨b2, o2, A8, c8, hA8, hbb2, hc2, hb2⟩ := bs_at HV.out hlb
      subst hA7 hA8
      have hv1 := fun m => conv_str (show IsBytes (w.drewN m) _ _ from hb1)
      have hv2 := fun m => conv_str (show IsBytes (w.drewN m) _ _ from hb2)
      clear hb1 hb2
      by_cases he : a[k] = b[k]
      · have HS := Lib.hid (same_step hlt hlb HT.out he)
        have hn : (a[k] != b[k]) = false := by rw [he]; simp
        have hn2 : (a[k] == b[k]) = true := by rw [he]; simp
        clear he
        generalize a[k] = x at *
        generalize b[k] = y at *
        go_wp2_with (fail)
        go_quiet (fail)
        go_wp2_with (fail)
        go_roundw
        case rel => exact ⟨k + 1, _, by go_num, by omega, HS, by first | rfl | trivial⟩
        case measure => simp [intOf]; omega
      · obtain rfl : r = false := HNO.out (fun h => he (same_at hlt hlb h))
        have hn : (a[k] != b[k]) = true := by rw [bne_iff_ne]; exact he
        have hn2 : (a[k] == b[k]) = false := by rw [beq_eq_false_iff_ne]; exact he
        clear he HNO HR
        generalize a[k] = x at *
        generalize b[k] = y at *
        go_wp2_with (fail)
        go_quiet (fail)
        go_wp2_with (fail)
        go_ret
        exact ⟨rfl, q + nq, by simp⟩
    · obtain rfl : k = a.length := by omega
      have hd : decide ((a.length : Int) < (a.length : Int)) = false := decide_eq_false (by omega)
      obtain rfl : r = true := by
        have h := HT.out
        rw [List.take_length, E1.out, List.take_length] at h
        rw [← HR.out]
        exact decide_eq_true h
      clear HR HNO
      go_wp2_with (fail)
      go_ret
      exact ⟨rfl, _, rfl⟩

set_option maxHeartbeats 4000000 in
set_option maxRecDepth 100000 in
theorem JSameI_is {a b : Jl} {v u : Value} {w : World} {r : Bool} (hv : IsJ w v a) (hu : IsJ w u b) (hl : a.rs.length ≤ 9223372036854775806) (hr : decide (a = b) = r) :
    Calls Try.prog 14 #[v, u] w fun e w' => e = .returned (.bool r) ∧ Below w.heap.size w w' := by
  obtain ⟨A, c, rfl, h1⟩ := hv.open_
  obtain ⟨A2, c2, rfl, h2⟩ := hu.open_
  obtain ⟨rs, m, s⟩ := a
  obtain ⟨rs2, m2, s2⟩ := b
  simp only at h1 h2 hl ⊢
  obtain ⟨W0, hW0⟩ : ∃ W, (w.alloc (.cells #[.slice A rs.length c, .int .i64 m, .int .i64 s] 29)).alloc (.cells #[.slice A2 rs2.length c2, .int .i64 m2, .int .i64 s2] 29) = W := ⟨_, rfl⟩
  have HB := Lib.hid (show Below w.heap.size w W0 from by rw [← hW0]; exact (al1 w _).up (al1 _ _))
  have H1 := Lib.hid (h1.upb HB.out)
  have H2 := Lib.hid (h2.upb HB.out)
  have HL := Lib.hid hl
  have HZ1 := Lib.hid (show Cells W0 w.heap.size 29 [.slice A rs.length c, .int .i64 m, .int .i64 s] from by rw [← hW0]; exact (Cells.new w 29 [_, _, _]).upb (al1 _ _))
  have HZ2 := Lib.hid (show Cells W0 (w.heap.size + 1) 29 [.slice A2 rs2.length c2, .int .i64 m2, .int .i64 s2] from by
    rw [← hW0]
    have h := Cells.new (w.alloc (.cells #[.slice A rs.length c, .int .i64 m, .int .i64 s] 29)) 29 [.slice A2 rs2.length c2, .int .i64 m2, .int .i64 s2]
    rw [World.size_alloc] at h
    exact h)
  have HNO := Lib.hid (show ¬ ((⟨rs, m, s⟩ : Jl) = ⟨rs2, m2, s2⟩) → r = false from fun h => by rw [← hr]; exact decide_eq_false h)
  have HR := Lib.hid hr
  have HWE := Lib.hid hW0
  clear hv hu hl h1 h2 hr hW0
  go_enter Try.func14, Try.ntmps14
  go_upto_region 1 with (fail)
  simp only [HWE.out]
  have z0 := HZ1.out.cell (k := 0) rfl
  have z1 := HZ1.out.cell (k := 1) rfl
  have z2 := HZ1.out.cell (k := 2) rfl
  have y0 := HZ2.out.cell (k := 0) rfl
  have y1 := HZ2.out.cell (k := 1) rfl
  have y2 := HZ2.out.cell (k := 2) rfl
  by_cases e1 : m = m2
  case neg =>
    obtain rfl : r = false := HNO.out (fun h => e1 (by injection h))
    have t1 : (m == m2) = false := by rw [beq_eq_false_iff_ne]; exact e1
    clear e1
    go_wp2_with (fail)
    go_ret
    exact ⟨rfl, HB.out⟩
  subst e1
  have t1 : (m == m) = true := beq_self_eq_true m
  by_cases e2 : s = s2
  case neg =>
    obtain rfl : r = false := HNO.out (fun h => e2 (by injection h))
    have t2 : (s == s2) = false := by rw [beq_eq_false_iff_ne]; exact e2
    clear e2
    go_wp2_with (fail)
    go_ret
    exact ⟨rfl, HB.out⟩
  subst e2
  have t2 : (s == s) = true := beq_self_eq_true s
  obtain rfl : r = decide (rs = rs2) := by rw [← HR.out]; exact decide_eq_decide.2 ⟨fun h => by injection h, fun h => by rw [h]⟩
  clear HR HNO
  go_wp2_with (fail)
  refine (SameRecordsI_any H1.out H2.out HL.out).mono ?_
  rintro e w1 ⟨rfl, n, rfl⟩
  go_wp2_with (fail)
  go_ret
  exact ⟨rfl, below_drewN HB.out n⟩

namespace Jn
def fits (j : Jl) (b : By) : Prop := nsI b.length ≤ wrap64 (j.many - usI j.rs)
instance (j : Jl) (b : By) : Decidable (fits j b) := by unfold fits; infer_instance
def apE (j : Jl) (b : By) : Int := if OkI j then (if fits j b then 0 else 2) else 1
def apJ (j : Jl) (b : By) : Jl := if OkI j then (if fits j b then ⟨j.rs ++ [b], j.many, j.syn⟩ else j0) else j0
end Jn
theorem sectorsI_q {v : Value} {b : By} {w : World} {m : Int} {n : Nat} (hv : IsBytes w v b) (hm : Jn.nsI b.length = m) :
    Calls Try.prog 35 #[v] (w.drewN n) fun e w'' => e = .returned (.int .i64 m) ∧ ∃ m', w'' = w.drewN m' := by
  subst hm
  exact (sectorsI_any (show IsBytes (w.drewN n) v b from hv)).mono fun _ _ ⟨he, hw⟩ => ⟨he, n, hw.symm⟩
theorem refSectorsI_q {k : Nat} {w : World} {m : Int} {n : Nat} (hm : Jn.nsI k = m) :
    Calls Try.prog 39 #[.int .i64 k] (w.drewN n) fun e w'' => e = .returned (.int .i64 m) ∧ ∃ m', w'' = w.drewN m' := by
  subst hm
  exact (refSectorsI_any (n := k)).mono fun _ _ ⟨he, hw⟩ => ⟨he, n, hw.symm⟩

set_option maxHeartbeats 8000000 in
set_option maxRecDepth 100000 in
theorem JAppendI_any {v u : Value} {j : Jl} {b : By} {w : World} (hv : IsJ w v j) (hs : j.rs.length ≤ 5864062014634) (hu : IsBytes w u b) (hbl : Jn.fits j b → b.length ≤ 100000000) :
    Calls Try.prog 15 #[v, u] w fun e w' => ∃ x, e = .returned (.tuple #[x, .int .i64 (Jn.apE j b)]) ∧ IsJ w' x (Jn.apJ j b) ∧ Below w.heap.size w w' ∧ NJ w.heap.size x := by
  obtain ⟨A, c, rfl, hb⟩ := hv.open_
  obtain ⟨Au, cu, rfl, _⟩ := id hu
  obtain ⟨rs, many, syn⟩ := j
  simp only at hb hs ⊢
  obtain ⟨W0, hW0⟩ : ∃ W, (w.alloc (.cells #[.slice A rs.length c, .int .i64 many, .int .i64 syn] 29)).alloc (.cells #[.slice none 0 0, .int .i64 0, .int .i64 0] 29) = W := ⟨_, rfl⟩
  have HW0 := Lib.hid (show Below w.heap.size w W0 from by rw [← hW0]; exact (al1 w _).up (al1 _ _))
  have HZ := Lib.hid (show Cells W0 w.heap.size 29 [.slice A rs.length c, .int .i64 many, .int .i64 syn] from by rw [← hW0]; exact (Cells.new w 29 [_, _, _]).upb (al1 _ _))
  have HY := Lib.hid (show Cells W0 (w.heap.size + 1) 29 [.slice none 0 0, .int .i64 0, .int .i64 0] from by
    rw [← hW0]
    have h := Cells.new (w.alloc (.cells #[.slice A rs.length c, .int .i64 many, .int .i64 syn] 29)) 29 [.slice none 0 0, .int .i64 0, .int .i64 0]
    rw [World.size_alloc] at h
    exact h)
  have HV := Lib.hid (hv.upb HW0.out)
  have HB := Lib.hid (hb.upb HW0.out)
  have HU := Lib.hid (hu.upb HW0.out)
  have HS := Lib.hid hs
  have HBL := Lib.hid hbl
  obtain ⟨k, hk⟩ : ∃ k, Jn.chkI ⟨rs, many, syn⟩ = k := ⟨_, rfl⟩
  have HK := Lib.hid hk
  obtain ⟨e0, he⟩ : ∃ r, Jn.apE ⟨rs, many, syn⟩ b = r := ⟨_, rfl⟩
  obtain ⟨x0, hx⟩ : ∃ r, Jn.apJ ⟨rs, many, syn⟩ b = r := ⟨_, rfl⟩
  have HE := Lib.hid he
  have HX := Lib.hid hx
  rw [he, hx]
  have HWE := Lib.hid hW0
  clear hv hs hb hk he hx hW0 hu
  go_enter Try.func15, Try.ntmps15
  go_upto_region 1 with (fail)
  simp only [HWE.out]
  clear HWE
  have z0 := HZ.out.cell (k := 0) rfl
  have z1 := HZ.out.cell (k := 1) rfl
  have z2 := HZ.out.cell (k := 2) rfl
  go_wp2_with (fail)
  refine (JCheckI_is HV.out (Nat.le_trans HS.out (by decide)) HK.out).mono ?_
  rintro e w1 ⟨rfl, hb1⟩
  have HW1 := Lib.hid (HW0.out.up hb1)
  have HB1 := Lib.hid (HB.out.upb hb1)
  have HU1 := Lib.hid (HU.out.upb hb1)
  replace HZ := Lib.hid (HZ.out.upb hb1)
  replace HY := Lib.hid (HY.out.upb hb1)
  clear z0 z1 z2 hb1 HV HB HU HW0
  have z0 := HZ.out.cell (k := 0) rfl
  have z1 := HZ.out.cell (k := 1) rfl
  have z2 := HZ.out.cell (k := 2) rfl
  have y0 := HY.out.cell (k := 0) rfl
  have y1 := HY.out.cell (k := 1) rfl
  have y2 := HY.out.cell (k := 2) rfl
  have f0 := HY.out.frozen 0
  have f1 := HY.out.frozen 1
  have f2 := HY.out.frozen 2
  have zl := HZ.out.lt
  have yl := HY.out.lt
  by_cases hok : Jn.OkI ⟨rs, many, syn⟩
  case neg =>
    obtain rfl : k = 1 := by rw [← HK.out]; unfold Jn.chkI; rw [if_neg hok]
    obtain rfl : e0 = 1 := by rw [← HE.out]; unfold Jn.apE; rw [if_neg hok]
    obtain rfl : x0 = j0 := by rw [← HX.out]; unfold Jn.apJ; rw [if_neg hok]
    clear hok
    go_wp2_with (fail)
    refine bodyPost_ret (jl_out rfl rfl rfl (HY.out.set3 (.slice none 0 0) (.int .i64 0) (.int .i64 0))) rfl ?_
    exact ⟨_, rfl, IsJ.zero, below_set3 HW1.out (by omega) _ _ _, nj_nil⟩
  case pos =>
  obtain rfl : k = 0 := by rw [← HK.out]; unfold Jn.chkI; rw [if_pos hok]
  obtain ⟨us, hus⟩ : ∃ u, Jn.usI rs = u := ⟨_, rfl⟩
  obtain ⟨ns, hns⟩ : ∃ u, Jn.nsI b.length = u := ⟨_, rfl⟩
  have HUS := Lib.hid hus
  have HNS := Lib.hid hns
  by_cases hfit : ns ≤ wrap64 (many - us)
  case neg =>
    obtain rfl : e0 = 2 := by rw [← HE.out]; unfold Jn.apE; rw [if_pos hok, if_neg (fun h => hfit (by have h1 : Jn.nsI b.length ≤ wrap64 (many - Jn.usI rs) := h; rwa [hns, hus] at h1))]
    obtain rfl : x0 = j0 := by rw [← HX.out]; unfold Jn.apJ; rw [if_pos hok, if_neg (fun h => hfit (by have h1 : Jn.nsI b.length ≤ wrap64 (many - Jn.usI rs) := h; rwa [hns, hus] at h1))]
    have hd1 : decide (wrap64 (many - us) < ns) = true := by rw [decide_eq_true_eq]; omega
    clear hok hns hus hfit
    go_wp2_with (fail)
    go_quiet ((first | (go_at_call 35; with_reducible exact (sectorsI_q HU1.out HNS.out)) | (go_at_call 36; with_reducible exact (usedI_q HB1.out (Nat.le_trans HS.out (by decide)) HUS.out))))
    go_wp2_with (fail)
    refine bodyPost_ret (jl_out rfl rfl rfl ((HY.out.drewN nq).set3 (.slice none 0 0) (.int .i64 0) (.int .i64 0))) rfl ?_
    exact ⟨_, rfl, IsJ.zero, below_set3 (below_drewN HW1.out nq) (by omega) _ _ _, nj_nil⟩
  case pos =>
  obtain rfl : e0 = 0 := by rw [← HE.out]; unfold Jn.apE; rw [if_pos hok, if_pos (show Jn.fits ⟨rs, many, syn⟩ b from (by rw [hns, hus]; exact hfit : Jn.nsI b.length ≤ wrap64 (many - Jn.usI rs)))]
  obtain rfl : x0 = ⟨rs ++ [b], many, syn⟩ := by rw [← HX.out]; unfold Jn.apJ; rw [if_pos hok, if_pos (show Jn.fits ⟨rs, many, syn⟩ b from (by rw [hns, hus]; exact hfit : Jn.nsI b.length ≤ wrap64 (many - Jn.usI rs)))]
  have hd1 : decide (wrap64 (many - us) < ns) = false := by rw [decide_eq_false_iff_not]; omega
  have HBL2 := Lib.hid (show b.length ≤ 100000000 from HBL.out (show Jn.nsI b.length ≤ wrap64 (many - Jn.usI rs) by rw [hns, hus]; exact hfit))
  clear hok hns hus hfit
  go_wp2_with (fail)
  go_quiet ((first | (go_at_call 35; with_reducible exact (sectorsI_q HU1.out HNS.out)) | (go_at_call 36; with_reducible exact (usedI_q HB1.out (Nat.le_trans HS.out (by decide)) HUS.out))))
  clear z0 z1 z2 y0 y1 y2 f0 f1 f2 zl yl hd1
  obtain ⟨X, hX⟩ : ∃ X, w1.drewN nq = X := ⟨_, rfl⟩
  replace HZ := Lib.hid (HZ.out.drewN nq)
  replace HY := Lib.hid (HY.out.drewN nq)
  have HWX := Lib.hid (below_drewN HW1.out nq)
  replace HB1 := Lib.hid (show IsBs (w1.drewN nq) _ rs from HB1.out)
  replace HU1 := Lib.hid (show IsBytes (w1.drewN nq) _ b from HU1.out)
  rw [hX] at HZ HY HWX HB1 HU1
  simp only [hX]
  clear hX
  have z0 := HZ.out.cell (k := 0) rfl
  go_wp2_with (fail)
  obtain ⟨hl1, hl2, hl3, vs, hl4, hl5, hl6⟩ := bs_of HB1.out
  have HR := Lib.hid (And.intro hl4 (And.intro hl5 hl6))
  have HC3 := Lib.hid (And.intro hl2 hl3)
  clear hl1 hl2 hl3 hl4 hl5 hl6
  refine (clipS_any HC3.out.1 HC3.out.2).mono ?_
  rintro e wx ⟨rfl, rfl⟩
  go_wp2_with (fail)
  refine (cloneB_any HU1.out (by have := HBL2.out; omega)).mono ?_
  rintro e w5 ⟨u5, rfl, ho, hb5⟩
  obtain ⟨A5, c5, rfl, _⟩ := id ho.bytes
  have HO := Lib.hid ho.bytes
  have HZ5 := Lib.hid (HZ.out.upb hb5)
  have HY5 := Lib.hid (HY.out.upb hb5)
  have HW5 := Lib.hid (HWX.out.up hb5)
  have HR5 := Lib.hid (show RowAt w5 A vs ∧ ∀ i (h : i < vs.length) (h' : i < rs.length), IsBytes w5 vs[i] rs[i] from ⟨HR.out.2.1.below hb5, fun i h h' => (HR.out.2.2 i h h').upb hb5⟩)
  have HSL := Lib.hid (show rs.length ≤ 5864062014634 from HS.out)
  clear z0 ho hb5
  have z0 := HZ5.out.cell (k := 0) rfl
  have zf := HZ5.out.frozen 0
  have zl5 := HZ5.out.lt
  have HBE := Lib.hid (show w.heap.size + 2 ≤ w5.heap.size by have := HY5.out.lt; omega)
  go_upto_region 7 with (at_builtin; go_must (refine wpList_app rfl (.tmp 25) (.tmp 28) 22 _ _ rfl rfl rfl (pushSI_run _ HR.out.1 HR5.out.1 HR5.out.2 HC3.out.2 HO.out HSL.out) ?_); rintro v6 w6 ⟨hb6, hw6, g6, cap6, rfl, hg6⟩; have HB6 := Lib.hid hb6; have HW6 := Lib.hid (HW5.out.up hw6); have HZ6 := Lib.hid (HZ5.out.upb hw6); have HY6 := Lib.hid (HY5.out.upb hw6); have HBND := Lib.hid (show w.heap.size + 1 < g6 ∧ True from ⟨by have := HBE.out; omega, trivial⟩); clear hb6 hw6 hg6 z0 zf zl5; have z0 := HZ6.out.cell (k := 0) rfl; have zf0 := HZ6.out.frozen 0; have zl := HZ6.out.lt)
  obtain ⟨hb0, hb1⟩ := HBND.out
  have hB4 : w.heap.size + 1 ≠ w.heap.size := by omega
  have hg1 : g6 ≠ w.heap.size := by omega
  have hg2 : g6 ≠ w.heap.size + 1 := by omega
  clear z0 zf0 zl
  have HZ7 := Lib.hid (show Cells (w6.setCell ⟨w.heap.size, 0, none⟩ (.slice (some ⟨g6, 0, none⟩) (rs.length + 1) cap6)) w.heap.size 29 [.slice (some ⟨g6, 0, none⟩) (rs.length + 1) cap6, .int .i64 many, .int .i64 syn] from HZ6.out.set (k := 0) _)
  have HY7 := Lib.hid (HY6.out.other (show w.heap.size + 1 ≠ w.heap.size by omega) 0 (.slice (some ⟨g6, 0, none⟩) (rs.length + 1) cap6))
  have HB7 := Lib.hid (HB6.out.offJ (W' := w6.setCell ⟨w.heap.size, 0, none⟩ (.slice (some ⟨g6, 0, none⟩) (rs.length + 1) cap6)) (fun b off k c h => by injection h with h; injection h with h; injection h with h; omega) HZ6.out (grown_set _ _ _ _))
  have HW7 := Lib.hid (HW6.out.setCell (p := ⟨w.heap.size, 0, none⟩) (Nat.le_refl _) (.slice (some ⟨g6, 0, none⟩) (rs.length + 1) cap6))
  obtain ⟨w7, hw7⟩ : ∃ X, w6.setCell ⟨w.heap.size, 0, none⟩ (.slice (some ⟨g6, 0, none⟩) (rs.length + 1) cap6) = X := ⟨_, rfl⟩
  rw [hw7] at HZ7 HY7 HB7 HW7
  simp only [hw7]
  clear hw7 HZ6 HY6 HB6 HW6
  have z0 := HZ7.out.cell (k := 0) rfl
  have z1 := HZ7.out.cell (k := 1) rfl
  have z2 := HZ7.out.cell (k := 2) rfl
  have y0 := HY7.out.cell (k := 0) rfl
  have y1 := HY7.out.cell (k := 1) rfl
  have y2 := HY7.out.cell (k := 2) rfl
  have f0 := HY7.out.frozen 0
  have f1 := HY7.out.frozen 1
  have f2 := HY7.out.frozen 2
  have zl := HZ7.out.lt
  have yl := HY7.out.lt
  go_wp2_with (fail)
  refine bodyPost_ret (jl_out rfl rfl rfl (HY7.out.set3 (.slice (some ⟨g6, 0, none⟩) (rs.length + 1) cap6) (.int .i64 many) (.int .i64 syn))) rfl ?_
  exact ⟨_, rfl, isJ_mk (HB7.out.offJ (fun b off k c h => by injection h with h; injection h with h; injection h with h; omega) HY7.out (grown_set3 _ _ _ _ _)), below_set3 HW7.out (by omega) _ _ _, nj_ge (by omega)⟩

set_option maxHeartbeats 8000000 in
set_option maxRecDepth 100000 in
theorem JrefAppendI_any {v u : Value} {j : Jl} {b : By} {w : World} (hv : IsJ w v j) (hs : j.rs.length ≤ 5864062014634) (hu : IsBytes w u b) (hbl : Jn.fits j b → b.length ≤ 100000000) :
    Calls Try.prog 16 #[v, u] w fun e w' => ∃ x, e = .returned (.tuple #[x, .int .i64 (Jn.apE j b)]) ∧ IsJ w' x (Jn.apJ j b) ∧ Below w.heap.size w w' ∧ NJ w.heap.size x := by
  obtain ⟨A, c, rfl, hb⟩ := hv.open_
  obtain ⟨Au, cu, rfl, _⟩ := id hu
  obtain ⟨rs, many, syn⟩ := j
  simp only at hb hs ⊢
  obtain ⟨W0, hW0⟩ : ∃ W, (w.alloc (.cells #[.slice A rs.length c, .int .i64 many, .int .i64 syn] 29)).alloc (.cells #[.slice none 0 0, .int .i64 0, .int .i64 0] 29) = W := ⟨_, rfl⟩
  have HW0 := Lib.hid (show Below w.heap.size w W0 from by rw [← hW0]; exact (al1 w _).up (al1 _ _))
  have HZ := Lib.hid (show Cells W0 w.heap.size 29 [.slice A rs.length c, .int .i64 many, .int .i64 syn] from by rw [← hW0]; exact (Cells.new w 29 [_, _, _]).upb (al1 _ _))
  have HY := Lib.hid (show Cells W0 (w.heap.size + 1) 29 [.slice none 0 0, .int .i64 0, .int .i64 0] from by
    rw [← hW0]
    have h := Cells.new (w.alloc (.cells #[.slice A rs.length c, .int .i64 many, .int .i64 syn] 29)) 29 [.slice none 0 0, .int .i64 0, .int .i64 0]
    rw [World.size_alloc] at h
    exact h)
  have HV := Lib.hid (hv.upb HW0.out)
  have HB := Lib.hid (hb.upb HW0.out)
  have HU := Lib.hid (hu.upb HW0.out)
  have HS := Lib.hid hs
  have HBL := Lib.hid hbl
  obtain ⟨k, hk⟩ : ∃ k, Jn.chkI ⟨rs, many, syn⟩ = k := ⟨_, rfl⟩
  have HK := Lib.hid hk
  obtain ⟨e0, he⟩ : ∃ r, Jn.apE ⟨rs, many, syn⟩ b = r := ⟨_, rfl⟩
  obtain ⟨x0, hx⟩ : ∃ r, Jn.apJ ⟨rs, many, syn⟩ b = r := ⟨_, rfl⟩
  have HE := Lib.hid he
  have HX := Lib.hid hx
  rw [he, hx]
  have HWE := Lib.hid hW0
  clear hv hs hb hk he hx hW0 hu
  go_enter Try.func16, Try.ntmps16
  go_upto_region 1 with (fail)
  simp only [HWE.out]
  clear HWE
  have z0 := HZ.out.cell (k := 0) rfl
  have z1 := HZ.out.cell (k := 1) rfl
  have z2 := HZ.out.cell (k := 2) rfl
  go_wp2_with (fail)
  refine (JrefCheckI_is HV.out (Nat.le_trans HS.out (by decide)) HK.out).mono ?_
  rintro e w1 ⟨rfl, hb1⟩
  have HW1 := Lib.hid (HW0.out.up hb1)
  have HB1 := Lib.hid (HB.out.upb hb1)
  have HU1 := Lib.hid (HU.out.upb hb1)
  replace HZ := Lib.hid (HZ.out.upb hb1)
  replace HY := Lib.hid (HY.out.upb hb1)
  clear z0 z1 z2 hb1 HV HB HU HW0
  have z0 := HZ.out.cell (k := 0) rfl
  have z1 := HZ.out.cell (k := 1) rfl
  have z2 := HZ.out.cell (k := 2) rfl
  have y0 := HY.out.cell (k := 0) rfl
  have y1 := HY.out.cell (k := 1) rfl
  have y2 := HY.out.cell (k := 2) rfl
  have f0 := HY.out.frozen 0
  have f1 := HY.out.frozen 1
  have f2 := HY.out.frozen 2
  have zl := HZ.out.lt
  have yl := HY.out.lt
  by_cases hok : Jn.OkI ⟨rs, many, syn⟩
  case neg =>
    obtain rfl : k = 1 := by rw [← HK.out]; unfold Jn.chkI; rw [if_neg hok]
    obtain rfl : e0 = 1 := by rw [← HE.out]; unfold Jn.apE; rw [if_neg hok]
    obtain rfl : x0 = j0 := by rw [← HX.out]; unfold Jn.apJ; rw [if_neg hok]
    clear hok
    go_wp2_with (fail)
    refine bodyPost_ret (jl_out rfl rfl rfl (HY.out.set3 (.slice none 0 0) (.int .i64 0) (.int .i64 0))) rfl ?_
    exact ⟨_, rfl, IsJ.zero, below_set3 HW1.out (by omega) _ _ _, nj_nil⟩
  case pos =>
  obtain rfl : k = 0 := by rw [← HK.out]; unfold Jn.chkI; rw [if_pos hok]
  obtain ⟨us, hus⟩ : ∃ u, Jn.usI rs = u := ⟨_, rfl⟩
  obtain ⟨ns, hns⟩ : ∃ u, Jn.nsI b.length = u := ⟨_, rfl⟩
  have HUS := Lib.hid hus
  have HNS := Lib.hid hns
  by_cases hfit : ns ≤ wrap64 (many - us)
  case neg =>
    obtain rfl : e0 = 2 := by rw [← HE.out]; unfold Jn.apE; rw [if_pos hok, if_neg (fun h => hfit (by have h1 : Jn.nsI b.length ≤ wrap64 (many - Jn.usI rs) := h; rwa [hns, hus] at h1))]
    obtain rfl : x0 = j0 := by rw [← HX.out]; unfold Jn.apJ; rw [if_pos hok, if_neg (fun h => hfit (by have h1 : Jn.nsI b.length ≤ wrap64 (many - Jn.usI rs) := h; rwa [hns, hus] at h1))]
    have hd1 : decide (wrap64 (many - us) < ns) = true := by rw [decide_eq_true_eq]; omega
    clear hok hns hus hfit
    go_wp2_with (fail)
    go_quiet ((first | (go_at_call 39; with_reducible exact (refSectorsI_q HNS.out)) | (go_at_call 40; with_reducible exact (refUsedI_q HB1.out (Nat.le_trans HS.out (by decide)) HUS.out))))
    go_wp2_with (fail)
    refine bodyPost_ret (jl_out rfl rfl rfl ((HY.out.drewN nq).set3 (.slice none 0 0) (.int .i64 0) (.int .i64 0))) rfl ?_
    exact ⟨_, rfl, IsJ.zero, below_set3 (below_drewN HW1.out nq) (by omega) _ _ _, nj_nil⟩
  case pos =>
  obtain rfl : e0 = 0 := by rw [← HE.out]; unfold Jn.apE; rw [if_pos hok, if_pos (show Jn.fits ⟨rs, many, syn⟩ b from (by rw [hns, hus]; exact hfit : Jn.nsI b.length ≤ wrap64 (many - Jn.usI rs)))]
  obtain rfl : x0 = ⟨rs ++ [b], many, syn⟩ := by rw [← HX.out]; unfold Jn.apJ; rw [if_pos hok, if_pos (show Jn.fits ⟨rs, many, syn⟩ b from (by rw [hns, hus]; exact hfit : Jn.nsI b.length ≤ wrap64 (many - Jn.usI rs)))]
  have hd1 : decide (wrap64 (many - us) < ns) = false := by rw [decide_eq_false_iff_not]; omega
  have HBL2 := Lib.hid (show b.length ≤ 100000000 from HBL.out (show Jn.nsI b.length ≤ wrap64 (many - Jn.usI rs) by rw [hns, hus]; exact hfit))
  clear hok hns hus hfit
  go_wp2_with (fail)
  go_quiet ((first | (go_at_call 39; with_reducible exact (refSectorsI_q HNS.out)) | (go_at_call 40; with_reducible exact (refUsedI_q HB1.out (Nat.le_trans HS.out (by decide)) HUS.out))))
  clear z0 z1 z2 y0 y1 y2 f0 f1 f2 zl yl hd1
  obtain ⟨X, hX⟩ : ∃ X, w1.drewN nq = X := ⟨_, rfl⟩
  replace HZ := Lib.hid (HZ.out.drewN nq)
  replace HY := Lib.hid (HY.out.drewN nq)
  have HWX := Lib.hid (below_drewN HW1.out nq)
  replace HB1 := Lib.hid (show IsBs (w1.drewN nq) _ rs from HB1.out)
  replace HU1 := Lib.hid (show IsBytes (w1.drewN nq) _ b from HU1.out)
  rw [hX] at HZ HY HWX HB1 HU1
  simp only [hX]
  clear hX
  have z0 := HZ.out.cell (k := 0) rfl
  have zl0 := HZ.out.lt
  have yl0 := HY.out.lt
  have HBX := Lib.hid (show w.heap.size + 1 < X.heap.size by omega)
  clear zl0 yl0
  have HZA := Lib.hid (HZ.out.upb (al1 X (.cells #[] 35)))
  have z0a := HZA.out.cell (k := 0) rfl
  have HSL := Lib.hid (show rs.length ≤ 5864062014634 from HS.out)
  obtain ⟨hl1, hl2, hl3, vs, hl4, hl5, hl6⟩ := bs_of HB1.out
  have HC3 := Lib.hid (And.intro hl2 hl3)
  clear hl1 hl2 hl3 hl4 hl5 hl6
  go_upto_region 7 with (first
    | (at_builtin; refine wpList_app rfl (.tmp 24) (.tmp 26) 22 _ _ rfl rfl rfl (appSI_is _ (al1 X _) HB1.out (ownS_made X) (by have := HSL.out; simp; omega)) ?_; rintro v5 w5 ⟨ho5, hg5, -⟩; have HO5 := Lib.hid (show OwnSs w5 X.heap.size v5 rs by rwa [List.nil_append] at ho5); have HB5 := Lib.hid (app_below (al1 X _) hg5 ownBlk); clear ho5 hg5; have HR5 := Lib.hid (one_row5 (u := .slice Au b.length cu) HU1.out HB5.out))
    | (at_builtin; go_must (refine wpList_app rfl (.tmp 27) (.tmp 29) 22 _ _ rfl rfl rfl (appSI_run (base := X.heap.size) (ss := rs) (ts := [b]) _ (HO5.out.below (al1 w5 _)) (us := [.slice Au b.length cu]) rfl HR5.out.1 (HR5.out.2 HO5.out) (by have := HSL.out; simp; omega) (by have := HB5.out.size; simp; omega)) ?_); rintro v6 w6 ⟨ho6, hg6, -⟩; have HO6 := Lib.hid ho6; have HB6' := Lib.hid ((HB5.out.up (al1 w5 _)).grown hg6 (by have := HB5.out.size; simp; omega) (fun k hk => (HO5.out.own_lt k hk))); clear ho6 hg6; obtain ⟨g6, cap6, e6, hg6, -⟩ := HO6.out.form (by simp); simp only [List.length_append, List.length_cons, List.length_nil, Nat.zero_add] at e6; subst e6; have HZ6 := Lib.hid (HZ.out.upb HB6'.out); have HY6 := Lib.hid (HY.out.upb HB6'.out); have HW6 := Lib.hid (HWX.out.up HB6'.out); have HB6 := Lib.hid HO6.out.is; have HBND := Lib.hid (show w.heap.size + 1 < g6 ∧ True from ⟨by have := HBX.out; omega, trivial⟩); clear hg6; have z0 := HZ6.out.cell (k := 0) rfl; have zf0 := HZ6.out.frozen 0; have zl := HZ6.out.lt))
  obtain ⟨hb0, hb1⟩ := HBND.out
  have hB4 : w.heap.size + 1 ≠ w.heap.size := by omega
  have hg1 : g6 ≠ w.heap.size := by omega
  have hg2 : g6 ≠ w.heap.size + 1 := by omega
  clear z0 zf0 zl
  have HZ7 := Lib.hid (show Cells (w6.setCell ⟨w.heap.size, 0, none⟩ (.slice (some ⟨g6, 0, none⟩) (rs.length + 1) cap6)) w.heap.size 29 [.slice (some ⟨g6, 0, none⟩) (rs.length + 1) cap6, .int .i64 many, .int .i64 syn] from HZ6.out.set (k := 0) _)
  have HY7 := Lib.hid (HY6.out.other (show w.heap.size + 1 ≠ w.heap.size by omega) 0 (.slice (some ⟨g6, 0, none⟩) (rs.length + 1) cap6))
  have HB7 := Lib.hid (HB6.out.offJ (W' := w6.setCell ⟨w.heap.size, 0, none⟩ (.slice (some ⟨g6, 0, none⟩) (rs.length + 1) cap6)) (fun b off k c h => by injection h with h; injection h with h; injection h with h; omega) HZ6.out (grown_set _ _ _ _))
  have HW7 := Lib.hid (HW6.out.setCell (p := ⟨w.heap.size, 0, none⟩) (Nat.le_refl _) (.slice (some ⟨g6, 0, none⟩) (rs.length + 1) cap6))
  obtain ⟨w7, hw7⟩ : ∃ X, w6.setCell ⟨w.heap.size, 0, none⟩ (.slice (some ⟨g6, 0, none⟩) (rs.length + 1) cap6) = X := ⟨_, rfl⟩
  rw [hw7] at HZ7 HY7 HB7 HW7
  simp only [hw7]
  clear hw7 HZ6 HY6 HB6 HW6
  have z0 := HZ7.out.cell (k := 0) rfl
  have z1 := HZ7.out.cell (k := 1) rfl
  have z2 := HZ7.out.cell (k := 2) rfl
  have y0 := HY7.out.cell (k := 0) rfl
  have y1 := HY7.out.cell (k := 1) rfl
  have y2 := HY7.out.cell (k := 2) rfl
  have f0 := HY7.out.frozen 0
  have f1 := HY7.out.frozen 1
  have f2 := HY7.out.frozen 2
  have zl := HZ7.out.lt
  have yl := HY7.out.lt
  go_wp2_with (fail)
  refine bodyPost_ret (jl_out rfl rfl rfl (HY7.out.set3 (.slice (some ⟨g6, 0, none⟩) (rs.length + 1) cap6) (.int .i64 many) (.int .i64 syn))) rfl ?_
  exact ⟨_, rfl, isJ_mk (HB7.out.offJ (fun b off k c h => by injection h with h; injection h with h; injection h with h; omega) HY7.out (grown_set3 _ _ _ _ _)), below_set3 HW7.out (by omega) _ _ _, nj_ge (by omega)⟩
end Go.Proofs.Ytkcnanclpkongaa
