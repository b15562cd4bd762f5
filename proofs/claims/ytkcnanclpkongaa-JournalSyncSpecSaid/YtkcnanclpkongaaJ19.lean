/- Walk of the statements' few. -/
import Derived.Test.YtkcnanclpkongaaJC
import Derived.Test.YtkcnanclpkongaaWB
namespace Go.Proofs.Ytkcnanclpkongaa
open Go.RowKit
set_option linter.unusedVariables false
set_option linter.unusedSimpArgs false
set_option maxRecDepth 20000

namespace Jn
def fewS (rs : List By) : Int := rs.foldl (fun n b => wrap64 (n + wrap64 (1 + (b.length : Int)))) 0
def fewB (d : Dk) (rs : List By) : Bool := decide (d.ss.length ≤ 40) && decide (d.ps.length ≤ 40) && decide (fewS rs ≤ 4000)
/-- the exact count -/
def fewN : List By → Nat
  | [] => 0
  | b :: r => 1 + b.length + fewN r
theorem fewN_append (a b : List By) : fewN (a ++ b) = fewN a + fewN b := by
  induction a with
  | nil => simp [fewN]
  | cons x r ih => simp only [List.cons_append, fewN, ih]; omega
theorem few_fold : ∀ (rs : List By) (n : Nat), n + fewN rs ≤ 9000000000000000000 → rs.foldl (fun n b => wrap64 (n + wrap64 (1 + (b.length : Int)))) (n : Int) = ((n + fewN rs : Nat) : Int)
  | [], n, _ => by simp [fewN]
  | b :: r, n, h => by
    simp only [fewN] at h
    have h1 : wrap64 (1 + (b.length : Int)) = 1 + b.length := IntWalk.wrap64_in _ (by omega)
    have h2 : wrap64 ((n : Int) + (1 + b.length)) = ((n + (1 + b.length) : Nat) : Int) := by rw [IntWalk.wrap64_in _ (by omega)]; omega
    rw [List.foldl_cons, h1, h2, few_fold r (n + (1 + b.length)) (by omega)]
    simp only [fewN]
    congr 1
    omega
theorem fewS_eq {rs : List By} (h : fewN rs ≤ 9000000000000000000) : fewS rs = (fewN rs : Int) := by
  have := few_fold rs 0 (by omega)
  simpa [fewS] using this
theorem fewS_take {l : List By} {k : Nat} (hk : k < l.length) : fewS (l.take (k + 1)) = wrap64 (fewS (l.take k) + wrap64 (1 + (l[k].length : Int))) := by
  unfold fewS
  rw [List.take_succ_eq_append_getElem hk, List.foldl_append]
  rfl
end Jn
set_option maxHeartbeats 4000000 in
set_option maxRecDepth 100000 in
theorem few_any {v u : Value} {d : Dk} {rs : List By} {w : World} (hv : IsD w v d) (hu : IsBs w u rs) (hl : rs.length ≤ 9223372036854775807) (hl1 : d.ss.length ≤ 9223372036854775807) (hl2 : d.ps.length ≤ 9223372036854775807) :
    Calls Try.prog 11 #[v, u] w fun e w' => e = .returned (.bool (Jn.fewB d rs)) ∧ Below w.heap.size w w' := by
  obtain ⟨A, c, A2, c2, rfl, h1, h2⟩ := hv.open_
  have HU := Lib.hid hu
  obtain ⟨A3, c3, vs, rfl, _⟩ := id hu
  clear hv h1 h2 hu
  have HZ := Lib.hid (Cells.new w 25 [.slice A d.ss.length c, .slice A2 d.ps.length c2, .int .i64 d.left, .bool d.st])
  have HB := Lib.hid (al1 w (.cells #[.slice A d.ss.length c, .slice A2 d.ps.length c2, .int .i64 d.left, .bool d.st] 25))
  obtain ⟨X, hX⟩ : ∃ X, w.alloc (.cells #[.slice A d.ss.length c, .slice A2 d.ps.length c2, .int .i64 d.left, .bool d.st] 25) = X := ⟨_, rfl⟩
  have HX := Lib.hid hX
  have HU1 := Lib.hid (show IsBs X _ rs from by rw [← hX]; exact HU.out.upb HB.out)
  replace HZ := Lib.hid (show Cells X w.heap.size 25 _ from by rw [← hX]; exact HZ.out)
  replace HB := Lib.hid (show Below w.heap.size w X from by rw [← hX]; exact HB.out)
  clear hX HU
  go_enter Try.func11, Try.ntmps11
  go_upto_region 1 with (fail)
  simp only [HX.out]
  clear HX
  have z0 := HZ.out.cell (k := 0) rfl
  have z1 := HZ.out.cell (k := 1) rfl
  go_wp2_with (fail)
  go_loopw [5, 10] (fun s5 s10 wr => ∃ k : Nat, s5 = .int .i64 (Jn.fewS (rs.take k)) ∧ s10 = .int .i64 k ∧ k ≤ rs.length ∧ wr = X) (fun _ s10 _ => rs.length - (intOf s10).toNat)
  case atStart => exact ⟨0, rfl, rfl, Nat.zero_le _, rfl⟩
  case round =>
    obtain ⟨k, rfl, rfl, hk, rfl⟩ := hrel
    by_cases hlt : k < rs.length
    case pos =>
      have hd : decide ((k : Int) < (rs.length : Int)) = true := decide_eq_true (by omega)
      have hd2 : decide (k < rs.length) = true := decide_eq_true hlt
      obtain ⟨b1, o1, A7, c7, hA7, hbb1, hc1, hb1⟩ := bs_at HU1.out hlt
      subst hA7
      have HT := Lib.hid (Jn.fewS_take hlt)
      obtain ⟨A8, c8, e8, -⟩ := id hb1
      obtain ⟨n, hn⟩ : ∃ n, rs[k].length = n := ⟨_, rfl⟩
      rw [hn] at hc1 HT
      obtain ⟨z, hz⟩ : ∃ z, Jn.fewS (rs.take k) = z := ⟨_, rfl⟩
      rw [hz] at HT ⊢
      clear hb1 e8 hn hz
      have hkm : IntKind.i64.wrap ((k : Int) + 1) = k + 1 := IntWalk.i64_in _ (by omega)
      have hkm2 : wrap64 ((k : Int) + 1) = k + 1 := IntWalk.wrap64_in _ (by omega)
      go_wp2_with (fail)
      go_roundw
      case rel => exact ⟨k + 1, by rw [HT.out], by go_num, by omega, by first | rfl | trivial⟩
      case measure => simp [intOf]; omega
    case neg =>
      have hd : decide ((k : Int) < (rs.length : Int)) = false := decide_eq_false (by omega)
      have hd2 : decide (k < rs.length) = false := decide_eq_false hlt
      have HT := Lib.hid (show rs.take k = rs from List.take_of_length_le (by omega))
      obtain ⟨z, hz⟩ : ∃ z, Jn.fewS (rs.take k) = z := ⟨_, rfl⟩
      have HR := Lib.hid (show Jn.fewB d rs = (decide (d.ss.length ≤ 40) && decide (d.ps.length ≤ 40) && decide (z ≤ 4000)) from by rw [← hz, HT.out]; rfl)
      rw [hz]
      clear hz
      by_cases q1 : d.ss.length ≤ 40
      · have q1' : decide ((d.ss.length : Int) ≤ 40) = true := decide_eq_true (by omega)
        have q1'' : decide (d.ss.length ≤ 40) = true := decide_eq_true q1
        rw [q1''] at HR
        by_cases q2 : d.ps.length ≤ 40
        · have q2' : decide ((d.ps.length : Int) ≤ 40) = true := decide_eq_true (by omega)
          have q2'' : decide (d.ps.length ≤ 40) = true := decide_eq_true q2
          rw [q2''] at HR
          clear q1 q2
          go_wp2_with (fail)
          go_ret
          exact ⟨by rw [HR.out]; simp, HB.out⟩
        · have q2' : decide ((d.ps.length : Int) ≤ 40) = false := decide_eq_false (by omega)
          have q2'' : decide (d.ps.length ≤ 40) = false := decide_eq_false q2
          rw [q2''] at HR
          clear q1 q2
          go_wp2_with (fail)
          go_ret
          exact ⟨by rw [HR.out]; simp, HB.out⟩
      · have q1' : decide ((d.ss.length : Int) ≤ 40) = false := decide_eq_false (by omega)
        have q1'' : decide (d.ss.length ≤ 40) = false := decide_eq_false q1
        rw [q1''] at HR
        clear q1
        go_wp2_with (fail)
        go_ret
        exact ⟨by rw [HR.out]; simp, HB.out⟩
end Go.Proofs.Ytkcnanclpkongaa
