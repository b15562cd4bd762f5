/- Walks of the reference's Line, the statement's line. -/
import Derived.Test.YtdcndhfjfllehaaW1
namespace Go.Proofs.Ytdcndhfjfllehaa
open Go.RowKit
set_option linter.unusedVariables false

namespace Bk
theorem sm_zero (sp : Int) (l : List Int) : sm sp l = sm 0 l + (l.length : Int) * sp := by
  induction l with
  | nil => simp [sm]
  | cons x r ih => simp only [sm, ih, List.length_cons]; rw [show (((r.length + 1 : Nat) : Int)) = (r.length : Int) + 1 by omega, Int.add_mul]; omega
theorem lcS_some {sp rm : Int} {ws : List Int} {t : Nat} (h1 : 1 ≤ t) (h2 : t ≤ ws.length) (h3 : sm sp (ws.take t) ≤ rm + sp) : lcS sp rm ws t = some (if t = ws.length then 0 else (rm + sp - sm sp (ws.take t)) * (rm + sp - sm sp (ws.take t))) := by
  rw [lcS, if_pos ⟨h1, h2, h3⟩]
theorem lcS_none {sp rm : Int} {ws : List Int} {t : Nat} (h3 : ¬ sm sp (ws.take t) ≤ rm + sp) : lcS sp rm ws t = none := by
  rw [lcS, if_neg (fun h => h3 h.2.2)]
end Bk
def lcE (o : Option Int) : Ending := match o with
  | some c => .returned (.tuple #[.int .i64 c, .bool true])
  | none => .returned (.tuple #[.int .i64 0, .bool false])
theorem sq_bd {d : Int} (h0 : 0 ≤ d) (h : d ≤ 2097152) : 0 ≤ d * d ∧ d * d ≤ 4398046511104 := by
  have h1 : d * d ≤ 2097152 * d := Int.mul_le_mul_of_nonneg_right h h0
  exact ⟨Int.mul_nonneg h0 h0, by omega⟩
theorem mul_bd {k : Nat} {sp : Int} (hk : k ≤ 64) (h : 0 ≤ sp ∧ sp ≤ 1048576) : 0 ≤ (k : Int) * sp ∧ (k : Int) * sp ≤ 67108864 := by
  have h1 : (k : Int) * sp ≤ (k : Int) * 1048576 := Int.mul_le_mul_of_nonneg_left h.2 (by omega)
  exact ⟨Int.mul_nonneg (by omega) h.1, by omega⟩

set_option maxHeartbeats 2000000 in
theorem refLine_any (v : Value) (xs : List Int) (sp rm : Int) (i j : Nat) (w : World) (hv : IsInts w v xs) (hr : Bk.Rt xs sp rm) (hij : i < j) (hj : j ≤ xs.length) :
    Calls Try.prog 27 #[v, .int .i64 sp, .int .i64 rm, .int .i64 i, .int .i64 j] w fun e w' => e = lcE (Bk.lc sp rm (xs.drop i) (j - i)) ∧ w = w' := by
  obtain ⟨A, cap, rfl, hrow⟩ := hv
  have HR := Lib.hid hrow
  clear hrow
  have hn := hr.len
  have hm := mul_bd (k := j - i - 1) (by omega) hr.s
  have hmul : ((j - i - 1 : Nat) : Int) * sp = ((j : Int) - (i : Int) - 1) * sp := by rw [show ((j - i - 1 : Nat) : Int) = (j : Int) - (i : Int) - 1 by omega]
  rw [hmul] at hm
  obtain ⟨hm1, hm2⟩ := hm
  have HL := Lib.hid (Bk.lc_eq (rm := rm) (hr.pos.drop i) (j - i))
  have HSM := Lib.hid (fun k (hk : k ≤ 64) => show Bk.sm 0 ((xs.drop i).take k) = Bk.sm sp ((xs.drop i).take k) - ((((xs.drop i).take k).length : Nat) : Int) * sp by rw [Bk.sm_zero sp]; omega)
  have HB := Lib.hid (fun k => show 0 ≤ Bk.sm 0 ((xs.drop i).take k) ∧ Bk.sm 0 ((xs.drop i).take k) ≤ 1099512676352 * 64 from by
    have hp : ∀ x ∈ (xs.drop i).take k, 1 ≤ x ∧ x ≤ 1099511627776 := fun x hx => hr.w x (List.mem_of_mem_drop (List.mem_of_mem_take hx))
    have h1 := Bk.sm_nonneg (sp := 0) (l := (xs.drop i).take k) ⟨by omega, fun x hx => (hp x hx).1⟩
    have h2 := Bk.sm_bd (sp := 0) (l := (xs.drop i).take k) (by omega) hp
    have h3 : ((xs.drop i).take k).length ≤ 64 := by simp; omega
    omega)
  have HS := Lib.hid hr.s
  have HRm := Lib.hid hr.r
  have HW := Lib.hid hr.w
  have HM := Lib.hid hmul
  clear hr hmul
  go_enter Try.func27, Try.ntmps27
  go_wp2
  go_loop [12, 13] (fun s k => ∃ m : Nat, i ≤ m ∧ m ≤ j ∧ k = .int .i64 m ∧ s = .int .i64 (((j : Int) - (i : Int) - 1) * sp + Bk.sm 0 ((xs.drop i).take (m - i)))) (fun _ k => j - (intOf k).toNat)
  case atStart => exact ⟨i, by omega, by omega, rfl, by simp [Bk.sm]⟩
  case round =>
    obtain ⟨m, hm3, hm4, rfl, rfl⟩ := hrel
    have hb := HB.out (m - i)
    have hb' := HB.out (m + 1 - i)
    by_cases hlt : m < j
    · have hmn : m < xs.length := by omega
      obtain ⟨b, off, rfl, _, hc⟩ := ints_at HR.out hmn
      have HT := Lib.hid (show Bk.sm 0 ((xs.drop i).take (m + 1 - i)) = Bk.sm 0 ((xs.drop i).take (m - i)) + xs[m] by
        rw [show m + 1 - i = m - i + 1 by omega, Bk.sm_take 0 _ (m - i) (by simp; omega), List.getElem_drop]
        simp only [show i + (m - i) = m by omega]; omega)
      have hx := HW.out xs[m] (List.getElem_mem hmn)
      have hx1 := hx.1
      have hx2 := hx.2
      obtain ⟨hb1, hb2⟩ := hb
      clear hx hb'
      generalize xs[m] = x at *
      generalize Bk.sm 0 ((xs.drop i).take (m - i)) = s at *
      generalize ((j : Int) - (i : Int) - 1) * sp = q at *
      go_wp2
      go_round
      case rel => exact ⟨m + 1, by omega, by omega, by go_num, by rw [HT.out]; congr 1; omega⟩
      case measure => simp [intOf]; omega
    · obtain rfl : m = j := by omega
      have hsm := HSM.out (m - i) (by omega)
      have hlen : ((((xs.drop i).take (m - i)).length : Nat) : Int) * sp = ((m : Int) - (i : Int) - 1) * sp + sp := by
        rw [show ((((xs.drop i).take (m - i)).length : Nat) : Int) = ((m : Int) - (i : Int) - 1) + 1 by simp; omega, Int.add_mul, Int.one_mul]
      rw [hlen] at hsm
      obtain ⟨hb1, hb2⟩ := hb
      have HE : Hid (((m : Int) - (i : Int) - 1) * sp + Bk.sm 0 ((xs.drop i).take (m - i)) = Bk.sm sp ((xs.drop i).take (m - i)) - sp) := Lib.hid (by omega)
      have hrm := HRm.out
      have hrm1 := hrm.1
      have hrm2 := hrm.2
      clear hsm hlen hb' hrm
      by_cases hfit : ((m : Int) - (i : Int) - 1) * sp + Bk.sm 0 ((xs.drop i).take (m - i)) ≤ rm
      · have HV := Lib.hid (Bk.lcS_some (sp := sp) (rm := rm) (ws := xs.drop i) (t := m - i) (by omega) (by simp; omega) (by have := HE.out; omega))
        have hsq := sq_bd (d := rm - (((m : Int) - (i : Int) - 1) * sp + Bk.sm 0 ((xs.drop i).take (m - i)))) (by omega) (by omega)
        have HD : Hid (rm + sp - Bk.sm sp ((xs.drop i).take (m - i)) = rm - (((m : Int) - (i : Int) - 1) * sp + Bk.sm 0 ((xs.drop i).take (m - i)))) := Lib.hid (by have := HE.out; omega)
        rw [HD.out] at HV
        have hw0 : 0 ≤ ((m : Int) - (i : Int) - 1) * sp + Bk.sm 0 ((xs.drop i).take (m - i)) := by omega
        generalize ((m : Int) - (i : Int) - 1) * sp + Bk.sm 0 ((xs.drop i).take (m - i)) = W at *
        obtain ⟨hs1, hs2⟩ := hsq
        by_cases he : m = xs.length
        · have hbe : ((m : Int) == (xs.length : Int)) = true := by rw [beq_iff_eq]; omega
          have HF := Lib.hid (show Bk.lc sp rm (xs.drop i) (m - i) = some 0 by rw [HL.out, HV.out, if_pos (by simp; omega)])
          have hle1 : m ≤ xs.length := by omega
          have hle2 : xs.length ≤ m := by omega
          clear he hm1 hm2
          go_wp2
          go_ret2
          exact ⟨by rw [HF.out]; rfl, rfl⟩
        · have hbe : ((m : Int) == (xs.length : Int)) = false := by rw [beq_eq_false_iff_ne]; omega
          have HF := Lib.hid (show Bk.lc sp rm (xs.drop i) (m - i) = some ((rm - W) * (rm - W)) by rw [HL.out, HV.out, if_neg (by simp; omega)])
          clear he hm1 hm2
          go_wp2
          go_ret2
          exact ⟨by rw [HF.out]; rfl, rfl⟩
      · have HF := Lib.hid (show Bk.lc sp rm (xs.drop i) (m - i) = none by rw [HL.out, Bk.lcS_none (by have := HE.out; omega)])
        generalize ((m : Int) - (i : Int) - 1) * sp + Bk.sm 0 ((xs.drop i).take (m - i)) = W at *
        go_wp2
        go_ret2
        exact ⟨by rw [HF.out]; rfl, rfl⟩

set_option maxHeartbeats 2000000 in
theorem line_any (v : Value) (xs : List Int) (sp rm : Int) (i j : Nat) (w : World) (hv : IsInts w v xs) (hr : Bk.Rt xs sp rm) (hij : i < j) (hj : j ≤ xs.length) :
    Calls Try.prog 21 #[v, .int .i64 sp, .int .i64 rm, .int .i64 i, .int .i64 j] w fun e w' => e = lcE (Bk.lc sp rm (xs.drop i) (j - i)) ∧ w = w' := by
  obtain ⟨A, cap, rfl, hrow⟩ := hv
  have HR := Lib.hid hrow
  clear hrow
  have hn := hr.len
  have HL := Lib.hid (Bk.lc_eq (rm := rm) (hr.pos.drop i) (j - i))
  have HMono := Lib.hid (fun k (hk : k ≤ j - i) => show Bk.sm sp ((xs.drop i).take k) ≤ Bk.sm sp ((xs.drop i).take (j - i)) from by
    rcases Nat.lt_or_ge k (j - i) with h | h
    · exact Int.le_of_lt (Bk.sm_lt (hr.pos.drop i) h (by simp; omega))
    · rw [show k = j - i by omega]; exact Int.le_refl _)
  have HP := Lib.hid (fun k => Bk.sm_nonneg (sp := sp) (l := (xs.drop i).take k) ⟨hr.s.1, fun x hx => (hr.w x (List.mem_of_mem_drop (List.mem_of_mem_take hx))).1⟩)
  have HS := Lib.hid hr.s
  have HRm := Lib.hid hr.r
  have HW := Lib.hid hr.w
  have hs := hr.s
  have hrm := hr.r
  obtain ⟨hs1, hs2⟩ := hs
  obtain ⟨hrm1, hrm2⟩ := hrm
  clear hr
  go_enter Try.func21, Try.ntmps21
  go_wp2
  go_loop [12, 13] (fun s k => ∃ m : Nat, i ≤ m ∧ m ≤ j ∧ k = .int .i64 m ∧ s = .int .i64 (if m = i then rm else rm + sp - Bk.sm sp ((xs.drop i).take (m - i))) ∧ Hid (m ≠ i → Bk.sm sp ((xs.drop i).take (m - i)) ≤ rm + sp)) (fun _ k => j - (intOf k).toNat)
  case atStart => exact ⟨i, by omega, by omega, rfl, by simp, Lib.hid (fun h => absurd rfl h)⟩
  case round =>
    obtain ⟨m, hm3, hm4, rfl, rfl, HQ⟩ := hrel
    by_cases hlt : m < j
    · have hmn : m < xs.length := by omega
      obtain ⟨b, off, rfl, _, hc⟩ := ints_at HR.out hmn
      have HT := Lib.hid (show Bk.sm sp ((xs.drop i).take (m + 1 - i)) = Bk.sm sp ((xs.drop i).take (m - i)) + (sp + xs[m]) by
        rw [show m + 1 - i = m - i + 1 by omega, Bk.sm_take sp _ (m - i) (by simp; omega), List.getElem_drop]
        simp only [show i + (m - i) = m by omega])
      have hx := HW.out xs[m] (List.getElem_mem hmn)
      obtain ⟨hx1, hx2⟩ := hx
      have HN := Lib.hid (HMono.out (m + 1 - i) (by omega))
      have hp0 := HP.out (m - i)
      have H0 := Lib.hid (show m = i → Bk.sm sp ((xs.drop i).take (m - i)) = 0 from fun h => by subst h; simp [Bk.sm])
      generalize hnew : Bk.sm sp ((xs.drop i).take (m + 1 - i)) = s1 at *
      generalize Bk.sm sp ((xs.drop i).take (m - i)) = s at *
      generalize xs[m] = x at *
      have HNew := Lib.hid hnew
      clear hnew
      by_cases hmi : m = i
      · have hs0 := H0.out hmi
        subst hs0
        have hg : ¬ (i : Int) < (m : Int) := by omega
        subst hmi
        by_cases hneg : rm - x < 0
        · have HF := Lib.hid (show Bk.lc sp rm (xs.drop m) (j - m) = none by rw [HL.out, Bk.lcS_none (by have := HN.out; have := HT.out; omega)])
          simp only [if_pos]
          go_wp2
          go_ret2
          exact ⟨by rw [HF.out]; rfl, rfl⟩
        · simp only [if_pos]
          go_wp2
          go_round
          case rel => exact ⟨m + 1, by omega, by omega, by go_num, by rw [if_neg (by omega), HNew.out]; congr 1; have := HT.out; omega, Lib.hid (fun _ => by rw [HNew.out]; have := HT.out; omega)⟩
          case measure => simp [intOf]; omega
      · have hq := HQ.out hmi
        have hg : (i : Int) < (m : Int) := by omega
        simp only [if_neg hmi]
        clear H0
        by_cases hneg : rm + sp - s - x - sp < 0
        · have HF := Lib.hid (show Bk.lc sp rm (xs.drop i) (j - i) = none by rw [HL.out, Bk.lcS_none (by have := HN.out; have := HT.out; omega)])
          clear hmi
          go_wp2
          go_ret2
          exact ⟨by rw [HF.out]; rfl, rfl⟩
        · clear hmi
          go_wp2
          go_round
          case rel => exact ⟨m + 1, by omega, by omega, by go_num, by rw [if_neg (by omega), HNew.out]; congr 1; have := HT.out; omega, Lib.hid (fun _ => by rw [HNew.out]; have := HT.out; omega)⟩
          case measure => simp [intOf]; omega
    · obtain rfl : m = j := by omega
      have hmi : ¬ m = i := by omega
      have hq := HQ.out hmi
      have hp0 := HP.out (m - i)
      have HV := Lib.hid (Bk.lcS_some (sp := sp) (rm := rm) (ws := xs.drop i) (t := m - i) (by omega) (by simp; omega) hq)
      simp only [if_neg hmi]
      have hsq := sq_bd (d := rm + sp - Bk.sm sp ((xs.drop i).take (m - i))) (by omega) (by omega)
      generalize Bk.sm sp ((xs.drop i).take (m - i)) = s at *
      obtain ⟨hsq1, hsq2⟩ := hsq
      clear hmi
      by_cases he : m = xs.length
      · have hbe : ((m : Int) == (xs.length : Int)) = true := by rw [beq_iff_eq]; omega
        have HF := Lib.hid (show Bk.lc sp rm (xs.drop i) (m - i) = some 0 by rw [HL.out, HV.out, if_pos (by simp; omega)])
        have hle1 : m ≤ xs.length := by omega
        have hle2 : xs.length ≤ m := by omega
        clear he
        go_wp2
        go_ret2
        exact ⟨by rw [HF.out]; rfl, rfl⟩
      · have hbe : ((m : Int) == (xs.length : Int)) = false := by rw [beq_eq_false_iff_ne]; omega
        have HF := Lib.hid (show Bk.lc sp rm (xs.drop i) (m - i) = some ((rm + sp - s) * (rm + sp - s)) by rw [HL.out, HV.out, if_neg (by simp; omega)])
        clear he
        go_wp2
        go_ret2
        exact ⟨by rw [HF.out]; rfl, rfl⟩

end Go.Proofs.Ytdcndhfjfllehaa
