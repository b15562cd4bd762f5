/- Walks of the cost of ends: the reference's Cost, the statement's cost. -/
import Derived.Test.YtdcndhfjfllehaaW2
namespace Go.Proofs.Ytdcndhfjfllehaa
open Go.RowKit
set_option linter.unusedVariables false

namespace Bk
theorem lc_bd {sp rm : Int} {ws : List Int} (h : pos sp ws) (hr : 1 ≤ rm ∧ rm ≤ 1048576) {t : Nat} {c : Int} (hc : lc sp rm ws t = some c) : 1 ≤ t ∧ t ≤ ws.length ∧ 0 ≤ c ∧ c ≤ 1099511627776 := by
  rw [lc_eq h] at hc
  unfold lcS at hc
  split at hc
  · rename_i h1
    injection hc with hc
    refine ⟨h1.1, h1.2.1, ?_⟩
    have h2 : sp + 1 ≤ sm sp (ws.take t) := by
      have h3 := sm_lt h (k := 0) (j := t) (by omega) h1.2.1
      obtain ⟨x, r, rfl⟩ : ∃ x r, ws = x :: r := by
        cases ws with
        | nil => simp at h1; omega
        | cons x r => exact ⟨x, r, rfl⟩
      obtain ⟨k, rfl⟩ : ∃ k, t = k + 1 := ⟨t - 1, by omega⟩
      rw [List.take_succ_cons, sm]
      have := h.2 x (by simp)
      have := sm_nonneg (sp := sp) (l := r.take k) ⟨h.1, fun y hy => h.2 y (by simp [List.mem_of_mem_take hy])⟩
      omega
    rw [← hc]
    split
    · omega
    · have h4 : 0 ≤ rm + sp - sm sp (ws.take t) := by omega
      have h5 : rm + sp - sm sp (ws.take t) ≤ 1048576 := by omega
      have h6 := Int.mul_le_mul_of_nonneg_right h5 h4
      exact ⟨Int.mul_nonneg h4 h4, by omega⟩
  · cases hc
theorem cst_le {sp rm : Int} {at0 : Nat} {ws : List Int} {e : Int} {r : List Int} (h : e ≤ at0) : cst sp rm at0 ws (e :: r) = none := by
  rw [cst, if_neg (by omega)]
theorem cst_none {sp rm : Int} {at0 : Nat} {ws : List Int} {e : Int} {r : List Int} (h : lc sp rm ws (e - at0).toNat = none) : cst sp rm at0 ws (e :: r) = none := by
  rw [cst]
  split
  · simp only [h]
  · rfl
theorem cst_some {sp rm : Int} {at0 : Nat} {ws : List Int} {e : Int} {r : List Int} {c : Int} (hlt : (at0 : Int) < e) (h : lc sp rm ws (e - at0).toNat = some c) : cst sp rm at0 ws (e :: r) = (cst sp rm e.toNat (ws.drop (e - at0).toNat) r).map (c + ·) := by
  rw [cst, if_pos hlt]
  simp only [h]
theorem lc_long {sp rm : Int} {ws : List Int} (h : pos sp ws) {t : Nat} (ht : ws.length < t) : lc sp rm ws t = none := by
  rw [lc_eq h, lcS, if_neg (by omega)]
end Bk
def CsPost (o : Option Int) (w : World) (e : Ending) (w' : World) : Prop := ∃ s b, e = .returned (.tuple #[.int .i64 s, .bool b]) ∧ (match o with
  | some c => s = c ∧ b = true
  | none => b = false) ∧ w = w'

set_option maxHeartbeats 2000000 in
theorem refCost_any (v u : Value) (xs es : List Int) (sp rm : Int) (w : World) (hv : IsInts w v xs) (hu : IsInts w u es) (hr : Bk.Rt xs sp rm) (hl : es.length ≤ 9223372036854775807) :
    Calls Try.prog 31 #[v, .int .i64 sp, .int .i64 rm, u] w (CsPost (Bk.cst sp rm 0 xs es) w) := by
  have HV := Lib.hid hv
  obtain ⟨A, cap, rfl, hrow⟩ := hv
  obtain ⟨A2, cap2, rfl, hrow2⟩ := hu
  have HR2 := Lib.hid hrow2
  have HR := Lib.hid hr
  have hn := hr.len
  clear hrow hrow2 hr
  go_enter Try.func31, Try.ntmps31
  go_wp2
  go_loop [10, 11, 12] (fun z y i => ∃ (k a : Nat) (s : Int), k ≤ es.length ∧ a ≤ xs.length ∧ 0 ≤ s ∧ s ≤ 1099511627776 * (a : Int) ∧ z = .int .i64 s ∧ y = .int .i64 a ∧ i = .int .i64 k ∧ Hid (Bk.cst sp rm 0 xs es = (Bk.cst sp rm a (xs.drop a) (es.drop k)).map (s + ·))) (fun z y i => es.length - (intOf i).toNat)
  case atStart => exact ⟨0, 0, 0, by omega, by omega, by omega, by omega, rfl, rfl, rfl, Lib.hid (by simp)⟩
  case round =>
    obtain ⟨k, a, s, hk, ha, hs0, hs1, rfl, rfl, rfl, HQ⟩ := hrel
    by_cases hlt : k < es.length
    · obtain ⟨b, off, rfl, _, hc⟩ := ints_at HR2.out hlt
      have HD := Lib.hid (List.drop_eq_getElem_cons hlt)
      generalize es[k] = e at *
      by_cases he : e ≤ (a : Int)
      · have HF := Lib.hid (show Bk.cst sp rm 0 xs es = none by rw [HQ.out, HD.out, Bk.cst_le he]; rfl)
        go_wp2
        go_ret2
        exact ⟨_, _, rfl, by rw [HF.out], rfl⟩
      · by_cases he2 : (xs.length : Int) < e
        · have HF := Lib.hid (show Bk.cst sp rm 0 xs es = none by rw [HQ.out, HD.out, Bk.cst_none (Bk.lc_long (HR.out.pos.drop a) (by simp; omega))]; rfl)
          go_wp2
          go_ret2
          exact ⟨_, _, rfl, by rw [HF.out], rfl⟩
        · obtain ⟨n, rfl⟩ : ∃ n : Nat, e = (n : Int) := ⟨e.toNat, by omega⟩
          have HC := Lib.hid (refLine_any _ xs sp rm a n w HV.out HR.out (by omega) (by omega))
          have hna : ((n : Int) - (a : Int)).toNat = n - a := by omega
          cases hlc : Bk.lc sp rm (xs.drop a) (n - a) with
          | none =>
            have HF := Lib.hid (show Bk.cst sp rm 0 xs es = none by rw [HQ.out, HD.out, Bk.cst_none (by rw [hna]; exact hlc)]; rfl)
            rw [hlc] at HC
            clear hna hlc
            go_wp2_with (go_at_call 27; refine HC.out.mono ?_; rintro e w' ⟨rfl, rfl⟩; unfold lcE)
            go_ret2
            exact ⟨_, _, rfl, by rw [HF.out], rfl⟩
          | some c =>
            obtain ⟨_, _, hc0, hc1⟩ := Bk.lc_bd (HR.out.pos.drop a) HR.out.r hlc
            have HF := Lib.hid (show Bk.cst sp rm 0 xs es = (Bk.cst sp rm n (xs.drop n) (es.drop (k + 1))).map ((s + c) + ·) by
              rw [HQ.out, HD.out, Bk.cst_some (by omega) (by rw [hna]; exact hlc), hna, List.drop_drop, show a + (n - a) = n by omega, Int.toNat_natCast, Option.map_map]
              congr 1
              funext z
              simp only [Function.comp]; omega)
            rw [hlc] at HC
            clear hna hlc
            go_wp2_with (go_at_call 27; refine HC.out.mono ?_; rintro e w' ⟨rfl, rfl⟩; unfold lcE)
            go_round
            case rel => exact ⟨k + 1, n, s + c, by omega, by omega, by omega, by omega, rfl, rfl, by go_num, HF⟩
            case measure => simp [intOf]; omega
    · have HE := Lib.hid (show es.drop k = [] from List.drop_eq_nil_of_le (by omega))
      by_cases hae : a = xs.length
      · have hb : ((a : Int) == (xs.length : Int)) = true := by rw [beq_iff_eq]; omega
        have HF := Lib.hid (show Bk.cst sp rm 0 xs es = some s by rw [HQ.out, HE.out, hae]; simp [Bk.cst])
        have h1 : a ≤ xs.length := by omega
        have h2 : xs.length ≤ a := by omega
        clear hae
        go_wp2
        go_ret2
        exact ⟨_, _, rfl, by rw [HF.out]; exact ⟨rfl, rfl⟩, rfl⟩
      · have hb : ((a : Int) == (xs.length : Int)) = false := by rw [beq_eq_false_iff_ne]; omega
        have HF := Lib.hid (show Bk.cst sp rm 0 xs es = none by
          rw [HQ.out, HE.out, Bk.cst]
          have h3 : (xs.drop a).isEmpty = false := by
            cases hx : xs.drop a with
            | nil => have := congrArg List.length hx; simp at this; omega
            | cons y r => rfl
          rw [h3]; rfl)
        clear hae
        go_wp2
        go_ret2
        exact ⟨_, _, rfl, by rw [HF.out], rfl⟩

set_option maxHeartbeats 2000000 in
theorem cost_any (v u : Value) (xs es : List Int) (sp rm : Int) (w : World) (hv : IsInts w v xs) (hu : IsInts w u es) (hr : Bk.Rt xs sp rm) (hl : es.length ≤ 9223372036854775807) :
    Calls Try.prog 19 #[v, .int .i64 sp, .int .i64 rm, u] w (CsPost (Bk.cst sp rm 0 xs es) w) := by
  have HV := Lib.hid hv
  obtain ⟨A, cap, rfl, hrow⟩ := hv
  obtain ⟨A2, cap2, rfl, hrow2⟩ := hu
  have HR2 := Lib.hid hrow2
  have HR := Lib.hid hr
  have hn := hr.len
  clear hrow hrow2 hr
  go_enter Try.func19, Try.ntmps19
  go_wp2
  go_loop [8, 10, 17] (fun z y i => ∃ (k a : Nat) (s : Int), k ≤ es.length ∧ a ≤ xs.length ∧ 0 ≤ s ∧ s ≤ 1099511627776 * (a : Int) ∧ z = .int .i64 s ∧ y = .int .i64 a ∧ i = .int .i64 k ∧ Hid (Bk.cst sp rm 0 xs es = (Bk.cst sp rm a (xs.drop a) (es.drop k)).map (s + ·))) (fun z y i => es.length - (intOf i).toNat)
  case atStart => exact ⟨0, 0, 0, by omega, by omega, by omega, by omega, rfl, rfl, rfl, Lib.hid (by simp)⟩
  case round =>
    obtain ⟨k, a, s, hk, ha, hs0, hs1, rfl, rfl, rfl, HQ⟩ := hrel
    by_cases hlt : k < es.length
    · obtain ⟨b, off, rfl, _, hc⟩ := ints_at HR2.out hlt
      have HD := Lib.hid (List.drop_eq_getElem_cons hlt)
      generalize es[k] = e at *
      by_cases he : e ≤ (a : Int)
      · have HF := Lib.hid (show Bk.cst sp rm 0 xs es = none by rw [HQ.out, HD.out, Bk.cst_le he]; rfl)
        go_wp2
        go_ret2
        exact ⟨_, _, rfl, by rw [HF.out], rfl⟩
      · by_cases he2 : (xs.length : Int) < e
        · have HF := Lib.hid (show Bk.cst sp rm 0 xs es = none by rw [HQ.out, HD.out, Bk.cst_none (Bk.lc_long (HR.out.pos.drop a) (by simp; omega))]; rfl)
          go_wp2
          go_ret2
          exact ⟨_, _, rfl, by rw [HF.out], rfl⟩
        · obtain ⟨n, rfl⟩ : ∃ n : Nat, e = (n : Int) := ⟨e.toNat, by omega⟩
          have HC := Lib.hid (line_any _ xs sp rm a n w HV.out HR.out (by omega) (by omega))
          have hna : ((n : Int) - (a : Int)).toNat = n - a := by omega
          cases hlc : Bk.lc sp rm (xs.drop a) (n - a) with
          | none =>
            have HF := Lib.hid (show Bk.cst sp rm 0 xs es = none by rw [HQ.out, HD.out, Bk.cst_none (by rw [hna]; exact hlc)]; rfl)
            rw [hlc] at HC
            clear hna hlc
            go_wp2_with (go_at_call 21; refine HC.out.mono ?_; rintro e w' ⟨rfl, rfl⟩; unfold lcE)
            go_ret2
            exact ⟨_, _, rfl, by rw [HF.out], rfl⟩
          | some c =>
            obtain ⟨_, _, hc0, hc1⟩ := Bk.lc_bd (HR.out.pos.drop a) HR.out.r hlc
            have HF := Lib.hid (show Bk.cst sp rm 0 xs es = (Bk.cst sp rm n (xs.drop n) (es.drop (k + 1))).map ((s + c) + ·) by
              rw [HQ.out, HD.out, Bk.cst_some (by omega) (by rw [hna]; exact hlc), hna, List.drop_drop, show a + (n - a) = n by omega, Int.toNat_natCast, Option.map_map]
              congr 1
              funext z
              simp only [Function.comp]; omega)
            rw [hlc] at HC
            clear hna hlc
            go_wp2_with (go_at_call 21; refine HC.out.mono ?_; rintro e w' ⟨rfl, rfl⟩; unfold lcE)
            go_round
            case rel => exact ⟨k + 1, n, s + c, by omega, by omega, by omega, by omega, rfl, rfl, by go_num, HF⟩
            case measure => simp [intOf]; omega
    · have HE := Lib.hid (show es.drop k = [] from List.drop_eq_nil_of_le (by omega))
      by_cases hae : a = xs.length
      · have hb : ((a : Int) == (xs.length : Int)) = true := by rw [beq_iff_eq]; omega
        have HF := Lib.hid (show Bk.cst sp rm 0 xs es = some s by rw [HQ.out, HE.out, hae]; simp [Bk.cst])
        have h1 : a ≤ xs.length := by omega
        have h2 : xs.length ≤ a := by omega
        clear hae
        go_wp2
        go_ret2
        exact ⟨_, _, rfl, by rw [HF.out]; exact ⟨rfl, rfl⟩, rfl⟩
      · have hb : ((a : Int) == (xs.length : Int)) = false := by rw [beq_eq_false_iff_ne]; omega
        have HF := Lib.hid (show Bk.cst sp rm 0 xs es = none by
          rw [HQ.out, HE.out, Bk.cst]
          have h3 : (xs.drop a).isEmpty = false := by
            cases hx : xs.drop a with
            | nil => have := congrArg List.length hx; simp at this; omega
            | cons y r => rfl
          rw [h3]; rfl)
        clear hae
        go_wp2
        go_ret2
        exact ⟨_, _, rfl, by rw [HF.out], rfl⟩

end Go.Proofs.Ytdcndhfjfllehaa
