/- Walks of what is right: check's condition, Error, Wide, Max, Min. -/
import Derived.Test.YtdcndhfjfllehaaBase
import Derived.Test.YtdcndhfjfllehaaPlain3
namespace Go.Proofs.Ytdcndhfjfllehaa
open Go.RowKit
set_option linter.unusedVariables false

def r64 (xs : List Int) : Prop := ∀ x ∈ xs, -9223372036854775808 ≤ x ∧ x ≤ 9223372036854775807

set_option maxHeartbeats 400000 in
theorem bad_any (x : Int) (w : World) : Calls Try.prog 34 #[.int .i64 x] w fun e w' => e = .returned (.bool (Bk.badW x)) ∧ w = w' := by
  unfold Bk.badW
  by_cases h1 : x < 1
  all_goals by_cases h2 : 1099511627776 < x
  all_goals
    go_enter Try.func34, Try.ntmps34
    go_wp2
    go_ret
    exact ⟨ret_bool (by simp [h1, h2]), rfl⟩

set_option maxHeartbeats 400000 in
theorem indexFunc_any (v : Value) (xs : List Int) (w : World) (hv : IsInts w v xs) (hl : xs.length ≤ 9223372036854775807) :
    Calls Try.prog 37 #[v, .func (.func 34) #[] #[]] w fun e w' => (∃ r : Int, e = .returned (.int .i64 r) ∧ decide (0 ≤ r) = xs.any Bk.badW) ∧ w = w' := by
  obtain ⟨A, cap, rfl, hr⟩ := hv
  have HR := Lib.hid hr
  clear hr
  go_enter Try.func37, Try.ntmps37
  go_wp2
  go_loop [8] (fun i => ∃ k : Nat, k ≤ xs.length ∧ i = .int .i64 k ∧ Hid ((xs.take k).any Bk.badW = false)) (fun i => xs.length - (intOf i).toNat)
  case atStart => exact ⟨0, Nat.zero_le _, rfl, rfl⟩
  case round =>
    obtain ⟨k, hk, rfl, H⟩ := hrel
    by_cases hlt : k < xs.length
    · obtain ⟨b, off, rfl, _, hc⟩ := ints_at HR.out hlt
      cases ho : Bk.badW xs[k]
      · have HB := Lib.hid ho
        go_wp2_with (go_at_call 34; refine (bad_any _ _).mono ?_; rintro e w' ⟨rfl, rfl⟩; rw [HB.out])
        go_round
        case rel => exact ⟨k + 1, by omega, by go_num, by show (xs.take (k + 1)).any Bk.badW = false; rw [List.take_succ_eq_append_getElem hlt, List.any_append, H.out]; simp [HB.out]⟩
        case measure => simp [intOf]; omega
      · have HB := Lib.hid ho
        go_wp2_with (go_at_call 34; refine (bad_any _ _).mono ?_; rintro e w' ⟨rfl, rfl⟩; rw [HB.out])
        go_ret
        refine ⟨⟨_, rfl, ?_⟩, rfl⟩
        have : xs.any Bk.badW = true := List.any_eq_true.2 ⟨xs[k], List.getElem_mem hlt, HB.out⟩
        rw [this]; simp
    · go_wp2
      go_ret
      refine ⟨⟨_, rfl, ?_⟩, rfl⟩
      have := H.out
      rw [List.take_of_length_le (by omega)] at this
      rw [this]; simp

set_option maxHeartbeats 400000 in
theorem containsFunc_any (v : Value) (xs : List Int) (w : World) (hv : IsInts w v xs) (hl : xs.length ≤ 9223372036854775807) :
    Calls Try.prog 33 #[v, .func (.func 34) #[] #[]] w fun e w' => e = .returned (.bool (xs.any Bk.badW)) ∧ w = w' := by
  have HV := Lib.hid hv
  obtain ⟨A, cap, rfl, hr⟩ := hv
  clear hr
  go_enter Try.func33, Try.ntmps33
  go_wp2_with (go_at_call 37; refine (indexFunc_any _ xs _ HV.out hl).mono ?_; rintro e w' ⟨⟨r, rfl, hr⟩, rfl⟩; have HRr := Lib.hid hr; clear hr)
  go_ret
  exact ⟨ret_bool HRr.out, rfl⟩

set_option maxHeartbeats 1000000 in
theorem refError_any (v : Value) (xs : List Int) (sp rm : Int) (w : World) (hv : IsInts w v xs) (hl : xs.length ≤ 9223372036854775807) :
    Calls Try.prog 17 #[v, .int .i64 sp, .int .i64 rm] w fun e w' => e = .returned (.int .i64 (Bk.err xs sp rm)) ∧ w = w' := by
  obtain ⟨A, cap, rfl, hr⟩ := hv
  have HR := Lib.hid hr
  clear hr
  by_cases h64 : 64 < xs.length
  · have HE := Lib.hid (show Bk.err xs sp rm = 2 by simp [Bk.err, h64])
    go_enter Try.func17, Try.ntmps17
    go_wp2
    go_ret
    exact ⟨ret_int HE.out.symm, rfl⟩
  · have HE : Hid (∀ b, xs.any Bk.badW = b → Bk.err xs sp rm = if b = true then 470 else if Bk.argOk sp rm = true then 0 else 1) := Lib.hid (fun b hb => by simp [Bk.err, h64, hb])
    go_enter Try.func17, Try.ntmps17
    go_wp2
    go_loop [7] (fun i => ∃ k : Nat, k ≤ xs.length ∧ i = .int .i64 k ∧ Hid ((xs.take k).any Bk.badW = false)) (fun i => xs.length - (intOf i).toNat)
    case atStart => exact ⟨0, Nat.zero_le _, rfl, rfl⟩
    case round =>
      obtain ⟨k, hk, rfl, H⟩ := hrel
      by_cases hlt : k < xs.length
      · obtain ⟨b, off, rfl, _, hc⟩ := ints_at HR.out hlt
        by_cases hb : xs[k] < 1 ∨ 1099511627776 < xs[k]
        · have HB := Lib.hid (show xs.any Bk.badW = true from List.any_eq_true.2 ⟨xs[k], List.getElem_mem hlt, by simp [Bk.badW]; exact hb⟩)
          generalize xs[k] = x at *
          rcases hb with hb | hb
          all_goals
            go_wp2
            go_ret
            exact ⟨ret_int (by rw [HE.out _ HB.out]; rfl), rfl⟩
        · have HB := Lib.hid (show Bk.badW xs[k] = false by simp [Bk.badW]; omega)
          have hb1 : ¬ xs[k] < 1 := by omega
          have hb2 : ¬ 1099511627776 < xs[k] := by omega
          clear hb
          go_wp2
          go_round
          case rel => exact ⟨k + 1, by omega, by go_num, by show (xs.take (k + 1)).any Bk.badW = false; rw [List.take_succ_eq_append_getElem hlt, List.any_append, H.out]; simp [HB.out]⟩
          case measure => simp [intOf]; omega
      · have HB := Lib.hid (show xs.any Bk.badW = false by have := H.out; rwa [List.take_of_length_le (by omega)] at this)
        by_cases a1 : sp < 0
        · have HA := Lib.hid (show Bk.argOk sp rm = false by simp [Bk.argOk]; omega)
          go_wp2
          go_ret
          exact ⟨ret_int (by rw [HE.out _ HB.out, HA.out]; rfl), rfl⟩
        · by_cases a2 : 1048576 < sp
          · have HA := Lib.hid (show Bk.argOk sp rm = false by simp [Bk.argOk]; omega)
            go_wp2
            go_ret
            exact ⟨ret_int (by rw [HE.out _ HB.out, HA.out]; rfl), rfl⟩
          · by_cases a3 : rm < 1
            · have HA := Lib.hid (show Bk.argOk sp rm = false by simp [Bk.argOk]; omega)
              go_wp2
              go_ret
              exact ⟨ret_int (by rw [HE.out _ HB.out, HA.out]; rfl), rfl⟩
            · by_cases a4 : 1048576 < rm
              · have HA := Lib.hid (show Bk.argOk sp rm = false by simp [Bk.argOk]; omega)
                go_wp2
                go_ret
                exact ⟨ret_int (by rw [HE.out _ HB.out, HA.out]; rfl), rfl⟩
              · have HA := Lib.hid (show Bk.argOk sp rm = true by simp [Bk.argOk]; omega)
                go_wp2
                go_ret
                exact ⟨ret_int (by rw [HE.out _ HB.out, HA.out]; rfl), rfl⟩

set_option maxHeartbeats 400000 in
theorem refWide_any (v : Value) (xs : List Int) (rm : Int) (w : World) (hv : IsInts w v xs) (hl : xs.length ≤ 9223372036854775807) :
    Calls Try.prog 18 #[v, .int .i64 rm] w fun e w' => e = .returned (.bool (Bk.wide xs rm)) ∧ w = w' := by
  obtain ⟨A, cap, rfl, hr⟩ := hv
  have HR := Lib.hid hr
  clear hr
  go_enter Try.func18, Try.ntmps18
  go_wp2
  go_loop [5] (fun i => ∃ k : Nat, k ≤ xs.length ∧ i = .int .i64 k ∧ Hid (Bk.wide (xs.take k) rm = false)) (fun i => xs.length - (intOf i).toNat)
  case atStart => exact ⟨0, Nat.zero_le _, rfl, rfl⟩
  case round =>
    obtain ⟨k, hk, rfl, H⟩ := hrel
    by_cases hlt : k < xs.length
    · obtain ⟨b, off, rfl, _, hc⟩ := ints_at HR.out hlt
      by_cases hb : rm < xs[k]
      · have HB := Lib.hid (show Bk.wide xs rm = true from List.any_eq_true.2 ⟨xs[k], List.getElem_mem hlt, by simpa using hb⟩)
        generalize xs[k] = x at *
        go_wp2
        go_ret
        exact ⟨ret_bool HB.out.symm, rfl⟩
      · have HB := Lib.hid hb
        go_wp2
        go_round
        case rel => exact ⟨k + 1, by omega, by go_num, by show Bk.wide (xs.take (k + 1)) rm = false; unfold Bk.wide; rw [List.take_succ_eq_append_getElem hlt, List.any_append, show (xs.take k).any _ = false from H.out]; simpa using HB.out⟩
        case measure => simp [intOf]; omega
    · go_wp2
      go_ret
      exact ⟨ret_bool (by have := H.out; rw [List.take_of_length_le (by omega)] at this; exact this.symm), rfl⟩

def MaxP (xs : List Int) (m : Int) : Prop := (∀ x ∈ xs, x ≤ m) ∧ m ∈ xs
def MinP (xs : List Int) (m : Int) : Prop := (∀ x ∈ xs, m ≤ x) ∧ m ∈ xs
def SomeI (P : Int → Prop) (w : World) (e : Ending) (w' : World) : Prop := ∃ m, P m ∧ e = .returned (.int .i64 m) ∧ w = w'
theorem MaxP.snoc {xs : List Int} {m x : Int} (h : MaxP xs m) : MaxP (xs ++ [x]) (max m x) := by
  obtain ⟨h1, h2⟩ := h
  refine ⟨fun y hy => ?_, ?_⟩
  · rcases List.mem_append.1 hy with hy | hy
    · have := h1 y hy; omega
    · simp at hy; omega
  · by_cases hx : m ≤ x
    · rw [Int.max_eq_right hx]; simp
    · rw [Int.max_eq_left (by omega)]; simp [h2]
theorem MinP.snoc {xs : List Int} {m x : Int} (h : MinP xs m) : MinP (xs ++ [x]) (min m x) := by
  obtain ⟨h1, h2⟩ := h
  refine ⟨fun y hy => ?_, ?_⟩
  · rcases List.mem_append.1 hy with hy | hy
    · have := h1 y hy; omega
    · simp at hy; omega
  · by_cases hx : m ≤ x
    · rw [Int.min_eq_left hx]; simp [h2]
    · rw [Int.min_eq_right (by omega)]; simp

set_option maxHeartbeats 400000 in
theorem Max_any (v : Value) (xs : List Int) (w : World) (hv : IsInts w v xs) (hl : xs.length ≤ 9223372036854775807) (hne : 0 < xs.length) :
    Calls Try.prog 29 #[v] w (SomeI (MaxP xs) w) := by
  obtain ⟨A, cap, rfl, hr⟩ := hv
  have HR := Lib.hid hr
  clear hr
  have hl1 : ¬ xs.length < 1 := by omega
  obtain ⟨b0, off0, rfl, _, hc0⟩ := ints_at HR.out hne
  simp only [Nat.add_zero] at hc0
  have H0 := Lib.hid (show MaxP (xs.take 1) xs[0] from by
    rw [List.take_succ_eq_append_getElem hne]; exact ⟨by simp, by simp⟩)
  go_enter Try.func29, Try.ntmps29
  go_wp2
  clear hc0
  go_loop [3, 4] (fun m i => ∃ (k : Nat) (z : Int), 1 ≤ k ∧ k ≤ xs.length ∧ i = .int .i64 k ∧ m = .int .i64 z ∧ Hid (MaxP (xs.take k) z)) (fun _ i => xs.length - (intOf i).toNat)
  case atStart => exact ⟨1, _, by omega, by omega, rfl, rfl, H0⟩
  case round =>
    obtain ⟨k, z, hk1, hk, rfl, rfl, H⟩ := hrel
    clear H0
    by_cases hlt : k < xs.length
    · obtain ⟨b, off, e, _, hc⟩ := ints_at HR.out hlt
      injection e with e
      injection e with e1 e2
      subst e1 e2
      have HS := Lib.hid (show MaxP (xs.take (k + 1)) (max z xs[k]) from by rw [List.take_succ_eq_append_getElem hlt]; exact H.out.snoc)
      generalize xs[k] = x at *
      rcases Int.lt_or_le z x with hx | hx
      all_goals
        go_wp2
        go_round
        case rel => exact ⟨k + 1, max z x, by omega, by omega, by go_num, by congr 1; omega, HS⟩
        case measure => simp [intOf]; omega
    · have HE := Lib.hid (show MaxP xs z by have := H.out; rwa [List.take_of_length_le (by omega)] at this)
      go_wp2
      go_ret
      exact ⟨z, HE.out, rfl, rfl⟩

set_option maxHeartbeats 400000 in
theorem Min_any (v : Value) (xs : List Int) (w : World) (hv : IsInts w v xs) (hl : xs.length ≤ 9223372036854775807) (hne : 0 < xs.length) :
    Calls Try.prog 28 #[v] w (SomeI (MinP xs) w) := by
  obtain ⟨A, cap, rfl, hr⟩ := hv
  have HR := Lib.hid hr
  clear hr
  have hl1 : ¬ xs.length < 1 := by omega
  obtain ⟨b0, off0, rfl, _, hc0⟩ := ints_at HR.out hne
  simp only [Nat.add_zero] at hc0
  have H0 := Lib.hid (show MinP (xs.take 1) xs[0] from by
    rw [List.take_succ_eq_append_getElem hne]; exact ⟨by simp, by simp⟩)
  go_enter Try.func28, Try.ntmps28
  go_wp2
  clear hc0
  go_loop [3, 4] (fun m i => ∃ (k : Nat) (z : Int), 1 ≤ k ∧ k ≤ xs.length ∧ i = .int .i64 k ∧ m = .int .i64 z ∧ Hid (MinP (xs.take k) z)) (fun _ i => xs.length - (intOf i).toNat)
  case atStart => exact ⟨1, _, by omega, by omega, rfl, rfl, H0⟩
  case round =>
    obtain ⟨k, z, hk1, hk, rfl, rfl, H⟩ := hrel
    clear H0
    by_cases hlt : k < xs.length
    · obtain ⟨b, off, e, _, hc⟩ := ints_at HR.out hlt
      injection e with e
      injection e with e1 e2
      subst e1 e2
      have HS := Lib.hid (show MinP (xs.take (k + 1)) (min z xs[k]) from by rw [List.take_succ_eq_append_getElem hlt]; exact H.out.snoc)
      generalize xs[k] = x at *
      rcases Int.lt_or_le x z with hx | hx
      all_goals
        go_wp2
        go_round
        case rel => exact ⟨k + 1, min z x, by omega, by omega, by go_num, by congr 1; omega, HS⟩
        case measure => simp [intOf]; omega
    · have HE := Lib.hid (show MinP xs z by have := H.out; rwa [List.take_of_length_le (by omega)] at this)
      go_wp2
      go_ret
      exact ⟨z, HE.out, rfl, rfl⟩

end Go.Proofs.Ytdcndhfjfllehaa
