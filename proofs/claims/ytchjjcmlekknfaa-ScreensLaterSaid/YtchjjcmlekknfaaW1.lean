/- Walks of the comparisons, of the reference's Few and Error, of Min and Max. -/
import Derived.Test.YtchjjcmlekknfaaBase
import Derived.Test.YtchjjcmlekknfaaPlain3
namespace Go.Proofs.Ytchjjcmlekknfaa
open Go.RowKit
set_option linter.unusedVariables false
set_option linter.unusedSimpArgs false

theorem within_any (x lo hi : Int) (w : World) : Calls Try.prog 35 #[.int .i64 x, .int .i64 lo, .int .i64 hi] w fun e w' => e = .returned (.bool (decide (lo ≤ x) && decide (x ≤ hi))) ∧ w = w' := by
  by_cases h1 : lo ≤ x
  all_goals by_cases h2 : x ≤ hi
  all_goals
    go_enter Try.func35, Try.ntmps35
    go_wp2
    go_ret
    exact ⟨ret_bool (by simp [h1, h2]), rfl⟩
theorem within_is {x lo hi : Int} {b : Bool} {w : World} (h : (decide (lo ≤ x) && decide (x ≤ hi)) = b) : Calls Try.prog 35 #[.int .i64 x, .int .i64 lo, .int .i64 hi] w fun e w' => e = .returned (.bool b) ∧ w = w' := by
  subst h; exact within_any x lo hi w
theorem refWithin_any (x hi : Int) (w : World) : Calls Try.prog 37 #[.int .i64 x, .int .i64 hi] w fun e w' => e = .returned (.bool (decide (0 ≤ x) && decide (x ≤ hi))) ∧ w = w' := by
  by_cases h1 : 0 ≤ x
  all_goals by_cases h2 : x ≤ hi
  all_goals
    go_enter Try.func37, Try.ntmps37
    go_wp2
    go_ret
    exact ⟨ret_bool (by simp [h1, h2]), rfl⟩
theorem refWithin_is {x hi : Int} {b : Bool} {w : World} (h : (decide (0 ≤ x) && decide (x ≤ hi)) = b) : Calls Try.prog 37 #[.int .i64 x, .int .i64 hi] w fun e w' => e = .returned (.bool b) ∧ w = w' := by
  subst h; exact refWithin_any x hi w

theorem quiet_q {P : Program} {f : FuncId} {args : Array Value} {w : World} {q n : Nat} {v : Value}
    (h : Calls P f args (w.drewN (q + n)) fun e w' => e = .returned v ∧ w.drewN (q + n) = w') : Calls P f args (w.drewN (q + n)) fun e w'' => e = .returned v ∧ ∃ m, w'' = w.drewN (q + m) :=
  h.mono fun _ _ ⟨he, hm⟩ => ⟨he, n, hm.symm⟩
def fewN (n : Nat) : Bool := decide (n ≤ 9) || decide (64 < n) && decide (n ≤ 100)
theorem few1_any (A : Option Addr) (n cap : Nat) (w : World) : Calls Try.prog 25 #[.slice A n cap] w fun e w' => e = .returned (.bool (fewN n)) ∧ w = w' := by
  unfold fewN
  by_cases h1 : n ≤ 9
  · have d1 : decide ((n : Int) ≤ 9) = true := by rw [decide_eq_true_eq]; omega
    go_enter Try.func25, Try.ntmps25
    go_wp2
    go_ret
    exact ⟨ret_bool (by simp [h1]), rfl⟩
  · have d1 : decide ((n : Int) ≤ 9) = false := by rw [decide_eq_false_iff_not]; omega
    by_cases h2 : 64 < n
    · have d2 : decide ((64 : Int) < n) = true := by rw [decide_eq_true_eq]; omega
      by_cases h3 : n ≤ 100
      · have d3 : decide ((n : Int) ≤ 100) = true := by rw [decide_eq_true_eq]; omega
        go_enter Try.func25, Try.ntmps25
        go_wp2
        go_ret
        exact ⟨ret_bool (by simp [h1, h2, h3]), rfl⟩
      · have d3 : decide ((n : Int) ≤ 100) = false := by rw [decide_eq_false_iff_not]; omega
        go_enter Try.func25, Try.ntmps25
        go_wp2
        go_ret
        exact ⟨ret_bool (by simp [h1, h2, h3]), rfl⟩
    · have d2 : decide ((64 : Int) < n) = false := by rw [decide_eq_false_iff_not]; omega
      go_enter Try.func25, Try.ntmps25
      go_wp2
      go_ret
      exact ⟨ret_bool (by simp [h1, h2]), rfl⟩
theorem few1_is {A : Option Addr} {n cap : Nat} {b : Bool} {w : World} (h : fewN n = b) : Calls Try.prog 25 #[.slice A n cap] w fun e w' => e = .returned (.bool b) ∧ w = w' := by
  subst h; exact few1_any A n cap w
theorem few_any (A A2 : Option Addr) (n cap n2 cap2 : Nat) (w : World) : Calls Try.prog 10 #[.slice A n cap, .slice A2 n2 cap2] w fun e w' => e = .returned (.bool (fewN n && fewN n2)) ∧ w = w' := by
  cases h1 : fewN n
  · go_enter Try.func10, Try.ntmps10
    go_wp2_with (fail)
    refine (few1_is h1).mono ?_
    rintro e _ ⟨rfl, rfl⟩
    go_wp2_with (fail)
    go_ret
    exact ⟨rfl, rfl⟩
  · cases h2 : fewN n2
    all_goals
      go_enter Try.func10, Try.ntmps10
      go_wp2_with (fail)
      refine (few1_is h1).mono ?_
      rintro e _ ⟨rfl, rfl⟩
      go_wp2_with (fail)
      refine (few1_is h2).mono ?_
      rintro e _ ⟨rfl, rfl⟩
      go_wp2_with (fail)
      go_ret
      exact ⟨rfl, rfl⟩

/-- what stands ahead of line k -/
def prevR (r : List Int) (k : Nat) : Int := if k = 0 then 0 else Sc.at_ r (k - 1)
theorem at_get {l : List Int} {k : Nat} (h : k < l.length) : Sc.at_ l k = l[k] := by unfold Sc.at_; simp [List.getD_eq_getElem?_getD, h]
theorem goodL_step {p : Int} {r d : List Int} {k : Nat} (h : k < r.length) (h2 : r.length = d.length) :
    Sc.goodL p (r.drop k) (d.drop k) = (decide (p ≤ Sc.at_ r k) && (decide (Sc.at_ r k ≤ 1099511627775) && (decide (0 ≤ Sc.at_ d k) && (decide (Sc.at_ d k ≤ 1073741824) && Sc.goodL (prevR r (k + 1)) (r.drop (k + 1)) (d.drop (k + 1)))))) := by
  rw [List.drop_eq_getElem_cons h, List.drop_eq_getElem_cons (show k < d.length by omega), at_get h, at_get (show k < d.length by omega)]
  have : prevR r (k + 1) = r[k] := by unfold prevR; rw [if_neg (by omega), Nat.add_sub_cancel, at_get h]
  rw [this]
  rfl

set_option maxHeartbeats 4000000 in
theorem refError_any (v u : Value) (r d : List Int) (m f : Int) (w : World) (hv : IsInts w v r) (hu : IsInts w u d) (hl : r.length ≤ 9223372036854775807) (hl2 : d.length ≤ 9223372036854775807) :
    Calls Try.prog 30 #[v, u, .int .i64 m, .int .i64 f] w fun e w' => e = .returned (.int .i64 (Sc.errQ r d m f)) ∧ ∃ n, w' = w.drewN n := by
  obtain ⟨A, c, rfl, hr⟩ := hv
  obtain ⟨A2, c2, rfl, hr2⟩ := hu
  have HR := Lib.hid hr
  have HR2 := Lib.hid hr2
  clear hr hr2
  by_cases h1 : 64 < r.length
  · have d1 : decide ((64 : Int) < r.length) = true := by rw [decide_eq_true_eq]; omega
    have HE := Lib.hid (show Sc.errQ r d m f = 2 by unfold Sc.errQ; rw [if_pos (.inl h1)])
    go_enter Try.func30, Try.ntmps30
    go_wp2
    go_ret
    exact ⟨ret_int HE.out.symm, 0, rfl⟩
  have d1 : decide ((64 : Int) < r.length) = false := by rw [decide_eq_false_iff_not]; omega
  by_cases h2 : 64 < d.length
  · have d2 : decide ((64 : Int) < d.length) = true := by rw [decide_eq_true_eq]; omega
    have HE := Lib.hid (show Sc.errQ r d m f = 2 by unfold Sc.errQ; rw [if_pos (.inr h2)])
    go_enter Try.func30, Try.ntmps30
    go_wp2
    go_ret
    exact ⟨ret_int HE.out.symm, 0, rfl⟩
  have d2 : decide ((64 : Int) < d.length) = false := by rw [decide_eq_false_iff_not]; omega
  have HE0 := Lib.hid (show ∀ h : r.length ≠ d.length ∨ m < 1 ∨ 8 < m ∨ f < 0 ∨ 1073741824 < f, Sc.errQ r d m f = 480 by intro h; unfold Sc.errQ; rw [if_neg (by omega), if_pos h])
  by_cases h3 : r.length = d.length
  rotate_left
  · have d3 : ((r.length : Int) != (d.length : Int)) = true := by simp; omega
    have HE := Lib.hid (HE0.out (.inl h3))
    go_enter Try.func30, Try.ntmps30
    go_wp2
    go_ret
    exact ⟨ret_int HE.out.symm, 0, rfl⟩
  have d3 : ((r.length : Int) != (d.length : Int)) = false := by simp; omega
  by_cases h4 : m < 1
  · have d4 : decide (m < 1) = true := decide_eq_true h4
    have HE := Lib.hid (HE0.out (.inr (.inl h4)))
    go_enter Try.func30, Try.ntmps30
    go_wp2
    go_ret
    exact ⟨ret_int HE.out.symm, 0, rfl⟩
  have d4 : decide (m < 1) = false := decide_eq_false h4
  by_cases h5 : 8 < m
  · have d5 : decide (8 < m) = true := decide_eq_true h5
    have HE := Lib.hid (HE0.out (.inr (.inr (.inl h5))))
    go_enter Try.func30, Try.ntmps30
    go_wp2
    go_ret
    exact ⟨ret_int HE.out.symm, 0, rfl⟩
  have d5 : decide (8 < m) = false := decide_eq_false h5
  cases hf : (decide (0 ≤ f) && decide (f ≤ 1073741824))
  · have HE := Lib.hid (HE0.out (.inr (.inr (.inr (by simp at hf; omega)))))
    replace hf := Lib.hid hf
    go_enter Try.func30, Try.ntmps30
    go_wp2_with (go_at_call 37; refine (refWithin_is hf.out).mono ?_; rintro e _ ⟨rfl, rfl⟩)
    go_ret
    exact ⟨ret_int HE.out.symm, 0, rfl⟩
  have HG : Hid (∀ b, Sc.goodL 0 r d = b → Sc.errQ r d m f = if b = true then 0 else 480) := Lib.hid (fun b hb => by
    simp only [Bool.and_eq_true, decide_eq_true_eq] at hf
    unfold Sc.errQ; rw [if_neg (by omega), if_neg (by omega), hb])
  replace hf := Lib.hid hf
  have hlen : r.length ≤ 64 := by omega
  have H3 := Lib.hid h3
  clear h1 h2 h4 h5 HE0 d1 d2 h3
  have d1 : decide ((64 : Int) < r.length) = false := by rw [decide_eq_false_iff_not]; omega
  have d2 : decide ((64 : Int) < d.length) = false := by rw [decide_eq_false_iff_not]; have := H3.out; omega
  go_enter Try.func30, Try.ntmps30
  go_wp2_with (go_at_call 37; refine (refWithin_is hf.out).mono ?_; rintro e _ ⟨rfl, rfl⟩)
  go_loopw [9] (fun i wr => ∃ k : Nat, k ≤ r.length ∧ i = .int .i64 k ∧ Hid (0 ≤ prevR r k ∧ Sc.goodL 0 r d = Sc.goodL (prevR r k) (r.drop k) (d.drop k)) ∧ ∃ q, wr = w.drewN q) (fun i _ => r.length - (intOf i).toNat)
  case atStart => exact ⟨0, Nat.zero_le _, rfl, Lib.hid ⟨Int.le_refl 0, rfl⟩, 0, rfl⟩
  case round =>
    obtain ⟨k, hk, rfl, H, q, rfl⟩ := hrel
    by_cases hlt : k < r.length
    · obtain ⟨b, off, e, _, hc⟩ := ints_at HR.out hlt
      have hlt2 : k < d.length := by have := H3.out; omega
      obtain ⟨b2, off2, e2, _, hc2⟩ := ints_at HR2.out hlt2
      have HS := Lib.hid (goodL_step (p := prevR r k) hlt H3.out)
      rw [at_get hlt, at_get (show k < d.length by have := H3.out; omega)] at HS
      have hprev : ∀ (hk0 : 0 < k), ∃ y, r[k - 1]? = some y ∧ prevR r k = y ∧ w.cell? ⟨b, off + (k - 1), none⟩ = some (.int .i64 y) := fun hk0 => by
        obtain ⟨b', off', e', _, hc'⟩ := ints_at HR.out (k := k - 1) (by omega)
        rw [e] at e'; injection e' with e'; injection e' with e1 e3
        subst e1 e3
        exact ⟨r[k - 1], by rw [List.getElem?_eq_getElem], by unfold prevR; rw [if_neg (by omega), at_get (by omega)], hc'⟩
      have HPV := Lib.hid hprev
      have HNX := Lib.hid (show prevR r (k + 1) = r[k] by unfold prevR; rw [if_neg (by omega), Nat.add_sub_cancel, at_get hlt])
      clear hprev
      generalize r[k] = x at *
      generalize d[k] = y at *
      subst e e2
      cases hx : (decide (0 ≤ x) && decide (x ≤ 1099511627775))
      · have HE := Lib.hid (HG.out false (by
          rw [H.out.2, HS.out]
          have := H.out.1
          simp only [Bool.and_eq_false_iff, decide_eq_false_iff_not] at hx ⊢
          omega))
        replace hx := Lib.hid hx
        go_wp2
        go_quiet ((go_at_call 37; exact quiet_q (refWithin_is hx.out)))
        go_wp2
        go_ret
        exact ⟨ret_int HE.out.symm, _, World.drewN_drewN ..⟩
      cases hy : (decide (0 ≤ y) && decide (y ≤ 1073741824))
      · have HE := Lib.hid (HG.out false (by
          rw [H.out.2, HS.out]
          simp only [Bool.and_eq_false_iff, decide_eq_false_iff_not] at hy ⊢
          omega))
        replace hx := Lib.hid hx
        replace hy := Lib.hid hy
        go_wp2
        go_quiet ((go_at_call 37; first | exact quiet_q (refWithin_is hx.out) | exact quiet_q (refWithin_is hy.out)))
        go_wp2
        go_ret
        exact ⟨ret_int HE.out.symm, _, World.drewN_drewN ..⟩
      by_cases hk0 : 0 < k
      · obtain ⟨z, _, hz, hcz⟩ := HPV.out hk0
        rw [hz] at H HS
        have dk : decide ((0 : Int) < (k : Int)) = true := by rw [decide_eq_true_eq]; omega
        have hki : ((k : Int) - 1).toNat = k - 1 := by omega
        by_cases hzx : x < z
        · have dz : decide (x < z) = true := decide_eq_true hzx
          have HE := Lib.hid (HG.out false (by
            rw [H.out.2, HS.out]
            simp only [Bool.and_eq_false_iff, decide_eq_false_iff_not]
            omega))
          replace hx := Lib.hid hx
          replace hy := Lib.hid hy
          clear hzx
          go_wp2
          go_quiet ((go_at_call 37; first | exact quiet_q (refWithin_is hx.out) | exact quiet_q (refWithin_is hy.out)))
          go_wp2
          go_ret
          exact ⟨ret_int HE.out.symm, _, World.drewN_drewN ..⟩
        · have dz : decide (x < z) = false := decide_eq_false hzx
          have HE := Lib.hid (show 0 ≤ prevR r (k + 1) ∧ Sc.goodL 0 r d = Sc.goodL (prevR r (k + 1)) (r.drop (k + 1)) (d.drop (k + 1)) by
            simp only [Bool.and_eq_true, decide_eq_true_eq] at hx hy
            refine ⟨by rw [HNX.out]; exact hx.1, ?_⟩
            rw [H.out.2, HS.out, decide_eq_true (show z ≤ x by omega), decide_eq_true hx.2, decide_eq_true hy.1, decide_eq_true hy.2]
            rfl)
          replace hx := Lib.hid hx
          replace hy := Lib.hid hy
          clear hzx
          go_wp2
          go_quiet ((go_at_call 37; first | exact quiet_q (refWithin_is hx.out) | exact quiet_q (refWithin_is hy.out)))
          go_wp2
          go_roundw
          case rel => exact ⟨k + 1, by omega, by go_num, HE, _, rfl⟩
          case measure => first | omega | (simp [intOf]; omega)
      · obtain rfl : k = 0 := by omega
        rw [Nat.add_zero] at hc hc2
        have HE := Lib.hid (show 0 ≤ prevR r (0 + 1) ∧ Sc.goodL 0 r d = Sc.goodL (prevR r (0 + 1)) (r.drop (0 + 1)) (d.drop (0 + 1)) by
          simp only [Bool.and_eq_true, decide_eq_true_eq] at hx hy
          refine ⟨by rw [HNX.out]; exact hx.1, ?_⟩
          rw [H.out.2, HS.out, decide_eq_true (show prevR r 0 ≤ x from hx.1), decide_eq_true hx.2, decide_eq_true hy.1, decide_eq_true hy.2]
          rfl)
        replace hx := Lib.hid hx
        replace hy := Lib.hid hy
        go_wp2
        go_quiet ((go_at_call 37; first | exact quiet_q (refWithin_is hx.out) | exact quiet_q (refWithin_is hy.out)))
        go_wp2
        go_roundw
        case rel => exact ⟨0 + 1, by omega, by go_num, HE, _, rfl⟩
        case measure => first | omega | (simp [intOf]; omega)
    · have HE := Lib.hid (HG.out true (by rw [H.out.2, List.drop_of_length_le (by omega)]; rfl))
      go_wp2
      go_ret
      exact ⟨ret_int HE.out.symm, _, rfl⟩

def MaxP (xs : List Int) (m : Int) : Prop := (∀ x ∈ xs, x ≤ m) ∧ m ∈ xs
def MinP (xs : List Int) (m : Int) : Prop := (∀ x ∈ xs, m ≤ x) ∧ m ∈ xs
def SomeI (P : Int → Prop) (w : World) (e : Ending) (w' : World) : Prop := ∃ m, P m ∧ e = .returned (.int .i64 m) ∧ w = w'
theorem MaxP.snoc {xs : List Int} {m x : Int} (h : MaxP xs m) : MaxP (xs ++ [x]) (max m x) := by
  obtain ⟨h1, h2⟩ := h
  refine ⟨fun y hy => ?_, ?_⟩
  · rcases List.mem_append.1 hy with hy | hy
    · have := h1 y hy; omega
    · simp at hy; omega
  · by_cases hx : m ≤ x
    · rw [Int.max_eq_right hx]; simp
    · rw [Int.max_eq_left (by omega)]; simp [h2]
theorem MinP.snoc {xs : List Int} {m x : Int} (h : MinP xs m) : MinP (xs ++ [x]) (min m x) := by
  obtain ⟨h1, h2⟩ := h
  refine ⟨fun y hy => ?_, ?_⟩
  · rcases List.mem_append.1 hy with hy | hy
    · have := h1 y hy; omega
    · simp at hy; omega
  · by_cases hx : m ≤ x
    · rw [Int.min_eq_left hx]; simp [h2]
    · rw [Int.min_eq_right (by omega)]; simp

set_option maxHeartbeats 400000 in
theorem Max_any (v : Value) (xs : List Int) (w : World) (hv : IsInts w v xs) (hl : xs.length ≤ 9223372036854775807) (hne : 0 < xs.length) :
    Calls Try.prog 34 #[v] w (SomeI (MaxP xs) w) := by
  obtain ⟨A, cap, rfl, hr⟩ := hv
  have HR := Lib.hid hr
  clear hr
  have hl1 : ¬ xs.length < 1 := by omega
  obtain ⟨b0, off0, rfl, _, hc0⟩ := ints_at HR.out hne
  simp only [Nat.add_zero] at hc0
  have H0 := Lib.hid (show MaxP (xs.take 1) xs[0] from by
    rw [List.take_succ_eq_append_getElem hne]; exact ⟨by simp, by simp⟩)
  go_enter Try.func34, Try.ntmps34
  go_wp2
  clear hc0
  go_loop [3, 4] (fun m i => ∃ (k : Nat) (z : Int), 1 ≤ k ∧ k ≤ xs.length ∧ i = .int .i64 k ∧ m = .int .i64 z ∧ Hid (MaxP (xs.take k) z)) (fun _ i => xs.length - (intOf i).toNat)
  case atStart => exact ⟨1, _, by omega, by omega, rfl, rfl, H0⟩
  case round =>
    obtain ⟨k, z, hk1, hk, rfl, rfl, H⟩ := hrel
    clear H0
    by_cases hlt : k < xs.length
    · obtain ⟨b, off, e, _, hc⟩ := ints_at HR.out hlt
      injection e with e
      injection e with e1 e2
      subst e1 e2
      have HS := Lib.hid (show MaxP (xs.take (k + 1)) (max z xs[k]) from by rw [List.take_succ_eq_append_getElem hlt]; exact H.out.snoc)
      generalize xs[k] = x at *
      rcases Int.lt_or_le z x with hx | hx
      all_goals
        go_wp2
        go_round
        case rel => exact ⟨k + 1, max z x, by omega, by omega, by go_num, by congr 1; omega, HS⟩
        case measure => simp [intOf]; omega
    · have HE := Lib.hid (show MaxP xs z by have := H.out; rwa [List.take_of_length_le (by omega)] at this)
      go_wp2
      go_ret
      exact ⟨z, HE.out, rfl, rfl⟩

set_option maxHeartbeats 400000 in
theorem Min_any (v : Value) (xs : List Int) (w : World) (hv : IsInts w v xs) (hl : xs.length ≤ 9223372036854775807) (hne : 0 < xs.length) :
    Calls Try.prog 33 #[v] w (SomeI (MinP xs) w) := by
  obtain ⟨A, cap, rfl, hr⟩ := hv
  have HR := Lib.hid hr
  clear hr
  have hl1 : ¬ xs.length < 1 := by omega
  obtain ⟨b0, off0, rfl, _, hc0⟩ := ints_at HR.out hne
  simp only [Nat.add_zero] at hc0
  have H0 := Lib.hid (show MinP (xs.take 1) xs[0] from by
    rw [List.take_succ_eq_append_getElem hne]; exact ⟨by simp, by simp⟩)
  go_enter Try.func33, Try.ntmps33
  go_wp2
  clear hc0
  go_loop [3, 4] (fun m i => ∃ (k : Nat) (z : Int), 1 ≤ k ∧ k ≤ xs.length ∧ i = .int .i64 k ∧ m = .int .i64 z ∧ Hid (MinP (xs.take k) z)) (fun _ i => xs.length - (intOf i).toNat)
  case atStart => exact ⟨1, _, by omega, by omega, rfl, rfl, H0⟩
  case round =>
    obtain ⟨k, z, hk1, hk, rfl, rfl, H⟩ := hrel
    clear H0
    by_cases hlt : k < xs.length
    · obtain ⟨b, off, e, _, hc⟩ := ints_at HR.out hlt
      injection e with e
      injection e with e1 e2
      subst e1 e2
      have HS := Lib.hid (show MinP (xs.take (k + 1)) (min z xs[k]) from by rw [List.take_succ_eq_append_getElem hlt]; exact H.out.snoc)
      generalize xs[k] = x at *
      rcases Int.lt_or_le x z with hx | hx
      all_goals
        go_wp2
        go_round
        case rel => exact ⟨k + 1, min z x, by omega, by omega, by go_num, by congr 1; omega, HS⟩
        case measure => simp [intOf]; omega
    · have HE := Lib.hid (show MinP xs z by have := H.out; rwa [List.take_of_length_le (by omega)] at this)
      go_wp2
      go_ret
      exact ⟨z, HE.out, rfl, rfl⟩


end Go.Proofs.Ytchjjcmlekknfaa
