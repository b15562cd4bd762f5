/- Walks of the order of two lists in the reference, of the statements' examples. -/
import Derived.Test.YtdcndhfjfllehaaW14
import Derived.Test.YtdcndhfjfllehaaSame
namespace Go.Proofs.Ytdcndhfjfllehaa
open Go.RowKit
set_option linter.unusedVariables false
set_option linter.unusedSimpArgs false

/-- a list comes before another one -/
def lexL : List Int → List Int → Bool
  | _, [] => false
  | [], _ :: _ => true
  | x :: xs, y :: ys => if x = y then lexL xs ys else decide (x < y)
theorem lexL_same {k : Nat} {xs ys : List Int} (h : xs.take k = ys.take k) (h1 : k ≤ xs.length) (h2 : k ≤ ys.length) : lexL xs ys = lexL (xs.drop k) (ys.drop k) := by
  induction k generalizing xs ys with
  | zero => rfl
  | succ k ih =>
    cases xs with
    | nil => simp at h1
    | cons x xs =>
      cases ys with
      | nil => simp at h2
      | cons y ys =>
        simp only [List.take_succ_cons, List.cons.injEq] at h
        simp only [lexL, if_pos h.1, List.drop_succ_cons]
        exact ih h.2 (by simpa using h1) (by simpa using h2)
theorem lexL_ne {k : Nat} {xs ys : List Int} (h : xs.take k = ys.take k) (h1 : k < xs.length) (h2 : k < ys.length) (hne : ¬ xs[k] = ys[k]) : lexL xs ys = decide (xs[k] < ys[k]) := by
  rw [lexL_same h (by omega) (by omega), List.drop_eq_getElem_cons h1, List.drop_eq_getElem_cons h2, lexL, if_neg hne]
theorem lexL_end {k : Nat} {xs ys : List Int} (h : xs.take k = ys.take k) (h1 : k ≤ xs.length) (h2 : k ≤ ys.length) (he : ¬ k < xs.length ∨ ¬ k < ys.length) : lexL xs ys = decide (xs.length < ys.length) := by
  rw [lexL_same h h1 h2]
  rcases Nat.lt_or_ge k ys.length with h3 | h3
  · have h4 : k = xs.length := by omega
    rw [List.drop_eq_getElem_cons h3, List.drop_eq_nil_of_le (show xs.length ≤ k by omega), lexL]
    symm; rw [decide_eq_true_eq]; omega
  · rw [List.drop_eq_nil_of_le h3]
    have : lexL (xs.drop k) [] = false := by cases xs.drop k <;> rfl
    rw [this]; symm; rw [decide_eq_false_iff_not]; omega

set_option maxHeartbeats 400000 in
theorem less_any (v u : Value) (xs ys : List Int) (w : World) (hv : IsInts w v xs) (hu : IsInts w u ys) (hl : xs.length ≤ 9223372036854775807) (hl2 : ys.length ≤ 9223372036854775807) :
    Calls Try.prog 20 #[v, u] w fun e w' => e = .returned (.bool (lexL xs ys)) ∧ ∃ k, w' = w.drewN k := by
  obtain ⟨A, c, rfl, hr⟩ := hv
  obtain ⟨A2, c2, rfl, hr2⟩ := hu
  have HR := Lib.hid hr
  have HR2 := Lib.hid hr2
  clear hr hr2
  go_enter Try.func20, Try.ntmps20
  go_wp2
  go_loopw [5] (fun i wr => ∃ k : Nat, k ≤ xs.length ∧ k ≤ ys.length ∧ i = .int .i64 k ∧ Hid (xs.take k = ys.take k) ∧ ∃ q, wr = w.drewN q) (fun i _ => xs.length - (intOf i).toNat)
  case atStart => exact ⟨0, Nat.zero_le _, Nat.zero_le _, rfl, rfl, 0, rfl⟩
  case round =>
    obtain ⟨k, hk, hk2, rfl, H, q, rfl⟩ := hrel
    by_cases hlt : k < xs.length
    · have hd1 : decide ((k : Int) < (xs.length : Int)) = true := by rw [decide_eq_true_eq]; omega
      by_cases hlt2 : k < ys.length
      · have hd2 : decide ((k : Int) < (ys.length : Int)) = true := by rw [decide_eq_true_eq]; omega
        obtain ⟨b, off, rfl, _, hc⟩ := ints_at HR.out hlt
        obtain ⟨b2, off2, rfl, _, hc2⟩ := ints_at HR2.out hlt2
        by_cases he : xs[k] = ys[k]
        · have hb : (xs[k] != ys[k]) = false := by simpa using he
          have HE := Lib.hid he
          clear he
          go_wp2
          go_quiet (fail)
          go_wp2
          go_roundw
          case rel => exact ⟨k + 1, by omega, by omega, by go_num, by show xs.take (k + 1) = ys.take (k + 1); rw [List.take_succ_eq_append_getElem hlt, List.take_succ_eq_append_getElem hlt2, H.out, HE.out], _, rfl⟩
          case measure => first | omega | (simp [intOf]; omega)
        · have hb : (xs[k] != ys[k]) = true := by simpa using he
          have HL := Lib.hid (lexL_ne H.out hlt hlt2 he)
          generalize xs[k] = a at *
          generalize ys[k] = b' at *
          clear he
          go_wp2
          go_quiet (fail)
          go_wp2
          go_quiet (fail)
          go_wp2
          go_ret
          exact ⟨ret_bool HL.out.symm, _, by rw [World.drewN_drewN, World.drewN_drewN]⟩
      · have hd2 : decide ((k : Int) < (ys.length : Int)) = false := by rw [decide_eq_false_iff_not]; omega
        have HL := Lib.hid (lexL_end H.out (by omega) (by omega) (.inr hlt2))
        go_wp2
        go_ret
        exact ⟨ret_bool HL.out.symm, _, rfl⟩
    · have hd1 : decide ((k : Int) < (xs.length : Int)) = false := by rw [decide_eq_false_iff_not]; omega
      have HL := Lib.hid (lexL_end H.out (by omega) (by omega) (.inl hlt))
      go_wp2
      go_ret
      exact ⟨ret_bool HL.out.symm, _, rfl⟩

theorem IsInts.upb {w w' : World} {v : Value} {xs : List Int} (h : IsInts w v xs) (hb : Below w.heap.size w w') : IsInts w' v xs := h.below hb
theorem _root_.Go.RowKit.Below.upb {a b c : World} (h : Below a.heap.size a b) (k : Below b.heap.size b c) : Below a.heap.size a c := h.up k
theorem al2 (w : World) (o o' : Obj) : Below w.heap.size w ((w.alloc o).alloc o') := (al1 w o).up (al1 _ _)
theorem lit2 (w : World) (o : Obj) (xs : List Int) (n : Nat) (cs : Array Value) (hn : n = xs.length) (hc : cs = (xs.map (Value.int .i64)).toArray) : IsInts ((w.alloc o).alloc (.cells cs 3)) (.slice (some ⟨w.heap.size + 1, 0, none⟩) n n) xs := by
  have := ints_lit' (w.alloc o) xs n cs hn hc
  simpa using this
theorem br_get {xs : List Int} {sp rm : Int} {w w' : World} {e : Ending} (h : BrPost xs sp rm w e w') {ok : Bool} {x y : Int} {s : List Int} {n : Nat} (h1 : okB xs sp rm = ok) (h2 : Bk.err xs sp rm = x) (h3 : esL xs sp rm = s) (h4 : coL xs sp rm = y) (hn : s.length = n) :
    ∃ A c, e = .returned (.tuple #[.slice A n c, .int .i64 y, .bool ok, .int .i64 x]) ∧ Hid (IsInts w' (.slice A n c) s) ∧ Hid (Below w.heap.size w w') := by
  subst h1 h2 h3 h4 hn; exact h
theorem pr_get {xs : List Int} {sp rm : Int} {w w' : World} {e : Ending} (h : PrPost xs sp rm w e w') {ok : Bool} {x : Int} {s : List Int} {n : Nat} (h1 : okB xs sp rm = ok) (h2 : Bk.err xs sp rm = x) (h3 : hsL xs sp rm = s) (hn : s.length = n) :
    ∃ A c, e = .returned (.tuple #[.slice A n c, .bool ok, .int .i64 x]) ∧ Hid (IsInts w' (.slice A n c) s) ∧ Hid (Below w.heap.size w w') := by
  subst h1 h2 h3 hn; exact h
theorem ac_yes {xs es h : List Int} {sp rm : Int} {w w' : World} {e : Ending} (hp : AcPost xs sp rm es h w e w') {x : Int} (h2 : Bk.err xs sp rm = x) (ha : accL xs sp rm es h) :
    e = .returned (.tuple #[.bool true, .int .i64 x]) ∧ Hid (Below w.heap.size w w') := by
  obtain ⟨b, rfl, hb, hB⟩ := hp
  rw [hb.2 ha, h2]; exact ⟨rfl, hB⟩
theorem ac_not {xs es h : List Int} {sp rm : Int} {w w' : World} {e : Ending} (hp : AcPost xs sp rm es h w e w') {x : Int} (h2 : Bk.err xs sp rm = x) (ha : ¬ accL xs sp rm es h) :
    e = .returned (.tuple #[.bool false, .int .i64 x]) ∧ Hid (Below w.heap.size w w') := by
  obtain ⟨b, rfl, hb, hB⟩ := hp
  have : b = false := by cases b; rfl; exact absurd (hb.1 rfl) ha
  rw [this, h2]; exact ⟨rfl, hB⟩
/-- the law of a proving list, reckoned -/
def leB (sp rm : Int) (xs h : List Int) : Bool := (List.range xs.length).all fun i => (List.range (xs.length + 1)).all fun j => !decide (i < j) || (match Bk.lc sp rm (xs.drop i) (j - i) with
  | some c => decide (Bk.at_ h i ≤ c + Bk.at_ h j)
  | none => true)
theorem leB_le {sp rm : Int} {xs h : List Int} (hb : leB sp rm xs h = true) (i j : Nat) (h1 : i < j) (h2 : j ≤ xs.length) (c : Int) (hc : Bk.lc sp rm (xs.drop i) (j - i) = some c) : Bk.at_ h i ≤ c + Bk.at_ h j := by
  unfold leB at hb
  have h3 := List.all_eq_true.1 (List.all_eq_true.1 hb i (List.mem_range.2 (by omega))) j (List.mem_range.2 (by omega))
  simpa [h1, hc] using h3
theorem acc_one : accL [3, 2, 2, 5] 1 6 [1, 3, 4] [10, 1, 16, 0, 0] :=
  ⟨by decide +kernel, 10, by decide +kernel, ⟨by decide, by decide, by decide, leB_le (by decide +kernel)⟩, by decide⟩
theorem acc_two : ¬ accL [3, 2, 2, 5] 1 6 [2, 3, 4] [10, 1, 16, 0, 0] := by
  rintro ⟨_, c, h, _, h2⟩
  rw [show Bk.cst 1 6 0 [3, 2, 2, 5] [2, 3, 4] = some 16 by decide +kernel] at h
  injection h with h
  subst h
  exact absurd h2 (by decide)
theorem acc_nil : accL [] 0 1 [] [0] :=
  ⟨by decide +kernel, 0, by decide +kernel, ⟨by decide, by decide, by decide, leB_le (by decide +kernel)⟩, by decide⟩

set_option maxHeartbeats 4000000 in
set_option maxRecDepth 100000 in
theorem sane_any (w : World) : Calls Try.prog 9 #[] w fun e w' => e = .returned (.bool true) ∧ Below w.heap.size w w' := by
  go_enter Try.func9, Try.ntmps9
  go_wp2_with (fail)
  have HW := Lib.hid (ints_lit' w [3, 2, 2, 5] 4 _ rfl rfl)
  have B := Lib.hid (al1 w (.cells #[.int .i64 3, .int .i64 2, .int .i64 2, .int .i64 5] 3))
  refine (break_any [3, 2, 2, 5] _ _ 1 6 _ HW.out (by decide)).mono ?_
  rintro e w1 hP
  obtain ⟨A1, c1, rfl, H1, X1⟩ := br_get (ok := true) (x := 0) (s := [1, 3, 4]) (y := 10) (n := 3) hP (by decide +kernel) (by decide +kernel) (by decide +kernel) (by decide +kernel) rfl
  have Dw1 := Lib.hid (X1.out)
  replace HW := Lib.hid (HW.out.upb Dw1.out)
  replace B := Lib.hid (B.out.upb Dw1.out)
  clear Dw1 hP X1
  go_wp2_with (fail)
  refine (prove_any [3, 2, 2, 5] _ _ 1 6 _ HW.out (by decide)).mono ?_
  rintro e w2 hP
  obtain ⟨A2, c2, rfl, H2, X2⟩ := pr_get (ok := true) (x := 0) (s := [10, 1, 16, 0, 0]) (n := 5) hP (by decide +kernel) (by decide +kernel) (by decide +kernel) rfl
  have Dw2 := Lib.hid (X2.out)
  replace HW := Lib.hid (HW.out.upb Dw2.out)
  replace B := Lib.hid (B.out.upb Dw2.out)
  replace H1 := Lib.hid (H1.out.upb Dw2.out)
  clear Dw2 hP X2
  go_wp2_with (fail)
  refine (accepts_any [3, 2, 2, 5] [1, 3, 4] [10, 1, 16, 0, 0] _ _ _ _ _ _ 1 6 _ (HW.out.below (al2 _ _ _)) ((ints_lit' w2 [1, 3, 4] 3 _ rfl rfl).below (al1 _ _)) (lit2 w2 _ [10, 1, 16, 0, 0] 5 _ rfl rfl) (by decide) (by decide) (by decide)).mono ?_
  rintro e w3 hP
  obtain ⟨rfl, X3⟩ := ac_yes (x := 0) hP (by decide +kernel) acc_one
  have Dw3 := Lib.hid ((al2 _ _ _).up X3.out)
  replace HW := Lib.hid (HW.out.upb Dw3.out)
  replace B := Lib.hid (B.out.upb Dw3.out)
  replace H1 := Lib.hid (H1.out.upb Dw3.out)
  replace H2 := Lib.hid (H2.out.upb Dw3.out)
  clear Dw3 hP X3
  go_wp2_with (fail)
  refine (accepts_any [3, 2, 2, 5] [2, 3, 4] [10, 1, 16, 0, 0] _ _ _ _ _ _ 1 6 _ (HW.out.below (al2 _ _ _)) ((ints_lit' w3 [2, 3, 4] 3 _ rfl rfl).below (al1 _ _)) (lit2 w3 _ [10, 1, 16, 0, 0] 5 _ rfl rfl) (by decide) (by decide) (by decide)).mono ?_
  rintro e w4 hP
  obtain ⟨rfl, X4⟩ := ac_not (x := 0) hP (by decide +kernel) acc_two
  have Dw4 := Lib.hid ((al2 _ _ _).up X4.out)
  replace HW := Lib.hid (HW.out.upb Dw4.out)
  replace B := Lib.hid (B.out.upb Dw4.out)
  replace H1 := Lib.hid (H1.out.upb Dw4.out)
  replace H2 := Lib.hid (H2.out.upb Dw4.out)
  clear Dw4 hP X4
  go_wp2_with (fail)
  clear HW
  refine (break_any [] _ _ 0 1 _ IsInts.nil (by decide)).mono ?_
  rintro e w5 hP
  obtain ⟨A5, c5, rfl, H5, X5⟩ := br_get (ok := true) (x := 0) (s := []) (y := 0) (n := 0) hP (by decide +kernel) (by decide +kernel) (by decide +kernel) (by decide +kernel) rfl
  have Dw5 := Lib.hid (X5.out)
  replace B := Lib.hid (B.out.upb Dw5.out)
  replace H1 := Lib.hid (H1.out.upb Dw5.out)
  replace H2 := Lib.hid (H2.out.upb Dw5.out)
  clear Dw5 hP X5 H5
  go_wp2_with (fail)
  refine (break_any [5] _ _ 0 4 _ (ints_lit' w5 [5] 1 _ rfl rfl) (by decide)).mono ?_
  rintro e w6 hP
  obtain ⟨A6, c6, rfl, H6, X6⟩ := br_get (ok := false) (x := 0) (s := []) (y := 0) (n := 0) hP (by decide +kernel) (by decide +kernel) (by decide +kernel) (by decide +kernel) rfl
  have Dw6 := Lib.hid ((al1 _ _).up X6.out)
  replace B := Lib.hid (B.out.upb Dw6.out)
  replace H1 := Lib.hid (H1.out.upb Dw6.out)
  replace H2 := Lib.hid (H2.out.upb Dw6.out)
  clear Dw6 hP X6 H6
  go_wp2_with (fail)
  refine (break_any [4] _ _ 0 4 _ (ints_lit' w6 [4] 1 _ rfl rfl) (by decide)).mono ?_
  rintro e w7 hP
  obtain ⟨A7, c7, rfl, H7, X7⟩ := br_get (ok := true) (x := 0) (s := [1]) (y := 0) (n := 1) hP (by decide +kernel) (by decide +kernel) (by decide +kernel) (by decide +kernel) rfl
  have Dw7 := Lib.hid ((al1 _ _).up X7.out)
  replace B := Lib.hid (B.out.upb Dw7.out)
  replace H1 := Lib.hid (H1.out.upb Dw7.out)
  replace H2 := Lib.hid (H2.out.upb Dw7.out)
  clear Dw7 hP X7
  go_wp2_with (fail)
  refine (prove_any [] _ _ 0 1 _ IsInts.nil (by decide)).mono ?_
  rintro e w8 hP
  obtain ⟨A8, c8, rfl, H8, X8⟩ := pr_get (ok := true) (x := 0) (s := [0]) (n := 1) hP (by decide +kernel) (by decide +kernel) (by decide +kernel) rfl
  have Dw8 := Lib.hid (X8.out)
  replace B := Lib.hid (B.out.upb Dw8.out)
  replace H1 := Lib.hid (H1.out.upb Dw8.out)
  replace H2 := Lib.hid (H2.out.upb Dw8.out)
  replace H7 := Lib.hid (H7.out.upb Dw8.out)
  clear Dw8 hP X8
  go_wp2_with (fail)
  refine (accepts_any [] [] [0] _ _ _ _ _ _ 0 1 _ IsInts.nil IsInts.nil (ints_lit' w8 [0] 1 _ rfl rfl) (by decide) (by decide) (by decide)).mono ?_
  rintro e w9 hP
  obtain ⟨rfl, X9⟩ := ac_yes (x := 0) hP (by decide +kernel) acc_nil
  have Dw9 := Lib.hid ((al1 _ _).up X9.out)
  replace B := Lib.hid (B.out.upb Dw9.out)
  replace H1 := Lib.hid (H1.out.upb Dw9.out)
  replace H2 := Lib.hid (H2.out.upb Dw9.out)
  replace H7 := Lib.hid (H7.out.upb Dw9.out)
  replace H8 := Lib.hid (H8.out.upb Dw9.out)
  clear Dw9 hP X9
  go_wp2_with (fail)
  refine (break_any [0] _ _ 0 4 _ (ints_lit' w9 [0] 1 _ rfl rfl) (by decide)).mono ?_
  rintro e w10 hP
  obtain ⟨A10, c10, rfl, H10, X10⟩ := br_get (ok := false) (x := 470) (s := []) (y := 0) (n := 0) hP (by decide +kernel) (by decide +kernel) (by decide +kernel) (by decide +kernel) rfl
  have Dw10 := Lib.hid ((al1 _ _).up X10.out)
  replace B := Lib.hid (B.out.upb Dw10.out)
  replace H1 := Lib.hid (H1.out.upb Dw10.out)
  replace H2 := Lib.hid (H2.out.upb Dw10.out)
  replace H7 := Lib.hid (H7.out.upb Dw10.out)
  replace H8 := Lib.hid (H8.out.upb Dw10.out)
  clear Dw10 hP X10 H10
  go_wp2_with (fail)
  refine (break_any [] _ _ 0 0 _ IsInts.nil (by decide)).mono ?_
  rintro e w11 hP
  obtain ⟨A11, c11, rfl, H11, X11⟩ := br_get (ok := false) (x := 1) (s := []) (y := 0) (n := 0) hP (by decide +kernel) (by decide +kernel) (by decide +kernel) (by decide +kernel) rfl
  have Dw11 := Lib.hid (X11.out)
  replace B := Lib.hid (B.out.upb Dw11.out)
  replace H1 := Lib.hid (H1.out.upb Dw11.out)
  replace H2 := Lib.hid (H2.out.upb Dw11.out)
  replace H7 := Lib.hid (H7.out.upb Dw11.out)
  replace H8 := Lib.hid (H8.out.upb Dw11.out)
  clear Dw11 hP X11 H11
  go_wp2_with (fail)
  refine (sameInts_any _ _ [1, 3, 4] [1, 3, 4] _ (H1.out.below (al1 _ _)) (ints_lit' w11 [1, 3, 4] 3 _ rfl rfl) (by decide) (by decide)).mono ?_
  rintro e w12 ⟨rfl, m12, h12⟩
  rw [show decide (([1, 3, 4] : List Int) = [1, 3, 4]) = true by decide]
  have X12 : Hid (Below w11.heap.size w11 w12) := by rw [h12]; exact below_drewN (al1 w11 _) m12
  have Dw12 := Lib.hid (X12.out)
  replace B := Lib.hid (B.out.upb Dw12.out)
  replace H1 := Lib.hid (H1.out.upb Dw12.out)
  replace H2 := Lib.hid (H2.out.upb Dw12.out)
  replace H7 := Lib.hid (H7.out.upb Dw12.out)
  replace H8 := Lib.hid (H8.out.upb Dw12.out)
  clear Dw12 h12 X12
  go_wp2_with (fail)
  refine (sameInts_any _ _ [10, 1, 16, 0, 0] [10, 1, 16, 0, 0] _ (H2.out.below (al1 _ _)) (ints_lit' w12 [10, 1, 16, 0, 0] 5 _ rfl rfl) (by decide) (by decide)).mono ?_
  rintro e w13 ⟨rfl, m13, h13⟩
  rw [show decide (([10, 1, 16, 0, 0] : List Int) = [10, 1, 16, 0, 0]) = true by decide]
  have X13 : Hid (Below w12.heap.size w12 w13) := by rw [h13]; exact below_drewN (al1 w12 _) m13
  have Dw13 := Lib.hid (X13.out)
  replace B := Lib.hid (B.out.upb Dw13.out)
  replace H1 := Lib.hid (H1.out.upb Dw13.out)
  replace H2 := Lib.hid (H2.out.upb Dw13.out)
  replace H7 := Lib.hid (H7.out.upb Dw13.out)
  replace H8 := Lib.hid (H8.out.upb Dw13.out)
  clear Dw13 h13 X13
  go_wp2_with (fail)
  refine (sameInts_any _ _ [1] [1] _ (H7.out.below (al1 _ _)) (ints_lit' w13 [1] 1 _ rfl rfl) (by decide) (by decide)).mono ?_
  rintro e w14 ⟨rfl, m14, h14⟩
  rw [show decide (([1] : List Int) = [1]) = true by decide]
  have X14 : Hid (Below w13.heap.size w13 w14) := by rw [h14]; exact below_drewN (al1 w13 _) m14
  have Dw14 := Lib.hid (X14.out)
  replace B := Lib.hid (B.out.upb Dw14.out)
  replace H1 := Lib.hid (H1.out.upb Dw14.out)
  replace H2 := Lib.hid (H2.out.upb Dw14.out)
  replace H7 := Lib.hid (H7.out.upb Dw14.out)
  replace H8 := Lib.hid (H8.out.upb Dw14.out)
  clear Dw14 h14 X14
  go_wp2_with (fail)
  refine (sameInts_any _ _ [0] [0] _ (H8.out.below (al1 _ _)) (ints_lit' w14 [0] 1 _ rfl rfl) (by decide) (by decide)).mono ?_
  rintro e w15 ⟨rfl, m15, h15⟩
  rw [show decide (([0] : List Int) = [0]) = true by decide]
  have X15 : Hid (Below w14.heap.size w14 w15) := by rw [h15]; exact below_drewN (al1 w14 _) m15
  have Dw15 := Lib.hid (X15.out)
  replace B := Lib.hid (B.out.upb Dw15.out)
  replace H1 := Lib.hid (H1.out.upb Dw15.out)
  replace H2 := Lib.hid (H2.out.upb Dw15.out)
  replace H7 := Lib.hid (H7.out.upb Dw15.out)
  replace H8 := Lib.hid (H8.out.upb Dw15.out)
  clear Dw15 h15 X15
  go_wp2_with (fail)
  go_ret
  exact ⟨rfl, B.out⟩

end Go.Proofs.Ytdcndhfjfllehaa
