/- Walk of sane: the chapter's examples hold. -/
import Derived.Test.YtofllhbcediafaaW19
import Derived.Test.YtofllhbcediafaaSame
namespace Go.Proofs.Ytofllhbcediafaa
open Go.RowKit
set_option linter.unusedVariables false
set_option linter.unusedSimpArgs false

theorem al1 (w : World) (o : Obj) : Below w.heap.size w (w.alloc o) := (Below.refl _ _).alloc (Nat.le_refl _) _
theorem al2 (w : World) (o o' : Obj) : Below w.heap.size w ((w.alloc o).alloc o') := ((Below.refl _ _).alloc (Nat.le_refl _) _).alloc (by simp) _
theorem lit2 (w : World) (o : Obj) (xs : List Int) (n : Nat) (cs : Array Value) (hn : n = xs.length) (hc : cs = (xs.map (Value.int .i64)).toArray) : IsInts ((w.alloc o).alloc (.cells cs 3)) (.slice (some ⟨w.heap.size + 1, 0, none⟩) n n) xs := by
  have := ints_lit' (w.alloc o) xs n cs hn hc
  simpa using this
theorem lit3 (w : World) (o o' : Obj) (xs : List Int) (n : Nat) (cs : Array Value) (hn : n = xs.length) (hc : cs = (xs.map (Value.int .i64)).toArray) : IsInts (((w.alloc o).alloc o').alloc (.cells cs 3)) (.slice (some ⟨w.heap.size + 1 + 1, 0, none⟩) n n) xs := by
  have := ints_lit' ((w.alloc o).alloc o') xs n cs hn hc
  simpa using this
theorem words_lit (w : World) (vs : List Value) (l : List (List Pl.Life)) (n : Nat) (cs : Array Value) (hn : n = l.length) (hc : cs = vs.toArray) (hl : vs.length = l.length) (h : ∀ i (h : i < l.length) (h' : i < vs.length), IsLives w vs[i] l[i]) :
    IsWords (w.alloc (.cells cs 37)) (.slice (some ⟨w.heap.size, 0, none⟩) n n) l := by
  subst hn hc
  refine ⟨_, _, vs, rfl, hl, fun _ => ⟨_, _, rfl, by simp, fun i hi => ?_⟩, fun i h1 h2 => (h i h1 h2).below (al1 w _)⟩
  have := cell_of_row (w.alloc (.cells vs.toArray 37)) w.heap.size i vs.toArray 37 (0, 0) (heap_alloc_new w _)
  rw [Nat.zero_add, this]
  simp [hi]
theorem words_one (w : World) (v : Value) (x : List Pl.Life) (h : IsLives w v x) : IsWords (w.alloc (.cells #[v] 37)) (.slice (some ⟨w.heap.size, 0, none⟩) 1 1) [x] :=
  words_lit w [v] [x] 1 _ rfl rfl rfl (fun i h1 h2 => by
    simp at h1; subst h1; exact h)
theorem words_two (w : World) (v v2 : Value) (x x2 : List Pl.Life) (h : IsLives w v x) (h2 : IsLives w v2 x2) : IsWords (w.alloc (.cells #[v, v2] 37)) (.slice (some ⟨w.heap.size, 0, none⟩) 2 2) [x, x2] :=
  words_lit w [v, v2] [x, x2] 2 _ rfl rfl rfl (fun i h1 h3 => by
    match i, h1 with
    | 0, _ => exact h
    | 1, _ => exact h2)

def E40 : Int := 1099511627776
def twoL : List (List Pl.Life) := [[(1, 1099511627776)], [(2, 1099511627776)]]
def revL : List (List Pl.Life) := [[(1, 4), (4, 1099511627776)]]
def lateL : List (List Pl.Life) := [[(5, 1099511627776)]]

theorem la_get {l : List (List Pl.Life)} {ds : List Int} {w w' : World} {e : Ending} {ok : Bool} {x : Int} {s y : List Int} {n m : Nat} (h : LaPost l ds w e w') (h1 : okL l ds = ok) (h2 : Pl.err l ds = x) (h3 : (if ok = true then Pl.shown ds else []) = s) (h4 : (if ok = true then Pl.whys ds else []) = y) (hn : s.length = n) (hm : y.length = m) :
    ∃ A c A2 c2, e = .returned (.tuple #[.slice A n c, .slice A2 m c2, .bool ok, .int .i64 x]) ∧ Hid (IsInts w' (.slice A n c) s) ∧ Hid (IsInts w' (.slice A2 m c2) y) ∧ Hid (Below w.heap.size w w') := by
  subst hn hm
  obtain ⟨a, b, he, ha, hb, hB⟩ := h
  rw [h1, h3] at ha
  rw [h1, h4] at hb
  rw [h1, h2] at he
  have ha' := ha
  have hb' := hb
  obtain ⟨A, c, rfl, _⟩ := ha'
  obtain ⟨A2, c2, rfl, _⟩ := hb'
  exact ⟨A, c, A2, c2, he, ha, hb, hB⟩
theorem li_get {bs : List Int} {w w' : World} {e : Ending} {x : List Pl.Life} {n : Nat} (h : ∃ r, e = .returned r ∧ IsLives w' r (pairs bs (bs.length - 1)) ∧ Below w.heap.size w w') (hx : pairs bs (bs.length - 1) = x) (hn : x.length = n) :
    ∃ A c, e = .returned (.slice A n c) ∧ Hid (IsLives w' (.slice A n c) x) ∧ Hid (Below w.heap.size w w') := by
  subst hn
  obtain ⟨r, he, hl, hB⟩ := h
  rw [hx] at hl
  have hl' := hl
  obtain ⟨A, c, rfl, _⟩ := hl'
  exact ⟨A, c, he, hl, hB⟩

set_option maxHeartbeats 4000000 in
set_option maxRecDepth 100000 in
theorem sane_any (w : World) : Calls Try.prog 9 #[] w fun e w' => e = .returned (.bool true) ∧ Below w.heap.size w w' := by
  go_enter Try.func9, Try.ntmps9
  go_wp2_with (fail)
  -- two
  refine (life_any _ [1, 1099511627776] _ (ints_lit' w [1, 1099511627776] 2 _ rfl rfl) (by simp)).mono ?_
  rintro e w1 hP
  obtain ⟨A1, c1, rfl, H1, B1x⟩ := li_get (x := [(1, 1099511627776)]) (n := 1) hP rfl rfl
  clear hP
  have D1 := Lib.hid ((al1 w (.cells #[.int .i64 1, .int .i64 1099511627776] 3)).up B1x.out)
  have B1 := D1
  clear B1x D1
  go_wp2_with (fail)
  refine (life_any _ [2, 1099511627776] _ (ints_lit' w1 [2, 1099511627776] 2 _ rfl rfl) (by simp)).mono ?_
  rintro e w2 hP
  obtain ⟨A2, c2, rfl, H2, B2x⟩ := li_get (x := [(2, 1099511627776)]) (n := 1) hP rfl rfl
  clear hP
  have D2 := Lib.hid ((al1 w1 (.cells #[.int .i64 2, .int .i64 1099511627776] 3)).up B2x.out)
  replace H1 := Lib.hid (H1.out.below D2.out)
  have B2 := Lib.hid (B1.out.up D2.out)
  clear B2x D2 B1
  go_wp2_with (fail)
  have HT0 := Lib.hid (words_two w2 _ _ _ _ H1.out H2.out)
  refine (Latest_any _ _ twoL [9, 5] _ (HT0.out.below (al1 _ _)) (lit2 w2 _ [9, 5] 2 _ rfl rfl) (by decide) (by decide)).mono ?_
  rintro e w3 hP
  obtain ⟨A3, c3, A3y, c3y, rfl, HS, HY, X3⟩ := la_get (ok := true) (x := 0) (s := [5, 5]) (y := [1, 1]) (n := 2) (m := 2) hP (by decide +kernel) (by decide +kernel) (by decide +kernel) (by decide +kernel) rfl rfl
  clear hP
  have HT := Lib.hid (HT0.out.below ((al1 _ _).up X3.out))
  have B3 := Lib.hid (B2.out.up ((al2 w2 _ _).up X3.out))
  clear HT0 H1 H2 X3 B2
  go_wp2_with (fail)
  refine (Latest_any _ _ [] [] _ IsWords.nil IsInts.nil (by decide) (by decide)).mono ?_
  rintro e w4 hP
  obtain ⟨A4, c4, A4y, c4y, rfl, _, _, X4⟩ := la_get (ok := true) (x := 0) (s := []) (y := []) (n := 0) (m := 0) hP (by decide +kernel) (by decide +kernel) (by decide +kernel) (by decide +kernel) rfl rfl
  clear hP
  replace HT := Lib.hid (HT.out.below X4.out)
  replace HS := Lib.hid (HS.out.below X4.out)
  replace HY := Lib.hid (HY.out.below X4.out)
  have B4 := Lib.hid (B3.out.up X4.out)
  clear X4 B3
  go_wp2_with (fail)
  refine (life_any _ [5, 1099511627776] _ (ints_lit' w4 [5, 1099511627776] 2 _ rfl rfl) (by simp)).mono ?_
  rintro e w5 hP
  obtain ⟨A5, c5, rfl, H5, B5x⟩ := li_get (x := [(5, 1099511627776)]) (n := 1) hP rfl rfl
  clear hP
  have D5 := Lib.hid ((al1 w4 (.cells #[.int .i64 5, .int .i64 1099511627776] 3)).up B5x.out)
  replace HT := Lib.hid (HT.out.below D5.out)
  replace HS := Lib.hid (HS.out.below D5.out)
  replace HY := Lib.hid (HY.out.below D5.out)
  have B5 := Lib.hid (B4.out.up D5.out)
  clear B5x D5 B4
  go_wp2_with (fail)
  have HL0 := Lib.hid (words_one w5 _ _ H5.out)
  refine (Latest_any _ _ lateL [3] _ (HL0.out.below (al1 _ _)) (lit2 w5 _ [3] 1 _ rfl rfl) (by decide) (by decide)).mono ?_
  rintro e w6 hP
  obtain ⟨A6, c6, A6y, c6y, rfl, _, _, X6⟩ := la_get (ok := false) (x := 0) (s := []) (y := []) (n := 0) (m := 0) hP (by decide +kernel) (by decide +kernel) (by decide +kernel) (by decide +kernel) rfl rfl
  clear hP
  have Y6 := Lib.hid ((al2 w5 _ _).up X6.out)
  replace HT := Lib.hid (HT.out.below Y6.out)
  replace HS := Lib.hid (HS.out.below Y6.out)
  replace HY := Lib.hid (HY.out.below Y6.out)
  have B6 := Lib.hid (B5.out.up Y6.out)
  clear HL0 H5 X6 Y6 B5
  go_wp2_with (fail)
  refine (life_any _ [1, 4, 1099511627776] _ (ints_lit' w6 [1, 4, 1099511627776] 3 _ rfl rfl) (by simp)).mono ?_
  rintro e w7 hP
  obtain ⟨A7, c7, rfl, H7, B7x⟩ := li_get (x := [(1, 4), (4, 1099511627776)]) (n := 2) hP rfl rfl
  clear hP
  have D7 := Lib.hid ((al1 w6 (.cells #[.int .i64 1, .int .i64 4, .int .i64 1099511627776] 3)).up B7x.out)
  replace HT := Lib.hid (HT.out.below D7.out)
  replace HS := Lib.hid (HS.out.below D7.out)
  replace HY := Lib.hid (HY.out.below D7.out)
  have B7 := Lib.hid (B6.out.up D7.out)
  clear B7x D7 B6
  go_wp2_with (fail)
  have HV0 := Lib.hid (words_one w7 _ _ H7.out)
  refine (Withdrawn_any _ _ _ revL [3] [2] _ (HV0.out.below (al2 _ _ _)) ((lit2 w7 _ [3] 1 _ rfl rfl).below (al1 _ _)) (lit3 w7 _ _ [2] 1 _ rfl rfl) (by decide) (by decide) (by decide)).mono ?_
  rintro e w8 ⟨rfl, X8⟩
  rw [show wdN revL [3] [2] = 1 by decide +kernel, show wdE revL [3] [2] = 0 by decide +kernel]
  have HV := Lib.hid (HV0.out.below ((al2 _ _ _).up X8))
  have Y8 := Lib.hid (((al1 w7 _).up (al2 _ _ _)).up X8)
  clear X8
  replace HT := Lib.hid (HT.out.below Y8.out)
  replace HS := Lib.hid (HS.out.below Y8.out)
  replace HY := Lib.hid (HY.out.below Y8.out)
  have B8 := Lib.hid (B7.out.up Y8.out)
  clear HV0 H7 Y8 B7
  go_wp2_with (fail)
  refine (Withdrawn_any _ _ _ revL [8] [4] _ (HV.out.below (al2 _ _ _)) ((ints_lit' w8 [8] 1 _ rfl rfl).below (al1 _ _)) (lit2 w8 _ [4] 1 _ rfl rfl) (by decide) (by decide) (by decide)).mono ?_
  rintro e w9 ⟨rfl, X9⟩
  rw [show wdN revL [8] [4] = 0 by decide +kernel, show wdE revL [8] [4] = 0 by decide +kernel]
  have Y9 := Lib.hid ((al2 w8 _ _).up X9)
  clear X9
  replace HV := Lib.hid (HV.out.below Y9.out)
  replace HT := Lib.hid (HT.out.below Y9.out)
  replace HS := Lib.hid (HS.out.below Y9.out)
  replace HY := Lib.hid (HY.out.below Y9.out)
  have B9 := Lib.hid (B8.out.up Y9.out)
  clear Y9 B8
  go_wp2_with (fail)
  refine (Withdrawn_any _ _ _ revL [3] [4] _ (HV.out.below (al2 _ _ _)) ((ints_lit' w9 [3] 1 _ rfl rfl).below (al1 _ _)) (lit2 w9 _ [4] 1 _ rfl rfl) (by decide) (by decide) (by decide)).mono ?_
  rintro e w10 ⟨rfl, X10⟩
  rw [show wdN revL [3] [4] = 0 by decide +kernel, show wdE revL [3] [4] = 500 by decide +kernel]
  have Y10 := Lib.hid ((al2 w9 _ _).up X10)
  clear X10
  replace HV := Lib.hid (HV.out.below Y10.out)
  replace HT := Lib.hid (HT.out.below Y10.out)
  replace HS := Lib.hid (HS.out.below Y10.out)
  replace HY := Lib.hid (HY.out.below Y10.out)
  have B10 := Lib.hid (B9.out.up Y10.out)
  clear Y10 B9
  go_wp2_with (fail)
  refine (Accepts_any _ _ _ twoL [9, 5] [3, 2] _ (HT.out.below (al2 _ _ _)) ((ints_lit' w10 [9, 5] 2 _ rfl rfl).below (al1 _ _)) (lit2 w10 _ [3, 2] 2 _ rfl rfl) (by decide) (by decide) (by decide)).mono ?_
  rintro e w11 ⟨rfl, X11⟩
  rw [show accR twoL [9, 5] [3, 2] = false by decide +kernel, show Pl.err twoL [9, 5] = 0 by decide +kernel]
  have Y11 := Lib.hid ((al2 w10 _ _).up X11)
  clear X11 HV
  replace HT := Lib.hid (HT.out.below Y11.out)
  replace HS := Lib.hid (HS.out.below Y11.out)
  replace HY := Lib.hid (HY.out.below Y11.out)
  have B11 := Lib.hid (B10.out.up Y11.out)
  clear Y11 B10
  go_wp2_with (fail)
  refine (Withdrawn_any _ _ _ [] [] [] _ IsWords.nil IsInts.nil IsInts.nil (by decide) (by decide) (by decide)).mono ?_
  rintro e w12 ⟨rfl, X12⟩
  rw [show wdN [] [] [] = 0 by decide +kernel, show wdE [] [] [] = 0 by decide +kernel]
  have Y12 := Lib.hid X12
  clear X12
  replace HT := Lib.hid (HT.out.below Y12.out)
  replace HS := Lib.hid (HS.out.below Y12.out)
  replace HY := Lib.hid (HY.out.below Y12.out)
  have B12 := Lib.hid (B11.out.up Y12.out)
  clear Y12 B11
  go_wp2_with (fail)
  refine (sameInts_any _ _ [5, 5] [5, 5] _ (HS.out.below (al1 _ _)) (ints_lit' w12 [5, 5] 2 _ rfl rfl) (by decide) (by decide)).mono ?_
  rintro e w13 ⟨rfl, m13, h13⟩
  rw [show decide (([5, 5] : List Int) = [5, 5]) = true by decide +kernel]
  have Y13 : Hid (Below w12.heap.size w12 w13) := by rw [h13]; exact below_drewN (al1 w12 _) m13
  clear h13
  replace HT := Lib.hid (HT.out.below Y13.out)
  replace HY := Lib.hid (HY.out.below Y13.out)
  have B13 := Lib.hid (B12.out.up Y13.out)
  clear Y13 B12 HS
  go_wp2_with (fail)
  refine (sameInts_any _ _ [1, 1] [1, 1] _ (HY.out.below (al1 _ _)) (ints_lit' w13 [1, 1] 2 _ rfl rfl) (by decide) (by decide)).mono ?_
  rintro e w14 ⟨rfl, m14, h14⟩
  rw [show decide (([1, 1] : List Int) = [1, 1]) = true by decide +kernel]
  have Y14 : Hid (Below w13.heap.size w13 w14) := by rw [h14]; exact below_drewN (al1 w13 _) m14
  clear h14
  replace HT := Lib.hid (HT.out.below Y14.out)
  have B14 := Lib.hid (B13.out.up Y14.out)
  clear Y14 B13 HY
  go_wp2_with (fail)
  refine (Check_any _ _ [[]] [5] _ ((words_one w14 _ _ IsLives.nil).below (al1 _ _)) (lit2 w14 _ [5] 1 _ rfl rfl) (by decide) (by decide)).mono ?_
  rintro e w15 ⟨rfl, X15⟩
  rw [show Pl.err [[]] [5] = 500 by decide +kernel]
  have Y15 := Lib.hid ((al2 w14 _ _).up X15)
  clear X15
  replace HT := Lib.hid (HT.out.below Y15.out)
  have B15 := Lib.hid (B14.out.up Y15.out)
  clear Y15 B14
  go_wp2_with (fail)
  refine (Check_any _ _ twoL [9, 5] _ (HT.out.below (al1 _ _)) (ints_lit' w15 [9, 5] 2 _ rfl rfl) (by decide) (by decide)).mono ?_
  rintro e w16 ⟨rfl, X16⟩
  rw [show Pl.err twoL [9, 5] = 0 by decide +kernel]
  have Y16 := Lib.hid ((al1 w15 _).up X16)
  clear X16
  have B16 := Lib.hid (B15.out.up Y16.out)
  clear Y16 B15 HT
  go_wp2_with (fail)
  go_ret
  exact ⟨rfl, B16.out⟩

end Go.Proofs.Ytofllhbcediafaa
