/- Walks of the statements' examples of layer 36. -/
import Derived.Test.YtninnpcggeofmaaPlain3
namespace Go.Proofs.Ytninnpcggeofmaa
open Go.RowKit
set_option linter.unusedVariables false
set_option linter.unusedSimpArgs false
attribute [local go_sem] frozen_new

def aboutH (no kind ms : Int) : Hh := ⟨no, kind, -1, 0, 1099511627776, -1, 0, 1099511627776, 0, ms⟩
theorem about_any (no kind ms : Int) (w : World) : Calls Try.prog 49 #[.int .i64 no, .int .i64 kind, .int .i64 ms] w fun e w' => e = .returned (vH (aboutH no kind ms)) ∧ Below w.heap.size w w' := by
  go_enter Try.func49, Try.ntmps49
  go_wp2_with (fail)
  refine ⟨rfl, vH (aboutH no kind ms), by simp [results, Try.results49, go_sem, vH, aboutH], rfl, al1 w _⟩
theorem hs_lit (w : World) (l : List Hh) (n : Nat) (cs : Array Value) (hn : n = l.length) (hc : cs = (l.flatMap encH).toArray) : IsHs (w.alloc (.cells cs 24)) (.slice (some ⟨w.heap.size, 0, none⟩) n n) l := by
  subst hn hc
  refine ⟨_, _, rfl, fun _ => ⟨_, _, rfl, by simp, fun i hi => ?_⟩⟩
  have := cell_of_row (w.alloc (.cells (l.flatMap encH).toArray 24)) w.heap.size i (l.flatMap encH).toArray 24 (0, 0) (heap_alloc_new w _)
  rw [Nat.zero_add, this]
  simp [hi]
theorem Verdict_is {l : List Hh} {q : Hh.Qq} {a b c : Int} (v : Value) (w : World) (hx : (Hh.ver l q).v = a ∧ (Hh.ver l q).no = b ∧ (Hh.ver l q).e = c) (hv : IsHs w v l) (hl : l.length ≤ 9223372036854775807) : Calls Try.prog 30 #[v, .int .i64 q.spk, .int .i64 q.beg, .int .i64 q.lang, .int .i64 q.at_, .int .i64 q.known] w fun e w' => e = .returned (.tuple #[.int .i64 a, .int .i64 b, .int .i64 c]) ∧ Below w.heap.size w w' := by
  obtain ⟨rfl, rfl, rfl⟩ := hx; exact Verdict_any v l q w hv hl
theorem is_any (at_ a b : Int) (v : Value) (l : List Hh) (w : World) (hx : (Hh.ver l ⟨1, 10, 2, at_, 0⟩).v = a ∧ (Hh.ver l ⟨1, 10, 2, at_, 0⟩).no = b ∧ (Hh.ver l ⟨1, 10, 2, at_, 0⟩).e = 0) (hv : IsHs w v l) (hl : l.length ≤ 9223372036854775807) :
    Calls Try.prog 48 #[.int .i64 at_, .int .i64 a, .int .i64 b, v] w (BPost true w) := by
  have HC := Lib.hid (Verdict_is v w hx hv hl)
  obtain ⟨A, c, rfl, _⟩ := hv
  clear hx
  go_enter Try.func48, Try.ntmps48
  go_wp2_with (fail)
  refine HC.out.mono ?_
  rintro e w1 ⟨rfl, hb1⟩
  have h1 : (a == a) = true := by simp
  have h2 : (b == b) = true := by simp
  go_wp2_with (fail)
  go_ret
  exact ⟨rfl, hb1⟩
theorem about_lit (no kind ms : Int) (w : World) : Calls Try.prog 49 #[.int .i64 no, .int .i64 kind, .int .i64 ms] w fun e w' => e = .returned (.agg #[.int .i64 no, .int .i64 kind, .int .i64 (-1), .int .i64 0, .int .i64 1099511627776, .int .i64 (-1), .int .i64 0, .int .i64 1099511627776, .int .i64 0, .int .i64 ms]) ∧ Below w.heap.size w w' := about_any no kind ms w
def q3 : List Hh := [aboutH 2 2 0, aboutH 4 4 0, aboutH 9 3 100]
theorem v_a : (Hh.ver [] ⟨64, 0, 0, 0, 0⟩).v = 0 ∧ (Hh.ver [] ⟨64, 0, 0, 0, 0⟩).no = 0 ∧ (Hh.ver [] ⟨64, 0, 0, 0, 0⟩).e = 1 := by decide +kernel
theorem v_b : (Hh.ver [⟨0, 0, 0, 0, 0, 0, 0, 0, 0, 0⟩] ⟨64, 0, 0, 0, 0⟩).v = 0 ∧ (Hh.ver [⟨0, 0, 0, 0, 0, 0, 0, 0, 0, 0⟩] ⟨64, 0, 0, 0, 0⟩).no = 0 ∧ (Hh.ver [⟨0, 0, 0, 0, 0, 0, 0, 0, 0, 0⟩] ⟨64, 0, 0, 0, 0⟩).e = 350 := by decide +kernel

theorem qcells {X : World} {n : Nat} (h : X.heap[n]? = some (.cells (q3.flatMap encH).toArray 24 (0, 0))) : X.cell? ⟨n, 0, none⟩ = some (.int .i64 2) ∧ X.cell? ⟨n, 1, none⟩ = some (.int .i64 2) ∧ X.cell? ⟨n, 2, none⟩ = some (.int .i64 (-1)) ∧ X.cell? ⟨n, 3, none⟩ = some (.int .i64 0) ∧ X.cell? ⟨n, 4, none⟩ = some (.int .i64 1099511627776) ∧ X.cell? ⟨n, 5, none⟩ = some (.int .i64 (-1)) ∧ X.cell? ⟨n, 6, none⟩ = some (.int .i64 0) ∧ X.cell? ⟨n, 7, none⟩ = some (.int .i64 1099511627776) ∧ X.cell? ⟨n, 8, none⟩ = some (.int .i64 0) ∧ X.cell? ⟨n, 9, none⟩ = some (.int .i64 0) ∧ X.cell? ⟨n, 20, none⟩ = some (.int .i64 9) ∧ X.cell? ⟨n, 21, none⟩ = some (.int .i64 3) ∧ X.cell? ⟨n, 22, none⟩ = some (.int .i64 (-1)) ∧ X.cell? ⟨n, 23, none⟩ = some (.int .i64 0) ∧ X.cell? ⟨n, 24, none⟩ = some (.int .i64 1099511627776) ∧ X.cell? ⟨n, 25, none⟩ = some (.int .i64 (-1)) ∧ X.cell? ⟨n, 26, none⟩ = some (.int .i64 0) ∧ X.cell? ⟨n, 27, none⟩ = some (.int .i64 1099511627776) ∧ X.cell? ⟨n, 28, none⟩ = some (.int .i64 0) ∧ X.cell? ⟨n, 29, none⟩ = some (.int .i64 100) := by
  refine ⟨?_, ?_, ?_, ?_, ?_, ?_, ?_, ?_, ?_, ?_, ?_, ?_, ?_, ?_, ?_, ?_, ?_, ?_, ?_, ?_⟩ <;> (simp only [World.cell?, h]; rfl)

theorem lit_d (X : World) : IsHs (X.alloc (.cells #[.int .i64 7, .int .i64 2, .int .i64 (-1), .int .i64 0, .int .i64 1099511627776, .int .i64 (-1), .int .i64 0, .int .i64 1099511627776, .int .i64 0, .int .i64 0, .int .i64 8, .int .i64 1, .int .i64 (-1), .int .i64 0, .int .i64 1099511627776, .int .i64 (-1), .int .i64 0, .int .i64 1099511627776, .int .i64 0, .int .i64 0] 24)) (.slice (some ⟨X.heap.size, 0, none⟩) 2 2) [aboutH 7 2 0, aboutH 8 1 0] := hs_lit X _ 2 _ rfl rfl
theorem lit_g (X : World) : IsHs (X.alloc (.cells #[.int .i64 2, .int .i64 2, .int .i64 (-1), .int .i64 0, .int .i64 1099511627776, .int .i64 (-1), .int .i64 0, .int .i64 1099511627776, .int .i64 0, .int .i64 0, .int .i64 9, .int .i64 3, .int .i64 (-1), .int .i64 0, .int .i64 1099511627776, .int .i64 (-1), .int .i64 0, .int .i64 1099511627776, .int .i64 0, .int .i64 100] 24)) (.slice (some ⟨X.heap.size, 0, none⟩) 2 2) [aboutH 2 2 0, aboutH 9 3 100] := hs_lit X _ 2 _ rfl rfl
theorem two_le : ([aboutH 7 2 0, aboutH 8 1 0] : List Hh).length ≤ 9223372036854775807 := by decide
theorem two_le' : ([aboutH 2 2 0, aboutH 9 3 100] : List Hh).length ≤ 9223372036854775807 := by decide
theorem three_le : q3.length ≤ 9223372036854775807 := by decide

theorem s_a : (Hh.ver [] ⟨1, 10, 2, 50, 0⟩).v = 0 ∧ (Hh.ver [] ⟨1, 10, 2, 50, 0⟩).no = -1 ∧ (Hh.ver [] ⟨1, 10, 2, 50, 0⟩).e = 0 := by decide +kernel
theorem s_b : (Hh.ver [aboutH 3 1 0, aboutH 5 5 0] ⟨1, 10, 2, 50, 0⟩).v = 0 ∧ (Hh.ver [aboutH 3 1 0, aboutH 5 5 0] ⟨1, 10, 2, 50, 0⟩).no = -1 ∧ (Hh.ver [aboutH 3 1 0, aboutH 5 5 0] ⟨1, 10, 2, 50, 0⟩).e = 0 := by decide +kernel
theorem s_c : (Hh.ver [aboutH 3 5 0, aboutH 5 1 0] ⟨1, 10, 2, 50, 0⟩).v = 2 ∧ (Hh.ver [aboutH 3 5 0, aboutH 5 1 0] ⟨1, 10, 2, 50, 0⟩).no = 5 ∧ (Hh.ver [aboutH 3 5 0, aboutH 5 1 0] ⟨1, 10, 2, 50, 0⟩).e = 0 := by decide +kernel
theorem s_d : (Hh.ver [aboutH 7 2 0, aboutH 8 1 0] ⟨1, 10, 2, 50, 0⟩).v = 2 ∧ (Hh.ver [aboutH 7 2 0, aboutH 8 1 0] ⟨1, 10, 2, 50, 0⟩).no = 8 ∧ (Hh.ver [aboutH 7 2 0, aboutH 8 1 0] ⟨1, 10, 2, 50, 0⟩).e = 0 := by decide +kernel
theorem s_e : (Hh.ver q3 ⟨1, 10, 2, 109, 0⟩).v = 1 ∧ (Hh.ver q3 ⟨1, 10, 2, 109, 0⟩).no = 9 ∧ (Hh.ver q3 ⟨1, 10, 2, 109, 0⟩).e = 0 := by decide +kernel
theorem s_f : (Hh.ver q3 ⟨1, 10, 2, 110, 0⟩).v = 0 ∧ (Hh.ver q3 ⟨1, 10, 2, 110, 0⟩).no = -1 ∧ (Hh.ver q3 ⟨1, 10, 2, 110, 0⟩).e = 0 := by decide +kernel
theorem s_g : (Hh.ver [aboutH 2 2 0, aboutH 9 3 100] ⟨1, 10, 2, 50, 0⟩).v = 2 ∧ (Hh.ver [aboutH 2 2 0, aboutH 9 3 100] ⟨1, 10, 2, 50, 0⟩).no = 2 ∧ (Hh.ver [aboutH 2 2 0, aboutH 9 3 100] ⟨1, 10, 2, 50, 0⟩).e = 0 := by decide +kernel

set_option maxHeartbeats 8000000 in
set_option maxRecDepth 100000 in
theorem sane36_any (w : World) : Calls Try.prog 29 #[] w (BPost true w) := by
  go_enter Try.func29, Try.ntmps29
  go_wp2_with (fail)
  refine (Verdict_is _ w v_a IsHs.nil (by decide)).mono ?_
  rintro e w1 ⟨rfl, b1⟩
  have B1 := Lib.hid b1
  clear b1
  go_wp2_with (fail)
  refine (Verdict_is _ _ v_b (hs_lit w1 [⟨0, 0, 0, 0, 0, 0, 0, 0, 0, 0⟩] 1 _ rfl rfl) (by decide)).mono ?_
  rintro e w2 ⟨rfl, b2⟩
  have B2 := Lib.hid ((B1.out.up (al1 _ _)).up b2)
  clear b2 B1
  go_wp2_with (fail)
  refine (is_any 50 0 (-1) _ [] w2 s_a IsHs.nil (by decide)).mono ?_
  rintro e w3 ⟨rfl, b3⟩
  have B3 := Lib.hid (B2.out.up b3)
  clear b3 B2
  go_wp2_with (fail)
  refine (about_any 3 1 0 w3).mono ?_
  rintro e w4 ⟨rfl, b4⟩
  have B4 := Lib.hid (B3.out.up b4)
  clear b4 B3
  go_wp2_with (fail)
  refine (about_any 5 5 0 w4).mono ?_
  rintro e w5 ⟨rfl, b5⟩
  have B5 := Lib.hid (B4.out.up b5)
  clear b5 B4
  simp only [vH, aboutH]
  go_wp2_with (fail)
  refine (is_any 50 0 (-1) _ _ _ s_b (hs_lit w5 [aboutH 3 1 0, aboutH 5 5 0] 2 _ rfl rfl) (by decide)).mono ?_
  rintro e w6 ⟨rfl, b6⟩
  have B6 := Lib.hid ((B5.out.up (al1 _ _)).up b6)
  clear b6 B5
  go_wp2_with (fail)
  refine (about_any 3 5 0 w6).mono ?_
  rintro e w7 ⟨rfl, b7⟩
  have B7 := Lib.hid (B6.out.up b7)
  clear b7 B6
  go_wp2_with (fail)
  refine (about_any 5 1 0 w7).mono ?_
  rintro e w8 ⟨rfl, b8⟩
  have B8 := Lib.hid (B7.out.up b8)
  clear b8 B7
  simp only [vH, aboutH]
  go_wp2_with (fail)
  refine (is_any 50 2 5 _ _ _ s_c (hs_lit w8 [aboutH 3 5 0, aboutH 5 1 0] 2 _ rfl rfl) (by decide)).mono ?_
  rintro e w9 ⟨rfl, b9⟩
  have B9 := Lib.hid ((B8.out.up (al1 _ _)).up b9)
  clear b9 B8
  go_wp2_with (fail)
  refine (about_any 2 2 0 w9).mono ?_
  rintro e w10 ⟨rfl, b10⟩
  have B10 := Lib.hid (B9.out.up b10)
  clear b10 B9
  go_wp2_with (fail)
  refine (about_any 4 4 0 w10).mono ?_
  rintro e w11 ⟨rfl, b11⟩
  have B11 := Lib.hid (B10.out.up b11)
  clear b11 B10
  go_wp2_with (fail)
  refine (about_any 9 3 100 w11).mono ?_
  rintro e w12 ⟨rfl, b12⟩
  have B12 := Lib.hid (B11.out.up b12)
  clear b12 B11
  simp only [vH, aboutH]
  go_wp2_with (fail)
  have HB := Lib.hid (B12.out.up (al1 w12 (.cells (q3.flatMap encH).toArray 24)))
  have HIS := Lib.hid (hs_lit w12 q3 3 _ rfl rfl)
  obtain ⟨n, hn⟩ : ∃ n, w12.heap.size = n := ⟨_, rfl⟩
  obtain ⟨W, hW⟩ : ∃ W, w12.alloc (.cells (q3.flatMap encH).toArray 24) = W := ⟨_, rfl⟩
  have hWb : W.heap[n]? = some (.cells (q3.flatMap encH).toArray 24 (0, 0)) := by rw [← hW, ← hn]; exact World.alloc_heap_new _ _
  rw [hW] at HB HIS
  rw [hn] at HIS
  have KS := Lib.hid (fun (X : World) (hb : Below W.heap.size W X) => qcells (n := n) ((hb.block n (Array.getElem?_eq_some_iff.1 hWb).1).trans hWb))
  change Code.wp _ _ _ _ (w12.alloc (.cells (q3.flatMap encH).toArray 24))
  rw [hW]
  try rw [hn]
  clear hW hn hWb B12
  go_region_held3 (fun X => X.cell? ⟨n, 0, none⟩ = some (.int .i64 2) ∧ X.cell? ⟨n, 1, none⟩ = some (.int .i64 2) ∧ X.cell? ⟨n, 2, none⟩ = some (.int .i64 (-1)) ∧ X.cell? ⟨n, 3, none⟩ = some (.int .i64 0) ∧ X.cell? ⟨n, 4, none⟩ = some (.int .i64 1099511627776) ∧ X.cell? ⟨n, 5, none⟩ = some (.int .i64 (-1)) ∧ X.cell? ⟨n, 6, none⟩ = some (.int .i64 0) ∧ X.cell? ⟨n, 7, none⟩ = some (.int .i64 1099511627776) ∧ X.cell? ⟨n, 8, none⟩ = some (.int .i64 0) ∧ X.cell? ⟨n, 9, none⟩ = some (.int .i64 0) ∧ X.cell? ⟨n, 20, none⟩ = some (.int .i64 9) ∧ X.cell? ⟨n, 21, none⟩ = some (.int .i64 3) ∧ X.cell? ⟨n, 22, none⟩ = some (.int .i64 (-1)) ∧ X.cell? ⟨n, 23, none⟩ = some (.int .i64 0) ∧ X.cell? ⟨n, 24, none⟩ = some (.int .i64 1099511627776) ∧ X.cell? ⟨n, 25, none⟩ = some (.int .i64 (-1)) ∧ X.cell? ⟨n, 26, none⟩ = some (.int .i64 0) ∧ X.cell? ⟨n, 27, none⟩ = some (.int .i64 1099511627776) ∧ X.cell? ⟨n, 28, none⟩ = some (.int .i64 0) ∧ X.cell? ⟨n, 29, none⟩ = some (.int .i64 100))
    (first
      | exact KS.out _ (below_drewN (Below.refl _ _) 1)
      | exact KS.out _ HA1.out
      | exact KS.out _ HA2.out
      | exact KS.out _ (HA2.out.up (al1 _ _))
      | exact KS.out _ HA3.out
      | exact KS.out _ HA4.out
      | exact KS.out _ HA5.out
      | exact KS.out _ (HA5.out.up (al1 _ _))
      | exact KS.out _ HA6.out)
    (first
      | (go_at_call 49
         with_reducible refine (about_lit 7 2 0 _).mono ?_
         rintro e X1 ⟨rfl, hb1⟩
         have HA1 := Lib.hid ((below_drewN (Below.refl _ _) 1 : Below W.heap.size W W.drew).up hb1)
         clear hb1)
      | (go_at_call 49
         with_reducible refine (about_lit 8 1 0 _).mono ?_
         rintro e X2 ⟨rfl, hb2⟩
         have HA2 := Lib.hid (HA1.out.up hb2)
         clear hb2)
      | (go_at_call 48
         with_reducible refine (is_any 50 2 8 _ _ _ s_d (lit_d _) two_le).mono ?_
         rintro e X3 ⟨rfl, hb3⟩
         have HA3 := Lib.hid ((HA2.out.up (al1 _ _)).up hb3)
         clear hb3)
      | (go_at_call 48
         with_reducible refine (is_any 109 1 9 _ q3 _ s_e (HIS.out.upb HA3.out) three_le).mono ?_
         rintro e X4 ⟨rfl, hb4⟩
         have HA4 := Lib.hid (HA3.out.up hb4)
         clear hb4)
      | (go_at_call 48
         with_reducible refine (is_any 110 0 (-1) _ q3 _ s_f (HIS.out.upb HA4.out) three_le).mono ?_
         rintro e X5 ⟨rfl, hb5⟩
         have HA5 := Lib.hid (HA4.out.up hb5)
         clear hb5)
      | (go_at_call 48
         with_reducible refine (is_any 50 2 2 _ _ _ s_g (lit_g _) two_le').mono ?_
         rintro e X6 ⟨rfl, hb6⟩
         have HA6 := Lib.hid ((HA5.out.up (al1 _ _)).up hb6)
         clear hb6))
  all_goals
    go_wp2_with (fail)
    go_ret
    exact ⟨rfl, HB.out.up HA6.out⟩

end Go.Proofs.Ytninnpcggeofmaa
