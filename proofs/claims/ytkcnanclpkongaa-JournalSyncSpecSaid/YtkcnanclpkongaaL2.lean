/- Walk of JournalAppendSpec. -/
import Derived.Test.YtkcnanclpkongaaJ20
import Derived.Test.YtkcnanclpkongaaJG
namespace Go.Proofs.Ytkcnanclpkongaa
open Go.RowKit
set_option linter.unusedVariables false
set_option linter.unusedSimpArgs false
set_option maxRecDepth 20000

theorem JAppendI_is {v u : Value} {j r : Jl} {b : By} {w : World} {e0 : Int} {n : Nat} {m s : Int} (hv : IsJ w v j) (hsm : j.rs.length ≤ 5864062014634) (hu : IsBytes w u b) (hbl : Jn.fits j b → b.length ≤ 100000000) (he : Jn.apE j b = e0) (hj : Jn.apJ j b = r) (hn : r.rs.length = n) (hm : r.many = m) (hs : r.syn = s) :
    Calls Try.prog 15 #[v, u] w fun e w' => ∃ A c, e = .returned (.tuple #[.agg #[.slice A n c, .int .i64 m, .int .i64 s], .int .i64 e0]) ∧ IsJ w' (.agg #[.slice A n c, .int .i64 m, .int .i64 s]) r ∧ Below w.heap.size w w' ∧ NJ w.heap.size (.agg #[.slice A n c, .int .i64 m, .int .i64 s]) := by
  subst he hj hn hm hs
  refine (JAppendI_any hv hsm hu hbl).mono ?_
  rintro e w' ⟨x, rfl, hx, hb, hn⟩
  obtain ⟨A, c, rfl, _⟩ := hx.open_
  exact ⟨A, c, rfl, hx, hb, hn⟩
theorem JrefAppendI_is {v u : Value} {j r : Jl} {b : By} {w : World} {e0 : Int} {n : Nat} {m s : Int} (hv : IsJ w v j) (hsm : j.rs.length ≤ 5864062014634) (hu : IsBytes w u b) (hbl : Jn.fits j b → b.length ≤ 100000000) (he : Jn.apE j b = e0) (hj : Jn.apJ j b = r) (hn : r.rs.length = n) (hm : r.many = m) (hs : r.syn = s) :
    Calls Try.prog 16 #[v, u] w fun e w' => ∃ A c, e = .returned (.tuple #[.agg #[.slice A n c, .int .i64 m, .int .i64 s], .int .i64 e0]) ∧ IsJ w' (.agg #[.slice A n c, .int .i64 m, .int .i64 s]) r ∧ Below w.heap.size w w' ∧ NJ w.heap.size (.agg #[.slice A n c, .int .i64 m, .int .i64 s]) := by
  subst he hj hn hm hs
  refine (JrefAppendI_any hv hsm hu hbl).mono ?_
  rintro e w' ⟨x, rfl, hx, hb, hn⟩
  obtain ⟨A, c, rfl, _⟩ := hx.open_
  exact ⟨A, c, rfl, hx, hb, hn⟩
theorem apJ_len {j : Jl} {b : By} (h : j.rs.length ≤ 5864062014634) : (Jn.apJ j b).rs.length ≤ 9223372036854775806 := by
  unfold Jn.apJ
  split
  · split
    · show (j.rs ++ [b]).length ≤ _
      simp; omega
    · exact Nat.zero_le _
  · exact Nat.zero_le _
set_option maxHeartbeats 8000000 in
set_option maxRecDepth 100000 in
theorem JournalAppendSpec_any {v u : Value} {j : Jl} {b : By} {w : World} (hv : IsJ w v j) (hl : j.rs.length ≤ 5864062014634) (hu : IsBytes w u b) :
    Calls Try.prog 4 #[v, u] w fun e w' => e = .returned (.bool true) ∧ Below w.heap.size w w' := by
  obtain ⟨A, c, rfl, hbs⟩ := hv.open_
  obtain ⟨Au, cu, rfl, _⟩ := id hu
  obtain ⟨r, hr⟩ : ∃ r, Jn.apJ j b = r := ⟨_, rfl⟩
  obtain ⟨e0, he⟩ : ∃ r, Jn.apE j b = r := ⟨_, rfl⟩
  obtain ⟨k0, hk⟩ : ∃ r, Jn.chkI j = r := ⟨_, rfl⟩
  obtain ⟨m0, hm⟩ : ∃ r, Jn.rmI j = r := ⟨_, rfl⟩
  have HR := Lib.hid hr
  have HE := Lib.hid he
  have HK := Lib.hid hk
  have HM := Lib.hid hm
  have HJL := Lib.hid (show r.rs.length ≤ 9223372036854775806 by rw [← hr]; exact apJ_len hl)
  have HL := Lib.hid hl
  have HL2 := Lib.hid (show j.rs.length ≤ 9223372036854775807 by omega)
  clear hr he hk hm hl
  have HW := Lib.hid (Bl.mk (Below.refl w.heap.size w))
  have F := Lib.hid hv
  have FB := Lib.hid hbs
  have U := Lib.hid hu
  clear hv hbs hu
  go_enter Try.func4, Try.ntmps4
  go_wp2_with (fail)
  replace HW := Lib.hid (HW.out.upb (al1 (w) (.cells #[.slice A j.rs.length c, .int .i64 j.many, .int .i64 j.syn] 29)))
  replace F := Lib.hid (F.out.upb (al1 (w) (.cells #[.slice A j.rs.length c, .int .i64 j.many, .int .i64 j.syn] 29)))
  replace FB := Lib.hid (FB.out.upb (al1 (w) (.cells #[.slice A j.rs.length c, .int .i64 j.many, .int .i64 j.syn] 29)))
  replace U := Lib.hid (U.out.upb (al1 (w) (.cells #[.slice A j.rs.length c, .int .i64 j.many, .int .i64 j.syn] 29)))
  have Z := Lib.hid (Cells.new (w) 29 [.slice A j.rs.length c, .int .i64 j.many, .int .i64 j.syn])
  refine (sane_any _).mono ?_
  rintro e w1 ⟨rfl, hb⟩
  replace HW := Lib.hid (HW.out.upb hb)
  replace F := Lib.hid (F.out.upb hb)
  replace FB := Lib.hid (FB.out.upb hb)
  replace U := Lib.hid (U.out.upb hb)
  replace Z := Lib.hid (Z.out.upb hb)
  clear hb
  have Zl := Z.out.lt
  have Zc0 := Z.out.cell (k := 0) rfl
  have Zc1 := Z.out.cell (k := 1) rfl
  have Zc2 := Z.out.cell (k := 2) rfl
  go_wp2_with (fail)
  refine (few_any IsD.zero FB.out HL2.out (by decide) (by decide)).mono ?_
  rintro e w2 ⟨rfl, hb⟩
  replace HW := Lib.hid (HW.out.upb hb)
  replace F := Lib.hid (F.out.upb hb)
  replace FB := Lib.hid (FB.out.upb hb)
  replace U := Lib.hid (U.out.upb hb)
  replace Z := Lib.hid (Z.out.upb hb)
  clear hb
  clear Zl Zc0 Zc1 Zc2
  have Zl := Z.out.lt
  have Zc0 := Z.out.cell (k := 0) rfl
  have Zc1 := Z.out.cell (k := 1) rfl
  have Zc2 := Z.out.cell (k := 2) rfl
  obtain ⟨fb, hfb⟩ : ∃ b, Jn.fewB d0 j.rs = b := ⟨_, rfl⟩
  rw [hfb]
  clear hfb
  cases fb
  case false =>
    go_wp2_with (fail)
    go_ret
    exact ⟨rfl, HW.out.b⟩
  case true =>
  by_cases hbig : 70000 < b.length
  case pos =>
    have hd : decide ((70000 : Int) < (b.length : Int)) = true := decide_eq_true (by omega)
    have hd2 : decide (70000 < b.length) = true := decide_eq_true hbig
    go_wp2_with (fail)
    go_ret
    exact ⟨rfl, HW.out.b⟩
  case neg =>
  have hd : decide ((70000 : Int) < (b.length : Int)) = false := decide_eq_false (by omega)
  have hd2 : decide (70000 < b.length) = false := decide_eq_false hbig
  have HBL := Lib.hid (show Jn.fits j b → b.length ≤ 100000000 from fun _ => by omega)
  clear hbig
  go_wp2_with (fail)
  refine (JAppendI_is F.out HL.out U.out HBL.out HE.out HR.out rfl rfl rfl).mono ?_
  rintro e w3 ⟨A5, c5, rfl, hj, hb, -⟩
  replace HW := Lib.hid (HW.out.upb hb)
  replace F := Lib.hid (F.out.upb hb)
  replace FB := Lib.hid (FB.out.upb hb)
  replace U := Lib.hid (U.out.upb hb)
  replace Z := Lib.hid (Z.out.upb hb)
  clear hb
  clear Zl Zc0 Zc1 Zc2
  have L5 := Lib.hid hj
  clear hj
  have Zl := Z.out.lt
  have Zc0 := Z.out.cell (k := 0) rfl
  have Zc1 := Z.out.cell (k := 1) rfl
  have Zc2 := Z.out.cell (k := 2) rfl
  go_wp2_with (fail)
  replace HW := Lib.hid (HW.out.upb (al1 (w3) (.cells #[.slice A5 r.rs.length c5, .int .i64 r.many, .int .i64 r.syn] 29)))
  replace F := Lib.hid (F.out.upb (al1 (w3) (.cells #[.slice A5 r.rs.length c5, .int .i64 r.many, .int .i64 r.syn] 29)))
  replace FB := Lib.hid (FB.out.upb (al1 (w3) (.cells #[.slice A5 r.rs.length c5, .int .i64 r.many, .int .i64 r.syn] 29)))
  replace U := Lib.hid (U.out.upb (al1 (w3) (.cells #[.slice A5 r.rs.length c5, .int .i64 r.many, .int .i64 r.syn] 29)))
  replace Z := Lib.hid (Z.out.upb (al1 (w3) (.cells #[.slice A5 r.rs.length c5, .int .i64 r.many, .int .i64 r.syn] 29)))
  replace L5 := Lib.hid (L5.out.upb (al1 (w3) (.cells #[.slice A5 r.rs.length c5, .int .i64 r.many, .int .i64 r.syn] 29)))
  have Z5 := Lib.hid (Cells.new (w3) 29 [.slice A5 r.rs.length c5, .int .i64 r.many, .int .i64 r.syn])
  clear Zl Zc0 Zc1 Zc2
  have Zl := Z.out.lt
  have Zc0 := Z.out.cell (k := 0) rfl
  have Zc1 := Z.out.cell (k := 1) rfl
  have Zc2 := Z.out.cell (k := 2) rfl
  have Z5l := Z5.out.lt
  have Z5c0 := Z5.out.cell (k := 0) rfl
  have Z5c1 := Z5.out.cell (k := 1) rfl
  have Z5c2 := Z5.out.cell (k := 2) rfl
  try go_wp2_with (fail)
  refine (JrefAppendI_is F.out HL.out U.out HBL.out HE.out HR.out rfl rfl rfl).mono ?_
  rintro e w4 ⟨A7, c7, rfl, hj, hb, -⟩
  replace HW := Lib.hid (HW.out.upb hb)
  replace F := Lib.hid (F.out.upb hb)
  replace FB := Lib.hid (FB.out.upb hb)
  replace U := Lib.hid (U.out.upb hb)
  replace Z := Lib.hid (Z.out.upb hb)
  replace L5 := Lib.hid (L5.out.upb hb)
  replace Z5 := Lib.hid (Z5.out.upb hb)
  clear hb
  clear Zl Zc0 Zc1 Zc2 Z5l Z5c0 Z5c1 Z5c2
  have L7 := Lib.hid hj
  clear hj
  have Zl := Z.out.lt
  have Zc0 := Z.out.cell (k := 0) rfl
  have Zc1 := Z.out.cell (k := 1) rfl
  have Zc2 := Z.out.cell (k := 2) rfl
  have Z5l := Z5.out.lt
  have Z5c0 := Z5.out.cell (k := 0) rfl
  have Z5c1 := Z5.out.cell (k := 1) rfl
  have Z5c2 := Z5.out.cell (k := 2) rfl
  go_wp2_with (fail)
  replace HW := Lib.hid (HW.out.upb (al1 (w4) (.cells #[.slice A7 r.rs.length c7, .int .i64 r.many, .int .i64 r.syn] 29)))
  replace F := Lib.hid (F.out.upb (al1 (w4) (.cells #[.slice A7 r.rs.length c7, .int .i64 r.many, .int .i64 r.syn] 29)))
  replace FB := Lib.hid (FB.out.upb (al1 (w4) (.cells #[.slice A7 r.rs.length c7, .int .i64 r.many, .int .i64 r.syn] 29)))
  replace U := Lib.hid (U.out.upb (al1 (w4) (.cells #[.slice A7 r.rs.length c7, .int .i64 r.many, .int .i64 r.syn] 29)))
  replace Z := Lib.hid (Z.out.upb (al1 (w4) (.cells #[.slice A7 r.rs.length c7, .int .i64 r.many, .int .i64 r.syn] 29)))
  replace L5 := Lib.hid (L5.out.upb (al1 (w4) (.cells #[.slice A7 r.rs.length c7, .int .i64 r.many, .int .i64 r.syn] 29)))
  replace Z5 := Lib.hid (Z5.out.upb (al1 (w4) (.cells #[.slice A7 r.rs.length c7, .int .i64 r.many, .int .i64 r.syn] 29)))
  replace L7 := Lib.hid (L7.out.upb (al1 (w4) (.cells #[.slice A7 r.rs.length c7, .int .i64 r.many, .int .i64 r.syn] 29)))
  have Z7 := Lib.hid (Cells.new (w4) 29 [.slice A7 r.rs.length c7, .int .i64 r.many, .int .i64 r.syn])
  clear Zl Zc0 Zc1 Zc2 Z5l Z5c0 Z5c1 Z5c2
  generalize (w4).alloc (.cells #[.slice A7 r.rs.length c7, .int .i64 r.many, .int .i64 r.syn] 29) = wq at *
  have Zl := Z.out.lt
  have Zc0 := Z.out.cell (k := 0) rfl
  have Zc1 := Z.out.cell (k := 1) rfl
  have Zc2 := Z.out.cell (k := 2) rfl
  have Z5l := Z5.out.lt
  have Z5c0 := Z5.out.cell (k := 0) rfl
  have Z5c1 := Z5.out.cell (k := 1) rfl
  have Z5c2 := Z5.out.cell (k := 2) rfl
  have Z7l := Z7.out.lt
  have Z7c0 := Z7.out.cell (k := 0) rfl
  have Z7c1 := Z7.out.cell (k := 1) rfl
  have Z7c2 := Z7.out.cell (k := 2) rfl
  have q0 := BW.cell Zc0
  have q1 := BW.cell Zc1
  have q2 := BW.cell Zc2
  have q3 := BW.cell Z5c0
  have q4 := BW.cell Z5c1
  have q5 := BW.cell Z5c2
  have q6 := BW.cell Z7c0
  have q7 := BW.cell Z7c1
  have q8 := BW.cell Z7c2
  refine wp_region_kept (by kernel_rfl) ?_
  repeat (go_big_quiet_step (first | (go_at_call 17; exact BW.call (JCheckI_is (F.out.upb (BW.h _)) HL2.out HK.out) (fun _ _ h => h)) | (go_at_call 18; exact BW.call (JrefCheckI_is (F.out.upb (BW.h _)) HL2.out HK.out) (fun _ _ h => h)) | (go_at_call 19; exact BW.call (RoomI_is (F.out.upb (BW.h _)) HL2.out HM.out) (fun _ _ h => h)) | (go_at_call 20; exact BW.call (refRoomI_is (F.out.upb (BW.h _)) HL2.out HM.out) (fun _ _ h => h)) | (go_at_call 14; exact BW.call (JSameI_is (L5.out.upb (BW.h _)) (L7.out.upb (BW.h _)) HJL.out (decide_eq_true rfl)) (fun _ _ h => h))))
  rintro _ ⟨nq, rfl⟩
  go_wp2_with (fail)
  go_ret
  exact ⟨rfl, HW.out.b.up nq.h⟩
end Go.Proofs.Ytkcnanclpkongaa
