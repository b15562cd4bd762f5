/- Walk of JournalOpenSpec. -/
import Derived.Test.YtkcnanclpkongaaJ20
namespace Go.Proofs.Ytkcnanclpkongaa
open Go.RowKit
set_option linter.unusedVariables false
set_option linter.unusedSimpArgs false
set_option maxRecDepth 20000

theorem openJ_len (d : Dk) : (Jn.openJ d).rs.length ≤ 1000000 := by
  unfold Jn.openJ
  split
  · rename_i h
    have h1 := recs_count (s128_ok h.1)
    have h2 := h.1.n2
    show (Jn.Records d.ss).length ≤ 1000000
    omega
  · show ([] : List By).length ≤ 1000000
    simp
theorem refOpen_is {v : Value} {d : Dk} {w : World} {e0 : Int} {j : Jl} {n : Nat} {m s : Int} (hv : IsD w v d) (he : Jn.openE d = e0) (hj : Jn.openJ d = j) (hn : j.rs.length = n) (hm : j.many = m) (hs : j.syn = s) :
    Calls Try.prog 13 #[v] w fun e w' => ∃ A c, e = .returned (.tuple #[.agg #[.slice A n c, .int .i64 m, .int .i64 s], .int .i64 e0]) ∧ IsJ w' (.agg #[.slice A n c, .int .i64 m, .int .i64 s]) j ∧ Below w.heap.size w w' ∧ NJ w.heap.size (.agg #[.slice A n c, .int .i64 m, .int .i64 s]) := by
  subst he hj hn hm hs
  refine (refOpen_any hv).mono ?_
  rintro e w' ⟨x, rfl, hx, hb, hn⟩
  obtain ⟨A, c, rfl, _⟩ := hx.open_
  exact ⟨A, c, rfl, hx, hb, hn⟩
set_option maxHeartbeats 8000000 in
set_option maxRecDepth 100000 in
theorem JournalOpenSpec_any {v : Value} {d : Dk} {w : World} (hv : IsD w v d) (hl1 : d.ss.length ≤ 9223372036854775807) (hl2 : d.ps.length ≤ 9223372036854775807) :
    Calls Try.prog 3 #[v] w fun e w' => e = .returned (.bool true) ∧ Below w.heap.size w w' := by
  obtain ⟨A, c, A2, c2, rfl, _⟩ := hv.open_
  obtain ⟨j, hj⟩ : ∃ j, Jn.openJ d = j := ⟨_, rfl⟩
  obtain ⟨e0, he⟩ : ∃ j, Jn.openE d = j := ⟨_, rfl⟩
  have HJ := Lib.hid hj
  have HE := Lib.hid he
  have HJL := Lib.hid (show j.rs.length ≤ 1000000 by rw [← hj]; exact openJ_len d)
  clear hj he
  have HW := Lib.hid (Bl.mk (Below.refl w.heap.size w))
  have F := Lib.hid hv
  clear hv
  go_enter Try.func3, Try.ntmps3
  go_wp2_with (fail)
  replace HW := Lib.hid (HW.out.upb (al1 (w) (.cells #[.slice A d.ss.length c, .slice A2 d.ps.length c2, .int .i64 d.left, .bool d.st] 25)))
  replace F := Lib.hid (F.out.upb (al1 (w) (.cells #[.slice A d.ss.length c, .slice A2 d.ps.length c2, .int .i64 d.left, .bool d.st] 25)))
  have Z := Lib.hid (Cells.new (w) 25 [.slice A d.ss.length c, .slice A2 d.ps.length c2, .int .i64 d.left, .bool d.st])
  refine (sane_any _).mono ?_
  rintro e w1 ⟨rfl, hb⟩
  replace HW := Lib.hid (HW.out.upb hb)
  replace F := Lib.hid (F.out.upb hb)
  replace Z := Lib.hid (Z.out.upb hb)
  clear hb
  have Zl := Z.out.lt
  have Zc0 := Z.out.cell (k := 0) rfl
  have Zc1 := Z.out.cell (k := 1) rfl
  have Zc2 := Z.out.cell (k := 2) rfl
  have Zc3 := Z.out.cell (k := 3) rfl
  go_wp2_with (fail)
  refine (few_any F.out (IsBs.nil) (by simp) hl1 hl2).mono ?_
  rintro e w2 ⟨rfl, hb⟩
  replace HW := Lib.hid (HW.out.upb hb)
  replace F := Lib.hid (F.out.upb hb)
  replace Z := Lib.hid (Z.out.upb hb)
  clear hb
  clear Zl Zc0 Zc1 Zc2 Zc3
  have Zl := Z.out.lt
  have Zc0 := Z.out.cell (k := 0) rfl
  have Zc1 := Z.out.cell (k := 1) rfl
  have Zc2 := Z.out.cell (k := 2) rfl
  have Zc3 := Z.out.cell (k := 3) rfl
  obtain ⟨fb, hfb⟩ : ∃ b, Jn.fewB d [] = b := ⟨_, rfl⟩
  rw [hfb]
  clear hfb
  cases fb
  case false =>
    go_wp2_with (fail)
    go_ret
    exact ⟨rfl, HW.out.b⟩
  case true =>
  go_wp2_with (fail)
  refine (Open_is F.out HE.out HJ.out rfl rfl rfl).mono ?_
  rintro e w3 ⟨A3, c3, rfl, hj, hb, -⟩
  replace HW := Lib.hid (HW.out.upb hb)
  replace F := Lib.hid (F.out.upb hb)
  replace Z := Lib.hid (Z.out.upb hb)
  clear hb
  clear Zl Zc0 Zc1 Zc2 Zc3
  have L3 := Lib.hid hj
  clear hj
  have Zl := Z.out.lt
  have Zc0 := Z.out.cell (k := 0) rfl
  have Zc1 := Z.out.cell (k := 1) rfl
  have Zc2 := Z.out.cell (k := 2) rfl
  have Zc3 := Z.out.cell (k := 3) rfl
  go_wp2_with (fail)
  replace HW := Lib.hid (HW.out.upb (al1 (w3) (.cells #[.slice A3 j.rs.length c3, .int .i64 j.many, .int .i64 j.syn] 29)))
  replace F := Lib.hid (F.out.upb (al1 (w3) (.cells #[.slice A3 j.rs.length c3, .int .i64 j.many, .int .i64 j.syn] 29)))
  replace Z := Lib.hid (Z.out.upb (al1 (w3) (.cells #[.slice A3 j.rs.length c3, .int .i64 j.many, .int .i64 j.syn] 29)))
  replace L3 := Lib.hid (L3.out.upb (al1 (w3) (.cells #[.slice A3 j.rs.length c3, .int .i64 j.many, .int .i64 j.syn] 29)))
  have Z3 := Lib.hid (Cells.new (w3) 29 [.slice A3 j.rs.length c3, .int .i64 j.many, .int .i64 j.syn])
  clear Zl Zc0 Zc1 Zc2 Zc3
  have Zl := Z.out.lt
  have Zc0 := Z.out.cell (k := 0) rfl
  have Zc1 := Z.out.cell (k := 1) rfl
  have Zc2 := Z.out.cell (k := 2) rfl
  have Zc3 := Z.out.cell (k := 3) rfl
  have Z3l := Z3.out.lt
  have Z3c0 := Z3.out.cell (k := 0) rfl
  have Z3c1 := Z3.out.cell (k := 1) rfl
  have Z3c2 := Z3.out.cell (k := 2) rfl
  try go_wp2_with (fail)
  refine (refOpen_is F.out HE.out HJ.out rfl rfl rfl).mono ?_
  rintro e w4 ⟨A5, c5, rfl, hj, hb, -⟩
  replace HW := Lib.hid (HW.out.upb hb)
  replace F := Lib.hid (F.out.upb hb)
  replace Z := Lib.hid (Z.out.upb hb)
  replace L3 := Lib.hid (L3.out.upb hb)
  replace Z3 := Lib.hid (Z3.out.upb hb)
  clear hb
  clear Zl Zc0 Zc1 Zc2 Zc3 Z3l Z3c0 Z3c1 Z3c2
  have L5 := Lib.hid hj
  clear hj
  have Zl := Z.out.lt
  have Zc0 := Z.out.cell (k := 0) rfl
  have Zc1 := Z.out.cell (k := 1) rfl
  have Zc2 := Z.out.cell (k := 2) rfl
  have Zc3 := Z.out.cell (k := 3) rfl
  have Z3l := Z3.out.lt
  have Z3c0 := Z3.out.cell (k := 0) rfl
  have Z3c1 := Z3.out.cell (k := 1) rfl
  have Z3c2 := Z3.out.cell (k := 2) rfl
  go_wp2_with (fail)
  replace HW := Lib.hid (HW.out.upb (al1 (w4) (.cells #[.slice A5 j.rs.length c5, .int .i64 j.many, .int .i64 j.syn] 29)))
  replace F := Lib.hid (F.out.upb (al1 (w4) (.cells #[.slice A5 j.rs.length c5, .int .i64 j.many, .int .i64 j.syn] 29)))
  replace Z := Lib.hid (Z.out.upb (al1 (w4) (.cells #[.slice A5 j.rs.length c5, .int .i64 j.many, .int .i64 j.syn] 29)))
  replace L3 := Lib.hid (L3.out.upb (al1 (w4) (.cells #[.slice A5 j.rs.length c5, .int .i64 j.many, .int .i64 j.syn] 29)))
  replace Z3 := Lib.hid (Z3.out.upb (al1 (w4) (.cells #[.slice A5 j.rs.length c5, .int .i64 j.many, .int .i64 j.syn] 29)))
  replace L5 := Lib.hid (L5.out.upb (al1 (w4) (.cells #[.slice A5 j.rs.length c5, .int .i64 j.many, .int .i64 j.syn] 29)))
  have Z5 := Lib.hid (Cells.new (w4) 29 [.slice A5 j.rs.length c5, .int .i64 j.many, .int .i64 j.syn])
  clear Zl Zc0 Zc1 Zc2 Zc3 Z3l Z3c0 Z3c1 Z3c2
  have Z3l := Z3.out.lt
  have Z3c0 := Z3.out.cell (k := 0) rfl
  have Z3c1 := Z3.out.cell (k := 1) rfl
  have Z3c2 := Z3.out.cell (k := 2) rfl
  have Z5l := Z5.out.lt
  have Z5c0 := Z5.out.cell (k := 0) rfl
  have Z5c1 := Z5.out.cell (k := 1) rfl
  have Z5c2 := Z5.out.cell (k := 2) rfl
  try go_wp2_with (fail)
  refine (JSame_is L3.out L5.out HJL.out (decide_eq_true rfl)).mono ?_
  rintro e w5 ⟨rfl, hb⟩
  replace HW := Lib.hid (HW.out.upb hb)
  replace F := Lib.hid (F.out.upb hb)
  replace Z := Lib.hid (Z.out.upb hb)
  replace L3 := Lib.hid (L3.out.upb hb)
  replace Z3 := Lib.hid (Z3.out.upb hb)
  replace L5 := Lib.hid (L5.out.upb hb)
  replace Z5 := Lib.hid (Z5.out.upb hb)
  clear hb
  clear Z3l Z3c0 Z3c1 Z3c2 Z5l Z5c0 Z5c1 Z5c2
  go_wp2_with (fail)
  go_ret
  exact ⟨rfl, HW.out.b⟩
end Go.Proofs.Ytkcnanclpkongaa
