/- Walks of DiskWriteSpec and DiskSyncSpec. -/
import Derived.Test.YtimpnpdhhhbmgaaW26
namespace Go.Proofs.Ytimpnpdhhhbmgaa
open Go.RowKit
set_option linter.unusedVariables false
set_option linter.unusedSimpArgs false

def Small (d : Dk) : Prop := d.ss.length ≤ 9223372036854775807 ∧ d.ps.length ≤ 9223372036854775807
theorem small_d0 : Small d0 := by unfold Small d0; simp
theorem small_wr {d : Dk} (h : Small d) (a : Int) (b : By) : Small (Dv.wr d a b) := by
  unfold Dv.wr
  split
  · rename_i hr
    split
    · split
      · exact small_d0
      · refine ⟨h.1, ?_⟩
        have := hr.1.1.p2
        simp only [List.length_append, List.length_cons, List.length_nil]; omega
    · exact small_d0
  · exact small_d0
theorem halfS_len (d : Dk) (k : Nat) : (Dv.halfS d k).length = d.ss.length := by
  unfold Dv.halfS
  split
  · rw [List.length_set, Dv.put_len]
  · rfl
theorem small_sy {d : Dk} (h : Small d) : Small (Dv.sy d) := by
  unfold Dv.sy
  split
  · split
    · exact ⟨by rw [show (Dk.mk (Dv.halfS d d.left.toNat) [] 0 true).ss = Dv.halfS d d.left.toNat from rfl, halfS_len]; exact h.1, by simp⟩
    · exact ⟨by rw [show (Dk.mk (Dv.put d.ss d.ps) [] (if 0 ≤ d.left then d.left - d.ps.length else d.left) false).ss = Dv.put d.ss d.ps from rfl, Dv.put_len]; exact h.1, by simp⟩
  · exact small_d0
theorem small_stp {d : Dk} (h : Small d) (l : Int) : Small (Dv.stp d l) := by
  unfold Dv.stp
  split
  · split
    · exact h
    · exact small_d0
  · exact small_d0

set_option maxHeartbeats 8000000 in
set_option maxRecDepth 100000 in
theorem DiskWriteSpec_any {d : Dk} {v u : Value} {at0 : Int} {b : By} {w : World} (hv : IsD w v d) (hs : Small d) (hu : IsBytes w u b) :
    Calls Try.prog 4 #[v, .int .i64 at0, u] w fun e w' => e = .returned (.bool true) ∧ Below w.heap.size w w' := by
  have F3 := Lib.hid hv
  have FB := Lib.hid hu
  obtain ⟨A, c, A2, c2, rfl, _, _⟩ := hv.open_
  obtain ⟨A0, c0, rfl, _⟩ := id hu
  have HL := Lib.hid hs
  clear hv hs hu
  obtain ⟨x, hx⟩ : ∃ x, Dv.wr d at0 b = x := ⟨_, rfl⟩
  have HXL := Lib.hid (show Small x by rw [← hx]; exact small_wr HL.out at0 b)
  obtain ⟨e0, he⟩ : ∃ x, Dv.wrE d at0 b = x := ⟨_, rfl⟩
  obtain ⟨o, ho⟩ : ∃ x, Dv.rd d at0 = x := ⟨_, rfl⟩
  obtain ⟨e1, he1⟩ : ∃ x, Dv.rdE d at0 = x := ⟨_, rfl⟩
  have HX := Lib.hid (And.intro he hx)
  have HO := Lib.hid (And.intro he1 ho)
  clear hx he ho he1
  have HW := Lib.hid (Bl.mk (Below.refl w.heap.size w))
  replace F3 := Lib.hid (F3.out.upb (al1 (w) (.cells #[.slice A d.ss.length c, .slice A2 d.ps.length c2, .int .i64 d.left, .bool d.st] 25)))
  replace FB := Lib.hid (FB.out.upb (al1 (w) (.cells #[.slice A d.ss.length c, .slice A2 d.ps.length c2, .int .i64 d.left, .bool d.st] 25)))
  replace HW := Lib.hid (HW.out.upb (al1 (w) (.cells #[.slice A d.ss.length c, .slice A2 d.ps.length c2, .int .i64 d.left, .bool d.st] 25)))
  have Z3 := Lib.hid (Cells.new (w) 25 [.slice A d.ss.length c, .slice A2 d.ps.length c2, .int .i64 d.left, .bool d.st])
  go_enter Try.func4, Try.ntmps4
  go_wp2_with (fail)
  refine (sane_any _).mono ?_
  rintro e w1 ⟨rfl, hb⟩
  replace F3 := Lib.hid (F3.out.upb hb)
  replace FB := Lib.hid (FB.out.upb hb)
  replace HW := Lib.hid (HW.out.upb hb)
  replace Z3 := Lib.hid (Z3.out.upb hb)
  clear hb
  have Z3l := Z3.out.lt
  have Z3c0 := Z3.out.cell (k := 0) rfl
  have Z3c1 := Z3.out.cell (k := 1) rfl
  have Z3c2 := Z3.out.cell (k := 2) rfl
  have Z3c3 := Z3.out.cell (k := 3) rfl
  go_wp2_with (fail)
  refine (Few_any F3.out HL.out.1 HL.out.2).mono ?_
  rintro e w2 ⟨⟨fb, rfl⟩, hb⟩
  replace F3 := Lib.hid (F3.out.upb hb)
  replace FB := Lib.hid (FB.out.upb hb)
  replace HW := Lib.hid (HW.out.upb hb)
  replace Z3 := Lib.hid (Z3.out.upb hb)
  clear hb
  clear Z3l Z3c0 Z3c1 Z3c2 Z3c3
  cases fb with
  | false =>
    go_wp2_with (fail)
    go_ret
    exact ⟨rfl, HW.out.b⟩
  | true =>
  by_cases hb1 : (1000 : Int) < (b.length : Int)
  case pos =>
    have t1 : decide ((1000 : Int) < (b.length : Int)) = true := decide_eq_true hb1
    clear hb1
    go_wp2_with (fail)
    go_ret
    exact ⟨rfl, HW.out.b⟩
  case neg =>
  have t1 : decide ((1000 : Int) < (b.length : Int)) = false := decide_eq_false hb1
  clear hb1
  have Z3l := Z3.out.lt
  have Z3c0 := Z3.out.cell (k := 0) rfl
  have Z3c1 := Z3.out.cell (k := 1) rfl
  have Z3c2 := Z3.out.cell (k := 2) rfl
  have Z3c3 := Z3.out.cell (k := 3) rfl
  go_wp2_with (fail)
  refine (Write_is F3.out FB.out HX.out.1 HX.out.2).mono ?_
  rintro e w3 ⟨A5, c5, B5, d5, rfl, hd, hb, _⟩
  replace F3 := Lib.hid (F3.out.upb hb)
  replace FB := Lib.hid (FB.out.upb hb)
  replace HW := Lib.hid (HW.out.upb hb)
  replace Z3 := Lib.hid (Z3.out.upb hb)
  clear hb
  clear Z3l Z3c0 Z3c1 Z3c2 Z3c3
  have F5 := Lib.hid hd
  clear hd
  have Z3l := Z3.out.lt
  have Z3c0 := Z3.out.cell (k := 0) rfl
  have Z3c1 := Z3.out.cell (k := 1) rfl
  have Z3c2 := Z3.out.cell (k := 2) rfl
  have Z3c3 := Z3.out.cell (k := 3) rfl
  go_wp2_with (fail)
  replace F3 := Lib.hid (F3.out.upb (al1 (w3) (.cells #[.slice A5 x.ss.length c5, .slice B5 x.ps.length d5, .int .i64 x.left, .bool x.st] 25)))
  replace FB := Lib.hid (FB.out.upb (al1 (w3) (.cells #[.slice A5 x.ss.length c5, .slice B5 x.ps.length d5, .int .i64 x.left, .bool x.st] 25)))
  replace HW := Lib.hid (HW.out.upb (al1 (w3) (.cells #[.slice A5 x.ss.length c5, .slice B5 x.ps.length d5, .int .i64 x.left, .bool x.st] 25)))
  replace Z3 := Lib.hid (Z3.out.upb (al1 (w3) (.cells #[.slice A5 x.ss.length c5, .slice B5 x.ps.length d5, .int .i64 x.left, .bool x.st] 25)))
  replace F5 := Lib.hid (F5.out.upb (al1 (w3) (.cells #[.slice A5 x.ss.length c5, .slice B5 x.ps.length d5, .int .i64 x.left, .bool x.st] 25)))
  have Z5 := Lib.hid (Cells.new (w3) 25 [.slice A5 x.ss.length c5, .slice B5 x.ps.length d5, .int .i64 x.left, .bool x.st])
  clear Z3l Z3c0 Z3c1 Z3c2 Z3c3
  have Z3l := Z3.out.lt
  have Z3c0 := Z3.out.cell (k := 0) rfl
  have Z3c1 := Z3.out.cell (k := 1) rfl
  have Z3c2 := Z3.out.cell (k := 2) rfl
  have Z3c3 := Z3.out.cell (k := 3) rfl
  try go_wp2_with (fail)
  refine (refWrite_is F3.out FB.out HX.out.1 HX.out.2).mono ?_
  rintro e w4 ⟨A7, c7, B7, d7, rfl, hd, hb⟩
  replace F3 := Lib.hid (F3.out.upb hb)
  replace FB := Lib.hid (FB.out.upb hb)
  replace HW := Lib.hid (HW.out.upb hb)
  replace Z3 := Lib.hid (Z3.out.upb hb)
  replace F5 := Lib.hid (F5.out.upb hb)
  replace Z5 := Lib.hid (Z5.out.upb hb)
  clear hb
  clear Z3l Z3c0 Z3c1 Z3c2 Z3c3
  have F7 := Lib.hid hd
  clear hd
  have Z3l := Z3.out.lt
  have Z3c0 := Z3.out.cell (k := 0) rfl
  have Z3c1 := Z3.out.cell (k := 1) rfl
  have Z3c2 := Z3.out.cell (k := 2) rfl
  have Z3c3 := Z3.out.cell (k := 3) rfl
  go_wp2_with (fail)
  replace F3 := Lib.hid (F3.out.upb (al1 (w4) (.cells #[.slice A7 x.ss.length c7, .slice B7 x.ps.length d7, .int .i64 x.left, .bool x.st] 25)))
  replace FB := Lib.hid (FB.out.upb (al1 (w4) (.cells #[.slice A7 x.ss.length c7, .slice B7 x.ps.length d7, .int .i64 x.left, .bool x.st] 25)))
  replace HW := Lib.hid (HW.out.upb (al1 (w4) (.cells #[.slice A7 x.ss.length c7, .slice B7 x.ps.length d7, .int .i64 x.left, .bool x.st] 25)))
  replace Z3 := Lib.hid (Z3.out.upb (al1 (w4) (.cells #[.slice A7 x.ss.length c7, .slice B7 x.ps.length d7, .int .i64 x.left, .bool x.st] 25)))
  replace F5 := Lib.hid (F5.out.upb (al1 (w4) (.cells #[.slice A7 x.ss.length c7, .slice B7 x.ps.length d7, .int .i64 x.left, .bool x.st] 25)))
  replace Z5 := Lib.hid (Z5.out.upb (al1 (w4) (.cells #[.slice A7 x.ss.length c7, .slice B7 x.ps.length d7, .int .i64 x.left, .bool x.st] 25)))
  replace F7 := Lib.hid (F7.out.upb (al1 (w4) (.cells #[.slice A7 x.ss.length c7, .slice B7 x.ps.length d7, .int .i64 x.left, .bool x.st] 25)))
  have Z7 := Lib.hid (Cells.new (w4) 25 [.slice A7 x.ss.length c7, .slice B7 x.ps.length d7, .int .i64 x.left, .bool x.st])
  clear Z3l Z3c0 Z3c1 Z3c2 Z3c3
  have Z3l := Z3.out.lt
  have Z3c0 := Z3.out.cell (k := 0) rfl
  have Z3c1 := Z3.out.cell (k := 1) rfl
  have Z3c2 := Z3.out.cell (k := 2) rfl
  have Z3c3 := Z3.out.cell (k := 3) rfl
  have Z5l := Z5.out.lt
  have Z5c0 := Z5.out.cell (k := 0) rfl
  have Z5c1 := Z5.out.cell (k := 1) rfl
  have Z5c2 := Z5.out.cell (k := 2) rfl
  have Z5c3 := Z5.out.cell (k := 3) rfl
  try go_wp2_with (fail)
  refine (Read_is F3.out HO.out.1 HO.out.2).mono ?_
  rintro e w5 ⟨A8, c8, rfl, ho, hb⟩
  replace F3 := Lib.hid (F3.out.upb hb)
  replace FB := Lib.hid (FB.out.upb hb)
  replace HW := Lib.hid (HW.out.upb hb)
  replace Z3 := Lib.hid (Z3.out.upb hb)
  replace F5 := Lib.hid (F5.out.upb hb)
  replace Z5 := Lib.hid (Z5.out.upb hb)
  replace F7 := Lib.hid (F7.out.upb hb)
  replace Z7 := Lib.hid (Z7.out.upb hb)
  clear hb
  clear Z3l Z3c0 Z3c1 Z3c2 Z3c3 Z5l Z5c0 Z5c1 Z5c2 Z5c3
  have O1 := Lib.hid ho
  clear ho
  have Z3l := Z3.out.lt
  have Z3c0 := Z3.out.cell (k := 0) rfl
  have Z3c1 := Z3.out.cell (k := 1) rfl
  have Z3c2 := Z3.out.cell (k := 2) rfl
  have Z3c3 := Z3.out.cell (k := 3) rfl
  go_wp2_with (fail)
  refine (refRead_is F3.out HO.out.1 HO.out.2).mono ?_
  rintro e w6 ⟨A9, c9, rfl, ho, hb⟩
  replace F3 := Lib.hid (F3.out.upb hb)
  replace FB := Lib.hid (FB.out.upb hb)
  replace HW := Lib.hid (HW.out.upb hb)
  replace Z3 := Lib.hid (Z3.out.upb hb)
  replace F5 := Lib.hid (F5.out.upb hb)
  replace Z5 := Lib.hid (Z5.out.upb hb)
  replace F7 := Lib.hid (F7.out.upb hb)
  replace Z7 := Lib.hid (Z7.out.upb hb)
  replace O1 := Lib.hid (O1.out.upb hb)
  clear hb
  clear Z3l Z3c0 Z3c1 Z3c2 Z3c3
  have O2 := Lib.hid ho
  clear ho
  have Z5l := Z5.out.lt
  have Z5c0 := Z5.out.cell (k := 0) rfl
  have Z5c1 := Z5.out.cell (k := 1) rfl
  have Z5c2 := Z5.out.cell (k := 2) rfl
  have Z5c3 := Z5.out.cell (k := 3) rfl
  have Z7l := Z7.out.lt
  have Z7c0 := Z7.out.cell (k := 0) rfl
  have Z7c1 := Z7.out.cell (k := 1) rfl
  have Z7c2 := Z7.out.cell (k := 2) rfl
  have Z7c3 := Z7.out.cell (k := 3) rfl
  go_wp2_with (fail)
  refine (Same_is F5.out F7.out HXL.out.1 HXL.out.2 (decide_eq_true rfl)).mono ?_
  rintro e w7 ⟨rfl, hb⟩
  replace F3 := Lib.hid (F3.out.upb hb)
  replace FB := Lib.hid (FB.out.upb hb)
  replace HW := Lib.hid (HW.out.upb hb)
  replace Z3 := Lib.hid (Z3.out.upb hb)
  replace F5 := Lib.hid (F5.out.upb hb)
  replace Z5 := Lib.hid (Z5.out.upb hb)
  replace F7 := Lib.hid (F7.out.upb hb)
  replace Z7 := Lib.hid (Z7.out.upb hb)
  replace O1 := Lib.hid (O1.out.upb hb)
  replace O2 := Lib.hid (O2.out.upb hb)
  clear hb
  clear Z5l Z5c0 Z5c1 Z5c2 Z5c3 Z7l Z7c0 Z7c1 Z7c2 Z7c3
  have hv1 := conv_str O1.out
  have hv2 := conv_str O2.out
  go_wp2_with (fail)
  go_ret
  exact ⟨rfl, HW.out.b⟩

set_option maxHeartbeats 8000000 in
set_option maxRecDepth 100000 in
theorem DiskSyncSpec_any {d : Dk} {v : Value} {l : Int} {w : World} (hv : IsD w v d) (hs : Small d) :
    Calls Try.prog 5 #[v, .int .i64 l] w fun e w' => e = .returned (.bool true) ∧ Below w.heap.size w w' := by
  have F3 := Lib.hid hv
  obtain ⟨A, c, A2, c2, rfl, _, _⟩ := hv.open_
  have HL := Lib.hid hs
  clear hv hs
  obtain ⟨x, hx⟩ : ∃ x, Dv.sy d = x := ⟨_, rfl⟩
  have HXL := Lib.hid (show Small x by rw [← hx]; exact small_sy HL.out)
  obtain ⟨e0, he⟩ : ∃ x, Dv.syE d = x := ⟨_, rfl⟩
  obtain ⟨y, hy⟩ : ∃ x, Dv.stp d l = x := ⟨_, rfl⟩
  have HYL := Lib.hid (show Small y by rw [← hy]; exact small_stp HL.out l)
  obtain ⟨e1, he1⟩ : ∃ x, Dv.stE d l = x := ⟨_, rfl⟩
  have HX := Lib.hid (And.intro he hx)
  have HY := Lib.hid (And.intro he1 hy)
  clear hx he hy he1
  have HW := Lib.hid (Bl.mk (Below.refl w.heap.size w))
  replace F3 := Lib.hid (F3.out.upb (al1 (w) (.cells #[.slice A d.ss.length c, .slice A2 d.ps.length c2, .int .i64 d.left, .bool d.st] 25)))
  replace HW := Lib.hid (HW.out.upb (al1 (w) (.cells #[.slice A d.ss.length c, .slice A2 d.ps.length c2, .int .i64 d.left, .bool d.st] 25)))
  have Z3 := Lib.hid (Cells.new (w) 25 [.slice A d.ss.length c, .slice A2 d.ps.length c2, .int .i64 d.left, .bool d.st])
  go_enter Try.func5, Try.ntmps5
  go_wp2_with (fail)
  refine (sane_any _).mono ?_
  rintro e w1 ⟨rfl, hb⟩
  replace F3 := Lib.hid (F3.out.upb hb)
  replace HW := Lib.hid (HW.out.upb hb)
  replace Z3 := Lib.hid (Z3.out.upb hb)
  clear hb
  have Z3l := Z3.out.lt
  have Z3c0 := Z3.out.cell (k := 0) rfl
  have Z3c1 := Z3.out.cell (k := 1) rfl
  have Z3c2 := Z3.out.cell (k := 2) rfl
  have Z3c3 := Z3.out.cell (k := 3) rfl
  go_wp2_with (fail)
  refine (Few_any F3.out HL.out.1 HL.out.2).mono ?_
  rintro e w2 ⟨⟨fb, rfl⟩, hb⟩
  replace F3 := Lib.hid (F3.out.upb hb)
  replace HW := Lib.hid (HW.out.upb hb)
  replace Z3 := Lib.hid (Z3.out.upb hb)
  clear hb
  clear Z3l Z3c0 Z3c1 Z3c2 Z3c3
  cases fb with
  | false =>
    go_wp2_with (fail)
    go_ret
    exact ⟨rfl, HW.out.b⟩
  | true =>
  have Z3l := Z3.out.lt
  have Z3c0 := Z3.out.cell (k := 0) rfl
  have Z3c1 := Z3.out.cell (k := 1) rfl
  have Z3c2 := Z3.out.cell (k := 2) rfl
  have Z3c3 := Z3.out.cell (k := 3) rfl
  go_wp2_with (fail)
  refine (Sync_is F3.out HX.out.1 HX.out.2).mono ?_
  rintro e w3 ⟨A5, c5, B5, d5, rfl, hd, hb, _⟩
  replace F3 := Lib.hid (F3.out.upb hb)
  replace HW := Lib.hid (HW.out.upb hb)
  replace Z3 := Lib.hid (Z3.out.upb hb)
  clear hb
  clear Z3l Z3c0 Z3c1 Z3c2 Z3c3
  have F5 := Lib.hid hd
  clear hd
  have Z3l := Z3.out.lt
  have Z3c0 := Z3.out.cell (k := 0) rfl
  have Z3c1 := Z3.out.cell (k := 1) rfl
  have Z3c2 := Z3.out.cell (k := 2) rfl
  have Z3c3 := Z3.out.cell (k := 3) rfl
  go_wp2_with (fail)
  replace F3 := Lib.hid (F3.out.upb (al1 (w3) (.cells #[.slice A5 x.ss.length c5, .slice B5 x.ps.length d5, .int .i64 x.left, .bool x.st] 25)))
  replace HW := Lib.hid (HW.out.upb (al1 (w3) (.cells #[.slice A5 x.ss.length c5, .slice B5 x.ps.length d5, .int .i64 x.left, .bool x.st] 25)))
  replace Z3 := Lib.hid (Z3.out.upb (al1 (w3) (.cells #[.slice A5 x.ss.length c5, .slice B5 x.ps.length d5, .int .i64 x.left, .bool x.st] 25)))
  replace F5 := Lib.hid (F5.out.upb (al1 (w3) (.cells #[.slice A5 x.ss.length c5, .slice B5 x.ps.length d5, .int .i64 x.left, .bool x.st] 25)))
  have Z5 := Lib.hid (Cells.new (w3) 25 [.slice A5 x.ss.length c5, .slice B5 x.ps.length d5, .int .i64 x.left, .bool x.st])
  clear Z3l Z3c0 Z3c1 Z3c2 Z3c3
  have Z3l := Z3.out.lt
  have Z3c0 := Z3.out.cell (k := 0) rfl
  have Z3c1 := Z3.out.cell (k := 1) rfl
  have Z3c2 := Z3.out.cell (k := 2) rfl
  have Z3c3 := Z3.out.cell (k := 3) rfl
  try go_wp2_with (fail)
  refine (refSync_is F3.out HX.out.1 HX.out.2).mono ?_
  rintro e w4 ⟨A7, c7, B7, d7, rfl, hd, hb⟩
  replace F3 := Lib.hid (F3.out.upb hb)
  replace HW := Lib.hid (HW.out.upb hb)
  replace Z3 := Lib.hid (Z3.out.upb hb)
  replace F5 := Lib.hid (F5.out.upb hb)
  replace Z5 := Lib.hid (Z5.out.upb hb)
  clear hb
  clear Z3l Z3c0 Z3c1 Z3c2 Z3c3
  have F7 := Lib.hid hd
  clear hd
  have Z3l := Z3.out.lt
  have Z3c0 := Z3.out.cell (k := 0) rfl
  have Z3c1 := Z3.out.cell (k := 1) rfl
  have Z3c2 := Z3.out.cell (k := 2) rfl
  have Z3c3 := Z3.out.cell (k := 3) rfl
  go_wp2_with (fail)
  replace F3 := Lib.hid (F3.out.upb (al1 (w4) (.cells #[.slice A7 x.ss.length c7, .slice B7 x.ps.length d7, .int .i64 x.left, .bool x.st] 25)))
  replace HW := Lib.hid (HW.out.upb (al1 (w4) (.cells #[.slice A7 x.ss.length c7, .slice B7 x.ps.length d7, .int .i64 x.left, .bool x.st] 25)))
  replace Z3 := Lib.hid (Z3.out.upb (al1 (w4) (.cells #[.slice A7 x.ss.length c7, .slice B7 x.ps.length d7, .int .i64 x.left, .bool x.st] 25)))
  replace F5 := Lib.hid (F5.out.upb (al1 (w4) (.cells #[.slice A7 x.ss.length c7, .slice B7 x.ps.length d7, .int .i64 x.left, .bool x.st] 25)))
  replace Z5 := Lib.hid (Z5.out.upb (al1 (w4) (.cells #[.slice A7 x.ss.length c7, .slice B7 x.ps.length d7, .int .i64 x.left, .bool x.st] 25)))
  replace F7 := Lib.hid (F7.out.upb (al1 (w4) (.cells #[.slice A7 x.ss.length c7, .slice B7 x.ps.length d7, .int .i64 x.left, .bool x.st] 25)))
  have Z7 := Lib.hid (Cells.new (w4) 25 [.slice A7 x.ss.length c7, .slice B7 x.ps.length d7, .int .i64 x.left, .bool x.st])
  clear Z3l Z3c0 Z3c1 Z3c2 Z3c3
  have Z3l := Z3.out.lt
  have Z3c0 := Z3.out.cell (k := 0) rfl
  have Z3c1 := Z3.out.cell (k := 1) rfl
  have Z3c2 := Z3.out.cell (k := 2) rfl
  have Z3c3 := Z3.out.cell (k := 3) rfl
  try go_wp2_with (fail)
  refine (Stop_is F3.out HY.out.1 HY.out.2).mono ?_
  rintro e w5 ⟨A8, c8, B8, d8, rfl, hd, hb, _⟩
  replace F3 := Lib.hid (F3.out.upb hb)
  replace HW := Lib.hid (HW.out.upb hb)
  replace Z3 := Lib.hid (Z3.out.upb hb)
  replace F5 := Lib.hid (F5.out.upb hb)
  replace Z5 := Lib.hid (Z5.out.upb hb)
  replace F7 := Lib.hid (F7.out.upb hb)
  replace Z7 := Lib.hid (Z7.out.upb hb)
  clear hb
  clear Z3l Z3c0 Z3c1 Z3c2 Z3c3
  have F8 := Lib.hid hd
  clear hd
  have Z3l := Z3.out.lt
  have Z3c0 := Z3.out.cell (k := 0) rfl
  have Z3c1 := Z3.out.cell (k := 1) rfl
  have Z3c2 := Z3.out.cell (k := 2) rfl
  have Z3c3 := Z3.out.cell (k := 3) rfl
  go_wp2_with (fail)
  replace F3 := Lib.hid (F3.out.upb (al1 (w5) (.cells #[.slice A8 y.ss.length c8, .slice B8 y.ps.length d8, .int .i64 y.left, .bool y.st] 25)))
  replace HW := Lib.hid (HW.out.upb (al1 (w5) (.cells #[.slice A8 y.ss.length c8, .slice B8 y.ps.length d8, .int .i64 y.left, .bool y.st] 25)))
  replace Z3 := Lib.hid (Z3.out.upb (al1 (w5) (.cells #[.slice A8 y.ss.length c8, .slice B8 y.ps.length d8, .int .i64 y.left, .bool y.st] 25)))
  replace F5 := Lib.hid (F5.out.upb (al1 (w5) (.cells #[.slice A8 y.ss.length c8, .slice B8 y.ps.length d8, .int .i64 y.left, .bool y.st] 25)))
  replace Z5 := Lib.hid (Z5.out.upb (al1 (w5) (.cells #[.slice A8 y.ss.length c8, .slice B8 y.ps.length d8, .int .i64 y.left, .bool y.st] 25)))
  replace F7 := Lib.hid (F7.out.upb (al1 (w5) (.cells #[.slice A8 y.ss.length c8, .slice B8 y.ps.length d8, .int .i64 y.left, .bool y.st] 25)))
  replace Z7 := Lib.hid (Z7.out.upb (al1 (w5) (.cells #[.slice A8 y.ss.length c8, .slice B8 y.ps.length d8, .int .i64 y.left, .bool y.st] 25)))
  replace F8 := Lib.hid (F8.out.upb (al1 (w5) (.cells #[.slice A8 y.ss.length c8, .slice B8 y.ps.length d8, .int .i64 y.left, .bool y.st] 25)))
  have Z8 := Lib.hid (Cells.new (w5) 25 [.slice A8 y.ss.length c8, .slice B8 y.ps.length d8, .int .i64 y.left, .bool y.st])
  clear Z3l Z3c0 Z3c1 Z3c2 Z3c3
  have Z3l := Z3.out.lt
  have Z3c0 := Z3.out.cell (k := 0) rfl
  have Z3c1 := Z3.out.cell (k := 1) rfl
  have Z3c2 := Z3.out.cell (k := 2) rfl
  have Z3c3 := Z3.out.cell (k := 3) rfl
  try go_wp2_with (fail)
  refine (refStop_is F3.out HY.out.1 HY.out.2).mono ?_
  rintro e w6 ⟨A9, c9, B9, d9, rfl, hd, hb⟩
  replace F3 := Lib.hid (F3.out.upb hb)
  replace HW := Lib.hid (HW.out.upb hb)
  replace Z3 := Lib.hid (Z3.out.upb hb)
  replace F5 := Lib.hid (F5.out.upb hb)
  replace Z5 := Lib.hid (Z5.out.upb hb)
  replace F7 := Lib.hid (F7.out.upb hb)
  replace Z7 := Lib.hid (Z7.out.upb hb)
  replace F8 := Lib.hid (F8.out.upb hb)
  replace Z8 := Lib.hid (Z8.out.upb hb)
  clear hb
  clear Z3l Z3c0 Z3c1 Z3c2 Z3c3
  have F9 := Lib.hid hd
  clear hd
  have Z3l := Z3.out.lt
  have Z3c0 := Z3.out.cell (k := 0) rfl
  have Z3c1 := Z3.out.cell (k := 1) rfl
  have Z3c2 := Z3.out.cell (k := 2) rfl
  have Z3c3 := Z3.out.cell (k := 3) rfl
  have Z5l := Z5.out.lt
  have Z5c0 := Z5.out.cell (k := 0) rfl
  have Z5c1 := Z5.out.cell (k := 1) rfl
  have Z5c2 := Z5.out.cell (k := 2) rfl
  have Z5c3 := Z5.out.cell (k := 3) rfl
  have Z7l := Z7.out.lt
  have Z7c0 := Z7.out.cell (k := 0) rfl
  have Z7c1 := Z7.out.cell (k := 1) rfl
  have Z7c2 := Z7.out.cell (k := 2) rfl
  have Z7c3 := Z7.out.cell (k := 3) rfl
  go_wp2_with (fail)
  replace F3 := Lib.hid (F3.out.upb (al1 (w6) (.cells #[.slice A9 y.ss.length c9, .slice B9 y.ps.length d9, .int .i64 y.left, .bool y.st] 25)))
  replace HW := Lib.hid (HW.out.upb (al1 (w6) (.cells #[.slice A9 y.ss.length c9, .slice B9 y.ps.length d9, .int .i64 y.left, .bool y.st] 25)))
  replace Z3 := Lib.hid (Z3.out.upb (al1 (w6) (.cells #[.slice A9 y.ss.length c9, .slice B9 y.ps.length d9, .int .i64 y.left, .bool y.st] 25)))
  replace F5 := Lib.hid (F5.out.upb (al1 (w6) (.cells #[.slice A9 y.ss.length c9, .slice B9 y.ps.length d9, .int .i64 y.left, .bool y.st] 25)))
  replace Z5 := Lib.hid (Z5.out.upb (al1 (w6) (.cells #[.slice A9 y.ss.length c9, .slice B9 y.ps.length d9, .int .i64 y.left, .bool y.st] 25)))
  replace F7 := Lib.hid (F7.out.upb (al1 (w6) (.cells #[.slice A9 y.ss.length c9, .slice B9 y.ps.length d9, .int .i64 y.left, .bool y.st] 25)))
  replace Z7 := Lib.hid (Z7.out.upb (al1 (w6) (.cells #[.slice A9 y.ss.length c9, .slice B9 y.ps.length d9, .int .i64 y.left, .bool y.st] 25)))
  replace F8 := Lib.hid (F8.out.upb (al1 (w6) (.cells #[.slice A9 y.ss.length c9, .slice B9 y.ps.length d9, .int .i64 y.left, .bool y.st] 25)))
  replace Z8 := Lib.hid (Z8.out.upb (al1 (w6) (.cells #[.slice A9 y.ss.length c9, .slice B9 y.ps.length d9, .int .i64 y.left, .bool y.st] 25)))
  replace F9 := Lib.hid (F9.out.upb (al1 (w6) (.cells #[.slice A9 y.ss.length c9, .slice B9 y.ps.length d9, .int .i64 y.left, .bool y.st] 25)))
  have Z9 := Lib.hid (Cells.new (w6) 25 [.slice A9 y.ss.length c9, .slice B9 y.ps.length d9, .int .i64 y.left, .bool y.st])
  clear Z3l Z3c0 Z3c1 Z3c2 Z3c3 Z5l Z5c0 Z5c1 Z5c2 Z5c3 Z7l Z7c0 Z7c1 Z7c2 Z7c3
  have Z5l := Z5.out.lt
  have Z5c0 := Z5.out.cell (k := 0) rfl
  have Z5c1 := Z5.out.cell (k := 1) rfl
  have Z5c2 := Z5.out.cell (k := 2) rfl
  have Z5c3 := Z5.out.cell (k := 3) rfl
  have Z7l := Z7.out.lt
  have Z7c0 := Z7.out.cell (k := 0) rfl
  have Z7c1 := Z7.out.cell (k := 1) rfl
  have Z7c2 := Z7.out.cell (k := 2) rfl
  have Z7c3 := Z7.out.cell (k := 3) rfl
  try go_wp2_with (fail)
  refine (Same_is F5.out F7.out HXL.out.1 HXL.out.2 (decide_eq_true rfl)).mono ?_
  rintro e w7 ⟨rfl, hb⟩
  replace F3 := Lib.hid (F3.out.upb hb)
  replace HW := Lib.hid (HW.out.upb hb)
  replace Z3 := Lib.hid (Z3.out.upb hb)
  replace F5 := Lib.hid (F5.out.upb hb)
  replace Z5 := Lib.hid (Z5.out.upb hb)
  replace F7 := Lib.hid (F7.out.upb hb)
  replace Z7 := Lib.hid (Z7.out.upb hb)
  replace F8 := Lib.hid (F8.out.upb hb)
  replace Z8 := Lib.hid (Z8.out.upb hb)
  replace F9 := Lib.hid (F9.out.upb hb)
  replace Z9 := Lib.hid (Z9.out.upb hb)
  clear hb
  clear Z5l Z5c0 Z5c1 Z5c2 Z5c3 Z7l Z7c0 Z7c1 Z7c2 Z7c3
  have Z8l := Z8.out.lt
  have Z8c0 := Z8.out.cell (k := 0) rfl
  have Z8c1 := Z8.out.cell (k := 1) rfl
  have Z8c2 := Z8.out.cell (k := 2) rfl
  have Z8c3 := Z8.out.cell (k := 3) rfl
  have Z9l := Z9.out.lt
  have Z9c0 := Z9.out.cell (k := 0) rfl
  have Z9c1 := Z9.out.cell (k := 1) rfl
  have Z9c2 := Z9.out.cell (k := 2) rfl
  have Z9c3 := Z9.out.cell (k := 3) rfl
  go_wp2_with (fail)
  refine (Same_is F8.out F9.out HYL.out.1 HYL.out.2 (decide_eq_true rfl)).mono ?_
  rintro e w8 ⟨rfl, hb⟩
  replace F3 := Lib.hid (F3.out.upb hb)
  replace HW := Lib.hid (HW.out.upb hb)
  replace Z3 := Lib.hid (Z3.out.upb hb)
  replace F5 := Lib.hid (F5.out.upb hb)
  replace Z5 := Lib.hid (Z5.out.upb hb)
  replace F7 := Lib.hid (F7.out.upb hb)
  replace Z7 := Lib.hid (Z7.out.upb hb)
  replace F8 := Lib.hid (F8.out.upb hb)
  replace Z8 := Lib.hid (Z8.out.upb hb)
  replace F9 := Lib.hid (F9.out.upb hb)
  replace Z9 := Lib.hid (Z9.out.upb hb)
  clear hb
  clear Z8l Z8c0 Z8c1 Z8c2 Z8c3 Z9l Z9c0 Z9c1 Z9c2 Z9c3
  go_wp2_with (fail)
  go_ret
  exact ⟨rfl, HW.out.b⟩
end Go.Proofs.Ytimpnpdhhhbmgaa
