/- Walk of JournalSyncSpec. -/
import Derived.Test.YtkcnanclpkongaaJ25
namespace Go.Proofs.Ytkcnanclpkongaa
open Go.RowKit
set_option linter.unusedVariables false
set_option linter.unusedSimpArgs false
set_option maxRecDepth 20000

set_option maxHeartbeats 8000000 in
set_option maxRecDepth 100000 in
theorem JournalSyncSpec_any {v u : Value} {j : Jl} {d : Dk} {w : World} (hv : IsJ w v j) (hs : j.rs.length ≤ 5864062014634 ∧ ∀ k (h : k < j.rs.length), j.rs[k].length ≤ 140737488351232) (hu : IsD w u d) (hl1 : d.ss.length ≤ 9223372036854775807) (hl2 : d.ps.length ≤ 9223372036854775807) :
    Calls Try.prog 5 #[v, u] w fun e w' => e = .returned (.bool true) ∧ Below w.heap.size w w' := by
  obtain ⟨A, c, rfl, hb⟩ := hv.open_
  obtain ⟨A1, c1, A2, c2, rfl, h1, h2⟩ := hu.open_
  have HV := Lib.hid hv
  have HU := Lib.hid hu
  have HR := Lib.hid (show IsBs w (.slice A j.rs.length c) j.rs from hb)
  obtain ⟨r, hr⟩ : ∃ x, Jn.syncJX j d = x := ⟨_, rfl⟩
  obtain ⟨y, hy⟩ : ∃ x, Jn.syncDX j d = x := ⟨_, rfl⟩
  obtain ⟨e0, he⟩ : ∃ x, Jn.syncEX j d = x := ⟨_, rfl⟩
  have HRL := Lib.hid (show r.rs.length ≤ 9223372036854775806 from by rw [← hr]; have := Jn.syncJX_len j d; have := hs.1; omega)
  have HYL := Lib.hid (show y.ss.length ≤ 9223372036854775807 ∧ y.ps.length ≤ 9223372036854775807 from by rw [← hy]; have := Jn.syncDX_len j d; omega)
  have HSL := Lib.hid (show j.rs.length ≤ 9223372036854775807 from by have := hs.1; omega)
  have HS := Lib.hid hs
  have HE := Lib.hid he
  have HJR := Lib.hid hr
  have HDY := Lib.hid hy
  have HL1 := Lib.hid hl1
  have HL2 := Lib.hid hl2
  have HW := Lib.hid (Bl.mk (Below.refl w.heap.size w))
  clear hv hu hb h1 h2 hr hy he hs hl1 hl2
  go_enter Try.func5, Try.ntmps5
  go_upto_region 1 with (fail)
  replace HV := Lib.hid (HV.out.upb (al1 (w) (.cells #[.slice A j.rs.length c, .int .i64 j.many, .int .i64 j.syn] 29)))
  replace HU := Lib.hid (HU.out.upb (al1 (w) (.cells #[.slice A j.rs.length c, .int .i64 j.many, .int .i64 j.syn] 29)))
  replace HR := Lib.hid (HR.out.upb (al1 (w) (.cells #[.slice A j.rs.length c, .int .i64 j.many, .int .i64 j.syn] 29)))
  replace HW := Lib.hid (HW.out.upb (al1 (w) (.cells #[.slice A j.rs.length c, .int .i64 j.many, .int .i64 j.syn] 29)))
  have Z2 := Lib.hid (Cells.new (w) 29 [.slice A j.rs.length c, .int .i64 j.many, .int .i64 j.syn])
  replace HV := Lib.hid (HV.out.upb (al1 ((w).alloc (.cells #[.slice A j.rs.length c, .int .i64 j.many, .int .i64 j.syn] 29)) (.cells #[.slice A1 d.ss.length c1, .slice A2 d.ps.length c2, .int .i64 d.left, .bool d.st] 25)))
  replace HU := Lib.hid (HU.out.upb (al1 ((w).alloc (.cells #[.slice A j.rs.length c, .int .i64 j.many, .int .i64 j.syn] 29)) (.cells #[.slice A1 d.ss.length c1, .slice A2 d.ps.length c2, .int .i64 d.left, .bool d.st] 25)))
  replace HR := Lib.hid (HR.out.upb (al1 ((w).alloc (.cells #[.slice A j.rs.length c, .int .i64 j.many, .int .i64 j.syn] 29)) (.cells #[.slice A1 d.ss.length c1, .slice A2 d.ps.length c2, .int .i64 d.left, .bool d.st] 25)))
  replace HW := Lib.hid (HW.out.upb (al1 ((w).alloc (.cells #[.slice A j.rs.length c, .int .i64 j.many, .int .i64 j.syn] 29)) (.cells #[.slice A1 d.ss.length c1, .slice A2 d.ps.length c2, .int .i64 d.left, .bool d.st] 25)))
  replace Z2 := Lib.hid (Z2.out.upb (al1 ((w).alloc (.cells #[.slice A j.rs.length c, .int .i64 j.many, .int .i64 j.syn] 29)) (.cells #[.slice A1 d.ss.length c1, .slice A2 d.ps.length c2, .int .i64 d.left, .bool d.st] 25)))
  have Z3 := Lib.hid (show Cells (((w).alloc (.cells #[.slice A j.rs.length c, .int .i64 j.many, .int .i64 j.syn] 29)).alloc (.cells #[.slice A1 d.ss.length c1, .slice A2 d.ps.length c2, .int .i64 d.left, .bool d.st] 25)) (w.heap.size + 1) 25 [.slice A1 d.ss.length c1, .slice A2 d.ps.length c2, .int .i64 d.left, .bool d.st] from by have h := Cells.new ((w).alloc (.cells #[.slice A j.rs.length c, .int .i64 j.many, .int .i64 j.syn] 29)) 25 [.slice A1 d.ss.length c1, .slice A2 d.ps.length c2, .int .i64 d.left, .bool d.st]; simpa only [World.size_alloc] using h)
  obtain ⟨w0, hw0⟩ : ∃ x, ((w).alloc (.cells #[.slice A j.rs.length c, .int .i64 j.many, .int .i64 j.syn] 29)).alloc (.cells #[.slice A1 d.ss.length c1, .slice A2 d.ps.length c2, .int .i64 d.left, .bool d.st] 25) = x := ⟨_, rfl⟩
  rw [hw0] at HV HU HR HW Z2 Z3
  simp only [hw0]
  clear hw0
  go_wp2_with (fail)
  refine (sane_any _).mono ?_
  rintro e w1 ⟨rfl, hb⟩
  replace HV := Lib.hid (HV.out.upb hb)
  replace HU := Lib.hid (HU.out.upb hb)
  replace HR := Lib.hid (HR.out.upb hb)
  replace HW := Lib.hid (HW.out.upb hb)
  replace Z2 := Lib.hid (Z2.out.upb hb)
  replace Z3 := Lib.hid (Z3.out.upb hb)
  clear hb
  have Z2l := Z2.out.lt
  have Z2c0 := Z2.out.cell (k := 0) rfl
  have Z2c1 := Z2.out.cell (k := 1) rfl
  have Z2c2 := Z2.out.cell (k := 2) rfl
  have Z3l := Z3.out.lt
  have Z3c0 := Z3.out.cell (k := 0) rfl
  have Z3c1 := Z3.out.cell (k := 1) rfl
  have Z3c2 := Z3.out.cell (k := 2) rfl
  have Z3c3 := Z3.out.cell (k := 3) rfl
  go_wp2_with (fail)
  refine (few_any HU.out HR.out HSL.out HL1.out HL2.out).mono ?_
  rintro e w2 ⟨rfl, hb⟩
  replace HV := Lib.hid (HV.out.upb hb)
  replace HU := Lib.hid (HU.out.upb hb)
  replace HR := Lib.hid (HR.out.upb hb)
  replace HW := Lib.hid (HW.out.upb hb)
  replace Z2 := Lib.hid (Z2.out.upb hb)
  replace Z3 := Lib.hid (Z3.out.upb hb)
  clear hb
  clear Z2l Z2c0 Z2c1 Z2c2 Z3l Z3c0 Z3c1 Z3c2 Z3c3
  obtain ⟨fb, hfb⟩ : ∃ b, Jn.fewB d j.rs = b := ⟨_, rfl⟩
  rw [hfb]
  clear hfb
  cases fb
  case false =>
    go_wp2_with (fail)
    go_ret
    exact ⟨rfl, HW.out.b⟩
  case true =>
  have Z2l := Z2.out.lt
  have Z2c0 := Z2.out.cell (k := 0) rfl
  have Z2c1 := Z2.out.cell (k := 1) rfl
  have Z2c2 := Z2.out.cell (k := 2) rfl
  have Z3l := Z3.out.lt
  have Z3c0 := Z3.out.cell (k := 0) rfl
  have Z3c1 := Z3.out.cell (k := 1) rfl
  have Z3c2 := Z3.out.cell (k := 2) rfl
  have Z3c3 := Z3.out.cell (k := 3) rfl
  go_wp2_with (fail)
  refine (SyncX_is HV.out HS.out HU.out HE.out HJR.out HDY.out rfl rfl rfl).mono ?_
  rintro e w3 ⟨A5, c5, A6, c6, A7, c7, rfl, hj, hd, hb⟩
  replace HV := Lib.hid (HV.out.upb hb)
  replace HU := Lib.hid (HU.out.upb hb)
  replace HR := Lib.hid (HR.out.upb hb)
  replace HW := Lib.hid (HW.out.upb hb)
  replace Z2 := Lib.hid (Z2.out.upb hb)
  replace Z3 := Lib.hid (Z3.out.upb hb)
  clear hb
  clear Z2l Z2c0 Z2c1 Z2c2 Z3l Z3c0 Z3c1 Z3c2 Z3c3
  have JX := Lib.hid hj
  have DX := Lib.hid hd
  clear hj hd
  go_upto_region 6 with (fail)
  replace HV := Lib.hid (HV.out.upb (al1 (w3) (.cells #[.slice A5 r.rs.length c5, .int .i64 r.many, .int .i64 r.syn] 29)))
  replace HU := Lib.hid (HU.out.upb (al1 (w3) (.cells #[.slice A5 r.rs.length c5, .int .i64 r.many, .int .i64 r.syn] 29)))
  replace HR := Lib.hid (HR.out.upb (al1 (w3) (.cells #[.slice A5 r.rs.length c5, .int .i64 r.many, .int .i64 r.syn] 29)))
  replace HW := Lib.hid (HW.out.upb (al1 (w3) (.cells #[.slice A5 r.rs.length c5, .int .i64 r.many, .int .i64 r.syn] 29)))
  replace Z2 := Lib.hid (Z2.out.upb (al1 (w3) (.cells #[.slice A5 r.rs.length c5, .int .i64 r.many, .int .i64 r.syn] 29)))
  replace Z3 := Lib.hid (Z3.out.upb (al1 (w3) (.cells #[.slice A5 r.rs.length c5, .int .i64 r.many, .int .i64 r.syn] 29)))
  replace JX := Lib.hid (JX.out.upb (al1 (w3) (.cells #[.slice A5 r.rs.length c5, .int .i64 r.many, .int .i64 r.syn] 29)))
  replace DX := Lib.hid (DX.out.upb (al1 (w3) (.cells #[.slice A5 r.rs.length c5, .int .i64 r.many, .int .i64 r.syn] 29)))
  have Z5 := Lib.hid (Cells.new (w3) 29 [.slice A5 r.rs.length c5, .int .i64 r.many, .int .i64 r.syn])
  replace HV := Lib.hid (HV.out.upb (al1 ((w3).alloc (.cells #[.slice A5 r.rs.length c5, .int .i64 r.many, .int .i64 r.syn] 29)) (.cells #[.slice A6 y.ss.length c6, .slice A7 y.ps.length c7, .int .i64 y.left, .bool y.st] 25)))
  replace HU := Lib.hid (HU.out.upb (al1 ((w3).alloc (.cells #[.slice A5 r.rs.length c5, .int .i64 r.many, .int .i64 r.syn] 29)) (.cells #[.slice A6 y.ss.length c6, .slice A7 y.ps.length c7, .int .i64 y.left, .bool y.st] 25)))
  replace HR := Lib.hid (HR.out.upb (al1 ((w3).alloc (.cells #[.slice A5 r.rs.length c5, .int .i64 r.many, .int .i64 r.syn] 29)) (.cells #[.slice A6 y.ss.length c6, .slice A7 y.ps.length c7, .int .i64 y.left, .bool y.st] 25)))
  replace HW := Lib.hid (HW.out.upb (al1 ((w3).alloc (.cells #[.slice A5 r.rs.length c5, .int .i64 r.many, .int .i64 r.syn] 29)) (.cells #[.slice A6 y.ss.length c6, .slice A7 y.ps.length c7, .int .i64 y.left, .bool y.st] 25)))
  replace Z2 := Lib.hid (Z2.out.upb (al1 ((w3).alloc (.cells #[.slice A5 r.rs.length c5, .int .i64 r.many, .int .i64 r.syn] 29)) (.cells #[.slice A6 y.ss.length c6, .slice A7 y.ps.length c7, .int .i64 y.left, .bool y.st] 25)))
  replace Z3 := Lib.hid (Z3.out.upb (al1 ((w3).alloc (.cells #[.slice A5 r.rs.length c5, .int .i64 r.many, .int .i64 r.syn] 29)) (.cells #[.slice A6 y.ss.length c6, .slice A7 y.ps.length c7, .int .i64 y.left, .bool y.st] 25)))
  replace JX := Lib.hid (JX.out.upb (al1 ((w3).alloc (.cells #[.slice A5 r.rs.length c5, .int .i64 r.many, .int .i64 r.syn] 29)) (.cells #[.slice A6 y.ss.length c6, .slice A7 y.ps.length c7, .int .i64 y.left, .bool y.st] 25)))
  replace DX := Lib.hid (DX.out.upb (al1 ((w3).alloc (.cells #[.slice A5 r.rs.length c5, .int .i64 r.many, .int .i64 r.syn] 29)) (.cells #[.slice A6 y.ss.length c6, .slice A7 y.ps.length c7, .int .i64 y.left, .bool y.st] 25)))
  replace Z5 := Lib.hid (Z5.out.upb (al1 ((w3).alloc (.cells #[.slice A5 r.rs.length c5, .int .i64 r.many, .int .i64 r.syn] 29)) (.cells #[.slice A6 y.ss.length c6, .slice A7 y.ps.length c7, .int .i64 y.left, .bool y.st] 25)))
  have Z6 := Lib.hid (show Cells (((w3).alloc (.cells #[.slice A5 r.rs.length c5, .int .i64 r.many, .int .i64 r.syn] 29)).alloc (.cells #[.slice A6 y.ss.length c6, .slice A7 y.ps.length c7, .int .i64 y.left, .bool y.st] 25)) (w3.heap.size + 1) 25 [.slice A6 y.ss.length c6, .slice A7 y.ps.length c7, .int .i64 y.left, .bool y.st] from by have h := Cells.new ((w3).alloc (.cells #[.slice A5 r.rs.length c5, .int .i64 r.many, .int .i64 r.syn] 29)) 25 [.slice A6 y.ss.length c6, .slice A7 y.ps.length c7, .int .i64 y.left, .bool y.st]; simpa only [World.size_alloc] using h)
  generalize ((w3).alloc (.cells #[.slice A5 r.rs.length c5, .int .i64 r.many, .int .i64 r.syn] 29)).alloc (.cells #[.slice A6 y.ss.length c6, .slice A7 y.ps.length c7, .int .i64 y.left, .bool y.st] 25) = w6 at *
  have Z2l := Z2.out.lt
  have Z2c0 := Z2.out.cell (k := 0) rfl
  have Z2c1 := Z2.out.cell (k := 1) rfl
  have Z2c2 := Z2.out.cell (k := 2) rfl
  have Z3l := Z3.out.lt
  have Z3c0 := Z3.out.cell (k := 0) rfl
  have Z3c1 := Z3.out.cell (k := 1) rfl
  have Z3c2 := Z3.out.cell (k := 2) rfl
  have Z3c3 := Z3.out.cell (k := 3) rfl
  go_wp2_with (fail)
  refine (refSyncX_is HV.out HS.out HU.out HE.out HJR.out HDY.out rfl rfl rfl).mono ?_
  rintro e w4 ⟨A8, c8, A9, c9, A10, c10, rfl, hj, hd, hb⟩
  replace HV := Lib.hid (HV.out.upb hb)
  replace HU := Lib.hid (HU.out.upb hb)
  replace HR := Lib.hid (HR.out.upb hb)
  replace HW := Lib.hid (HW.out.upb hb)
  replace Z2 := Lib.hid (Z2.out.upb hb)
  replace Z3 := Lib.hid (Z3.out.upb hb)
  replace JX := Lib.hid (JX.out.upb hb)
  replace DX := Lib.hid (DX.out.upb hb)
  replace Z5 := Lib.hid (Z5.out.upb hb)
  replace Z6 := Lib.hid (Z6.out.upb hb)
  clear hb
  clear Z2l Z2c0 Z2c1 Z2c2 Z3l Z3c0 Z3c1 Z3c2 Z3c3
  have JY := Lib.hid hj
  have DY := Lib.hid hd
  clear hj hd
  go_upto_region 7 with (fail)
  replace HV := Lib.hid (HV.out.upb (al1 (w4) (.cells #[.slice A8 r.rs.length c8, .int .i64 r.many, .int .i64 r.syn] 29)))
  replace HU := Lib.hid (HU.out.upb (al1 (w4) (.cells #[.slice A8 r.rs.length c8, .int .i64 r.many, .int .i64 r.syn] 29)))
  replace HR := Lib.hid (HR.out.upb (al1 (w4) (.cells #[.slice A8 r.rs.length c8, .int .i64 r.many, .int .i64 r.syn] 29)))
  replace HW := Lib.hid (HW.out.upb (al1 (w4) (.cells #[.slice A8 r.rs.length c8, .int .i64 r.many, .int .i64 r.syn] 29)))
  replace Z2 := Lib.hid (Z2.out.upb (al1 (w4) (.cells #[.slice A8 r.rs.length c8, .int .i64 r.many, .int .i64 r.syn] 29)))
  replace Z3 := Lib.hid (Z3.out.upb (al1 (w4) (.cells #[.slice A8 r.rs.length c8, .int .i64 r.many, .int .i64 r.syn] 29)))
  replace JX := Lib.hid (JX.out.upb (al1 (w4) (.cells #[.slice A8 r.rs.length c8, .int .i64 r.many, .int .i64 r.syn] 29)))
  replace DX := Lib.hid (DX.out.upb (al1 (w4) (.cells #[.slice A8 r.rs.length c8, .int .i64 r.many, .int .i64 r.syn] 29)))
  replace Z5 := Lib.hid (Z5.out.upb (al1 (w4) (.cells #[.slice A8 r.rs.length c8, .int .i64 r.many, .int .i64 r.syn] 29)))
  replace Z6 := Lib.hid (Z6.out.upb (al1 (w4) (.cells #[.slice A8 r.rs.length c8, .int .i64 r.many, .int .i64 r.syn] 29)))
  replace JY := Lib.hid (JY.out.upb (al1 (w4) (.cells #[.slice A8 r.rs.length c8, .int .i64 r.many, .int .i64 r.syn] 29)))
  replace DY := Lib.hid (DY.out.upb (al1 (w4) (.cells #[.slice A8 r.rs.length c8, .int .i64 r.many, .int .i64 r.syn] 29)))
  have Z8 := Lib.hid (Cells.new (w4) 29 [.slice A8 r.rs.length c8, .int .i64 r.many, .int .i64 r.syn])
  replace HV := Lib.hid (HV.out.upb (al1 ((w4).alloc (.cells #[.slice A8 r.rs.length c8, .int .i64 r.many, .int .i64 r.syn] 29)) (.cells #[.slice A9 y.ss.length c9, .slice A10 y.ps.length c10, .int .i64 y.left, .bool y.st] 25)))
  replace HU := Lib.hid (HU.out.upb (al1 ((w4).alloc (.cells #[.slice A8 r.rs.length c8, .int .i64 r.many, .int .i64 r.syn] 29)) (.cells #[.slice A9 y.ss.length c9, .slice A10 y.ps.length c10, .int .i64 y.left, .bool y.st] 25)))
  replace HR := Lib.hid (HR.out.upb (al1 ((w4).alloc (.cells #[.slice A8 r.rs.length c8, .int .i64 r.many, .int .i64 r.syn] 29)) (.cells #[.slice A9 y.ss.length c9, .slice A10 y.ps.length c10, .int .i64 y.left, .bool y.st] 25)))
  replace HW := Lib.hid (HW.out.upb (al1 ((w4).alloc (.cells #[.slice A8 r.rs.length c8, .int .i64 r.many, .int .i64 r.syn] 29)) (.cells #[.slice A9 y.ss.length c9, .slice A10 y.ps.length c10, .int .i64 y.left, .bool y.st] 25)))
  replace Z2 := Lib.hid (Z2.out.upb (al1 ((w4).alloc (.cells #[.slice A8 r.rs.length c8, .int .i64 r.many, .int .i64 r.syn] 29)) (.cells #[.slice A9 y.ss.length c9, .slice A10 y.ps.length c10, .int .i64 y.left, .bool y.st] 25)))
  replace Z3 := Lib.hid (Z3.out.upb (al1 ((w4).alloc (.cells #[.slice A8 r.rs.length c8, .int .i64 r.many, .int .i64 r.syn] 29)) (.cells #[.slice A9 y.ss.length c9, .slice A10 y.ps.length c10, .int .i64 y.left, .bool y.st] 25)))
  replace JX := Lib.hid (JX.out.upb (al1 ((w4).alloc (.cells #[.slice A8 r.rs.length c8, .int .i64 r.many, .int .i64 r.syn] 29)) (.cells #[.slice A9 y.ss.length c9, .slice A10 y.ps.length c10, .int .i64 y.left, .bool y.st] 25)))
  replace DX := Lib.hid (DX.out.upb (al1 ((w4).alloc (.cells #[.slice A8 r.rs.length c8, .int .i64 r.many, .int .i64 r.syn] 29)) (.cells #[.slice A9 y.ss.length c9, .slice A10 y.ps.length c10, .int .i64 y.left, .bool y.st] 25)))
  replace Z5 := Lib.hid (Z5.out.upb (al1 ((w4).alloc (.cells #[.slice A8 r.rs.length c8, .int .i64 r.many, .int .i64 r.syn] 29)) (.cells #[.slice A9 y.ss.length c9, .slice A10 y.ps.length c10, .int .i64 y.left, .bool y.st] 25)))
  replace Z6 := Lib.hid (Z6.out.upb (al1 ((w4).alloc (.cells #[.slice A8 r.rs.length c8, .int .i64 r.many, .int .i64 r.syn] 29)) (.cells #[.slice A9 y.ss.length c9, .slice A10 y.ps.length c10, .int .i64 y.left, .bool y.st] 25)))
  replace JY := Lib.hid (JY.out.upb (al1 ((w4).alloc (.cells #[.slice A8 r.rs.length c8, .int .i64 r.many, .int .i64 r.syn] 29)) (.cells #[.slice A9 y.ss.length c9, .slice A10 y.ps.length c10, .int .i64 y.left, .bool y.st] 25)))
  replace DY := Lib.hid (DY.out.upb (al1 ((w4).alloc (.cells #[.slice A8 r.rs.length c8, .int .i64 r.many, .int .i64 r.syn] 29)) (.cells #[.slice A9 y.ss.length c9, .slice A10 y.ps.length c10, .int .i64 y.left, .bool y.st] 25)))
  replace Z8 := Lib.hid (Z8.out.upb (al1 ((w4).alloc (.cells #[.slice A8 r.rs.length c8, .int .i64 r.many, .int .i64 r.syn] 29)) (.cells #[.slice A9 y.ss.length c9, .slice A10 y.ps.length c10, .int .i64 y.left, .bool y.st] 25)))
  have Z9 := Lib.hid (show Cells (((w4).alloc (.cells #[.slice A8 r.rs.length c8, .int .i64 r.many, .int .i64 r.syn] 29)).alloc (.cells #[.slice A9 y.ss.length c9, .slice A10 y.ps.length c10, .int .i64 y.left, .bool y.st] 25)) (w4.heap.size + 1) 25 [.slice A9 y.ss.length c9, .slice A10 y.ps.length c10, .int .i64 y.left, .bool y.st] from by have h := Cells.new ((w4).alloc (.cells #[.slice A8 r.rs.length c8, .int .i64 r.many, .int .i64 r.syn] 29)) 25 [.slice A9 y.ss.length c9, .slice A10 y.ps.length c10, .int .i64 y.left, .bool y.st]; simpa only [World.size_alloc] using h)
  generalize ((w4).alloc (.cells #[.slice A8 r.rs.length c8, .int .i64 r.many, .int .i64 r.syn] 29)).alloc (.cells #[.slice A9 y.ss.length c9, .slice A10 y.ps.length c10, .int .i64 y.left, .bool y.st] 25) = w8 at *
  have Z5l := Z5.out.lt
  have Z5c0 := Z5.out.cell (k := 0) rfl
  have Z5c1 := Z5.out.cell (k := 1) rfl
  have Z5c2 := Z5.out.cell (k := 2) rfl
  have Z8l := Z8.out.lt
  have Z8c0 := Z8.out.cell (k := 0) rfl
  have Z8c1 := Z8.out.cell (k := 1) rfl
  have Z8c2 := Z8.out.cell (k := 2) rfl
  go_wp2_with (fail)
  refine (JSameI_is JX.out JY.out HRL.out (decide_eq_true rfl)).mono ?_
  rintro e w5 ⟨rfl, hb⟩
  replace HV := Lib.hid (HV.out.upb hb)
  replace HU := Lib.hid (HU.out.upb hb)
  replace HR := Lib.hid (HR.out.upb hb)
  replace HW := Lib.hid (HW.out.upb hb)
  replace Z2 := Lib.hid (Z2.out.upb hb)
  replace Z3 := Lib.hid (Z3.out.upb hb)
  replace JX := Lib.hid (JX.out.upb hb)
  replace DX := Lib.hid (DX.out.upb hb)
  replace Z5 := Lib.hid (Z5.out.upb hb)
  replace Z6 := Lib.hid (Z6.out.upb hb)
  replace JY := Lib.hid (JY.out.upb hb)
  replace DY := Lib.hid (DY.out.upb hb)
  replace Z8 := Lib.hid (Z8.out.upb hb)
  replace Z9 := Lib.hid (Z9.out.upb hb)
  clear hb
  clear Z5l Z5c0 Z5c1 Z5c2 Z8l Z8c0 Z8c1 Z8c2
  have Z6l := Z6.out.lt
  have Z6c0 := Z6.out.cell (k := 0) rfl
  have Z6c1 := Z6.out.cell (k := 1) rfl
  have Z6c2 := Z6.out.cell (k := 2) rfl
  have Z6c3 := Z6.out.cell (k := 3) rfl
  have Z9l := Z9.out.lt
  have Z9c0 := Z9.out.cell (k := 0) rfl
  have Z9c1 := Z9.out.cell (k := 1) rfl
  have Z9c2 := Z9.out.cell (k := 2) rfl
  have Z9c3 := Z9.out.cell (k := 3) rfl
  go_wp2_with (fail)
  refine (Same_is DX.out DY.out HYL.out.1 HYL.out.2 (decide_eq_true rfl)).mono ?_
  rintro e w6 ⟨rfl, hb⟩
  replace HV := Lib.hid (HV.out.upb hb)
  replace HU := Lib.hid (HU.out.upb hb)
  replace HR := Lib.hid (HR.out.upb hb)
  replace HW := Lib.hid (HW.out.upb hb)
  replace Z2 := Lib.hid (Z2.out.upb hb)
  replace Z3 := Lib.hid (Z3.out.upb hb)
  replace JX := Lib.hid (JX.out.upb hb)
  replace DX := Lib.hid (DX.out.upb hb)
  replace Z5 := Lib.hid (Z5.out.upb hb)
  replace Z6 := Lib.hid (Z6.out.upb hb)
  replace JY := Lib.hid (JY.out.upb hb)
  replace DY := Lib.hid (DY.out.upb hb)
  replace Z8 := Lib.hid (Z8.out.upb hb)
  replace Z9 := Lib.hid (Z9.out.upb hb)
  clear hb
  clear Z6l Z6c0 Z6c1 Z6c2 Z6c3 Z9l Z9c0 Z9c1 Z9c2 Z9c3
  go_wp2_with (fail)
  go_ret
  refine ⟨?_, HW.out.b⟩
  first | rfl | go_simp | simp
end Go.Proofs.Ytkcnanclpkongaa
