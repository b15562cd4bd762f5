/- Walk of the statements' examples. -/
import Derived.Test.YtkcnanclpkongaaJ17
import Derived.Test.YtkcnanclpkongaaJ19
import Derived.Test.YtkcnanclpkongaaJPB
import Derived.Deep.Cut
import Derived.Lib.SlBytesConst
namespace Go.Proofs.Ytkcnanclpkongaa
open Go.RowKit
set_option linter.unusedVariables false
set_option linter.unusedSimpArgs false
set_option maxRecDepth 20000

theorem Open_is {v : Value} {d : Dk} {w : World} {e0 : Int} {j : Jl} {n : Nat} {m s : Int} (hv : IsD w v d) (he : Jn.openE d = e0) (hj : Jn.openJ d = j) (hn : j.rs.length = n) (hm : j.many = m) (hs : j.syn = s) :
    Calls Try.prog 12 #[v] w fun e w' => ∃ A c, e = .returned (.tuple #[.agg #[.slice A n c, .int .i64 m, .int .i64 s], .int .i64 e0]) ∧ IsJ w' (.agg #[.slice A n c, .int .i64 m, .int .i64 s]) j ∧ Below w.heap.size w w' ∧ NJ w.heap.size (.agg #[.slice A n c, .int .i64 m, .int .i64 s]) := by
  subst he hj hn hm hs
  refine (Open_any hv).mono ?_
  rintro e w' ⟨x, rfl, hx, hb, hn⟩
  obtain ⟨A, c, rfl, _⟩ := hx.open_
  exact ⟨A, c, rfl, hx, hb, hn⟩
theorem JAppend_is {v u : Value} {j r : Jl} {b : By} {w : World} {e0 : Int} {n : Nat} {m s : Int} (hv : IsJ w v j) (hsm : Jn.Sm j.rs) (hu : IsBytes w u b) (hbl : b.length ≤ 1000000) (he : Jn.appE j b = e0) (hj : Jn.appJ j b = r) (hn : r.rs.length = n) (hm : r.many = m) (hs : r.syn = s) :
    Calls Try.prog 15 #[v, u] w fun e w' => ∃ A c, e = .returned (.tuple #[.agg #[.slice A n c, .int .i64 m, .int .i64 s], .int .i64 e0]) ∧ IsJ w' (.agg #[.slice A n c, .int .i64 m, .int .i64 s]) r ∧ Below w.heap.size w w' ∧ NJ w.heap.size (.agg #[.slice A n c, .int .i64 m, .int .i64 s]) := by
  subst he hj hn hm hs
  refine (JAppend_any hv hsm hu hbl).mono ?_
  rintro e w' ⟨x, rfl, hx, hb, hn⟩
  obtain ⟨A, c, rfl, _⟩ := hx.open_
  exact ⟨A, c, rfl, hx, hb, hn⟩
theorem JSync_is {v u : Value} {j r : Jl} {d y : Dk} {w : World} {e0 : Int} {n : Nat} {m s : Int} (hv : IsJ w v j) (hsm : Jn.Sm j.rs) (hu : IsD w u d) (he : Jn.syncE j d = e0) (hj : Jn.syncJ j d = r) (hd : Jn.syncD j d = y) (hn : r.rs.length = n) (hm : r.many = m) (hs : r.syn = s) :
    Calls Try.prog 21 #[v, u] w fun e w' => ∃ A c A1 c1 A2 c2, e = .returned (.tuple #[.agg #[.slice A n c, .int .i64 m, .int .i64 s], .agg #[.slice A1 y.ss.length c1, .slice A2 y.ps.length c2, .int .i64 y.left, .bool y.st], .int .i64 e0]) ∧ IsJ w' (.agg #[.slice A n c, .int .i64 m, .int .i64 s]) r ∧
      IsD w' (.agg #[.slice A1 y.ss.length c1, .slice A2 y.ps.length c2, .int .i64 y.left, .bool y.st]) y ∧ Below w.heap.size w w' ∧ SecJ w.heap.size v (.agg #[.slice A n c, .int .i64 m, .int .i64 s]) ∧ Sec w.heap.size u (.agg #[.slice A1 y.ss.length c1, .slice A2 y.ps.length c2, .int .i64 y.left, .bool y.st]) := by
  subst he hj hn hm hs hd
  refine (Sync_walk hv hsm hu).mono ?_
  rintro e w' ⟨x, y, rfl, hx, hy, hb, h1, h2⟩
  obtain ⟨A, c, rfl, _⟩ := hx.open_
  obtain ⟨A1, c1, A2, c2, rfl, _⟩ := hy.open_
  exact ⟨A, c, A1, c1, A2, c2, rfl, hx, hy, hb, h1, h2⟩
theorem arr113 : madeCells #[.int .u8 0] 113 = ((List.replicate 113 (0 : UInt8)).map encB).toArray := zs_arr' 113
theorem make_113 : ∃ ZL : List Value, ZL = (List.replicate 113 (0 : UInt8)).map encB ∧ ∀ w : World, (Instr.makeSlice 35 (.int .i64 113) (.int .i64 113)).run Try.prog w = .ok (.slice (some ⟨w.heap.size, 0, none⟩) 113 113) (w.alloc (.cells ZL.toArray 5)) := by
  refine ⟨_, rfl, fun w => ?_⟩
  obtain ⟨i0, hi, hz0, hz1, hz2⟩ := info_parts info5
  have hb : (i0.bytes : Int) * ((113 : Nat) : Int) ≤ 281474976710656 := by rw [hz2]; omega
  have hr := run_make (P := Try.prog) w 35 5 i0 _ Try.underlying35 hi hz0 .i64 .i64 (113 : Nat) (113 : Nat) (by omega) (by omega) hb (by omega)
  simp only [Int.toNat_natCast] at hr
  have e : ((113 : Nat) : Int) = 113 := rfl
  rw [e] at hr
  rw [hr, hz1, ← arr113]
  rfl
theorem ab_bytes (w : World) : IsBytes (w.alloc (.cells #[.int .u8 97, .int .u8 98] 5 (2, 3))) (.slice (some ⟨w.heap.size, 0, none⟩) 2 2) Jn.ab := by
  have hg : (w.alloc (.cells #[.int .u8 97, .int .u8 98] 5 (2, 3))).heap[w.heap.size]? = some (.cells #[.int .u8 97, .int .u8 98] 5 (2, 3)) := heap_alloc_new w _
  refine ⟨_, 2, rfl, Nat.le_refl _, fun _ => ⟨w.heap.size, 0, rfl, by simp, fun i hi => ?_⟩⟩
  rw [Nat.zero_add, cell_of_row _ _ _ _ 5 (2, 3) hg]
  match i, hi with
  | 0, _ => rfl
  | 1, _ => rfl
theorem sm_nil : Jn.Sm [] := ⟨by simp, fun k h => by simp at h⟩
theorem sm_sx : Jn.Sm Jn.sx.rs := ⟨by decide, fun k h => by
  have : k = 0 := by simp [Jn.sx] at h; omega
  subst this
  show Jn.ab.length ≤ 1000000
  decide⟩

set_option maxHeartbeats 8000000 in
set_option maxRecDepth 100000 in
theorem sane_any (w : World) : Calls Try.prog 10 #[] w fun e w' => e = .returned (.bool true) ∧ Below w.heap.size w w' := by
  obtain ⟨f1, f2, f3, f4, f5, f6, f7, f8, f9, f10, f11, f12, f13, f14⟩ := Jn.sane_facts
  obtain ⟨d1, hd1⟩ : ∃ d, Jn.sd = d := ⟨_, rfl⟩
  rw [hd1] at f2 f3 f4 f8 f9 f10 f11 f12
  obtain ⟨dc, hdc⟩ : ∃ d, Jn.syncD Jn.sx d1 = d := ⟨_, rfl⟩
  rw [hdc] at f10 f11 f12
  have E1 := Lib.hid f1
  have E2 := Lib.hid f2
  have E3 := Lib.hid f3
  have E4 := Lib.hid f4
  have E5 := Lib.hid f5
  have E6 := Lib.hid f6
  have E7 := Lib.hid f7
  have E8 := Lib.hid f8
  have E9 := Lib.hid f9
  have E10 := Lib.hid f10
  have E11 := Lib.hid f11
  have E12 := Lib.hid f12
  have E13 := Lib.hid f13
  have E14 := Lib.hid f14
  have EC := Lib.hid hdc
  clear hd1 hdc f1 f2 f3 f4 f5 f6 f7 f8 f9 f10 f11 f12 f13 f14
  have HW := Lib.hid (Bl.mk (Below.refl w.heap.size w))
  go_enter Try.func10, Try.ntmps10
  go_wp2_with (fail)
  refine (New_is (n := 1) E1.out E2.out).mono ?_
  rintro e w1 ⟨A1, c1, B1, k1, rfl, hd, hb⟩
  replace HW := Lib.hid (HW.out.upb hb)
  clear hb
  have F1 := Lib.hid hd
  clear hd
  go_wp2_with (fail)
  replace HW := Lib.hid (HW.out.upb (al1 (w1) (.cells #[.slice A1 d1.ss.length c1, .slice B1 d1.ps.length k1, .int .i64 d1.left, .bool d1.st] 25)))
  replace F1 := Lib.hid (F1.out.upb (al1 (w1) (.cells #[.slice A1 d1.ss.length c1, .slice B1 d1.ps.length k1, .int .i64 d1.left, .bool d1.st] 25)))
  have Z1 := Lib.hid (Cells.new (w1) 25 [.slice A1 d1.ss.length c1, .slice B1 d1.ps.length k1, .int .i64 d1.left, .bool d1.st])
  have Z1l := Z1.out.lt
  have Z1c0 := Z1.out.cell (k := 0) rfl
  have Z1c1 := Z1.out.cell (k := 1) rfl
  have Z1c2 := Z1.out.cell (k := 2) rfl
  have Z1c3 := Z1.out.cell (k := 3) rfl
  try go_wp2_with (fail)
  refine (Open_is F1.out E3.out E4.out rfl rfl rfl).mono ?_
  rintro e w2 ⟨A2, c2, rfl, hj, hb, -⟩
  replace HW := Lib.hid (HW.out.upb hb)
  replace F1 := Lib.hid (F1.out.upb hb)
  replace Z1 := Lib.hid (Z1.out.upb hb)
  clear hb
  clear Z1l Z1c0 Z1c1 Z1c2 Z1c3
  have L1 := Lib.hid hj
  clear hj
  simp only [List.length_nil]
  have Z1l := Z1.out.lt
  have Z1c0 := Z1.out.cell (k := 0) rfl
  have Z1c1 := Z1.out.cell (k := 1) rfl
  have Z1c2 := Z1.out.cell (k := 2) rfl
  have Z1c3 := Z1.out.cell (k := 3) rfl
  go_wp2_with (fail)
  replace HW := Lib.hid (HW.out.upb (al1 (w2) (.cells #[.slice A2 0 c2, .int .i64 1, .int .i64 0] 29)))
  replace F1 := Lib.hid (F1.out.upb (al1 (w2) (.cells #[.slice A2 0 c2, .int .i64 1, .int .i64 0] 29)))
  replace Z1 := Lib.hid (Z1.out.upb (al1 (w2) (.cells #[.slice A2 0 c2, .int .i64 1, .int .i64 0] 29)))
  replace L1 := Lib.hid (L1.out.upb (al1 (w2) (.cells #[.slice A2 0 c2, .int .i64 1, .int .i64 0] 29)))
  have Z3 := Lib.hid (Cells.new (w2) 29 [.slice A2 0 c2, .int .i64 1, .int .i64 0])
  clear Z1l Z1c0 Z1c1 Z1c2 Z1c3
  have Z1l := Z1.out.lt
  have Z1c0 := Z1.out.cell (k := 0) rfl
  have Z1c1 := Z1.out.cell (k := 1) rfl
  have Z1c2 := Z1.out.cell (k := 2) rfl
  have Z1c3 := Z1.out.cell (k := 3) rfl
  have Z3l := Z3.out.lt
  have Z3c0 := Z3.out.cell (k := 0) rfl
  have Z3c1 := Z3.out.cell (k := 1) rfl
  have Z3c2 := Z3.out.cell (k := 2) rfl
  clear Z1l Z1c0 Z1c1 Z1c2 Z1c3 Z3l Z3c0 Z3c1 Z3c2
  generalize (w2).alloc (.cells #[.slice A2 0 c2, .int .i64 1, .int .i64 0] 29) = wq at *
  have Z1l := Z1.out.lt
  have Z1c0 := Z1.out.cell (k := 0) rfl
  have Z1c1 := Z1.out.cell (k := 1) rfl
  have Z1c2 := Z1.out.cell (k := 2) rfl
  have Z1c3 := Z1.out.cell (k := 3) rfl
  have Z3l := Z3.out.lt
  have Z3c0 := Z3.out.cell (k := 0) rfl
  have Z3c1 := Z3.out.cell (k := 1) rfl
  have Z3c2 := Z3.out.cell (k := 2) rfl
  obtain ⟨ZL, hZL, hmk⟩ := make_113
  have HZL := Lib.hid hZL
  have HLEN := Lib.hid (show 113 = (List.replicate 113 (0 : UInt8)).length from (List.length_replicate ..).symm)
  clear hZL
  go_upto_region 3 with (fail)
  go_cut [5, 6] from 26 (fun s5 s6 wc => (∃ B5, s5 = .pointer (some ⟨B5, 0, none⟩)) ∧ s6 = .int .i64 2 ∧ Hid (Below (wq).heap.size (wq) wc))
  case first =>
    have HSd := Lib.hid (show Below (wq).heap.size (wq) (wq).drew from below_drewN (Below.refl _ _) 1)
    refine wp_region_noPanic ?_
    refine wp_region_U 7 (fun X => Below (wq).heap.size (wq) X) (by kernel_rfl) ?_
    refine wpAnyU_takeD (i := 0) (v := .agg #[.slice A2 0 c2, .int .i64 1, .int .i64 0]) 27 rfl rfl (by kernel_rfl) (by kernel_rfl) (by kernel_rfl) (by kernel_rfl) (by kernel_rfl) (by kernel_rfl) (fun _ _ _ h => h) (.inl ⟨rfl, fun X hX => ?_⟩) HSd.out ?_
    · have hz := Z3.out.upb hX; have z0 := hz.cell (k := 0) rfl; have z1 := hz.cell (k := 1) rfl; have z2 := hz.cell (k := 2) rfl; go_simp
    refine wpAnyU_two (i := 1) (j := 6) (by kernel_rfl) rfl rfl (fun K hK => ?_) (fun K hK => ?_)
    ·
      go_simp
      refine hK.out _ _ (fun _ => (HSd.out.up (al1 _ (.cells ZL.toArray 5)))) (fun _ => ?_)
      clear hK K
      refine wpAnyU_two (i := 2) (j := 6) (by kernel_rfl) rfl rfl (fun K hK => ?_) (fun K hK => ?_)
      ·
        have HBy := Lib.hid ((HSd.out.up (al1 _ (.cells ZL.toArray 5))))
        have BY := Lib.hid (bytes_cells (bs := List.replicate 113 (0 : UInt8)) (n := 113) (c := 113) (by rw [← HZL.out]; exact (show Cells ((wq).drew.alloc (.cells ZL.toArray 5)) (wq).heap.size 5 ZL from Cells.new (wq).drew 5 ZL)) HLEN.out (Nat.le_refl _))
        refine step_fn rfl (.func 15) #[.tmp 27, .tmp 28] _ rfl 15 #[] rfl #[.agg #[.slice A2 0 c2, .int .i64 1, .int .i64 0], .slice (some ⟨(wq).heap.size, 0, none⟩) 113 113] (by simp [Act.eval, Act.put]) (enters_of Try.func15 (by kernel_rfl) rfl) (JAppend_is (L1.out.upb HBy.out) sm_nil BY.out (by rw [← HLEN.out]; omega) E5.out (show Jn.appJ ⟨[], 1, 0⟩ (List.replicate 113 0) = j0 from by decide) rfl rfl rfl) ?_
        rintro e wz ⟨A5, c5, rfl, hj, hb, -⟩
        have HBz := Lib.hid (HBy.out.up hb)
        refine ⟨.tuple #[.agg #[.slice A5 0 c5, .int .i64 0, .int .i64 0], .int .i64 2], rfl, hK.out _ _ (fun _ => HBz.out) (fun _ => ?_)⟩
        clear hK K hb HBy BY hj
        refine wpAnyU_take0D (i := 3) (v := .tuple #[.agg #[.slice A5 0 c5, .int .i64 0, .int .i64 0], .int .i64 2]) 26 rfl rfl (by kernel_rfl) (by kernel_rfl) (by kernel_rfl) (by kernel_rfl) (fun _ _ _ h => h) (.inl ⟨rfl, fun X hX => by go_simp⟩) (fun _ => HBz.out) ?_
        refine wpAnyU_take0D (i := 4) (v := .agg #[.slice A5 0 c5, .int .i64 0, .int .i64 0]) 30 rfl rfl (by kernel_rfl) (by kernel_rfl) (by kernel_rfl) (by kernel_rfl) (fun _ _ _ h => h) (.inl ⟨rfl, fun X hX => by go_simp⟩) (fun _ => HBz.out) ?_
        refine wpAnyU_take0D (i := 5) (v := .int .i64 2) 31 rfl rfl (by kernel_rfl) (by kernel_rfl) (by kernel_rfl) (by kernel_rfl) (fun _ _ _ h => h) (.inl ⟨rfl, fun X hX => by go_simp⟩) (fun _ => HBz.out) ?_
        refine wpAnyU_one (i := 6) (by kernel_rfl) rfl (fun K hK => ?_)
        go_simp
        refine hK.out _ _ (fun _ => HBz.out.up (al1 wz (.cells #[.slice none 0 0, .int .i64 0, .int .i64 0] 29))) (fun _ => ?_)
        clear hK K
        refine wpAnyU_one (i := 7) (by kernel_rfl) rfl (fun K hK => ?_)
        go_simp
        refine hK.out _ _ (fun h => absurd h (by decide)) (fun _ => ?_)
        clear hK K
        refine wpAnyU_one (i := 8) (by kernel_rfl) rfl (fun K hK => ?_)
        go_simp
        refine hK.out _ _ (fun h => absurd h (by decide)) (fun _ => ?_)
        clear hK K
        refine wpAnyU_done (by kernel_rfl) (NoPanic.normal ?_) _
        go_wp2_with (fail)
        go_meet
        case rel => exact ⟨⟨_, rfl⟩, rfl, Lib.hid (HBz.out.up (al1 wz _))⟩
      ·
        go_simp
        refine hK.out _ _ (fun _ => (HSd.out.up (al1 _ (.cells ZL.toArray 5))).up (al1 _ (.cells #[.slice none 0 0, .int .i64 0, .int .i64 0] 29))) (fun _ => ?_)
        clear hK K
        refine wpAnyU_one (i := 2) (by kernel_rfl) rfl (fun K hK => ?_)
        have HBy := Lib.hid ((HSd.out.up (al1 _ (.cells ZL.toArray 5))).up (al1 _ (.cells #[.slice none 0 0, .int .i64 0, .int .i64 0] 29)))
        have BY := Lib.hid (bytes_cells (bs := List.replicate 113 (0 : UInt8)) (n := 113) (c := 113) (by rw [← HZL.out]; exact ((show Cells ((wq).drew.alloc (.cells ZL.toArray 5)) (wq).heap.size 5 ZL from Cells.new (wq).drew 5 ZL).upb (al1 _ (.cells #[.slice none 0 0, .int .i64 0, .int .i64 0] 29)))) HLEN.out (Nat.le_refl _))
        refine step_fn rfl (.func 15) #[.tmp 27, .tmp 28] _ rfl 15 #[] rfl #[.agg #[.slice A2 0 c2, .int .i64 1, .int .i64 0], .slice (some ⟨(wq).heap.size, 0, none⟩) 113 113] (by simp [Act.eval, Act.put]) (enters_of Try.func15 (by kernel_rfl) rfl) (JAppend_is (L1.out.upb HBy.out) sm_nil BY.out (by rw [← HLEN.out]; omega) E5.out (show Jn.appJ ⟨[], 1, 0⟩ (List.replicate 113 0) = j0 from by decide) rfl rfl rfl) ?_
        rintro e wz ⟨A5, c5, rfl, hj, hb, -⟩
        have HBz := Lib.hid (HBy.out.up hb)
        have HC6 := Lib.hid (((show Cells (((wq).drew.alloc (.cells ZL.toArray 5)).alloc (.cells #[.slice none 0 0, .int .i64 0, .int .i64 0] 29)) ((wq).heap.size + 1) 29 [.slice none 0 0, .int .i64 0, .int .i64 0] from by have h := Cells.new ((wq).drew.alloc (.cells ZL.toArray 5)) 29 [.slice none 0 0, .int .i64 0, .int .i64 0]; simpa using h)).upb hb)
        have c60 := HC6.out.cell (k := 0) rfl
        have d60 := HC6.out.frozen 0
        have c61 := HC6.out.cell (k := 1) rfl
        have d61 := HC6.out.frozen 1
        have c62 := HC6.out.cell (k := 2) rfl
        have d62 := HC6.out.frozen 2
        have l6 := HC6.out.lt
        refine ⟨.tuple #[.agg #[.slice A5 0 c5, .int .i64 0, .int .i64 0], .int .i64 2], rfl, hK.out _ _ (fun _ => HBz.out) (fun _ => ?_)⟩
        clear hK K hb HBy BY hj
        refine wpAnyU_take0D (i := 3) (v := .tuple #[.agg #[.slice A5 0 c5, .int .i64 0, .int .i64 0], .int .i64 2]) 26 rfl rfl (by kernel_rfl) (by kernel_rfl) (by kernel_rfl) (by kernel_rfl) (fun _ _ _ h => h) (.inl ⟨rfl, fun X hX => by go_simp⟩) (fun _ => HBz.out) ?_
        refine wpAnyU_take0D (i := 4) (v := .agg #[.slice A5 0 c5, .int .i64 0, .int .i64 0]) 30 rfl rfl (by kernel_rfl) (by kernel_rfl) (by kernel_rfl) (by kernel_rfl) (fun _ _ _ h => h) (.inl ⟨rfl, fun X hX => by go_simp⟩) (fun _ => HBz.out) ?_
        refine wpAnyU_take0D (i := 5) (v := .int .i64 2) 31 rfl rfl (by kernel_rfl) (by kernel_rfl) (by kernel_rfl) (by kernel_rfl) (fun _ _ _ h => h) (.inl ⟨rfl, fun X hX => by go_simp⟩) (fun _ => HBz.out) ?_
        refine wpAnyU_one (i := 7) (by kernel_rfl) rfl (fun K hK => ?_)
        go_simp
        refine hK.out _ _ (fun h => absurd h (by decide)) (fun _ => ?_)
        clear hK K
        refine wpAnyU_one (i := 8) (by kernel_rfl) rfl (fun K hK => ?_)
        go_simp
        refine hK.out _ _ (fun h => absurd h (by decide)) (fun _ => ?_)
        clear hK K
        refine wpAnyU_done (by kernel_rfl) (NoPanic.normal ?_) _
        go_wp2_with (fail)
        go_meet
        case rel => exact ⟨⟨_, rfl⟩, rfl, Lib.hid (below_set3 HBz.out (by first | omega | (simp; done) | (simp; omega)) _ _ _)⟩
    ·
      go_simp
      refine hK.out _ _ (fun _ => (HSd.out.up (al1 _ (.cells #[.slice none 0 0, .int .i64 0, .int .i64 0] 29)))) (fun _ => ?_)
      clear hK K
      refine wpAnyU_one (i := 1) (by kernel_rfl) rfl (fun K hK => ?_)
      go_simp
      refine hK.out _ _ (fun _ => (HSd.out.up (al1 _ (.cells #[.slice none 0 0, .int .i64 0, .int .i64 0] 29))).up (al1 _ (.cells ZL.toArray 5))) (fun _ => ?_)
      clear hK K
      refine wpAnyU_one (i := 2) (by kernel_rfl) rfl (fun K hK => ?_)
      have HBy := Lib.hid ((HSd.out.up (al1 _ (.cells #[.slice none 0 0, .int .i64 0, .int .i64 0] 29))).up (al1 _ (.cells ZL.toArray 5)))
      have BY := Lib.hid (bytes_cells (bs := List.replicate 113 (0 : UInt8)) (n := 113) (c := 113) (by rw [← HZL.out]; exact (show Cells (((wq).drew.alloc (.cells #[.slice none 0 0, .int .i64 0, .int .i64 0] 29)).alloc (.cells ZL.toArray 5)) ((wq).heap.size + 1) 5 ZL from by have h := Cells.new ((wq).drew.alloc (.cells #[.slice none 0 0, .int .i64 0, .int .i64 0] 29)) 5 ZL; simpa using h)) HLEN.out (Nat.le_refl _))
      refine step_fn rfl (.func 15) #[.tmp 27, .tmp 28] _ rfl 15 #[] rfl #[.agg #[.slice A2 0 c2, .int .i64 1, .int .i64 0], .slice (some ⟨(wq).heap.size + 1, 0, none⟩) 113 113] (by simp [Act.eval, Act.put]) (enters_of Try.func15 (by kernel_rfl) rfl) (JAppend_is (L1.out.upb HBy.out) sm_nil BY.out (by rw [← HLEN.out]; omega) E5.out (show Jn.appJ ⟨[], 1, 0⟩ (List.replicate 113 0) = j0 from by decide) rfl rfl rfl) ?_
      rintro e wz ⟨A5, c5, rfl, hj, hb, -⟩
      have HBz := Lib.hid (HBy.out.up hb)
      have HC6 := Lib.hid ((((show Cells ((wq).drew.alloc (.cells #[.slice none 0 0, .int .i64 0, .int .i64 0] 29)) (wq).heap.size 29 [.slice none 0 0, .int .i64 0, .int .i64 0] from Cells.new (wq).drew 29 [.slice none 0 0, .int .i64 0, .int .i64 0]).upb (al1 _ (.cells ZL.toArray 5)))).upb hb)
      have c60 := HC6.out.cell (k := 0) rfl
      have d60 := HC6.out.frozen 0
      have c61 := HC6.out.cell (k := 1) rfl
      have d61 := HC6.out.frozen 1
      have c62 := HC6.out.cell (k := 2) rfl
      have d62 := HC6.out.frozen 2
      have l6 := HC6.out.lt
      refine ⟨.tuple #[.agg #[.slice A5 0 c5, .int .i64 0, .int .i64 0], .int .i64 2], rfl, hK.out _ _ (fun _ => HBz.out) (fun _ => ?_)⟩
      clear hK K hb HBy BY hj
      refine wpAnyU_take0D (i := 3) (v := .tuple #[.agg #[.slice A5 0 c5, .int .i64 0, .int .i64 0], .int .i64 2]) 26 rfl rfl (by kernel_rfl) (by kernel_rfl) (by kernel_rfl) (by kernel_rfl) (fun _ _ _ h => h) (.inl ⟨rfl, fun X hX => by go_simp⟩) (fun _ => HBz.out) ?_
      refine wpAnyU_take0D (i := 4) (v := .agg #[.slice A5 0 c5, .int .i64 0, .int .i64 0]) 30 rfl rfl (by kernel_rfl) (by kernel_rfl) (by kernel_rfl) (by kernel_rfl) (fun _ _ _ h => h) (.inl ⟨rfl, fun X hX => by go_simp⟩) (fun _ => HBz.out) ?_
      refine wpAnyU_take0D (i := 5) (v := .int .i64 2) 31 rfl rfl (by kernel_rfl) (by kernel_rfl) (by kernel_rfl) (by kernel_rfl) (fun _ _ _ h => h) (.inl ⟨rfl, fun X hX => by go_simp⟩) (fun _ => HBz.out) ?_
      refine wpAnyU_one (i := 7) (by kernel_rfl) rfl (fun K hK => ?_)
      go_simp
      refine hK.out _ _ (fun h => absurd h (by decide)) (fun _ => ?_)
      clear hK K
      refine wpAnyU_one (i := 8) (by kernel_rfl) rfl (fun K hK => ?_)
      go_simp
      refine hK.out _ _ (fun h => absurd h (by decide)) (fun _ => ?_)
      clear hK K
      refine wpAnyU_done (by kernel_rfl) (NoPanic.normal ?_) _
      go_wp2_with (fail)
      go_meet
      case rel => exact ⟨⟨_, rfl⟩, rfl, Lib.hid (below_set3 HBz.out (by first | omega | (simp; done) | (simp; omega)) _ _ _)⟩
  case rest =>
  obtain ⟨⟨B5, rfl⟩, rfl, HBc⟩ := hcut
  replace HW := Lib.hid (HW.out.upb HBc.out)
  replace F1 := Lib.hid (F1.out.upb HBc.out)
  replace Z1 := Lib.hid (Z1.out.upb HBc.out)
  replace L1 := Lib.hid (L1.out.upb HBc.out)
  replace Z3 := Lib.hid (Z3.out.upb HBc.out)
  clear Z1l Z1c0 Z1c1 Z1c2 Z1c3 Z3l Z3c0 Z3c1 Z3c2
  clear HBc HZL HLEN hmk
  have Z1l := Z1.out.lt
  have Z1c0 := Z1.out.cell (k := 0) rfl
  have Z1c1 := Z1.out.cell (k := 1) rfl
  have Z1c2 := Z1.out.cell (k := 2) rfl
  have Z1c3 := Z1.out.cell (k := 3) rfl
  have Z3l := Z3.out.lt
  have Z3c0 := Z3.out.cell (k := 0) rfl
  have Z3c1 := Z3.out.cell (k := 1) rfl
  have Z3c2 := Z3.out.cell (k := 2) rfl
  have kc := fun (w : World) (C : Array Value) (n c : Nat) => Lib.run_convert_bytes_const (P := Try.prog) w 35 5 C n c Try.underlying35 Try.underlying5
  go_wp2_with (fail)
  replace HW := Lib.hid (HW.out.upb (al1 (wc) (.cells #[.int .u8 97, .int .u8 98] 5 (2, 3))))
  replace F1 := Lib.hid (F1.out.upb (al1 (wc) (.cells #[.int .u8 97, .int .u8 98] 5 (2, 3))))
  replace Z1 := Lib.hid (Z1.out.upb (al1 (wc) (.cells #[.int .u8 97, .int .u8 98] 5 (2, 3))))
  replace L1 := Lib.hid (L1.out.upb (al1 (wc) (.cells #[.int .u8 97, .int .u8 98] 5 (2, 3))))
  replace Z3 := Lib.hid (Z3.out.upb (al1 (wc) (.cells #[.int .u8 97, .int .u8 98] 5 (2, 3))))
  refine (JAppend_is (n := 1) (m := 1) (s := 0) L1.out sm_nil (ab_bytes wc) (by decide) E6.out E7.out rfl rfl rfl).mono ?_
  rintro e w3 ⟨A7, c7, rfl, hj, hb, -⟩
  replace HW := Lib.hid (HW.out.upb hb)
  replace F1 := Lib.hid (F1.out.upb hb)
  replace Z1 := Lib.hid (Z1.out.upb hb)
  replace L1 := Lib.hid (L1.out.upb hb)
  replace Z3 := Lib.hid (Z3.out.upb hb)
  clear hb kc
  clear Z1l Z1c0 Z1c1 Z1c2 Z1c3 Z3l Z3c0 Z3c1 Z3c2
  have L7 := Lib.hid hj
  clear hj
  have Z1l := Z1.out.lt
  have Z1c0 := Z1.out.cell (k := 0) rfl
  have Z1c1 := Z1.out.cell (k := 1) rfl
  have Z1c2 := Z1.out.cell (k := 2) rfl
  have Z1c3 := Z1.out.cell (k := 3) rfl
  have Z3l := Z3.out.lt
  have Z3c0 := Z3.out.cell (k := 0) rfl
  have Z3c1 := Z3.out.cell (k := 1) rfl
  have Z3c2 := Z3.out.cell (k := 2) rfl
  go_wp2_with (fail)
  replace HW := Lib.hid (HW.out.upb (al1 (w3) (.cells #[.slice A7 1 c7, .int .i64 1, .int .i64 0] 29)))
  replace F1 := Lib.hid (F1.out.upb (al1 (w3) (.cells #[.slice A7 1 c7, .int .i64 1, .int .i64 0] 29)))
  replace Z1 := Lib.hid (Z1.out.upb (al1 (w3) (.cells #[.slice A7 1 c7, .int .i64 1, .int .i64 0] 29)))
  replace L1 := Lib.hid (L1.out.upb (al1 (w3) (.cells #[.slice A7 1 c7, .int .i64 1, .int .i64 0] 29)))
  replace Z3 := Lib.hid (Z3.out.upb (al1 (w3) (.cells #[.slice A7 1 c7, .int .i64 1, .int .i64 0] 29)))
  replace L7 := Lib.hid (L7.out.upb (al1 (w3) (.cells #[.slice A7 1 c7, .int .i64 1, .int .i64 0] 29)))
  have Z7 := Lib.hid (Cells.new (w3) 29 [.slice A7 1 c7, .int .i64 1, .int .i64 0])
  clear Z1l Z1c0 Z1c1 Z1c2 Z1c3 Z3l Z3c0 Z3c1 Z3c2
  have Z1l := Z1.out.lt
  have Z1c0 := Z1.out.cell (k := 0) rfl
  have Z1c1 := Z1.out.cell (k := 1) rfl
  have Z1c2 := Z1.out.cell (k := 2) rfl
  have Z1c3 := Z1.out.cell (k := 3) rfl
  have Z3l := Z3.out.lt
  have Z3c0 := Z3.out.cell (k := 0) rfl
  have Z3c1 := Z3.out.cell (k := 1) rfl
  have Z3c2 := Z3.out.cell (k := 2) rfl
  have Z7l := Z7.out.lt
  have Z7c0 := Z7.out.cell (k := 0) rfl
  have Z7c1 := Z7.out.cell (k := 1) rfl
  have Z7c2 := Z7.out.cell (k := 2) rfl
  try go_wp2_with (fail)
  refine (JSync_is (n := 1) (m := 1) (s := 1) L7.out sm_sx F1.out E8.out E9.out EC.out rfl rfl rfl).mono ?_
  rintro e w4 ⟨A9, c9, A10, c10, B10, k10, rfl, hj, hd, hb, -, -⟩
  replace HW := Lib.hid (HW.out.upb hb)
  replace F1 := Lib.hid (F1.out.upb hb)
  replace Z1 := Lib.hid (Z1.out.upb hb)
  replace L1 := Lib.hid (L1.out.upb hb)
  replace Z3 := Lib.hid (Z3.out.upb hb)
  replace L7 := Lib.hid (L7.out.upb hb)
  replace Z7 := Lib.hid (Z7.out.upb hb)
  clear hb hj
  clear Z1l Z1c0 Z1c1 Z1c2 Z1c3 Z3l Z3c0 Z3c1 Z3c2 Z7l Z7c0 Z7c1 Z7c2
  have F10 := Lib.hid hd
  clear hd
  have Z1l := Z1.out.lt
  have Z1c0 := Z1.out.cell (k := 0) rfl
  have Z1c1 := Z1.out.cell (k := 1) rfl
  have Z1c2 := Z1.out.cell (k := 2) rfl
  have Z1c3 := Z1.out.cell (k := 3) rfl
  have Z3l := Z3.out.lt
  have Z3c0 := Z3.out.cell (k := 0) rfl
  have Z3c1 := Z3.out.cell (k := 1) rfl
  have Z3c2 := Z3.out.cell (k := 2) rfl
  have Z7l := Z7.out.lt
  have Z7c0 := Z7.out.cell (k := 0) rfl
  have Z7c1 := Z7.out.cell (k := 1) rfl
  have Z7c2 := Z7.out.cell (k := 2) rfl
  go_wp2_with (fail)
  replace HW := Lib.hid (HW.out.upb (al1 (w4) (.cells #[.slice A9 1 c9, .int .i64 1, .int .i64 1] 29)))
  replace F1 := Lib.hid (F1.out.upb (al1 (w4) (.cells #[.slice A9 1 c9, .int .i64 1, .int .i64 1] 29)))
  replace Z1 := Lib.hid (Z1.out.upb (al1 (w4) (.cells #[.slice A9 1 c9, .int .i64 1, .int .i64 1] 29)))
  replace L1 := Lib.hid (L1.out.upb (al1 (w4) (.cells #[.slice A9 1 c9, .int .i64 1, .int .i64 1] 29)))
  replace Z3 := Lib.hid (Z3.out.upb (al1 (w4) (.cells #[.slice A9 1 c9, .int .i64 1, .int .i64 1] 29)))
  replace L7 := Lib.hid (L7.out.upb (al1 (w4) (.cells #[.slice A9 1 c9, .int .i64 1, .int .i64 1] 29)))
  replace Z7 := Lib.hid (Z7.out.upb (al1 (w4) (.cells #[.slice A9 1 c9, .int .i64 1, .int .i64 1] 29)))
  replace F10 := Lib.hid (F10.out.upb (al1 (w4) (.cells #[.slice A9 1 c9, .int .i64 1, .int .i64 1] 29)))
  have Z9 := Lib.hid (Cells.new (w4) 29 [.slice A9 1 c9, .int .i64 1, .int .i64 1])
  replace HW := Lib.hid (HW.out.upb (al1 ((w4).alloc (.cells #[.slice A9 1 c9, .int .i64 1, .int .i64 1] 29)) (.cells #[.slice A10 dc.ss.length c10, .slice B10 dc.ps.length k10, .int .i64 dc.left, .bool dc.st] 25)))
  replace F1 := Lib.hid (F1.out.upb (al1 ((w4).alloc (.cells #[.slice A9 1 c9, .int .i64 1, .int .i64 1] 29)) (.cells #[.slice A10 dc.ss.length c10, .slice B10 dc.ps.length k10, .int .i64 dc.left, .bool dc.st] 25)))
  replace Z1 := Lib.hid (Z1.out.upb (al1 ((w4).alloc (.cells #[.slice A9 1 c9, .int .i64 1, .int .i64 1] 29)) (.cells #[.slice A10 dc.ss.length c10, .slice B10 dc.ps.length k10, .int .i64 dc.left, .bool dc.st] 25)))
  replace L1 := Lib.hid (L1.out.upb (al1 ((w4).alloc (.cells #[.slice A9 1 c9, .int .i64 1, .int .i64 1] 29)) (.cells #[.slice A10 dc.ss.length c10, .slice B10 dc.ps.length k10, .int .i64 dc.left, .bool dc.st] 25)))
  replace Z3 := Lib.hid (Z3.out.upb (al1 ((w4).alloc (.cells #[.slice A9 1 c9, .int .i64 1, .int .i64 1] 29)) (.cells #[.slice A10 dc.ss.length c10, .slice B10 dc.ps.length k10, .int .i64 dc.left, .bool dc.st] 25)))
  replace L7 := Lib.hid (L7.out.upb (al1 ((w4).alloc (.cells #[.slice A9 1 c9, .int .i64 1, .int .i64 1] 29)) (.cells #[.slice A10 dc.ss.length c10, .slice B10 dc.ps.length k10, .int .i64 dc.left, .bool dc.st] 25)))
  replace Z7 := Lib.hid (Z7.out.upb (al1 ((w4).alloc (.cells #[.slice A9 1 c9, .int .i64 1, .int .i64 1] 29)) (.cells #[.slice A10 dc.ss.length c10, .slice B10 dc.ps.length k10, .int .i64 dc.left, .bool dc.st] 25)))
  replace F10 := Lib.hid (F10.out.upb (al1 ((w4).alloc (.cells #[.slice A9 1 c9, .int .i64 1, .int .i64 1] 29)) (.cells #[.slice A10 dc.ss.length c10, .slice B10 dc.ps.length k10, .int .i64 dc.left, .bool dc.st] 25)))
  replace Z9 := Lib.hid (Z9.out.upb (al1 ((w4).alloc (.cells #[.slice A9 1 c9, .int .i64 1, .int .i64 1] 29)) (.cells #[.slice A10 dc.ss.length c10, .slice B10 dc.ps.length k10, .int .i64 dc.left, .bool dc.st] 25)))
  have Z10 := Lib.hid (show Cells (((w4).alloc (.cells #[.slice A9 1 c9, .int .i64 1, .int .i64 1] 29)).alloc (.cells #[.slice A10 dc.ss.length c10, .slice B10 dc.ps.length k10, .int .i64 dc.left, .bool dc.st] 25)) (w4.heap.size + 1) 25 [.slice A10 dc.ss.length c10, .slice B10 dc.ps.length k10, .int .i64 dc.left, .bool dc.st] from by have h := Cells.new ((w4).alloc (.cells #[.slice A9 1 c9, .int .i64 1, .int .i64 1] 29)) 25 [.slice A10 dc.ss.length c10, .slice B10 dc.ps.length k10, .int .i64 dc.left, .bool dc.st]; simpa only [World.size_alloc] using h)
  clear Z1l Z1c0 Z1c1 Z1c2 Z1c3 Z3l Z3c0 Z3c1 Z3c2 Z7l Z7c0 Z7c1 Z7c2
  have Z1l := Z1.out.lt
  have Z1c0 := Z1.out.cell (k := 0) rfl
  have Z1c1 := Z1.out.cell (k := 1) rfl
  have Z1c2 := Z1.out.cell (k := 2) rfl
  have Z1c3 := Z1.out.cell (k := 3) rfl
  have Z3l := Z3.out.lt
  have Z3c0 := Z3.out.cell (k := 0) rfl
  have Z3c1 := Z3.out.cell (k := 1) rfl
  have Z3c2 := Z3.out.cell (k := 2) rfl
  have Z7l := Z7.out.lt
  have Z7c0 := Z7.out.cell (k := 0) rfl
  have Z7c1 := Z7.out.cell (k := 1) rfl
  have Z7c2 := Z7.out.cell (k := 2) rfl
  have Z9l := Z9.out.lt
  have Z9c0 := Z9.out.cell (k := 0) rfl
  have Z9c1 := Z9.out.cell (k := 1) rfl
  have Z9c2 := Z9.out.cell (k := 2) rfl
  have Z10l := Z10.out.lt
  have Z10c0 := Z10.out.cell (k := 0) rfl
  have Z10c1 := Z10.out.cell (k := 1) rfl
  have Z10c2 := Z10.out.cell (k := 2) rfl
  have Z10c3 := Z10.out.cell (k := 3) rfl
  try go_wp2_with (fail)
  refine (Open_is (n := 1) (m := 1) (s := 1) F10.out E10.out E11.out rfl rfl rfl).mono ?_
  rintro e w5 ⟨A12, c12, rfl, hj, hb, -⟩
  replace HW := Lib.hid (HW.out.upb hb)
  replace F1 := Lib.hid (F1.out.upb hb)
  replace Z1 := Lib.hid (Z1.out.upb hb)
  replace L1 := Lib.hid (L1.out.upb hb)
  replace Z3 := Lib.hid (Z3.out.upb hb)
  replace L7 := Lib.hid (L7.out.upb hb)
  replace Z7 := Lib.hid (Z7.out.upb hb)
  replace F10 := Lib.hid (F10.out.upb hb)
  replace Z9 := Lib.hid (Z9.out.upb hb)
  replace Z10 := Lib.hid (Z10.out.upb hb)
  clear hb
  clear Z1l Z1c0 Z1c1 Z1c2 Z1c3 Z3l Z3c0 Z3c1 Z3c2 Z7l Z7c0 Z7c1 Z7c2 Z9l Z9c0 Z9c1 Z9c2 Z10l Z10c0 Z10c1 Z10c2 Z10c3
  have L12 := Lib.hid hj
  clear hj
  have Z1l := Z1.out.lt
  have Z1c0 := Z1.out.cell (k := 0) rfl
  have Z1c1 := Z1.out.cell (k := 1) rfl
  have Z1c2 := Z1.out.cell (k := 2) rfl
  have Z1c3 := Z1.out.cell (k := 3) rfl
  have Z3l := Z3.out.lt
  have Z3c0 := Z3.out.cell (k := 0) rfl
  have Z3c1 := Z3.out.cell (k := 1) rfl
  have Z3c2 := Z3.out.cell (k := 2) rfl
  have Z7l := Z7.out.lt
  have Z7c0 := Z7.out.cell (k := 0) rfl
  have Z7c1 := Z7.out.cell (k := 1) rfl
  have Z7c2 := Z7.out.cell (k := 2) rfl
  have Z9l := Z9.out.lt
  have Z9c0 := Z9.out.cell (k := 0) rfl
  have Z9c1 := Z9.out.cell (k := 1) rfl
  have Z9c2 := Z9.out.cell (k := 2) rfl
  have Z10l := Z10.out.lt
  have Z10c0 := Z10.out.cell (k := 0) rfl
  have Z10c1 := Z10.out.cell (k := 1) rfl
  have Z10c2 := Z10.out.cell (k := 2) rfl
  have Z10c3 := Z10.out.cell (k := 3) rfl
  go_wp2_with (fail)
  replace HW := Lib.hid (HW.out.upb (al1 (w5) (.cells #[.slice A12 1 c12, .int .i64 1, .int .i64 1] 29)))
  replace F1 := Lib.hid (F1.out.upb (al1 (w5) (.cells #[.slice A12 1 c12, .int .i64 1, .int .i64 1] 29)))
  replace Z1 := Lib.hid (Z1.out.upb (al1 (w5) (.cells #[.slice A12 1 c12, .int .i64 1, .int .i64 1] 29)))
  replace L1 := Lib.hid (L1.out.upb (al1 (w5) (.cells #[.slice A12 1 c12, .int .i64 1, .int .i64 1] 29)))
  replace Z3 := Lib.hid (Z3.out.upb (al1 (w5) (.cells #[.slice A12 1 c12, .int .i64 1, .int .i64 1] 29)))
  replace L7 := Lib.hid (L7.out.upb (al1 (w5) (.cells #[.slice A12 1 c12, .int .i64 1, .int .i64 1] 29)))
  replace Z7 := Lib.hid (Z7.out.upb (al1 (w5) (.cells #[.slice A12 1 c12, .int .i64 1, .int .i64 1] 29)))
  replace F10 := Lib.hid (F10.out.upb (al1 (w5) (.cells #[.slice A12 1 c12, .int .i64 1, .int .i64 1] 29)))
  replace Z9 := Lib.hid (Z9.out.upb (al1 (w5) (.cells #[.slice A12 1 c12, .int .i64 1, .int .i64 1] 29)))
  replace Z10 := Lib.hid (Z10.out.upb (al1 (w5) (.cells #[.slice A12 1 c12, .int .i64 1, .int .i64 1] 29)))
  replace L12 := Lib.hid (L12.out.upb (al1 (w5) (.cells #[.slice A12 1 c12, .int .i64 1, .int .i64 1] 29)))
  have Z12 := Lib.hid (Cells.new (w5) 29 [.slice A12 1 c12, .int .i64 1, .int .i64 1])
  clear Z1l Z1c0 Z1c1 Z1c2 Z1c3 Z3l Z3c0 Z3c1 Z3c2 Z7l Z7c0 Z7c1 Z7c2 Z9l Z9c0 Z9c1 Z9c2 Z10l Z10c0 Z10c1 Z10c2 Z10c3
  have Z3l := Z3.out.lt
  have Z3c0 := Z3.out.cell (k := 0) rfl
  have Z3c1 := Z3.out.cell (k := 1) rfl
  have Z3c2 := Z3.out.cell (k := 2) rfl
  have Z7l := Z7.out.lt
  have Z7c0 := Z7.out.cell (k := 0) rfl
  have Z7c1 := Z7.out.cell (k := 1) rfl
  have Z7c2 := Z7.out.cell (k := 2) rfl
  have Z9l := Z9.out.lt
  have Z9c0 := Z9.out.cell (k := 0) rfl
  have Z9c1 := Z9.out.cell (k := 1) rfl
  have Z9c2 := Z9.out.cell (k := 2) rfl
  have Z10l := Z10.out.lt
  have Z10c0 := Z10.out.cell (k := 0) rfl
  have Z10c1 := Z10.out.cell (k := 1) rfl
  have Z10c2 := Z10.out.cell (k := 2) rfl
  have Z10c3 := Z10.out.cell (k := 3) rfl
  have Z12l := Z12.out.lt
  have Z12c0 := Z12.out.cell (k := 0) rfl
  have Z12c1 := Z12.out.cell (k := 1) rfl
  have Z12c2 := Z12.out.cell (k := 2) rfl
  try go_wp2_with (fail)
  refine (JSync_is L7.out sm_sx F10.out E12.out rfl rfl rfl rfl rfl).mono ?_
  rintro e w6 ⟨A14, c14, A15, c15, B15, k15, rfl, hj, hd, hb, -, -⟩
  replace HW := Lib.hid (HW.out.upb hb)
  replace F1 := Lib.hid (F1.out.upb hb)
  replace Z1 := Lib.hid (Z1.out.upb hb)
  replace L1 := Lib.hid (L1.out.upb hb)
  replace Z3 := Lib.hid (Z3.out.upb hb)
  replace L7 := Lib.hid (L7.out.upb hb)
  replace Z7 := Lib.hid (Z7.out.upb hb)
  replace F10 := Lib.hid (F10.out.upb hb)
  replace Z9 := Lib.hid (Z9.out.upb hb)
  replace Z10 := Lib.hid (Z10.out.upb hb)
  replace L12 := Lib.hid (L12.out.upb hb)
  replace Z12 := Lib.hid (Z12.out.upb hb)
  clear hb hj hd
  clear Z3l Z3c0 Z3c1 Z3c2 Z7l Z7c0 Z7c1 Z7c2 Z9l Z9c0 Z9c1 Z9c2 Z10l Z10c0 Z10c1 Z10c2 Z10c3 Z12l Z12c0 Z12c1 Z12c2
  obtain ⟨yc, hyc⟩ : ∃ y, Jn.syncD Jn.sx dc = y := ⟨_, rfl⟩
  obtain ⟨xc, hxc⟩ : ∃ y, Jn.syncJ Jn.sx dc = y := ⟨_, rfl⟩
  simp only [hyc, hxc]
  clear hyc hxc
  have Z3l := Z3.out.lt
  have Z3c0 := Z3.out.cell (k := 0) rfl
  have Z3c1 := Z3.out.cell (k := 1) rfl
  have Z3c2 := Z3.out.cell (k := 2) rfl
  have Z9l := Z9.out.lt
  have Z9c0 := Z9.out.cell (k := 0) rfl
  have Z9c1 := Z9.out.cell (k := 1) rfl
  have Z9c2 := Z9.out.cell (k := 2) rfl
  have Z12l := Z12.out.lt
  have Z12c0 := Z12.out.cell (k := 0) rfl
  have Z12c1 := Z12.out.cell (k := 1) rfl
  have Z12c2 := Z12.out.cell (k := 2) rfl
  go_wp2_with (fail)
  replace HW := Lib.hid (HW.out.upb (al1 (w6) (.cells #[.slice A14 xc.rs.length c14, .int .i64 xc.many, .int .i64 xc.syn] 29)))
  replace F1 := Lib.hid (F1.out.upb (al1 (w6) (.cells #[.slice A14 xc.rs.length c14, .int .i64 xc.many, .int .i64 xc.syn] 29)))
  replace Z1 := Lib.hid (Z1.out.upb (al1 (w6) (.cells #[.slice A14 xc.rs.length c14, .int .i64 xc.many, .int .i64 xc.syn] 29)))
  replace L1 := Lib.hid (L1.out.upb (al1 (w6) (.cells #[.slice A14 xc.rs.length c14, .int .i64 xc.many, .int .i64 xc.syn] 29)))
  replace Z3 := Lib.hid (Z3.out.upb (al1 (w6) (.cells #[.slice A14 xc.rs.length c14, .int .i64 xc.many, .int .i64 xc.syn] 29)))
  replace L7 := Lib.hid (L7.out.upb (al1 (w6) (.cells #[.slice A14 xc.rs.length c14, .int .i64 xc.many, .int .i64 xc.syn] 29)))
  replace Z7 := Lib.hid (Z7.out.upb (al1 (w6) (.cells #[.slice A14 xc.rs.length c14, .int .i64 xc.many, .int .i64 xc.syn] 29)))
  replace F10 := Lib.hid (F10.out.upb (al1 (w6) (.cells #[.slice A14 xc.rs.length c14, .int .i64 xc.many, .int .i64 xc.syn] 29)))
  replace Z9 := Lib.hid (Z9.out.upb (al1 (w6) (.cells #[.slice A14 xc.rs.length c14, .int .i64 xc.many, .int .i64 xc.syn] 29)))
  replace Z10 := Lib.hid (Z10.out.upb (al1 (w6) (.cells #[.slice A14 xc.rs.length c14, .int .i64 xc.many, .int .i64 xc.syn] 29)))
  replace L12 := Lib.hid (L12.out.upb (al1 (w6) (.cells #[.slice A14 xc.rs.length c14, .int .i64 xc.many, .int .i64 xc.syn] 29)))
  replace Z12 := Lib.hid (Z12.out.upb (al1 (w6) (.cells #[.slice A14 xc.rs.length c14, .int .i64 xc.many, .int .i64 xc.syn] 29)))
  replace HW := Lib.hid (HW.out.upb (al1 ((w6).alloc (.cells #[.slice A14 xc.rs.length c14, .int .i64 xc.many, .int .i64 xc.syn] 29)) (.cells #[.slice A15 yc.ss.length c15, .slice B15 yc.ps.length k15, .int .i64 yc.left, .bool yc.st] 25)))
  replace F1 := Lib.hid (F1.out.upb (al1 ((w6).alloc (.cells #[.slice A14 xc.rs.length c14, .int .i64 xc.many, .int .i64 xc.syn] 29)) (.cells #[.slice A15 yc.ss.length c15, .slice B15 yc.ps.length k15, .int .i64 yc.left, .bool yc.st] 25)))
  replace Z1 := Lib.hid (Z1.out.upb (al1 ((w6).alloc (.cells #[.slice A14 xc.rs.length c14, .int .i64 xc.many, .int .i64 xc.syn] 29)) (.cells #[.slice A15 yc.ss.length c15, .slice B15 yc.ps.length k15, .int .i64 yc.left, .bool yc.st] 25)))
  replace L1 := Lib.hid (L1.out.upb (al1 ((w6).alloc (.cells #[.slice A14 xc.rs.length c14, .int .i64 xc.many, .int .i64 xc.syn] 29)) (.cells #[.slice A15 yc.ss.length c15, .slice B15 yc.ps.length k15, .int .i64 yc.left, .bool yc.st] 25)))
  replace Z3 := Lib.hid (Z3.out.upb (al1 ((w6).alloc (.cells #[.slice A14 xc.rs.length c14, .int .i64 xc.many, .int .i64 xc.syn] 29)) (.cells #[.slice A15 yc.ss.length c15, .slice B15 yc.ps.length k15, .int .i64 yc.left, .bool yc.st] 25)))
  replace L7 := Lib.hid (L7.out.upb (al1 ((w6).alloc (.cells #[.slice A14 xc.rs.length c14, .int .i64 xc.many, .int .i64 xc.syn] 29)) (.cells #[.slice A15 yc.ss.length c15, .slice B15 yc.ps.length k15, .int .i64 yc.left, .bool yc.st] 25)))
  replace Z7 := Lib.hid (Z7.out.upb (al1 ((w6).alloc (.cells #[.slice A14 xc.rs.length c14, .int .i64 xc.many, .int .i64 xc.syn] 29)) (.cells #[.slice A15 yc.ss.length c15, .slice B15 yc.ps.length k15, .int .i64 yc.left, .bool yc.st] 25)))
  replace F10 := Lib.hid (F10.out.upb (al1 ((w6).alloc (.cells #[.slice A14 xc.rs.length c14, .int .i64 xc.many, .int .i64 xc.syn] 29)) (.cells #[.slice A15 yc.ss.length c15, .slice B15 yc.ps.length k15, .int .i64 yc.left, .bool yc.st] 25)))
  replace Z9 := Lib.hid (Z9.out.upb (al1 ((w6).alloc (.cells #[.slice A14 xc.rs.length c14, .int .i64 xc.many, .int .i64 xc.syn] 29)) (.cells #[.slice A15 yc.ss.length c15, .slice B15 yc.ps.length k15, .int .i64 yc.left, .bool yc.st] 25)))
  replace Z10 := Lib.hid (Z10.out.upb (al1 ((w6).alloc (.cells #[.slice A14 xc.rs.length c14, .int .i64 xc.many, .int .i64 xc.syn] 29)) (.cells #[.slice A15 yc.ss.length c15, .slice B15 yc.ps.length k15, .int .i64 yc.left, .bool yc.st] 25)))
  replace L12 := Lib.hid (L12.out.upb (al1 ((w6).alloc (.cells #[.slice A14 xc.rs.length c14, .int .i64 xc.many, .int .i64 xc.syn] 29)) (.cells #[.slice A15 yc.ss.length c15, .slice B15 yc.ps.length k15, .int .i64 yc.left, .bool yc.st] 25)))
  replace Z12 := Lib.hid (Z12.out.upb (al1 ((w6).alloc (.cells #[.slice A14 xc.rs.length c14, .int .i64 xc.many, .int .i64 xc.syn] 29)) (.cells #[.slice A15 yc.ss.length c15, .slice B15 yc.ps.length k15, .int .i64 yc.left, .bool yc.st] 25)))
  refine (Room_is L1.out sm_nil E13.out).mono ?_
  rintro e w7 ⟨rfl, hb⟩
  replace HW := Lib.hid (HW.out.upb hb)
  replace F1 := Lib.hid (F1.out.upb hb)
  replace Z1 := Lib.hid (Z1.out.upb hb)
  replace L1 := Lib.hid (L1.out.upb hb)
  replace Z3 := Lib.hid (Z3.out.upb hb)
  replace L7 := Lib.hid (L7.out.upb hb)
  replace Z7 := Lib.hid (Z7.out.upb hb)
  replace F10 := Lib.hid (F10.out.upb hb)
  replace Z9 := Lib.hid (Z9.out.upb hb)
  replace Z10 := Lib.hid (Z10.out.upb hb)
  replace L12 := Lib.hid (L12.out.upb hb)
  replace Z12 := Lib.hid (Z12.out.upb hb)
  clear hb
  clear Z3l Z3c0 Z3c1 Z3c2 Z9l Z9c0 Z9c1 Z9c2 Z12l Z12c0 Z12c1 Z12c2
  have Z3l := Z3.out.lt
  have Z3c0 := Z3.out.cell (k := 0) rfl
  have Z3c1 := Z3.out.cell (k := 1) rfl
  have Z3c2 := Z3.out.cell (k := 2) rfl
  have Z9l := Z9.out.lt
  have Z9c0 := Z9.out.cell (k := 0) rfl
  have Z9c1 := Z9.out.cell (k := 1) rfl
  have Z9c2 := Z9.out.cell (k := 2) rfl
  have Z12l := Z12.out.lt
  have Z12c0 := Z12.out.cell (k := 0) rfl
  have Z12c1 := Z12.out.cell (k := 1) rfl
  have Z12c2 := Z12.out.cell (k := 2) rfl
  have hbs : IsBs w7 (.slice A12 1 c12) [Jn.ab] := by
    obtain ⟨sv, e, h1⟩ := L12.out
    injection e with e
    injection e with e
    injection e with e _
    rw [e]; exact h1
  obtain ⟨bz, oz, A13, c13, hA, _, hc0, hb13⟩ := bs_at hbs (k := 0) (by decide)
  subst hA
  have hconv := conv_str hb13
  have hab : (⟨#[97, 98]⟩ : ByteArray) = ⟨Jn.ab.toArray⟩ := rfl
  simp only [List.getElem_cons_zero, Nat.add_zero] at hc0 hconv
  have hl2 : Jn.ab.length = 2 := rfl
  rw [hl2] at hc0 hconv
  rw [← hab] at hconv
  clear hbs hb13 hab hl2
  go_wp2_with (fail)
  refine (JCheck_is (j := j0) IsJ.zero sm_nil E14.out).mono ?_
  rintro e w8 ⟨rfl, hb⟩
  replace HW := Lib.hid (HW.out.upb hb)
  replace F1 := Lib.hid (F1.out.upb hb)
  replace Z1 := Lib.hid (Z1.out.upb hb)
  replace L1 := Lib.hid (L1.out.upb hb)
  replace Z3 := Lib.hid (Z3.out.upb hb)
  replace L7 := Lib.hid (L7.out.upb hb)
  replace Z7 := Lib.hid (Z7.out.upb hb)
  replace F10 := Lib.hid (F10.out.upb hb)
  replace Z9 := Lib.hid (Z9.out.upb hb)
  replace Z10 := Lib.hid (Z10.out.upb hb)
  replace L12 := Lib.hid (L12.out.upb hb)
  replace Z12 := Lib.hid (Z12.out.upb hb)
  clear hb hconv hc0
  clear Z3l Z3c0 Z3c1 Z3c2 Z9l Z9c0 Z9c1 Z9c2 Z12l Z12c0 Z12c1 Z12c2
  go_wp2_with (fail)
  go_ret
  exact ⟨rfl, HW.out.b⟩
end Go.Proofs.Ytkcnanclpkongaa
