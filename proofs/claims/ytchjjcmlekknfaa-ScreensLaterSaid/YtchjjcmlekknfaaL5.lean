/- The statement ScreensLater, walked. -/
import Derived.Test.YtchjjcmlekknfaaW20
import Derived.Test.YtchjjcmlekknfaaClone
import Derived.Deep.Cut
namespace Go.Proofs.Ytchjjcmlekknfaa
open Go.RowKit
set_option linter.unusedVariables false
set_option linter.unusedSimpArgs false

theorem own_grown {W : World} {base g n c : Nat} {xs : List Int} (h : OwnInts W base (.slice (some ⟨g, 0, none⟩) n c) xs) (k : Nat) (y : Int) : W.grownBy (W.setCell ⟨g, k, none⟩ (.int .i64 y)) (some g) := by
  obtain rfl := own_n h
  exact (World.ownsRow.stored h k (.int .i64 y)).2
theorem own_else {W W' : World} {base g g' n c : Nat} {xs : List Int} (h : OwnInts W base (.slice (some ⟨g, 0, none⟩) n c) xs) (hg : W.grownBy W' (some g')) (hne : g ≠ g') : OwnInts W' base (.slice (some ⟨g, 0, none⟩) n c) xs :=
  World.ownsRow.kept h hg (.inr (by intro e; exact hne (by simpa [Value.ownBlock] using e)))

set_option maxHeartbeats 4000000 in
set_option maxRecDepth 100000 in
theorem ScreensLater_any (v u : Value) (r d : List Int) (m f a b : Int) (w : World) (hv : IsInts w v r) (hu : IsInts w u d) (hl : r.length ≤ 9223372036854775807) (hl2 : d.length ≤ 9223372036854775807) (ha : 0 ≤ a ∧ a ≤ 255) (hb : 0 ≤ b ∧ b ≤ 65535) :
    Calls Try.prog 7 #[v, u, .int .i64 m, .int .i64 f, .int .u8 a, .int .u16 b] w fun e w' => e = .returned (.bool true) ∧ Below w.heap.size w w' := by
  have HV := Lib.hid hv
  have HU := Lib.hid hu
  obtain ⟨A, c, rfl, _⟩ := id hv
  obtain ⟨A2, c2, rfl, _⟩ := id hu
  have HL := Lib.hid (And.intro hl hl2)
  clear hv hu
  go_enter Try.func7, Try.ntmps7
  go_wp2_with (fail)
  refine (sane_any _).mono ?_
  rintro e w1 ⟨rfl, b1⟩
  have HB1 := Lib.hid b1
  clear b1
  go_wp2_with (fail)
  cases hr : rightB r d m f
  · refine (right_is (HV.out.upb HB1.out) (HU.out.upb HB1.out) HL.out.1 HL.out.2 hr).mono ?_
    rintro e w2 ⟨rfl, b2⟩
    have HB2 := Lib.hid (HB1.out.up b2)
    clear b2
    go_wp2_with (fail)
    go_ret
    exact ⟨rfl, HB2.out⟩
  refine (right_is (HV.out.upb HB1.out) (HU.out.upb HB1.out) HL.out.1 HL.out.2 hr).mono ?_
  rintro e w2 ⟨rfl, b2⟩
  have HB2 := Lib.hid (HB1.out.up b2)
  clear b2 HB1
  obtain ⟨h0, h40⟩ := rightB_zero hr
  have HE := Lib.hid h0
  have HQ := Lib.hid (Sc.ok_of h0)
  have HGD := Lib.hid (gD_zero h0)
  have HDL := Lib.hid (show d.length = r.length from (Sc.ok_of h0).len)
  have hm1 : 1 ≤ m := (Sc.errQ_zero h0).2.2.1
  have hm8 : m ≤ 8 := (Sc.errQ_zero h0).2.2.2.1
  have hf0 : 0 ≤ f := (Sc.errQ_zero h0).2.2.2.2.1
  have hf1 : f ≤ 1073741824 := (Sc.errQ_zero h0).2.2.2.2.2.1
  have HK1 := Lib.hid (show ∀ f', f ≤ f' → Sc.errQ r d m f' = 0 → (Sc.best (Sc.mkQ r d m f) 0 0).2 ≤ (Sc.best (Sc.mkQ r d m f') 0 0).2 from fun f' hf h' => Sc.H_flip h0 h' hf)
  have HK2 := Lib.hid (show ∀ m', m' ≤ m → Sc.errQ r d m' f = 0 → (Sc.best (Sc.mkQ r d m f) 0 0).2 ≤ (Sc.best (Sc.mkQ r d m' f) 0 0).2 from fun m' hm h' => Sc.H_most h0 h' hm)
  have HK3 := Lib.hid (show ∀ d' : List Int, d.length = d'.length → (∀ i, Sc.at_ d i ≤ Sc.at_ d' i) → Sc.errQ r d' m f = 0 → (Sc.best (Sc.mkQ r d m f) 0 0).2 ≤ (Sc.best (Sc.mkQ r d' m f) 0 0).2 from fun d' hl hd h' => Sc.H_need h0 h' hl hd)
  have HK4 := Lib.hid (show ∀ r' : List Int, r.length = r'.length → (∀ i, Sc.at_ r i ≤ Sc.at_ r' i) → Sc.errQ r' d m f = 0 → (Sc.best (Sc.mkQ r d m f) 0 0).2 ≤ (Sc.best (Sc.mkQ r' d m f) 0 0).2 from fun r' hl hr h' => Sc.H_ready h0 h' hl hr)
  obtain ⟨D, hD⟩ : ∃ D, (Sc.best (Sc.mkQ r d m f) 0 0).2 = D := ⟨_, rfl⟩
  rw [hD] at HGD HK1 HK2 HK3 HK4
  clear h0 hr hD
  go_wp2_with (fail)
  refine (grp_call (HV.out.upb HB2.out) (HU.out.upb HB2.out) HL.out.1 HL.out.2 HE.out rfl HGD.out).mono ?_
  rintro e w3 ⟨B1, k1, rfl, i1, b3⟩
  have HB3 := Lib.hid (HB2.out.up b3)
  clear i1 b3 HB2
  go_wp2_with (fail)
  obtain ⟨W, hW⟩ : ∃ W, w3.alloc (Obj.cells #[Value.int IntKind.i64 D] 3) = W := ⟨_, rfl⟩
  have HBW := Lib.hid (show Below w.heap.size w W by rw [← hW]; exact HB3.out.up (al1 w3 _))
  have hWC : Cells W w3.heap.size 3 [.int .i64 D] := by rw [← hW]; exact Cells.new w3 3 [.int .i64 D]
  have hWb := hWC.lt
  have HWD := Lib.hid (show W.cell? ⟨w3.heap.size, 0, none⟩ = some (.int .i64 D) from hWC.cell rfl)
  rw [hW]
  clear hW HB3 hWC
  obtain ⟨H0, hH0⟩ : ∃ H, w3.heap.size = H := ⟨_, rfl⟩
  rw [hH0] at hWb HWD ⊢
  clear hH0
  refine (later_any (HV.out.upb HBW.out) (HU.out.upb HBW.out) HL.out.1 HL.out.2 hWb HWD.out (fun h => HK1.out _ (by omega) h)).mono ?_
  rintro e w4 ⟨rfl, b4⟩
  have HB4 := Lib.hid b4
  have HV4 := Lib.hid ((HV.out.upb HBW.out).upb b4)
  have HU4 := Lib.hid ((HU.out.upb HBW.out).upb b4)
  have hWb4 : H0 < w4.heap.size := by have := b4.size; omega
  have HWD4 := Lib.hid (show w4.cell? ⟨H0, 0, none⟩ = some (.int .i64 D) by rw [b4.cell hWb]; exact HWD.out)
  clear b4
  have hmw : IntKind.i64.wrap (m - 1) = m - 1 := by rw [IntKind.wrap_i64]; omega
  have hn0 : r.length = 0 ∨ 0 < r.length := by omega
  rcases hn0 with hn0 | hn0
  · have hz0 : ((r.length : Int) == 0) = true := by rw [hn0]; rfl
    have hz1 : (r.length : Int) = 0 := by omega
    clear hn0
    go_wp2_with (fail)
    all_goals
      refine (later_any (HV4.out) (HU4.out) HL.out.1 HL.out.2 hWb4 HWD4.out (fun h => HK2.out _ (by omega) h)).mono ?_
      rintro e w5 ⟨rfl, b5⟩
      have HB5 := Lib.hid ((HBW.out.up HB4.out).up b5)
      clear b5
      go_wp2_with (fail)
      go_ret
      exact ⟨rfl, HB5.out⟩
  have hz0 : ((r.length : Int) == 0) = false := by rw [beq_eq_false_iff_ne]; omega
  have hz1 : ¬ (r.length : Int) = 0 := by omega
  go_wp2_with (fail)
  all_goals
    refine (later_any (HV4.out) (HU4.out) HL.out.1 HL.out.2 hWb4 HWD4.out (fun h => HK2.out _ (by omega) h)).mono ?_
    rintro e w5 ⟨rfl, b5⟩
    have HB5 := Lib.hid ((HBW.out.up HB4.out).up b5)
    have HWD5 := Lib.hid (show w5.cell? ⟨H0, 0, none⟩ = some (.int .i64 D) by rw [b5.cell hWb4]; exact HWD4.out)
    have hWb5 : H0 < w5.heap.size := by have := b5.size; omega
    clear b5
    obtain ⟨k, hkk⟩ : ∃ k : Nat, a % (r.length : Int) = (k : Int) := ⟨(a % (r.length : Int)).toNat, by have := Int.emod_nonneg a (show (r.length : Int) ≠ 0 by omega); omega⟩
    have hkr : k < r.length := by have := Int.emod_lt_of_pos a (show (0 : Int) < (r.length : Int) by omega); omega
    go_upto_region 14 with (fail)
    have HV5 := Lib.hid (HV.out.upb HB5.out)
    have HU5 := Lib.hid (HU.out.upb HB5.out)
    have hd0 : 0 < d.length := by have := HDL.out; omega
    have hdb : d.length ≤ 1000000 := by have := HDL.out; omega
    have hrb : r.length ≤ 1000000 := by omega
    go_upto_region 15 with (at_builtin; (first
      | (refine wpList_clone rfl (.tmp 70) (.tmp 71) rfl w5.heap.size rfl rfl d A2 d.length c2 rfl HU5.out hd0 hdb ?_; intro g1 cg1 w6 hown6 hb6; have HO6 := Lib.hid hown6; have HB6 := Lib.hid hb6; have HV6 := Lib.hid (HV5.out.upb hb6); clear hown6 hb6)
      | (refine wpList_clone rfl (.tmp 73) (.tmp 74) rfl w6.heap.size rfl rfl r A r.length c rfl HV6.out hn0 hrb ?_; intro g2 cg2 w7 hown7 hb7; have HO7 := Lib.hid hown7; have HB7 := Lib.hid hb7; clear hown7 hb7)))
    have hg1 : g1 < w6.heap.size := (World.ownsRow.lt HO6.out g1 rfl).2
    have hg1b : w5.heap.size ≤ g1 := own_ge HO6.out
    have hg2 : w6.heap.size ≤ g2 := own_ge HO7.out
    have hne12 : g2 ≠ g1 := by omega
    have HO67 := Lib.hid (own_below HO6.out HB7.out)
    have HB57 := Lib.hid (show Below w5.heap.size w5 w7 from HB6.out.up HB7.out)
    have hkd : k < d.length := by have := HDL.out; omega
    have hce := own_cell HO67.out k hkd
    have hfr := own_frozen HO67.out k
    have hkdi : (k : Int) < (d.length : Int) := by omega
    have hy := HQ.out.d0 k hkr
    rw [show Sc.at_ (Sc.mkQ r d m f).d k = d[k] from at_get hkd] at hy
    obtain ⟨y, hye⟩ : ∃ y, d[k] = y := ⟨_, rfl⟩
    rw [hye] at hce hy
    have HPL := Lib.hid (show d.length = (d.set k (y + b)).length ∧ ∀ i, Sc.at_ d i ≤ Sc.at_ (d.set k (y + b)) i from ⟨by simp, fun i => by
      rw [Sc.at_set hkd]
      split
      · rename_i e; rw [← e, at_get hkd, hye]; omega
      · exact Int.le_refl _⟩)
    clear hye HO6 HB6 HB7
    go_upto_region 16 with (fail)
    have HE8 := Lib.hid (own_set HO67.out k (y + b))
    have HO8 := Lib.hid (own_else HO7.out (own_grown HO67.out k (y + b)) hne12)
    have HB8 := Lib.hid (HB57.out.setCell (p := ⟨g1, k, none⟩) hg1b (.int .i64 (y + b)))
    obtain ⟨w8, hw8⟩ : ∃ w8, w7.setCell ⟨g1, k, none⟩ (.int .i64 (y + b)) = w8 := ⟨_, rfl⟩
    rw [hw8] at HE8 HO8 HB8 ⊢
    obtain ⟨d', hd'⟩ : ∃ d', d.set k (y + b) = d' := ⟨_, rfl⟩
    rw [hd'] at HE8 HPL
    clear hw8 hd' hce hfr HO67 HB57 HO7 hy hkdi
    go_wp2_with (fail)
    go_loopw [20] (fun i wr => ∃ (j : Nat) (xs : List Int), j ≤ r.length ∧ i = .int .i64 j ∧ Hid (OwnInts wr w6.heap.size (.slice (some ⟨g2, 0, none⟩) r.length cg2) xs) ∧ Hid (OwnInts wr w5.heap.size (.slice (some ⟨g1, 0, none⟩) d.length cg1) d') ∧ Hid (Below w5.heap.size w5 wr) ∧ Hid (xs.length = r.length ∧ (∀ i, Sc.at_ r i ≤ Sc.at_ xs i) ∧ (∀ i, j ≤ i → Sc.at_ xs i = Sc.at_ r i))) (fun i _ => r.length - (intOf i).toNat)
    case atStart => exact ⟨k, r, Nat.le_of_lt hkr, rfl, HO8, HE8, HB8, Lib.hid ⟨rfl, fun _ => Int.le_refl _, fun _ _ => rfl⟩⟩
    case round =>
      obtain ⟨j, xs, hj, rfl, HO, HO1, HB, HX⟩ := hrel
      by_cases hlt : j < r.length
      · have dk : decide ((j : Int) < (r.length : Int)) = true := by rw [decide_eq_true_eq]; omega
        have hlti : (j : Int) < (r.length : Int) := by omega
        have hjx : j < xs.length := by have := HX.out.1; omega
        have hce := own_cell HO.out j hjx
        have hfr := own_frozen HO.out j
        have hz := HQ.out.r0 j hlt
        rw [show Sc.at_ (Sc.mkQ r d m f).r j = Sc.at_ r j from rfl, ← HX.out.2.2 j (Nat.le_refl j), at_get hjx] at hz
        obtain ⟨z, hze⟩ : ∃ z, xs[j] = z := ⟨_, rfl⟩
        rw [hze] at hce hz
        have HX2 := Lib.hid (show (xs.set j (z + b)).length = r.length ∧ (∀ i, Sc.at_ r i ≤ Sc.at_ (xs.set j (z + b)) i) ∧ (∀ i, j + 1 ≤ i → Sc.at_ (xs.set j (z + b)) i = Sc.at_ r i) from ⟨by rw [List.length_set]; exact HX.out.1, fun i => by
          rw [Sc.at_set hjx]
          split
          · rename_i e
            have h1 := HX.out.2.1 j
            rw [at_get hjx, hze, e] at h1
            omega
          · exact HX.out.2.1 i, fun i hi => by
          rw [Sc.at_set hjx, if_neg (by omega)]
          exact HX.out.2.2 i (by omega)⟩)
        clear hze
        go_wp2_with (fail)
        go_roundw
        case rel => exact ⟨j + 1, xs.set j (z + b), by omega, by go_num, Lib.hid (own_set HO.out j (z + b)), Lib.hid (own_else HO1.out (own_grown HO.out j (z + b)) hne12.symm), Lib.hid (HB.out.setCell (p := ⟨g2, j, none⟩) (by show w5.heap.size ≤ g2; omega) _), HX2⟩
        case measure => first | omega | (simp [intOf]; done) | (simp [intOf]; omega)
      · have dk : decide ((j : Int) < (r.length : Int)) = false := by rw [decide_eq_false_iff_not]; omega
        have HVr := Lib.hid (HV5.out.upb HB.out)
        have hLD : IsInts wr (.slice (some ⟨g1, 0, none⟩) d.length cg1) d' := HO1.out.ints
        have hLX : IsInts wr (.slice (some ⟨g2, 0, none⟩) r.length cg2) xs := HO.out.ints
        have HLD := Lib.hid hLD
        have HLX := Lib.hid hLX
        have HUr := Lib.hid (HU5.out.upb HB.out)
        have hHr : H0 < wr.heap.size := by have := HB.out.size; omega
        have HWr := Lib.hid (show wr.cell? ⟨H0, 0, none⟩ = some (.int .i64 D) by rw [HB.out.cell hWb5]; exact HWD5.out)
        clear hLD hLX HO HO1
        go_wp2_with (fail)
        refine (later_any HVr.out HLD.out HL.out.1 (by rw [← HPL.out.1]; omega) hHr HWr.out (fun h => HK3.out d' HPL.out.1 HPL.out.2 h)).mono ?_
        rintro e w9 ⟨rfl, b9⟩
        have HB9 := Lib.hid b9
        have HWD9 := Lib.hid (show w9.cell? ⟨H0, 0, none⟩ = some (.int .i64 D) by rw [b9.cell hHr]; exact HWr.out)
        have hWb9 : H0 < w9.heap.size := by have := b9.size; omega
        clear b9
        go_wp2_with (fail)
        refine (later_any (HLX.out.upb HB9.out) (HUr.out.upb HB9.out) (by rw [HX.out.1]; omega) HL.out.2 hWb9 HWD9.out (fun h => HK4.out xs HX.out.1.symm HX.out.2.1 h)).mono ?_
        rintro e w10 ⟨rfl, b10⟩
        have HB10 := Lib.hid (((HB5.out.up HB.out).up HB9.out).up b10)
        clear b10
        go_wp2_with (fail)
        go_ret
        exact ⟨rfl, HB10.out⟩
end Go.Proofs.Ytchjjcmlekknfaa
