/- Walk of Group. -/
import Derived.Test.YtchjjcmlekknfaaW14
namespace Go.Proofs.Ytchjjcmlekknfaa
open Go.RowKit
set_option linter.unusedVariables false
set_option linter.unusedSimpArgs false

theorem quiet_d {P : Program} {f : FuncId} {args : Array Value} {w : World} {q n : Nat} {v : Value}
    (h : Calls P f args (w.drewN (q + n)) fun e w' => e = .returned v ∧ ∃ k, w' = (w.drewN (q + n)).drewN k) : Calls P f args (w.drewN (q + n)) fun e w'' => e = .returned v ∧ ∃ m, w'' = w.drewN (q + m) :=
  h.mono fun _ _ ⟨he, k, hm⟩ => ⟨he, n + k, by rw [hm, World.drewN_drewN, Nat.add_assoc]⟩
theorem index43 (l : List Int) (k : Nat) (hk : k < l.length) (h65 : l.length = 65) (W : World) : (Instr.index 43 (.agg (l.map (Value.int .i64)).toArray) (.int .i64 k)).run Try.prog W = .ok (.int .i64 (Sc.at_ l k)) W := by
  have h1 : (0 : Int) ≤ (k : Int) := by omega
  have h2 : (k : Int) < 65 := by omega
  have hs : (l.map (Value.int .i64)).toArray.size = 65 := by simp [h65]
  have hc : (l.map (Value.int .i64)).toArray[k]? = some (.int .i64 (Sc.at_ l k)) := by
    rw [at_get hk]; simp [hk]
  generalize (l.map (Value.int .i64)).toArray = cs at *
  have hu := Try.underlying43
  have hi3 : (sizeOf 3).run Try.prog W = .ok 1 W := by rfl
  have ha3 : (isAgg 3).run Try.prog W = .ok false W := by rfl
  simp only [Instr.index, asIntOf, Sem.run_bind, Sem.run_pure, Result.andThen_ok, run_underlying hu W, h1, h2, and_self, if_true, hi3, Int.toNat_natCast, Nat.mul_one, part, ha3]
  simp [hc]
  intro h
  exact absurd h (by omega)

set_option maxHeartbeats 4000000 in
set_option maxRecDepth 100000 in
theorem group_any (A A2 : Option Addr) (c c2 : Nat) (r d : List Int) (m f : Int) (w : World) (hv : IsInts w (.slice A r.length c) r) (hu : IsInts w (.slice A2 d.length c2) d) (hl : r.length ≤ 9223372036854775807) (hl2 : d.length ≤ 9223372036854775807) :
    Calls Try.prog 11 #[.slice A r.length c, .slice A2 d.length c2, .int .i64 m, .int .i64 f] w (GPost r d m f w) := by
  have HV := Lib.hid hv
  have HW := Lib.hid hu
  have hz := zero45
  have hz2 := zero43
  have HL := Lib.hid (And.intro hl hl2)
  clear hv hu
  go_enter Try.func11, Try.ntmps11
  go_wp2_with (fail)
  refine (ask_any A A2 c c2 r d m f w HV.out HW.out HL.out.1 HL.out.2).mono ?_
  rintro e w1 ⟨cs, rfl, hc1, hc2, hc3, hb⟩
  have HCS := Lib.hid (And.intro hc1 (And.intro hc2 hc3))
  have HC0 := Lib.hid (Cells.new w1 45 qZ)
  have HB0 := Lib.hid (hb.up (al1 w1 (.cells qZ.toArray 45)))
  have hsz := hb.size
  clear hc1 hc2 hc3 hb
  by_cases h0 : Sc.errQ r d m f = 0
  rotate_left
  · have HG := Lib.hid (show gL r d m f = [] from if_neg h0)
    have HD := Lib.hid (show gD r d m f = 0 from if_neg h0)
    obtain ⟨e0, he0⟩ : ∃ e, Sc.errQ r d m f = e := ⟨_, rfl⟩
    have hb0 : (e0 == 0) = false := by rw [← he0]; simpa using h0
    have HE := Lib.hid he0
    rw [he0]
    clear h0 he0
    go_wp2_with (refine wpList_storeW rfl 45 (.tmp 11) (.tmp 24) rfl w1.heap.size rfl qZ cs rfl HC0.out (by rw [HCS.out.1]; exact i45) ((qC_len zer_len).trans HCS.out.1.symm) HCS.out.2.1 ?_; intro W1 hc1 ht1; have HC1 := Lib.hid hc1; have HT1 := Lib.hid ht1; clear hc1 ht1)
    go_ret3
    exact ⟨none, 0, by rw [HG.out, HD.out, HE.out]; rfl, by rw [HG.out]; exact IsInts.nil, HT1.out.below HB0.out hsz⟩
  have HG := Lib.hid (show gL r d m f = Sc.toI (Sc.best (Sc.mkQ r d m f) 0 0).1 from if_pos h0)
  have HD := Lib.hid (show gD r d m f = (Sc.best (Sc.mkQ r d m f) 0 0).2 from if_pos h0)
  have HE := Lib.hid h0
  have HQ := Lib.hid (Sc.ok_of h0)
  have hrn := (Sc.errQ_zero h0).1
  rw [h0]
  clear h0
  go_wp2_with (refine wpList_storeW rfl 45 (.tmp 11) (.tmp 24) rfl w1.heap.size rfl qZ cs rfl HC0.out (by rw [HCS.out.1]; exact i45) ((qC_len zer_len).trans HCS.out.1.symm) HCS.out.2.1 ?_; intro W1 hc1 ht1; have HC1 := Lib.hid hc1; have HT1 := Lib.hid ht1; clear hc1 ht1)
  have HB1 := Lib.hid (HT1.out.below HB0.out hsz)
  have HM1 := Lib.hid (ask_qm HE.out HCS.out.2.2 HC1.out (HV.out.below HB1.out))
  clear HT1 HC0 HB0 HC1 HCS
  obtain ⟨q, hq⟩ : ∃ q, Sc.mkQ r d m f = q := ⟨_, rfl⟩
  have hqr : q.r = r := by rw [← hq]; rfl
  have HQR := Lib.hid hqr
  rw [hq] at HG HD HQ HM1
  clear hq hqr
  refine (earliest_any w1.heap.size A c q W1 HM1.out HQ.out).mono ?_
  rintro e w2 ⟨rfl, b2⟩
  have HB2 := Lib.hid (HB1.out.up b2)
  have HM2 := Lib.hid (HM1.out.upb b2)
  obtain ⟨D, hDD⟩ : ∃ D, (Sc.best q 0 0).2 = D := ⟨_, rfl⟩
  have HDD := Lib.hid hDD
  have hHn := HQ.out.H_le (Nat.le_refl q.r.length)
  have hqn := HQ.out.n
  have HDH := Lib.hid (show Sc.H q q.r.length = D from by rw [← hDD]; exact (Sc.best_done HQ.out).symm)
  have hD0 : 0 ≤ D := by have := HDH.out; omega
  have hD1 : D ≤ 1125899906842624 := by have := HDH.out; omega
  have HIX := Lib.hid (fun W => (show (Instr.index 43 (.agg ((hsA q q.r.length).map (Value.int .i64)).toArray) (.int .i64 r.length)).run Try.prog W = .ok (.int .i64 D) W from by
    have h := index43 (hsA q q.r.length) q.r.length (by rw [hsA_len hqn]; omega) (hsA_len hqn) W
    rw [hsA_at (Nat.le_refl _), HDH.out, HQR.out] at h
    rw [HQR.out]
    exact h))
  have hix := HIX.out
  clear b2 HB1 HM1 hHn
  obtain ⟨ag, hag⟩ : ∃ a, ((hsA q q.r.length).map (Value.int .i64)).toArray = a := ⟨_, rfl⟩
  rw [hag] at hix ⊢
  clear hag HIX
  go_wp2_with (fail)
  refine (latest_any w1.heap.size A c q D w2 HM2.out HQ.out hD0 hD1).mono ?_
  rintro e w3 ⟨rfl, b3⟩
  have HB3 := Lib.hid (HB2.out.up b3)
  have HM3 := Lib.hid (HM2.out.upb b3)
  obtain ⟨la, hla⟩ : ∃ l, Sc.lat q D q.r.length = l := ⟨_, rfl⟩
  have HLA := Lib.hid hla
  have HL65 := Lib.hid (show (la.map (Value.int .i64)).length = 65 by rw [← hla, List.length_map]; exact Sc.lat_len hqn D _)
  rw [hla]
  have HZ65 := Lib.hid (show (zer.map (Value.int .i64)).length = 65 by rw [List.length_map]; exact zer_len)
  have HC4 := Lib.hid (Cells.new w3 43 (zer.map (Value.int .i64)))
  have HB4 := Lib.hid (HB3.out.up (al1 w3 (.cells (zer.map (Value.int .i64)).toArray 43)))
  have HM4 := Lib.hid (HM3.out.upb (al1 w3 (.cells (zer.map (Value.int .i64)).toArray 43)))
  have hone : ∀ v ∈ la.map (Value.int .i64), v.oneCell' = true := by
    intro v hv; simp at hv; obtain ⟨x, _, rfl⟩ := hv; rfl
  have HONE := Lib.hid hone
  have hsz3 := HB3.out.size
  have hm1 := HM3.out.lt
  have hrl := HM3.out
  clear b3 hone hla HB2 HM2 hix
  go_wp2_with (refine wpList_storeW rfl 43 (.tmp 13) (.tmp 35) rfl w3.heap.size rfl (zer.map (Value.int .i64)) (la.map (Value.int .i64)) rfl HC4.out (by rw [HL65.out]; exact i43) (HZ65.out.trans HL65.out.symm) HONE.out ?_; intro W5 hc5 ht5; have HC5 := Lib.hid hc5; have HT5 := Lib.hid ht5; clear hc5 ht5)
  have HB5 := Lib.hid (HT5.out.below HB4.out hsz3)
  have HM5 := Lib.hid (show QM W5 w1.heap.size A c q from ⟨HM4.out.cells.turn HT5.out (by omega), by have h := HV.out.below HB5.out; rw [← HQR.out] at h; exact h⟩)
  clear HT5 HC4 HB4 HM4 HM3 HB3 hz hz2 hrl
  go_loopw [8, 15, 16, 17] (fun en at_ iv _ wr => ∃ (pre : List Nat) (i : Nat) (b : Int), i ≤ r.length ∧ iv = .int .i64 i ∧ at_ = .int .i64 b ∧ Hid (OwnInts wr W5.heap.size en (Sc.toI pre)) ∧ Hid (Below W5.heap.size W5 wr) ∧ Hid ((Sc.best q 0 0).1 = pre ++ (Sc.best q i b).1 ∧ (Sc.best q i b).2 = D ∧ 0 ≤ b ∧ b ≤ 1099511627776 + 2147483648 * i ∧ pre.length ≤ i)) (fun _ _ iv _ _ => r.length - (intOf iv).toNat)
  case atStart => exact ⟨[], 0, 0, Nat.zero_le _, rfl, rfl, own_none _ _, Lib.hid (Below.refl _ _), Lib.hid ⟨rfl, HDD.out, Int.le_refl 0, by omega, Nat.le_refl 0⟩⟩
  case round =>
    obtain ⟨pre, i, b, hi, rfl, rfl, HO, HB, HI⟩ := hrel
    by_cases hlt : i < r.length
    · have hd : decide ((i : Int) < (r.length : Int)) = true := by rw [decide_eq_true_eq]; omega
      obtain ⟨hI1, hI2, hI3, hI4, hI5⟩ := HI.out
      obtain ⟨j, l, n1, n2, n3, n4, n5, n6, n7⟩ := Sc.next HQ.out (D := D) (i := i) (b := b) (by rw [HQR.out]; exact hlt) hI3 hI2
      have hjr : j ≤ r.length := by rw [← HQR.out]; exact n3
      have HBD := Lib.hid (HQ.out.scr_bd n2 n3 hI3 hI4).2
      have HN := Lib.hid (And.intro n1 (And.intro n4 (And.intro n5 (And.intro n6 n7))))
      have HMr := Lib.hid (HM5.out.upb HB.out)
      have HCr := Lib.hid (HC5.out.upb HB.out)
      have HENDX := Lib.hid (fun (x : Nat) (hx1 : i < x) (hx2 : x ≤ j) (W : World) (hW : QM W w1.heap.size A c q) => end_any w1.heap.size A c q i x b W hW HQ.out hx1 (by omega) hI3 (by omega))
      clear hI1 hI2 n1 n4 n5 n6 n7
      go_wp2_with (fail)
      go_loopw [17] (fun jv wx => ∃ x : Nat, i < x ∧ x ≤ j ∧ jv = .int .i64 x ∧ ∃ n, wx = wr.drewN n) (fun jv _ => j - (intOf jv).toNat)
      case atStart => exact ⟨i + 1, by omega, n2, by go_num, 0, rfl⟩
      case round =>
        obtain ⟨x, hx1, hx2, rfl, nx, rfl⟩ := hrel
        have hx0 : (0 : Int) ≤ (x : Int) := by omega
        have hx65 : (x : Int) < 65 := by omega
        have hcx := HCr.out.cell (k := x) (v := .int .i64 (Sc.at_ la x)) (by rw [List.getElem?_map, List.getElem?_eq_getElem (by have := HL65.out; rw [List.length_map] at this; omega), at_get (by have := HL65.out; rw [List.length_map] at this; omega)]; rfl)
        have HLX := Lib.hid (show Sc.at_ la x = Sc.L q D x from by rw [← HLA.out]; rfl)
        have HEX := Lib.hid (HENDX.out x hx1 hx2)
        by_cases hxj : x < j
        · have hgt := HN.out.2.2.2.1 x hx1 hxj
          rw [← HLX.out] at hgt
          generalize Sc.at_ la x = lx at *
          generalize Sc.scr q i x b = sx at *
          have hdg : decide (lx < sx) = true := decide_eq_true hgt
          clear hgt
          go_wp2_with (fail)
          go_quiet ((go_at_call 29; exact quiet_d (HEX.out _ (HMr.out.drewN _))))
          go_wp2_with (fail)
          go_roundw
          case rel => exact ⟨x + 1, by omega, by omega, by go_num, _, rfl⟩
          case measure => first | omega | (simp [intOf]; done) | (simp [intOf]; omega)
        · obtain rfl : x = j := by omega
          have hle := HN.out.2.2.1
          rw [← HLX.out] at hle
          have HAT := Lib.hid (show ∀ s, Sc.scr q i x b = s → (Sc.best q x s).1 = l ∧ (Sc.best q x s).2 = D ∧ 0 ≤ s ∧ s ≤ 1099511627776 + 2147483648 * x from fun s hs => by
            subst hs
            have h := HN.out.2.1
            exact ⟨by rw [h], by rw [h], HN.out.2.2.2.2, HBD.out⟩)
          have HPRE := Lib.hid (show (Sc.best q 0 0).1 = (pre ++ [x]) ++ l from by rw [HI.out.1, HN.out.1]; simp)
          obtain ⟨lx, hlx⟩ : ∃ y, Sc.at_ la x = y := ⟨_, rfl⟩
          obtain ⟨sx, hsx⟩ : ∃ y, Sc.scr q i x b = y := ⟨_, rfl⟩
          rw [hlx] at hle hcx
          rw [hsx] at hle HEX
          obtain ⟨A1, A2', A3, A4⟩ := HAT.out sx hsx
          have HA := Lib.hid (And.intro A1 (And.intro A2' (And.intro A3 A4)))
          have hdg : decide (lx < sx) = false := decide_eq_false (by omega)
          have hpl : (Sc.toI pre).length ≤ 1000000 := by rw [Sc.toI_len]; omega
          have HSN := Lib.hid (show Sc.toI (pre ++ [x]) = Sc.toI pre ++ [(x : Int)] from Sc.toI_append _ _)
          clear hle hlx hsx HAT A1 A2' A3 A4 HENDX HN HBD
          go_wp2_with (fail)
          go_quiet ((go_at_call 29; exact quiet_d (HEX.out _ (HMr.out.drewN _))))
          go_wp2_with (fail)
          refine (HEX.out _ (HMr.out.drewN _)).mono ?_
          rintro e w' ⟨rfl, n2, rfl⟩
          have HBx := Lib.hid (show Below W5.heap.size W5 (wr.drewN (nx + nq + n2)) from below_drewN HB.out _)
          go_wp2_with (at_builtin; go_must (refine wpList_push rfl (.tmp 58) (.tmp 60) rfl W5.heap.size _ (Sc.toI pre) rfl (show OwnInts (wr.drewN (nx + nq + n2)) W5.heap.size u8 (Sc.toI pre) from HO.out) (x : Int) wr.heap.size rfl rfl hpl HBx.out.size ?_); intro v1 w9 hown1 hg1 hat1; have HO1 := Lib.hid hown1; have HG1 := Lib.hid hg1; clear hown1 hg1 hat1)
          go_roundw
          case rel => exact ⟨pre ++ [x], x, sx, hjr, rfl, rfl, Lib.hid (by rw [HSN.out]; exact HO1.out), Lib.hid (HBx.out.grown HG1.out HBx.out.size (fun g hg => (World.ownsRow.lt (show OwnInts wr W5.heap.size u8 (Sc.toI pre) from HO.out) g (show u8.ownBlock = some g from hg)).1)), Lib.hid ⟨by rw [HA.out.1]; exact HPRE.out, HA.out.2.1, HA.out.2.2.1, HA.out.2.2.2, by simp; omega⟩⟩
          case measure => first | omega | (simp [intOf]; done) | (simp [intOf]; omega)
    · have hd : decide ((i : Int) < (r.length : Int)) = false := by rw [decide_eq_false_iff_not]; omega
      have hir : i = r.length := by omega
      have HEND := Lib.hid (show (Sc.best q 0 0).1 = pre from by
        have h := HI.out.1
        rw [hir, ← HQR.out, Sc.best_n] at h
        simpa using h)
      have HBZ := Lib.hid (HB5.out.up HB.out)
      obtain ⟨A5, c5, rfl⟩ := own_slice HO.out
      clear hir
      go_wp2_with (fail)
      go_ret3
      exact ⟨A5, c5, by rw [HG.out, HD.out, HE.out, HEND.out, HDD.out]; rfl, by rw [HG.out, HEND.out]; exact HO.out.ints, HBZ.out⟩
end Go.Proofs.Ytchjjcmlekknfaa
