/- Walk of the reference's record. Walks of the reference's Records and Open. Plain Open; walk of the reference's Open. -/
import Derived.Test.YtkcnanclpkongaaJC
namespace Go.Proofs.Ytkcnanclpkongaa
section
open Go.RowKit
set_option linter.unusedVariables false
set_option linter.unusedSimpArgs false
set_option maxRecDepth 20000

theorem refgood_q {s : By} {k n : Nat} {z : Int} {v : Value} {w : World} {r : Bool} (hv : IsBytes w v s) (hs : s.length = 128) (hk : k ≤ 65535) (hz : (k : Int) = z) (hr : Jn.gd s k = r) :
    Calls Try.prog 72 #[v, .int .i64 z] (w.drewN n) fun e w'' => e = .returned (.bool r) ∧ ∃ m', w'' = w.drewN m' := by
  subst hr hz
  exact (refgood_any (hv.drewN n) hs hk).mono fun _ _ ⟨he, m, hw⟩ => ⟨he, n + m, by rw [hw]; exact World.drewN_drewN w n m⟩
/-- sectors of 128 bytes -/
def S128 (l : List By) : Prop := l.length ≤ 4096 ∧ ∀ s ∈ l, s.length = 128
theorem S128.at {l : List By} (h : S128 l) {k : Nat} (hk : k < l.length) : l[k].length = 128 := h.2 _ (List.getElem_mem hk)
theorem goes_iff {l : List By} {a n : Nat} {s : By} : Jn.Goes l a n s ↔ Jn.gd s (a + n) = true ∧ (Jn.kd s % 2 = 1 ↔ n = 0) ∧ Jn.gen s = Jn.gen (l.getD a []) := by
  unfold Jn.Goes Jn.gd
  rw [decide_eq_true_eq]
theorem odd_iff {s : By} {q : Nat} (hq : (Jn.kd s).toNat = q) : Jn.kd s % 2 = 1 ↔ q % 2 = 1 := by
  rw [← UInt8.toNat_inj, UInt8.toNat_mod, hq]
  rfl
theorem two_le_iff {s : By} {q : Nat} (hq : (Jn.kd s).toNat = q) : 2 ≤ Jn.kd s ↔ 2 ≤ q := by
  rw [UInt8.le_iff_toNat_le, hq]
  rfl
theorem form_ln {s : By} {k : Nat} (h : Jn.gd s k = true) : Jn.ln s ≤ 112 := by
  unfold Jn.gd at h
  rw [decide_eq_true_eq] at h
  exact h.form.l1
theorem Sc.up {w W : World} {b off c : Nat} {s : By} (h : Sc w b off c s) (hb : Below w.heap.size w W) : Sc W b off c s := ⟨h.is.upb hb, h.len, h.cap⟩
theorem recR_none {l : List By} {a : Nat} (h : Jn.recA l a = none) : (Jn.recA l a).getD ([], 0) = ([], 0) := by rw [h]; rfl
theorem recR_some {l : List By} {a m : Nat} {b : By} (h : Jn.recA l a = some (b, m)) : (Jn.recA l a).getD ([], 0) = (b, m) := by rw [h]; rfl

set_option maxHeartbeats 16000000 in
set_option maxRecDepth 100000 in
theorem record_any {l : List By} {at0 : Nat} {v : Value} {w : World} (hv : IsBs w v l) (hs : S128 l) (ha : at0 ≤ l.length) :
    Calls Try.prog 62 #[v, .int .i64 at0] w fun e w' => ∃ u, e = .returned (.tuple #[u, .int .i64 (((Jn.recA l at0).getD ([], 0)).2 : Int)]) ∧ OwnBytes w' w.heap.size u ((Jn.recA l at0).getD ([], 0)).1 ∧ Below w.heap.size w w' := by
  have HV := Lib.hid hv
  have HS := Lib.hid hs
  obtain ⟨A, c, _, rfl, _⟩ := id hv
  have hl4 := hs.1
  have ha4 : (at0 : Int) ≤ 4096 := by omega
  clear hv hs
  have HO0 := Lib.hid (ownB_made w)
  have HB0 := Lib.hid (al1 w (.cells #[] 5))
  obtain ⟨B, hB⟩ : ∃ B, w.heap.size = B := ⟨_, rfl⟩
  have HBs := Lib.hid hB
  rw [hB] at HO0 HB0
  go_enter Try.func62, Try.ntmps62
  go_wp2_with (fail)
  try simp only [hB]
  clear hB
  go_loopw [6, 7] (fun s6 s7 wr => ∃ (n : Nat) (out : By) (A6 : Option Addr) (c6 : Nat), s6 = .slice A6 out.length c6 ∧ s7 = .int .i64 n ∧ at0 + n ≤ l.length ∧ Hid (OwnBytes wr B (.slice A6 out.length c6) out) ∧ Hid (Jn.rec1 l at0 (l.length - at0 - n) n out = Jn.recA l at0) ∧ Hid (out.length ≤ n * 112) ∧ Hid (Below B w wr)) (fun _ s7 _ => l.length - (intOf s7).toNat)
  case atStart => exact ⟨0, [], _, _, rfl, rfl, by omega, HO0, Lib.hid (by unfold Jn.recA; rfl), Lib.hid (by simp), HB0⟩
  case round =>
    clear HO0 HB0
    obtain ⟨n, out, A6, c6, rfl, rfl, hn, HO, HR, HOL, HB⟩ := hrel
    have hn4 : (n : Int) ≤ 4096 := by omega
    have hsum : (at0 : Int) + (n : Int) = ((at0 + n : Nat) : Int) := by omega
    by_cases hlt : at0 + n < l.length
    case neg =>
      have hd : decide (((at0 + n : Nat) : Int) < (l.length : Int)) = false := decide_eq_false (by omega)
      have hd2 : decide (at0 + n < l.length) = false := decide_eq_false hlt
      have hd3 : decide ((at0 : Int) + (n : Int) < (l.length : Int)) = false := decide_eq_false (by omega)
      have HE := Lib.hid (recR_none (Jn.recA_over (by omega) HR.out))
      clear hsum
      go_wp2_with (fail)
      go_ret2
      rw [HE.out]
      exact ⟨_, rfl, ownB_nil _ _, by rw [HBs.out]; exact HB.out⟩
    case pos =>
    have hd3 : decide ((at0 : Int) + (n : Int) < (l.length : Int)) = true := decide_eq_true (by omega)
    obtain ⟨b1, o1, A7, c7, hA7, hbb1, hc1, hb1⟩ := bs_at HV.out hlt
    subst hA7
    have h128 := HS.out.at hlt
    obtain ⟨s, hsl⟩ : ∃ s, l[at0 + n] = s := ⟨_, rfl⟩
    rw [hsl] at hc1 hb1 h128
    have HSL := Lib.hid hsl
    clear hsl
    obtain ⟨b, off, c, e8, hbw0, hS0⟩ := sc_of hb1 h128
    rw [h128] at hc1 e8
    injection e8 with e8 e9 e10
    subst e8 e10
    have hc1w := ((bcell (show Below w.heap.size w wr by rw [HBs.out]; exact HB.out)).1 b1 (o1 + (at0 + n)) hbb1).trans hc1
    have HS0 := Lib.hid hS0
    have hS := hS0.up (show Below w.heap.size w wr by rw [HBs.out]; exact HB.out)
    have HSC := Lib.hid hS
    have HIS := Lib.hid hS.is
    obtain ⟨q, hq⟩ : ∃ x, (Jn.kd s).toNat = x := ⟨_, rfl⟩
    obtain ⟨ln, hln⟩ : ∃ x, Jn.ln s = x := ⟨_, rfl⟩
    obtain ⟨a, hga⟩ : ∃ x, Jn.gen s = x := ⟨_, rfl⟩
    obtain ⟨a0, hga0⟩ : ∃ x, Jn.gen (l.getD at0 []) = x := ⟨_, rfl⟩
    obtain ⟨g, hg⟩ : ∃ x, Jn.gd s (at0 + n) = x := ⟨_, rfl⟩
    have hq2 : q < 256 := by rw [← hq]; exact (Jn.kd s).toNat_lt
    have HG := Lib.hid (show Jn.Goes l at0 n l[at0 + n] ↔ g = true ∧ (q % 2 = 1 ↔ n = 0) ∧ a = a0 from by rw [HSL.out, goes_iff, odd_iff hq, hga, hga0, hg])
    have H2 := Lib.hid (show 2 ≤ Jn.kd l[at0 + n] ↔ 2 ≤ q from by rw [HSL.out]; exact two_le_iff hq)
    have HLN := Lib.hid (show g = true → ln ≤ 112 from fun h => by rw [← hln]; exact form_ln (hg.trans h))
    have HPC := Lib.hid (show ln ≤ 112 → IsBytes wr (.slice (some ⟨b, off + 12, none⟩) ln (c7 - 12)) (Jn.pc s) ∧ (Jn.pc s).length = ln from fun h => by
      subst hln
      exact ⟨bytes_sub hS.is (i := 12) (j := 12 + Jn.ln s) (by omega) (by rw [h128]; omega) (by omega) (by have := hS.cap; omega), Jn.pc_len h128 h⟩)
    have hc128 := hS.cap
    have hcq := hS.c10 hq
    have hcl := hS.c11 hln
    have HGD := Lib.hid hg
    have HQ := Lib.hid hq
    have H128 := Lib.hid h128
    have M1 := Lib.hid (show Jn.num (s.take 4) = a from hga)
    have L1 := Lib.hid (show (s.take 4).length ≤ 4 by rw [List.length_take]; omega)
    have HA0 := Lib.hid hga0
    have HGA := Lib.hid hga
    have HAT := Lib.hid hlt
    clear hq hln hga hga0 hg hS hb1 hc1 h128
    have hkk : at0 + n ≤ 65535 := by omega
    have HKK := Lib.hid hkk
    have s1 : IntKind.i64.wrap ((at0 : Int) + (n : Int)) = (at0 : Int) + (n : Int) := IntWalk.i64_in _ (by omega)
    have HZK := Lib.hid hsum.symm
    have hidx : ((at0 : Int) + (n : Int)).toNat = at0 + n := by omega
    have hidx0 : 0 ≤ (at0 : Int) + (n : Int) := by omega
    have hidx1 : (at0 : Int) + (n : Int) < (l.length : Int) := by omega
    clear hsum
    go_upto_region 6 with (fail)
    cases g with
    | false =>
      have HE := Lib.hid (recR_none (Jn.recA_stop HAT.out HR.out (fun h => by have h := HG.out.1 h; exact absurd h.1 (by decide))))
      clear HG H2 HLN HPC
      go_quiet ((first | (go_at_call 72; with_reducible exact (refgood_q HIS.out H128.out HKK.out HZK.out HGD.out)) | (go_at_call 63; with_reducible exact (number_q HSC.out.n1 L1.out M1.out))))
      go_wp2_with (fail)
      go_ret2
      rw [HE.out]
      exact ⟨_, rfl, ownB_nil _ _, by rw [HBs.out]; exact below_drewN HB.out _⟩
    | true =>
    by_cases hp : q % 2 = 1
    case pos =>
      by_cases hz : n = 0
      case neg =>
        have HE := Lib.hid (recR_none (Jn.recA_stop HAT.out HR.out (fun h => by have h := HG.out.1 h; exact hz (h.2.1.1 hp))))
        clear HG H2 HLN HPC
        have htm : (q : Int).tmod 2 = (q : Int) % 2 := Int.tmod_eq_emod_of_nonneg (by omega)
        have hp1 : ((q : Int) % 2 == 1) = true := by rw [beq_iff_eq]; omega
        have hz1 : ((n : Int) == 0) = false := by rw [beq_eq_false_iff_ne]; omega
        have hz2 : decide (0 < (n : Int)) = true := by rw [decide_eq_true_eq]; omega
        have hz3 : decide (0 < n) = true := by rw [decide_eq_true_eq]; omega
        clear hz hp
        go_quiet ((first | (go_at_call 72; with_reducible exact (refgood_q HIS.out H128.out HKK.out HZK.out HGD.out)) | (go_at_call 63; with_reducible exact (number_q HSC.out.n1 L1.out M1.out))))
        go_wp2_with (fail)
        go_ret2
        rw [HE.out]
        exact ⟨_, rfl, ownB_nil _ _, by rw [HBs.out]; exact below_drewN HB.out _⟩
      case pos =>
        have hae : a = a0 := by
          have h := HA0.out
          rw [List.getD_eq_getElem?_getD, List.getElem?_eq_getElem (show at0 < l.length by omega)] at h
          rw [← HGA.out, ← h, ← HSL.out]
          simp [hz]
        have HGO := Lib.hid (HG.out.2 ⟨rfl, ⟨fun _ => hz, fun _ => hp⟩, hae⟩)
        have hln : ln ≤ 112 := HLN.out rfl
        have HP := Lib.hid (HPC.out hln)
        have HPL := Lib.hid (show (Jn.pc l[at0 + n]).length = ln by have h := HP.out.2; rw [← HSL.out] at h; exact h)
        clear HG HLN HPC
        have htm : (q : Int).tmod 2 = (q : Int) % 2 := Int.tmod_eq_emod_of_nonneg (by omega)
        have hp1 : ((q : Int) % 2 == 1) = true := by rw [beq_iff_eq]; omega
        have hz1 : ((n : Int) == 0) = true := by rw [beq_iff_eq]; omega
        have hz2 : decide (0 < (n : Int)) = false := by rw [decide_eq_false_iff_not]; omega
        have hz3 : decide (0 < n) = false := by rw [decide_eq_false_iff_not]; omega
        clear hz hp hae
        go_quiet ((first | (go_at_call 72; with_reducible exact (refgood_q HIS.out H128.out HKK.out HZK.out HGD.out)) | (go_at_call 63; with_reducible exact (number_q HSC.out.n1 L1.out M1.out))))
        have hc12 : ¬ c7 = 12 := by omega
        have hln2 : (ln : Int) ≤ 112 := by omega
        have hlc : (12 : Int) + (ln : Int) ≤ (c7 : Int) := by omega
        have hlt2 : ((12 : Int) + (ln : Int)).toNat - 12 = ln := by omega
        obtain ⟨X, hX⟩ : ∃ X, wr.drewN nq = X := ⟨_, rfl⟩
        replace HO := Lib.hid (show OwnBytes (wr.drewN nq) B _ out from HO.out)
        have HBX := Lib.hid (below_drewN HB.out nq)
        have HPX := Lib.hid (show IsBytes (wr.drewN nq) (.slice (some ⟨b, off + 12, none⟩) ln (c7 - 12)) (Jn.pc l[at0 + n]) from by have h := HP.out.1; rw [← HSL.out] at h; exact h)
        replace hcq := show (wr.drewN nq).cell? _ = _ from hcq
        replace hcl := show (wr.drewN nq).cell? _ = _ from hcl
        rw [hX] at HO HBX HPX hcq hcl
        simp only [hX]
        clear hX s1 hidx hidx0 hidx1 hd3 hc1w
        have HBZ := Lib.hid (show B ≤ X.heap.size by rw [← HBs.out]; exact HBX.out.size)
        have HLE := Lib.hid (show out.length ≤ 1000000 by have := HOL.out; omega)
        go_upto_region 9 with (at_builtin; go_must (refine wpList_app rfl (.tmp 56) (.tmp 63) 35 _ _ rfl rfl rfl (appB_run (base := B) _ HO.out HPX.out (by rw [HPL.out]; have := HLE.out; omega) HBZ.out) ?_); rintro v2 w2 ⟨ho2, hg2, -⟩; have HO2 := Lib.hid ho2; have HB2 := Lib.hid (app_own HO.out HBX.out hg2 HBZ.out); have HGR := Lib.hid hg2; clear ho2 hg2)
        obtain ⟨ou, hou⟩ : ∃ x, out ++ Jn.pc l[at0 + n] = x := ⟨_, rfl⟩
        rw [hou] at HO2
        have HOU := Lib.hid hou
        clear hou
        obtain ⟨A8, c8, e2, -⟩ := own_rowAt (show w2.ownsRow B 5 1 v2 _ _ from HO2.out)
        subst e2
        have hOL2 : ou.length ≤ (n + 1) * 112 := by rw [← HOU.out, List.length_append, HPL.out]; have := HOL.out; omega
        have HOL2 := Lib.hid hOL2
        clear hOL2 hcq hcl hlc hlt2
        have hcq2 := (HS0.out.up (show Below w.heap.size w w2 by rw [HBs.out]; exact HB2.out)).c10 HQ.out
        by_cases hqe : 2 ≤ q
        case pos =>
          have ht2 : decide (2 ≤ (q : Int)) = true := by rw [decide_eq_true_eq]; omega
          have ht3 : decide (2 ≤ q) = true := decide_eq_true hqe
          have HE := Lib.hid (show (Jn.recA l at0).getD ([], 0) = (ou, n + 1) from (recR_some (Jn.recA_end HAT.out HR.out HGO.out (H2.out.2 hqe))).trans (congrArg (fun x => (x, n + 1)) HOU.out))
          clear hqe H2
          go_wp2_with (fail)
          go_ret2
          rw [HE.out]
          exact ⟨_, rfl, by rw [HBs.out]; exact HO2.out, by rw [HBs.out]; exact HB2.out⟩
        case neg =>
          have ht2 : decide (2 ≤ (q : Int)) = false := by rw [decide_eq_false_iff_not]; omega
          have ht3 : decide (2 ≤ q) = false := decide_eq_false hqe
          have HR2 := Lib.hid (show Jn.rec1 l at0 (l.length - at0 - (n + 1)) (n + 1) ou = Jn.recA l at0 from by rw [← HOU.out]; exact Jn.recA_at HAT.out out HR.out HGO.out (fun h => hqe (H2.out.1 h)))
          clear hqe H2
          go_wp2_with (fail)
          go_roundw
          case rel => exact ⟨n + 1, ou, A8, c8, rfl, by go_num, by omega, HO2, HR2, HOL2, HB2⟩
          case measure => simp [intOf]; omega
    case neg =>
    by_cases hz : n = 0
    case pos =>
      have HE := Lib.hid (recR_none (Jn.recA_stop HAT.out HR.out (fun h => by have h := HG.out.1 h; exact hp (h.2.1.2 hz))))
      clear HG H2 HLN HPC
      have htm : (q : Int).tmod 2 = (q : Int) % 2 := Int.tmod_eq_emod_of_nonneg (by omega)
      have hp1 : ((q : Int) % 2 == 1) = false := by rw [beq_eq_false_iff_ne]; omega
      have hz1 : ((n : Int) == 0) = true := by rw [beq_iff_eq]; omega
      have hz2 : decide (0 < (n : Int)) = false := by rw [decide_eq_false_iff_not]; omega
      have hz3 : decide (0 < n) = false := by rw [decide_eq_false_iff_not]; omega
      clear hz hp
      go_quiet ((first | (go_at_call 72; with_reducible exact (refgood_q HIS.out H128.out HKK.out HZK.out HGD.out)) | (go_at_call 63; with_reducible exact (number_q HSC.out.n1 L1.out M1.out))))
      go_wp2_with (fail)
      go_ret2
      rw [HE.out]
      exact ⟨_, rfl, ownB_nil _ _, by rw [HBs.out]; exact below_drewN HB.out _⟩
    case neg =>
    have hat0 : at0 < l.length := by omega
    obtain ⟨b2, o2, A9, c9, hA9, hbb2, hc2, hb2⟩ := bs_at HV.out hat0
    injection hA9 with hA9
    injection hA9 with e1 e2
    subst e1 e2
    have h1282 := HS.out.at hat0
    obtain ⟨bb, offb, cb, e8, hbw2, hS2⟩ := sc_of (hb2.upb (show Below w.heap.size w wr by rw [HBs.out]; exact HB.out)) h1282
    rw [h1282] at hc2 e8
    injection e8 with e8 e9 e10
    subst e8 e10
    have hc2w := ((bcell (show Below w.heap.size w wr by rw [HBs.out]; exact HB.out)).1 b1 (o1 + at0) hbb1).trans hc2
    have HSC0 := Lib.hid hS2
    have L0 := Lib.hid (show (l[at0].take 4).length ≤ 4 by rw [List.length_take]; omega)
    have hc1282 := hS2.cap
    have HA0' := Lib.hid HA0.out
    replace HA0 := Lib.hid (show Jn.num (l[at0].take 4) = a0 from by have h := HA0'.out; rw [List.getD_eq_getElem?_getD, List.getElem?_eq_getElem hat0] at h; exact h)
    have hat1 : (at0 : Int) < (l.length : Int) := by omega
    clear hc2 hb2 hS2 h1282
    by_cases hae : a = a0
    case neg =>
      have ha1 : ((a : Int) != (a0 : Int)) = true := by rw [bne_iff_ne]; omega
      have HE := Lib.hid (recR_none (Jn.recA_stop HAT.out HR.out (fun h => by have h := HG.out.1 h; exact hae h.2.2)))
      clear HG H2 HLN HPC
      have htm : (q : Int).tmod 2 = (q : Int) % 2 := Int.tmod_eq_emod_of_nonneg (by omega)
      have hp1 : ((q : Int) % 2 == 1) = false := by rw [beq_eq_false_iff_ne]; omega
      have hz1 : ((n : Int) == 0) = false := by rw [beq_eq_false_iff_ne]; omega
      have hz2 : decide (0 < (n : Int)) = true := by rw [decide_eq_true_eq]; omega
      have hz3 : decide (0 < n) = true := by rw [decide_eq_true_eq]; omega
      clear hz hp hae
      go_quiet ((first | (go_at_call 72; with_reducible exact (refgood_q HIS.out H128.out HKK.out HZK.out HGD.out)) | (go_at_call 63; first | with_reducible exact (number_q HSC.out.n1 L1.out M1.out) | with_reducible exact (number_q HSC0.out.n1 L0.out HA0.out))))
      go_wp2_with (fail)
      go_ret2
      rw [HE.out]
      exact ⟨_, rfl, ownB_nil _ _, by rw [HBs.out]; exact below_drewN HB.out _⟩
    case pos =>
      have ha1 : ((a : Int) != (a0 : Int)) = false := by rw [bne_eq_false_iff_eq]; omega
      have HGO := Lib.hid (HG.out.2 ⟨rfl, ⟨fun h => absurd h hp, fun h => absurd h hz⟩, hae⟩)
      have hln : ln ≤ 112 := HLN.out rfl
      have HP := Lib.hid (HPC.out hln)
      have HPL := Lib.hid (show (Jn.pc l[at0 + n]).length = ln by have h := HP.out.2; rw [← HSL.out] at h; exact h)
      clear HG HLN HPC
      have htm : (q : Int).tmod 2 = (q : Int) % 2 := Int.tmod_eq_emod_of_nonneg (by omega)
      have hp1 : ((q : Int) % 2 == 1) = false := by rw [beq_eq_false_iff_ne]; omega
      have hz1 : ((n : Int) == 0) = false := by rw [beq_eq_false_iff_ne]; omega
      have hz2 : decide (0 < (n : Int)) = true := by rw [decide_eq_true_eq]; omega
      have hz3 : decide (0 < n) = true := by rw [decide_eq_true_eq]; omega
      clear hz hp hae
      go_quiet ((first | (go_at_call 72; with_reducible exact (refgood_q HIS.out H128.out HKK.out HZK.out HGD.out)) | (go_at_call 63; first | with_reducible exact (number_q HSC.out.n1 L1.out M1.out) | with_reducible exact (number_q HSC0.out.n1 L0.out HA0.out))))
      have hc12 : ¬ c7 = 12 := by omega
      have hln2 : (ln : Int) ≤ 112 := by omega
      have hlc : (12 : Int) + (ln : Int) ≤ (c7 : Int) := by omega
      have hlt2 : ((12 : Int) + (ln : Int)).toNat - 12 = ln := by omega
      obtain ⟨X, hX⟩ : ∃ X, wr.drewN nq = X := ⟨_, rfl⟩
      replace HO := Lib.hid (show OwnBytes (wr.drewN nq) B _ out from HO.out)
      have HBX := Lib.hid (below_drewN HB.out nq)
      have HPX := Lib.hid (show IsBytes (wr.drewN nq) (.slice (some ⟨b, off + 12, none⟩) ln (c7 - 12)) (Jn.pc l[at0 + n]) from by have h := HP.out.1; rw [← HSL.out] at h; exact h)
      replace hcq := show (wr.drewN nq).cell? _ = _ from hcq
      replace hcl := show (wr.drewN nq).cell? _ = _ from hcl
      rw [hX] at HO HBX HPX hcq hcl
      simp only [hX]
      clear hX s1 hidx hidx0 hidx1 hd3 hc1w
      have HBZ := Lib.hid (show B ≤ X.heap.size by rw [← HBs.out]; exact HBX.out.size)
      have HLE := Lib.hid (show out.length ≤ 1000000 by have := HOL.out; omega)
      go_upto_region 9 with (at_builtin; go_must (refine wpList_app rfl (.tmp 56) (.tmp 63) 35 _ _ rfl rfl rfl (appB_run (base := B) _ HO.out HPX.out (by rw [HPL.out]; have := HLE.out; omega) HBZ.out) ?_); rintro v2 w2 ⟨ho2, hg2, -⟩; have HO2 := Lib.hid ho2; have HB2 := Lib.hid (app_own HO.out HBX.out hg2 HBZ.out); have HGR := Lib.hid hg2; clear ho2 hg2)
      obtain ⟨ou, hou⟩ : ∃ x, out ++ Jn.pc l[at0 + n] = x := ⟨_, rfl⟩
      rw [hou] at HO2
      have HOU := Lib.hid hou
      clear hou
      obtain ⟨A8, c8, e2, -⟩ := own_rowAt (show w2.ownsRow B 5 1 v2 _ _ from HO2.out)
      subst e2
      have hOL2 : ou.length ≤ (n + 1) * 112 := by rw [← HOU.out, List.length_append, HPL.out]; have := HOL.out; omega
      have HOL2 := Lib.hid hOL2
      clear hOL2 hcq hcl hlc hlt2
      have hcq2 := (HS0.out.up (show Below w.heap.size w w2 by rw [HBs.out]; exact HB2.out)).c10 HQ.out
      by_cases hqe : 2 ≤ q
      case pos =>
        have ht2 : decide (2 ≤ (q : Int)) = true := by rw [decide_eq_true_eq]; omega
        have ht3 : decide (2 ≤ q) = true := decide_eq_true hqe
        have HE := Lib.hid (show (Jn.recA l at0).getD ([], 0) = (ou, n + 1) from (recR_some (Jn.recA_end HAT.out HR.out HGO.out (H2.out.2 hqe))).trans (congrArg (fun x => (x, n + 1)) HOU.out))
        clear hqe H2
        go_wp2_with (fail)
        go_ret2
        rw [HE.out]
        exact ⟨_, rfl, by rw [HBs.out]; exact HO2.out, by rw [HBs.out]; exact HB2.out⟩
      case neg =>
        have ht2 : decide (2 ≤ (q : Int)) = false := by rw [decide_eq_false_iff_not]; omega
        have ht3 : decide (2 ≤ q) = false := decide_eq_false hqe
        have HR2 := Lib.hid (show Jn.rec1 l at0 (l.length - at0 - (n + 1)) (n + 1) ou = Jn.recA l at0 from by rw [← HOU.out]; exact Jn.recA_at HAT.out out HR.out HGO.out (fun h => hqe (H2.out.1 h)))
        clear hqe H2
        go_wp2_with (fail)
        go_roundw
        case rel => exact ⟨n + 1, ou, A8, c8, rfl, by go_num, by omega, HO2, HR2, HOL2, HB2⟩
        case measure => simp [intOf]; omega
end
section
open Go.RowKit
set_option linter.unusedVariables false
set_option linter.unusedSimpArgs false
set_option maxRecDepth 20000

theorem one_rowO {X : World} {u : Value} {b : By} {o : Option Nat} (h : OffB o X u b) :
    RowAt (X.alloc (.cells #[u] 35)) (some ⟨X.heap.size, 0, none⟩) [u] ∧ ∀ i (h : i < [u].length) (h' : i < [b].length), OffB o (X.alloc (.cells #[u] 35)) [u][i] [b][i] := by
  refine ⟨fun _ => ⟨X.heap.size, 0, rfl, by simp, fun i hi => ?_⟩, fun i h1 h2 => ?_⟩
  · have : i = 0 := by simpa using hi
    subst this
    simp
  · have : i = 0 := by simpa using h1
    subst this
    exact h.below (al1 X _)
theorem OwnBytes.offO {W W0 : World} {u v : Value} {b : By} {base : Nat} {os : List By} (h : OwnBytes W W0.heap.size u b) (hv : OwnSs W0 base v os) : OffB v.ownBlock W u b := by
  cases hb : v.ownBlock with
  | none =>
    obtain ⟨A, c, e, hc, hr⟩ := h.bytes
    refine ⟨A, c, e, hc, fun hn => ?_⟩
    obtain ⟨g, off, e2, hg, hcc⟩ := hr (by simpa using hn)
    exact ⟨g, off, e2, by simp, hg, fun i hi => by rw [hcc i (by simpa using hi)]; simp⟩
  | some g =>
    obtain ⟨vs, _, ho, _⟩ := hv
    exact h.off (World.ownsRow.lt ho g hb).2
theorem recs_end {l : List By} {f a last : Nat} {os : List By} (h : os ++ Jn.recs l f a last = Jn.Records l) (h2 : Jn.recs l f a last = []) : os = Jn.Records l := by
  rw [h2, List.append_nil] at h; exact h
theorem recs_go {l : List By} {f a last m : Nat} {os : List By} {b : By} (h : os ++ Jn.recs l f a last = Jn.Records l) (hr : Jn.recA l a = some (b, m)) (hg : ¬ Jn.gen (l.getD a []) < last) (hf : l.length + 1 ≤ f + a) :
    ∃ f', l.length + 1 ≤ f' + (a + m) ∧ (os ++ [b]) ++ Jn.recs l f' (a + m) (Jn.gen (l.getD a [])) = Jn.Records l := by
  obtain ⟨h1, h2⟩ := Jn.recA_bound hr
  obtain ⟨f', rfl⟩ : ∃ f', f = f' + 1 := ⟨f - 1, by omega⟩
  refine ⟨f', by omega, ?_⟩
  rw [Jn.recs_some hr hg] at h
  rw [List.append_assoc]
  exact h

set_option maxHeartbeats 8000000 in
set_option maxRecDepth 100000 in
theorem Records_any {l : List By} {v : Value} {w : World} (hv : IsBs w v l) (hs : S128 l) :
    Calls Try.prog 34 #[v] w fun e w' => ∃ u, e = .returned u ∧ OwnSs w' w.heap.size u (Jn.Records l) ∧ Below w.heap.size w w' := by
  have HV := Lib.hid hv
  have HS := Lib.hid hs
  obtain ⟨A, c, _, rfl, _⟩ := id hv
  have hl4 := hs.1
  clear hv hs
  have HO0 := Lib.hid (ownS_made w)
  have HB0 := Lib.hid (al1 w (.cells #[] 35))
  obtain ⟨B, hB⟩ : ∃ B, w.heap.size = B := ⟨_, rfl⟩
  have HBs := Lib.hid hB
  rw [hB] at HO0 HB0
  go_enter Try.func34, Try.ntmps34
  go_wp2_with (fail)
  try simp only [hB]
  clear hB
  go_loopw [3, 4, 5] (fun s3 s4 s5 wr => ∃ (a last f : Nat) (os : List By) (A3 : Option Addr) (c3 : Nat), s3 = .slice A3 os.length c3 ∧ s4 = .int .i64 a ∧ s5 = .int .u64 last ∧ a ≤ l.length ∧ Hid (OwnSs wr B (.slice A3 os.length c3) os) ∧ Hid (os ++ Jn.recs l f a last = Jn.Records l) ∧ Hid (l.length + 1 ≤ f + a) ∧ Hid (os.length ≤ a) ∧ last < 4294967296 ∧ Hid (Below B w wr)) (fun _ s4 _ _ => l.length - (intOf s4).toNat)
  case atStart => exact ⟨0, 0, l.length + 1, [], _, _, rfl, rfl, rfl, Nat.zero_le _, HO0, Lib.hid rfl, Lib.hid (by omega), Lib.hid (by simp), by omega, HB0⟩
  case round =>
    clear HO0 HB0
    obtain ⟨a, last, f, os, A3, c3, rfl, rfl, rfl, ha, HO, HR, HF, HOL, hlast, HB⟩ := hrel
    have ha4 : (a : Int) ≤ 4096 := by omega
    go_wp2_with (fail)
    refine (record_any (HV.out.upb (show Below w.heap.size w wr by rw [HBs.out]; exact HB.out)) HS.out ha).mono ?_
    rintro e w1 ⟨u, rfl, hob, hb1⟩
    have HB1 := Lib.hid ((show Below w.heap.size w wr by rw [HBs.out]; exact HB.out).up hb1)
    obtain ⟨R, hR⟩ : ∃ R, Jn.recA l a = R := ⟨_, rfl⟩
    rw [hR] at hob
    rw [hR]
    cases R with
    | none =>
      have HE := Lib.hid (recs_end HR.out (Jn.recs_none hR))
      replace HO := Lib.hid (HO.out.below hb1)
      clear hob hb1 hR
      simp only [Option.getD_none]
      go_wp2_with (fail)
      go_ret
      exact ⟨_, rfl, by rw [HBs.out, ← HE.out]; exact HO.out, HB1.out⟩
    | some x =>
      obtain ⟨b, m⟩ := x
      simp only [Option.getD_some] at hob ⊢
      obtain ⟨hm, ham⟩ := Jn.recA_bound hR
      have HOB := Lib.hid hob
      have HOF := Lib.hid (hob.offO HO.out)
      have HRA := Lib.hid hR
      replace HO := Lib.hid (HO.out.below hb1)
      clear hb1 hob hR
      have hal : a < l.length := by omega
      have hal2 : (a : Int) < (l.length : Int) := by omega
      have hm0 : ((m : Int) == 0) = false := by rw [beq_eq_false_iff_ne]; omega
      have hm4 : (m : Int) ≤ 4096 := by omega
      obtain ⟨b1, o1, A7, c7, hA7, hbb1, hc1, hb1⟩ := bs_at HV.out hal
      subst hA7
      have h128 := HS.out.at hal
      obtain ⟨s, hsl⟩ : ∃ s, l[a] = s := ⟨_, rfl⟩
      rw [hsl] at hc1 hb1 h128
      obtain ⟨bb, off, cc, e8, hbw0, hS0⟩ := sc_of hb1 h128
      rw [h128] at hc1 e8
      injection e8 with e8 e9 e10
      subst e8 e10
      have HC1 := Lib.hid hc1
      have hc1w := ((bcell HB1.out).1 b1 (o1 + a) hbb1).trans hc1
      have HSC := Lib.hid (hS0.up HB1.out)
      have hc128 := hS0.cap
      obtain ⟨g, hga⟩ : ∃ x, Jn.gen s = x := ⟨_, rfl⟩
      have hg32 : g < 4294967296 := by rw [← hga]; exact Jn.gen_lt h128
      have M1 := Lib.hid (show Jn.num (s.take 4) = g from hga)
      have L1 := Lib.hid (show (s.take 4).length ≤ 4 by rw [List.length_take]; omega)
      have HGD := Lib.hid (show Jn.gen (l.getD a []) = g from by rw [List.getD_eq_getElem?_getD, List.getElem?_eq_getElem hal]; show Jn.gen l[a] = g; rw [hsl]; exact hga)
      clear hb1 hsl h128 hc1 hS0 hga
      go_wp2_with (fail)
      refine (number_is HSC.out.n1 L1.out M1.out).mono ?_
      rintro e wx ⟨rfl, rfl⟩
      by_cases hless : g < last
      case pos =>
        have ht : decide ((g : Int) < (last : Int)) = true := decide_eq_true (by omega)
        have ht2 : decide (g < last) = true := decide_eq_true hless
        have HE := Lib.hid (recs_end HR.out (Jn.recs_less (by rw [HGD.out]; exact hless)))
        clear hless
        go_wp2_with (fail)
        go_ret
        exact ⟨_, rfl, by rw [HBs.out, ← HE.out]; exact HO.out, HB1.out⟩
      case neg =>
      have ht : decide ((g : Int) < (last : Int)) = false := decide_eq_false (by omega)
      have ht2 : decide (g < last) = false := decide_eq_false hless
      obtain ⟨f', hf', hrec⟩ := recs_go HR.out HRA.out (by rw [HGD.out]; exact hless) HF.out
      rw [HGD.out] at hrec
      have HR2 := Lib.hid hrec
      have HF2 := Lib.hid hf'
      clear hless hf' hrec
      go_wp2_with (fail)
      refine (number_is HSC.out.n1 L1.out M1.out).mono ?_
      rintro e wx ⟨rfl, rfl⟩
      obtain ⟨Ab, cb, eb, -⟩ := own_rowAt (show w1.ownsRow wr.heap.size 5 1 u _ _ from HOB.out)
      subst eb
      have HOW := Lib.hid (one_rowO HOF.out)
      have HBZ := Lib.hid (show B ≤ w1.heap.size by rw [← HBs.out]; exact HB1.out.size)
      have HOSL := Lib.hid (show os.length ≤ 100000 by have := HOL.out; omega)
      go_upto_region 9 with (at_builtin; go_must (refine wpList_app rfl (.tmp 34) (.tmp 36) 22 _ _ rfl rfl rfl (appS_run (base := B) (ss := os) (ts := [b]) _ (HO.out.below (al1 w1 _)) (us := [.slice Ab b.length cb]) rfl HOW.out.1 HOW.out.2 (by have := HOSL.out; simp; omega) (by have := HBZ.out; simp; omega)) ?_); rintro v6 w6 ⟨ho6, hg6, -⟩; have HO6 := Lib.hid ho6; have HB6 := Lib.hid ((HB1.out.up (al1 w1 _)).grown hg6 (by have := HBZ.out; rw [HBs.out]; simp; omega) (fun k hk => by rw [HBs.out]; exact (HO.out.own_lt k hk))); clear ho6 hg6)
      obtain ⟨on, hon⟩ : ∃ x, os ++ [b] = x := ⟨_, rfl⟩
      have HOL2 := Lib.hid (show on.length ≤ a + m by rw [← hon]; have := HOL.out; simp; omega)
      rw [hon] at HO6 HR2
      clear hon
      obtain ⟨g6, cap6, e6⟩ : ∃ A c, v6 = .slice A on.length c := by
        obtain ⟨A, c, _, e, _⟩ := HO6.out.is
        exact ⟨A, c, e⟩
      subst e6
      go_wp2_with (fail)
      go_roundw
      case rel => exact ⟨a + m, g, f', on, g6, cap6, rfl, by go_num, rfl, by omega, HO6, HR2, HF2, HOL2, hg32, by rw [HBs.out] at HB6; exact HB6⟩
      case measure => simp [intOf]; omega
end
section
open Go.RowKit
set_option linter.unusedVariables false
set_option linter.unusedSimpArgs false
set_option maxRecDepth 20000

namespace Jn
/-- a disk that a journal can be read off -/
def Rd (d : Dk) : Prop := Dv.Ok d ∧ d.st = false ∧ d.ps = []
def openE (d : Dk) : Int := if Dv.Ok d then (if d.st = true then 40 else if d.ps.length = 0 then 0 else 1) else 40
def openJ (d : Dk) : Jl := if Dv.Ok d ∧ d.st = false ∧ d.ps.length = 0 then ⟨Records d.ss, d.ss.length, (Records d.ss).length⟩ else j0
end Jn
theorem s128_ok {d : Dk} (h : Dv.Ok d) : S128 d.ss := by
  refine ⟨h.n2, fun s hs => ?_⟩
  have h1 := h.ss
  rw [List.any_eq_false] at h1
  have := h1 s hs
  simpa [Dv.badS] using this

set_option maxHeartbeats 8000000 in
set_option maxRecDepth 100000 in
theorem refOpen_any {v : Value} {d : Dk} {w : World} (hv : IsD w v d) :
    Calls Try.prog 13 #[v] w fun e w' => ∃ x, e = .returned (.tuple #[x, .int .i64 (Jn.openE d)]) ∧ IsJ w' x (Jn.openJ d) ∧ Below w.heap.size w w' ∧ NJ w.heap.size x := by
  obtain ⟨A, c, A2, c2, rfl, h1, h2⟩ := hv.open_
  obtain ⟨ss, ps, left, st⟩ := d
  simp only at hv h1 h2 ⊢
  obtain ⟨W0, hW0⟩ : ∃ W, (w.alloc (.cells #[.slice A ss.length c, .slice A2 ps.length c2, .int .i64 left, .bool st] 25)).alloc (.cells #[.slice none 0 0, .int .i64 0, .int .i64 0] 29) = W := ⟨_, rfl⟩
  have HW0 := Lib.hid (show Below w.heap.size w W0 from by rw [← hW0]; exact (al1 w _).up (al1 _ _))
  have HZ := Lib.hid (show Cells W0 w.heap.size 25 [.slice A ss.length c, .slice A2 ps.length c2, .int .i64 left, .bool st] from by rw [← hW0]; exact (Cells.new w 25 [_, _, _, _]).upb (al1 _ _))
  have HY := Lib.hid (show Cells W0 (w.heap.size + 1) 29 [.slice none 0 0, .int .i64 0, .int .i64 0] from by
    rw [← hW0]
    have h := Cells.new (w.alloc (.cells #[.slice A ss.length c, .slice A2 ps.length c2, .int .i64 left, .bool st] 25)) 29 [.slice none 0 0, .int .i64 0, .int .i64 0]
    rw [World.size_alloc] at h
    exact h)
  have HV := Lib.hid (hv.upb HW0.out)
  have HS := Lib.hid (h1.upb HW0.out)
  obtain ⟨k, hk⟩ : ∃ k, Dv.chk ⟨ss, ps, left, st⟩ = k := ⟨_, rfl⟩
  have HK := Lib.hid hk
  obtain ⟨e0, he⟩ : ∃ r, Jn.openE ⟨ss, ps, left, st⟩ = r := ⟨_, rfl⟩
  obtain ⟨x0, hx⟩ : ∃ r, Jn.openJ ⟨ss, ps, left, st⟩ = r := ⟨_, rfl⟩
  have HE := Lib.hid he
  have HX := Lib.hid hx
  rw [he, hx]
  have HWE := Lib.hid hW0
  clear hv h1 h2 hk he hx hW0
  go_enter Try.func13, Try.ntmps13
  go_upto_region 1 with (fail)
  simp only [HWE.out]
  clear HWE
  have z0 := HZ.out.cell (k := 0) rfl
  have z1 := HZ.out.cell (k := 1) rfl
  have z2 := HZ.out.cell (k := 2) rfl
  have z3 := HZ.out.cell (k := 3) rfl
  go_wp2_with (fail)
  refine (refCheck_is HV.out HK.out).mono ?_
  rintro e w1 ⟨rfl, hb1⟩
  have HW1 := Lib.hid (HW0.out.up hb1)
  have HS1 := Lib.hid (HS.out.upb hb1)
  replace HZ := Lib.hid (HZ.out.upb hb1)
  replace HY := Lib.hid (HY.out.upb hb1)
  clear z0 z1 z2 z3 hb1 HV HS HW0
  have z0 := HZ.out.cell (k := 0) rfl
  have z1 := HZ.out.cell (k := 1) rfl
  have z2 := HZ.out.cell (k := 2) rfl
  have z3 := HZ.out.cell (k := 3) rfl
  have y0 := HY.out.cell (k := 0) rfl
  have y1 := HY.out.cell (k := 1) rfl
  have y2 := HY.out.cell (k := 2) rfl
  have f0 := HY.out.frozen 0
  have f1 := HY.out.frozen 1
  have f2 := HY.out.frozen 2
  have zl := HZ.out.lt
  have yl := HY.out.lt
  by_cases hok : Dv.Ok ⟨ss, ps, left, st⟩
  case neg =>
    obtain rfl : k = 40 := by rw [← HK.out]; unfold Dv.chk; rw [if_neg hok]
    obtain rfl : e0 = 40 := by rw [← HE.out]; unfold Jn.openE; rw [if_neg hok]
    obtain rfl : x0 = j0 := by rw [← HX.out]; unfold Jn.openJ; rw [if_neg (fun h => hok h.1)]
    clear hok
    go_wp2_with (fail)
    refine bodyPost_ret (jl_out rfl rfl rfl (HY.out.set3 (.slice none 0 0) (.int .i64 0) (.int .i64 0))) rfl ?_
    exact ⟨_, rfl, IsJ.zero, below_set3 HW1.out (by omega) _ _ _, nj_nil⟩
  case pos =>
  obtain rfl : k = 0 := by rw [← HK.out]; unfold Dv.chk; rw [if_pos hok]
  have H128 := Lib.hid (s128_ok hok)
  cases st
  case true =>
    obtain rfl : e0 = 40 := by rw [← HE.out]; unfold Jn.openE; rw [if_pos hok, if_pos rfl]
    obtain rfl : x0 = j0 := by rw [← HX.out]; unfold Jn.openJ; rw [if_neg (fun h => by cases h.2.1)]
    clear hok
    go_wp2_with (fail)
    refine bodyPost_ret (jl_out rfl rfl rfl (HY.out.set3 (.slice none 0 0) (.int .i64 0) (.int .i64 0))) rfl ?_
    exact ⟨_, rfl, IsJ.zero, below_set3 HW1.out (by omega) _ _ _, nj_nil⟩
  case false =>
  by_cases hps : ps.length = 0
  case neg =>
    obtain rfl : e0 = 1 := by rw [← HE.out]; unfold Jn.openE; rw [if_pos hok, if_neg (fun h => by cases h), if_neg hps]
    obtain rfl : x0 = j0 := by rw [← HX.out]; unfold Jn.openJ; rw [if_neg (fun h => hps h.2.2)]
    have t1 : decide ((0 : Int) < (ps.length : Int)) = true := decide_eq_true (by omega)
    have t2 : decide (0 < ps.length) = true := decide_eq_true (by omega)
    clear hok hps
    go_wp2_with (fail)
    refine bodyPost_ret (jl_out rfl rfl rfl (HY.out.set3 (.slice none 0 0) (.int .i64 0) (.int .i64 0))) rfl ?_
    exact ⟨_, rfl, IsJ.zero, below_set3 HW1.out (by omega) _ _ _, nj_nil⟩
  case pos =>
  obtain rfl : e0 = 0 := by rw [← HE.out]; unfold Jn.openE; rw [if_pos hok, if_neg (fun h => by cases h), if_pos hps]
  obtain rfl : x0 = ⟨Jn.Records ss, ss.length, (Jn.Records ss).length⟩ := by rw [← HX.out]; unfold Jn.openJ; rw [if_pos ⟨hok, rfl, hps⟩]
  have t1 : decide ((0 : Int) < (ps.length : Int)) = false := decide_eq_false (by omega)
  have t2 : decide (0 < ps.length) = false := decide_eq_false (by omega)
  clear hok hps
  go_wp2_with (fail)
  refine (Records_any HS1.out H128.out).mono ?_
  rintro e w2 ⟨u, rfl, ho, hb2⟩
  clear z0 z1 z2 z3 y0 y1 y2 f0 f1 f2 zl yl t1 t2
  have HW2 := Lib.hid (HW1.out.up hb2)
  replace HZ := Lib.hid (HZ.out.upb hb2)
  have HYL := Lib.hid (show w.heap.size + 1 < w1.heap.size from HY.out.lt)
  replace HY := Lib.hid (HY.out.upb hb2)
  have HO := Lib.hid ho
  clear ho hb2
  obtain ⟨A9, c9, vs9, e9, -⟩ := id HO.out.is
  subst e9
  have z0 := HZ.out.cell (k := 0) rfl
  have y0 := HY.out.cell (k := 0) rfl
  have y1 := HY.out.cell (k := 1) rfl
  have y2 := HY.out.cell (k := 2) rfl
  have f0 := HY.out.frozen 0
  have f1 := HY.out.frozen 1
  have f2 := HY.out.frozen 2
  have zl := HZ.out.lt
  have yl := HY.out.lt
  go_wp2_with (fail)
  refine bodyPost_ret (jl_out rfl rfl rfl (HY.out.set3 (.slice A9 (Jn.Records ss).length c9) (.int .i64 ss.length) (.int .i64 (Jn.Records ss).length))) rfl ?_
  have hnew : ∀ b off k c, Value.slice A9 (Jn.Records ss).length c9 = .slice (some ⟨b, off, none⟩) k c → w.heap.size + 1 < b := by
    intro b off k c h
    injection h with h
    subst h
    have := HO.out.own_lt b rfl
    have := HYL.out
    omega
  refine ⟨_, rfl, ?_, below_set3 HW2.out (by omega) _ _ _, ?_⟩
  · exact isJ_mk (HO.out.is.offJ (fun b off k c h => by have := hnew b off k c h; omega) HY.out (grown_set3 _ _ _ _ _))
  · intro b off k c m s h
    injection h with h
    injection h with h
    injection h with h _
    have := hnew b off k c h
    omega
end
end Go.Proofs.Ytkcnanclpkongaa
