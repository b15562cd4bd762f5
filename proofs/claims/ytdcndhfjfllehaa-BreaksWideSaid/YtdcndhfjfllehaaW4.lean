/- Walks of the reference's proves, Accepts. -/
import Derived.Test.YtdcndhfjfllehaaW3
namespace Go.Proofs.Ytdcndhfjfllehaa
open Go.RowKit
set_option linter.unusedVariables false

namespace Bk
theorem at_eq (l : List Int) (i : Nat) (h : i < l.length) : at_ l i = l[i] := by
  unfold at_; simp [List.getD_eq_getElem?_getD, List.getElem?_eq_getElem h]
/-- a list that proves -/
structure Prv (sp rm : Int) (xs h : List Int) : Prop where
  len : h.length = xs.length + 1
  last : at_ h xs.length = 0
  rng : ∀ i, i < xs.length → 0 ≤ at_ h i ∧ at_ h i ≤ 1125899906842624
  le : ∀ i j, i < j → j ≤ xs.length → ∀ c, lc sp rm (xs.drop i) (j - i) = some c → at_ h i ≤ c + at_ h j
end Bk
theorem drewN_add (w : World) (a b : Nat) : (w.drewN a).drewN b = w.drewN (a + b) := by
  unfold World.drewN; simp [Nat.add_assoc]
/-- a Bool that says P; the world drawn on -/
def BIff (P : Prop) (w : World) (e : Ending) (w' : World) : Prop := ∃ b : Bool, e = .returned (.bool b) ∧ (b = true ↔ P) ∧ ∃ q, w' = w.drewN q
theorem BIff.no {P : Prop} {w : World} {q : Nat} (h : ¬ P) : BIff P w (.returned (.bool false)) (w.drewN q) := ⟨false, rfl, by simp [h], q, rfl⟩
theorem BIff.yes {P : Prop} {w : World} {q : Nat} (h : P) : BIff P w (.returned (.bool true)) (w.drewN q) := ⟨true, rfl, by simp [h], q, rfl⟩
theorem ints_atB {w : World} {A : Option Addr} {xs : List Int} (h : RowAt w A (xs.map (Value.int .i64))) {k : Nat} (hk : k < xs.length) :
    ∃ b off, A = some ⟨b, off, none⟩ ∧ b < w.heap.size ∧ w.cell? ⟨b, off + k, none⟩ = some (.int .i64 (Bk.at_ xs k)) := by
  rw [Bk.at_eq xs k hk]; exact ints_at h hk

set_option maxHeartbeats 4000000 in
set_option maxRecDepth 100000 in
theorem proves_any (v u : Value) (xs h : List Int) (sp rm : Int) (w : World) (hv : IsInts w v xs) (hu : IsInts w u h) (hr : Bk.Rt xs sp rm) (hl : h.length ≤ 9223372036854775807) :
    Calls Try.prog 32 #[v, .int .i64 sp, .int .i64 rm, u] w (BIff (Bk.Prv sp rm xs h) w) := by
  have HV := Lib.hid hv
  obtain ⟨A, cap, rfl, hrow⟩ := hv
  obtain ⟨A2, cap2, rfl, hrow2⟩ := hu
  have HR2 := Lib.hid hrow2
  have HR := Lib.hid hr
  have hn := hr.len
  clear hrow hrow2 hr
  by_cases hlen : h.length = xs.length + 1
  · have hle1 : h.length ≤ xs.length + 1 := by omega
    have hle2 : xs.length + 1 ≤ h.length := by omega
    have HLN := Lib.hid hlen
    have hbl : ((h.length : Int) != (xs.length : Int) + 1) = false := by rw [bne_eq_false_iff_eq]; omega
    clear hlen
    obtain ⟨b, off, rfl, _, hc⟩ := ints_atB HR2.out (show xs.length < h.length by omega)
    by_cases hz : Bk.at_ h xs.length = 0
    · have HZ := Lib.hid hz
      rw [hz] at hc
      clear hz
      go_enter Try.func32, Try.ntmps32
      go_wp2
      go_loop [10] (fun i => ∃ k : Nat, k ≤ xs.length ∧ i = .int .i64 k ∧ Hid (∀ i, i < k → 0 ≤ Bk.at_ h i ∧ Bk.at_ h i ≤ 1125899906842624)) (fun i => xs.length - (intOf i).toNat)
      case atStart => exact ⟨0, by omega, rfl, Lib.hid (fun i hi => by omega)⟩
      case round =>
        obtain ⟨k, hk, rfl, HG⟩ := hrel
        clear hc hbl
        by_cases hlt : k < xs.length
        · obtain ⟨b', off', e, _, hc⟩ := ints_atB HR2.out (show k < h.length by omega)
          injection e with e
          injection e with e1 e2
          subst e1 e2
          by_cases hneg : Bk.at_ h k < 0
          · have HN := Lib.hid (show ¬ Bk.Prv sp rm xs h from fun hp => by have := hp.rng k hlt; omega)
            generalize Bk.at_ h k = z at *
            go_wp2
            go_ret
            exact BIff.no (q := 0) HN.out
          · by_cases hbig : 1125899906842624 < Bk.at_ h k
            · have HN := Lib.hid (show ¬ Bk.Prv sp rm xs h from fun hp => by have := hp.rng k hlt; omega)
              generalize Bk.at_ h k = z at *
              go_wp2
              go_ret
              exact BIff.no (q := 0) HN.out
            · have HG2 := Lib.hid (show ∀ i, i < k + 1 → 0 ≤ Bk.at_ h i ∧ Bk.at_ h i ≤ 1125899906842624 from fun i hi => by
                rcases Nat.lt_or_ge i k with h1 | h1
                · exact HG.out i h1
                · obtain rfl : i = k := by omega
                  omega)
              generalize Bk.at_ h k = z at *
              go_wp2
              go_round
              case rel => exact ⟨k + 1, by omega, by go_num, HG2⟩
              case measure => simp [intOf]; omega
        · obtain rfl : k = xs.length := by omega
          have HRG := Lib.hid (show ∀ i, i ≤ xs.length → 0 ≤ Bk.at_ h i ∧ Bk.at_ h i ≤ 1125899906842624 from fun i hi => by
            rcases Nat.lt_or_ge i xs.length with h1 | h1
            · exact HG.out i h1
            · obtain rfl : i = xs.length := by omega
              rw [HZ.out]; omega)
          go_wp2
          go_loopw [11, 12, 13, 14] (fun i _ _ _ wr => ∃ (k q : Nat), k ≤ xs.length ∧ i = .int .i64 k ∧ wr = w.drewN q ∧ Hid (∀ i j, i < k → i < j → j ≤ xs.length → ∀ c, Bk.lc sp rm (xs.drop i) (j - i) = some c → Bk.at_ h i ≤ c + Bk.at_ h j)) (fun i _ _ _ _ => xs.length - (intOf i).toNat)
          case atStart => exact ⟨0, 0, by omega, rfl, rfl, Lib.hid (fun i j hi => by omega)⟩
          case round =>
            obtain ⟨k, q, hk, rfl, rfl, HL⟩ := hrel
            by_cases hlt2 : k < xs.length
            · go_wp2
              go_loopw [12, 13, 14] (fun j _ _ wr => ∃ (m q : Nat), k + 1 ≤ m ∧ m ≤ xs.length + 1 ∧ j = .int .i64 m ∧ wr = w.drewN q ∧ Hid (∀ j, k < j → j < m → ∀ c, Bk.lc sp rm (xs.drop k) (j - k) = some c → Bk.at_ h k ≤ c + Bk.at_ h j)) (fun j _ _ _ => xs.length + 1 - (intOf j).toNat)
              case atStart => exact ⟨k + 1, q, by omega, by omega, by go_num, rfl, Lib.hid (fun j h1 h2 => by omega)⟩
              case round =>
                obtain ⟨m, q2, hm1, hm2, rfl, rfl, HI⟩ := hrel
                by_cases hle : m ≤ xs.length
                · have HC := Lib.hid (refLine_any _ xs sp rm k m (w.drewN q2) HV.out HR.out (by omega) hle)
                  obtain ⟨b1, off1, e, _, hck⟩ := ints_atB HR2.out (show k < h.length by omega)
                  injection e with e
                  injection e with e1 e2
                  subst e1 e2
                  obtain ⟨b1, off1, e, _, hcm⟩ := ints_atB HR2.out (show m < h.length by omega)
                  injection e with e
                  injection e with e1 e2
                  subst e1 e2
                  have hrk := HRG.out k (by omega)
                  have hrm := HRG.out m (by omega)
                  cases hlc : Bk.lc sp rm (xs.drop k) (m - k) with
                  | none =>
                    have HI2 := Lib.hid (show ∀ j, k < j → j < m + 1 → ∀ c, Bk.lc sp rm (xs.drop k) (j - k) = some c → Bk.at_ h k ≤ c + Bk.at_ h j from fun j h1 h2 c hc => by
                      rcases Nat.lt_or_ge j m with h3 | h3
                      · exact HI.out j h1 h3 c hc
                      · obtain rfl : j = m := by omega
                        rw [hlc] at hc; cases hc)
                    rw [hlc] at HC
                    clear hlc hrk hrm
                    go_wp2_with (go_at_call 27; refine HC.out.mono ?_; rintro e w' ⟨rfl, rfl⟩; unfold lcE)
                    go_quiet (fail)
                    go_wp2
                    go_roundw
                    case rel => exact ⟨m + 1, _, by omega, by omega, by go_num, rfl, HI2⟩
                    case measure => first | omega | (simp [intOf]; done) | (simp [intOf]; omega)
                  | some c =>
                    obtain ⟨_, _, hc0, hc1⟩ := Bk.lc_bd (HR.out.pos.drop k) HR.out.r hlc
                    have hw : IntKind.i64.wrap (c + Bk.at_ h m) = c + Bk.at_ h m := by rw [IntKind.wrap_i64]; omega
                    rw [hlc] at HC
                    by_cases hbad : c + Bk.at_ h m < Bk.at_ h k
                    · have HN := Lib.hid (show ¬ Bk.Prv sp rm xs h from fun hp => by have := hp.le k m (by omega) hle c hlc; omega)
                      have hd : decide (c + Bk.at_ h m < Bk.at_ h k) = true := by simpa using hbad
                      clear hlc hrk hrm hbad
                      generalize Bk.at_ h m = y at *
                      generalize Bk.at_ h k = z at *
                      go_wp2_with (go_at_call 27; refine HC.out.mono ?_; rintro e w' ⟨rfl, rfl⟩; unfold lcE)
                      go_quiet (fail)
                      go_wp2
                      go_ret
                      exact ⟨false, rfl, by simp [HN.out], q2 + nq, drewN_add w q2 nq⟩
                    · have HI2 := Lib.hid (show ∀ j, k < j → j < m + 1 → ∀ c, Bk.lc sp rm (xs.drop k) (j - k) = some c → Bk.at_ h k ≤ c + Bk.at_ h j from fun j h1 h2 c2 hc => by
                        rcases Nat.lt_or_ge j m with h3 | h3
                        · exact HI.out j h1 h3 c2 hc
                        · obtain rfl : j = m := by omega
                          rw [hlc] at hc; injection hc with hc; omega)
                      have hd : decide (c + Bk.at_ h m < Bk.at_ h k) = false := by simpa using hbad
                      clear hlc hrk hrm hbad
                      obtain ⟨y, hy⟩ : ∃ y, y = Bk.at_ h m := ⟨_, rfl⟩
                      rw [← hy] at hcm hw hd
                      obtain ⟨z, hz2⟩ : ∃ z, z = Bk.at_ h k := ⟨_, rfl⟩
                      rw [← hz2] at hck hd
                      clear hy hz2
                      go_wp2_with (go_at_call 27; refine HC.out.mono ?_; rintro e w' ⟨rfl, rfl⟩; unfold lcE)
                      go_quiet (fail)
                      go_wp2
                      go_roundw
                      case rel => exact ⟨m + 1, _, by omega, by omega, by go_num, rfl, HI2⟩
                      case measure => first | omega | (simp [intOf]; done) | (simp [intOf]; omega)
                · have HL2 := Lib.hid (show ∀ i j, i < k + 1 → i < j → j ≤ xs.length → ∀ c, Bk.lc sp rm (xs.drop i) (j - i) = some c → Bk.at_ h i ≤ c + Bk.at_ h j from fun i j h1 h2 h3 c hc => by
                    rcases Nat.lt_or_ge i k with h4 | h4
                    · exact HL.out i j h4 h2 h3 c hc
                    · obtain rfl : i = k := by omega
                      exact HI.out j h2 (by omega) c hc)
                  go_wp2
                  go_roundw
                  case rel => exact ⟨k + 1, _, by omega, by go_num, rfl, HL2⟩
                  case measure => first | omega | (simp [intOf]; done) | (simp [intOf]; omega)
            · have HP := Lib.hid (show Bk.Prv sp rm xs h from ⟨HLN.out, HZ.out, fun i hi => HRG.out i (by omega), fun i j h1 h2 c hc => HL.out i j (by omega) h1 h2 c hc⟩)
              go_wp2
              go_ret
              exact BIff.yes HP.out
    · have HN := Lib.hid (show ¬ Bk.Prv sp rm xs h from fun hp => hz hp.last)
      have hb : (Bk.at_ h xs.length != 0) = true := by simpa using hz
      generalize Bk.at_ h xs.length = z at *
      clear hz
      go_enter Try.func32, Try.ntmps32
      go_wp2
      go_ret
      exact BIff.no (q := 0) HN.out
  · have HN := Lib.hid (show ¬ Bk.Prv sp rm xs h from fun hp => hlen hp.len)
    have hbl : ((h.length : Int) != (xs.length : Int) + 1) = true := by rw [bne_iff_ne]; omega
    clear hlen
    go_enter Try.func32, Try.ntmps32
    go_wp2
    go_ret
    exact BIff.no (q := 0) HN.out

/-- what Accepts says -/
def accL (xs : List Int) (sp rm : Int) (es h : List Int) : Prop := Bk.err xs sp rm = 0 ∧ ∃ c, Bk.cst sp rm 0 xs es = some c ∧ Bk.Prv sp rm xs h ∧ c = Bk.at_ h 0
def AccPost (xs : List Int) (sp rm : Int) (es h : List Int) (w : World) (e : Ending) (w' : World) : Prop := ∃ b : Bool, e = .returned (.tuple #[.bool b, .int .i64 (Bk.err xs sp rm)]) ∧ (b = true ↔ accL xs sp rm es h) ∧ ∃ q, w' = w.drewN q

set_option maxHeartbeats 2000000 in
theorem refAccepts_any (v u t : Value) (xs es h : List Int) (sp rm : Int) (w : World) (hv : IsInts w v xs) (hu : IsInts w u es) (ht : IsInts w t h) (hl : xs.length ≤ 9223372036854775807) (hl2 : es.length ≤ 9223372036854775807) (hl3 : h.length ≤ 9223372036854775807) :
    Calls Try.prog 16 #[v, .int .i64 sp, .int .i64 rm, u, t] w (AccPost xs sp rm es h w) := by
  have HV := Lib.hid hv
  have HU := Lib.hid hu
  have HT := Lib.hid ht
  obtain ⟨A, cap, rfl, _⟩ := hv
  obtain ⟨A2, cap2, rfl, _⟩ := hu
  obtain ⟨A3, cap3, rfl, hrow3⟩ := ht
  have HR3 := Lib.hid hrow3
  clear hrow3
  by_cases he : Bk.err xs sp rm = 0
  · have HRt := Lib.hid (Bk.err_rt he)
    have HE := Lib.hid he
    have HER := Lib.hid (refError_any _ xs sp rm w HV.out hl)
    rw [he] at HER
    clear he
    have HC := Lib.hid (refCost_any _ _ xs es sp rm w HV.out HU.out HRt.out hl2)
    go_enter Try.func16, Try.ntmps16
    go_wp2_with (fail)
    refine HER.out.mono ?_
    rintro e w' ⟨rfl, rfl⟩
    go_wp2_with (fail)
    refine HC.out.mono ?_
    rintro e w' ⟨s, b, rfl, hsb, rfl⟩
    cases hcs : Bk.cst sp rm 0 xs es with
    | none =>
      rw [hcs] at hsb
      simp only at hsb
      subst hsb
      have HN := Lib.hid (show ¬ accL xs sp rm es h from fun hp => by obtain ⟨_, c, hc, _⟩ := hp; rw [hcs] at hc; cases hc)
      clear hcs
      go_wp2
      go_ret2
      exact ⟨false, by rw [HE.out]; rfl, by simp [HN.out], 0, rfl⟩
    | some c =>
      rw [hcs] at hsb
      simp only at hsb
      obtain ⟨rfl, rfl⟩ := hsb
      have HCS := Lib.hid hcs
      clear hcs
      go_wp2_with (fail)
      refine (proves_any _ _ xs h sp rm w HV.out HT.out HRt.out hl3).mono ?_
      rintro e w' ⟨b, rfl, hb, q, rfl⟩
      cases b with
      | false =>
        have HN := Lib.hid (show ¬ accL xs sp rm es h from fun hp => by obtain ⟨_, c, hc, h2, _⟩ := hp; have := hb.2 h2; cases this)
        clear hb
        go_wp2
        go_ret2
        exact ⟨false, by rw [HE.out]; rfl, by simp [HN.out], q, rfl⟩
      | true =>
        have HP := Lib.hid (hb.1 rfl)
        clear hb
        have hlen := HP.out.len
        obtain ⟨b0, off0, rfl, _, hc0⟩ := ints_atB HR3.out (show 0 < h.length by omega)
        simp only [Nat.add_zero] at hc0
        have hpos : 0 < h.length := by omega
        clear hlen
        by_cases hz : s = Bk.at_ h 0
        · have HY := Lib.hid (show accL xs sp rm es h from ⟨HE.out, s, HCS.out, HP.out, hz⟩)
          have hb : (s == Bk.at_ h 0) = true := by rw [beq_iff_eq]; exact hz
          clear hz
          go_wp2
          go_ret2
          exact ⟨true, by rw [HE.out]; rfl, by simp [HY.out], q, rfl⟩
        · have HN := Lib.hid (show ¬ accL xs sp rm es h from fun hp => by obtain ⟨_, c, hc, h2, h3⟩ := hp; rw [HCS.out] at hc; injection hc with hc; omega)
          have hb : (s == Bk.at_ h 0) = false := by rw [beq_eq_false_iff_ne]; exact hz
          clear hz
          go_wp2
          go_ret2
          exact ⟨false, by rw [HE.out]; rfl, by simp [HN.out], q, rfl⟩
  · have HN := Lib.hid (show ¬ accL xs sp rm es h from fun hp => he hp.1)
    have hne : (Bk.err xs sp rm != 0) = true := by rw [bne_iff_ne]; exact he
    have HER := Lib.hid (refError_any _ xs sp rm w HV.out hl)
    clear he
    generalize hE : Bk.err xs sp rm = E at *
    have HE := Lib.hid hE
    clear hE
    go_enter Try.func16, Try.ntmps16
    go_wp2_with (fail)
    refine HER.out.mono ?_
    rintro e w' ⟨rfl, rfl⟩
    go_wp2
    go_ret2
    exact ⟨false, by rw [HE.out]; rfl, by simp [HN.out], 0, rfl⟩

end Go.Proofs.Ytdcndhfjfllehaa
