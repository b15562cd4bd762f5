/- Walks of the reference's value, Value and next. -/
import Derived.Test.YtcifhigeieoogaaW16
import Derived.Test.YtcifhigeieoogaaPlain3
namespace Go.Proofs.Ytcifhigeieoogaa
open Go.RowKit
set_option linter.unusedVariables false
set_option linter.unusedSimpArgs false
attribute [local go_sem] frozen_new
/-- the state of the reference's value -/
def BestI (l : List Am) (key t k0 : Int) (k : Nat) (z : Int) : Prop := (Vn.best (l.take k) key t k0 = none ∧ z = -1) ∨ ∃ m, ∃ h : m < l.length, m < k ∧ Vn.best (l.take k) key t k0 = some l[m] ∧ z = (m : Int)
theorem ntup2 {a c : Int} {b d : Bool} {x : Int × Bool} (h : x = (a, b)) : Ending.returned (.tuple #[.int .i64 a, .bool b]) = .returned (.tuple #[.int .i64 x.1, .bool x.2]) := by subst h; rfl

set_option maxHeartbeats 8000000 in
set_option maxRecDepth 100000 in
theorem value_any {v : Value} {l : List Am} {key t k0 : Int} {w : World} (hv : IsAs w v l) (hl : l.length ≤ 4096) (hrt : ∀ x ∈ l, Vn.right x = true) : Calls Try.prog 36 #[v, .int .i64 key, .int .i64 t, .int .i64 k0] w fun e w' => e = .returned (.tuple #[.int .i64 (Vn.vl l key t k0).1, .bool (Vn.vl l key t k0).2]) ∧ ∃ q, w' = w.drewN q := by
  obtain ⟨A, cap, rfl, hr⟩ := hv
  have HR := Lib.hid hr
  have HRT := Lib.hid hrt
  clear hr hrt
  go_enter Try.func36, Try.ntmps36
  go_wp2_with (fail)
  go_loopw [10, 11] (fun z i wr => ∃ (k : Nat) (y : Int) (q : Nat), i = .int .i64 k ∧ z = .int .i64 y ∧ k ≤ l.length ∧ Hid (BestI l key t k0 k y) ∧ wr = w.drewN q) (fun _ i _ => l.length - (intOf i).toNat)
  case atStart => exact ⟨0, -1, 0, rfl, rfl, Nat.zero_le _, Lib.hid (.inl ⟨rfl, rfl⟩), rfl⟩
  case round =>
    obtain ⟨k, y, q, rfl, rfl, hk, HB, rfl⟩ := hrel
    by_cases hlt : k < l.length
    case neg =>
      obtain rfl : k = l.length := by omega
      have hd1 : decide ((l.length : Int) < (l.length : Int)) = false := decide_eq_false (by omega)
      rcases HB.out with ⟨h1, rfl⟩ | ⟨m, hm, _, h1, rfl⟩
      · rw [List.take_length] at h1
        have HE := Lib.hid (show Vn.vl l key t k0 = (0, false) by unfold Vn.vl; rw [h1]; rfl)
        clear h1 HB
        go_wp2_with (fail)
        go_ret2
        exact ⟨by rw [HE.out]; rfl, _, rfl⟩
      · rw [List.take_length] at h1
        have HE := Lib.hid (show Vn.vl l key t k0 = (l[m].value, !l[m].gone) by unfold Vn.vl; rw [h1]; rfl)
        obtain ⟨b, off, rfl, hat⟩ := IsAs_at HR.out hm
        have HG0 := Lib.hid ((Vn.right_all (HRT.out l[m] (List.getElem_mem hm))).2.2.2.2.2)
        generalize l[m] = x at *
        have q4 := hat.c4
        have q5 := hat.c5
        have hmn : (m : Int) < (l.length : Int) := by omega
        have hm0 : decide ((m : Int) < 0) = false := decide_eq_false (by omega)
        clear hat h1 HB
        cases g : x.gone
        · rw [g] at q5 HE
          go_wp2_with (fail)
          go_ret2
          exact ⟨by rw [HE.out]; rfl, _, rfl⟩
        · rw [g] at q5
          have HE2 := Lib.hid (show x.gone = true from g)
          have HV := Lib.hid (HG0.out g)
          go_wp2_with (fail)
          go_ret2
          exact ⟨by rw [HE.out, HE2.out, HV.out]; rfl, _, rfl⟩
    case pos =>
    have hd1 : decide ((k : Int) < (l.length : Int)) = true := decide_eq_true (by omega)
    obtain ⟨b, off, rfl, hat⟩ := IsAs_at HR.out hlt
    have HSN := Lib.hid (Vn.best_take_succ hlt key t k0)
    obtain ⟨x, hx⟩ : ∃ x, l[k] = x := ⟨_, rfl⟩
    have HX := Lib.hid hx
    rw [hx] at hat HSN
    have q1 := hat.c1
    have q2 := hat.c2
    have q3 := hat.c3
    have hkl : (k : Int) < (l.length : Int) := by omega
    clear hat hx
    rcases HB.out with ⟨h1, rfl⟩ | ⟨m, hm, _, h1, rfl⟩
    ·
      have HBN := Lib.hid h1
      clear h1
      cases c1 : (x.key == key)
      ·
        have HC := Lib.hid (show Vn.cnt key t k0 x = false from Vn.cnt_key (by intro e; rw [e] at c1; simp at c1))
        have HN := Lib.hid (show BestI l key t k0 (k + 1) (-1) from .inl ⟨by rw [HSN.out, show (Vn.cnt key t k0 x && Vn.better (Vn.best (l.take k) key t k0) x) = false by rw [HC.out]; rfl, if_neg (by decide), HBN.out], rfl⟩)
        clear HSN HB
        go_wp2_with (fail)
        go_quiet (fail)
        go_wp2_with (fail)
        go_roundw
        case rel => exact ⟨k + 1, -1, _, by go_num, rfl, by omega, HN, rfl⟩
        case measure => first | omega | (simp [intOf]; done) | (simp [intOf]; omega)
      cases c2 : decide (x.at_ ≤ t)
      ·
        have HC := Lib.hid (show Vn.cnt key t k0 x = false from Vn.cnt_at (by simp at c2; omega))
        have HN := Lib.hid (show BestI l key t k0 (k + 1) (-1) from .inl ⟨by rw [HSN.out, show (Vn.cnt key t k0 x && Vn.better (Vn.best (l.take k) key t k0) x) = false by rw [HC.out]; rfl, if_neg (by decide), HBN.out], rfl⟩)
        clear HSN HB
        go_wp2_with (fail)
        go_quiet (fail)
        go_wp2_with (fail)
        go_roundw
        case rel => exact ⟨k + 1, -1, _, by go_num, rfl, by omega, HN, rfl⟩
        case measure => first | omega | (simp [intOf]; done) | (simp [intOf]; omega)
      cases c3 : decide (x.known ≤ k0)
      ·
        have HC := Lib.hid (show Vn.cnt key t k0 x = false from Vn.cnt_known (by simp at c3; omega))
        have HN := Lib.hid (show BestI l key t k0 (k + 1) (-1) from .inl ⟨by rw [HSN.out, show (Vn.cnt key t k0 x && Vn.better (Vn.best (l.take k) key t k0) x) = false by rw [HC.out]; rfl, if_neg (by decide), HBN.out], rfl⟩)
        clear HSN HB
        go_wp2_with (fail)
        go_quiet (fail)
        go_wp2_with (fail)
        go_roundw
        case rel => exact ⟨k + 1, -1, _, by go_num, rfl, by omega, HN, rfl⟩
        case measure => first | omega | (simp [intOf]; done) | (simp [intOf]; omega)
      have HC := Lib.hid (show Vn.cnt key t k0 x = true from Vn.cnt_iff.2 ⟨by simpa using c1, by simpa using c3, by simpa using c2⟩)
      have HN := Lib.hid (show BestI l key t k0 (k + 1) (k : Int) from .inr ⟨k, hlt, by omega, by rw [HSN.out, show (Vn.cnt key t k0 x && Vn.better (Vn.best (l.take k) key t k0) x) = true by rw [HC.out, HBN.out]; rfl, if_pos rfl, HX.out], rfl⟩)
      clear HSN HB
      go_wp2_with (fail)
      go_quiet (fail)
      go_wp2_with (fail)
      go_roundw
      case rel => exact ⟨k + 1, (k : Int), _, by go_num, rfl, by omega, HN, rfl⟩
      case measure => first | omega | (simp [intOf]; done) | (simp [intOf]; omega)
    ·
      have HBN := Lib.hid h1
      clear h1
      obtain ⟨b', off', e', hat2⟩ := IsAs_at HR.out hm
      injection e' with e'
      injection e' with e1 e2
      subst e1 e2
      have p1 := hat2.c1
      have HM := Lib.hid (show l[m].at_ = l[m].at_ from rfl)
      obtain ⟨ya, hya⟩ : ∃ z, l[m].at_ = z := ⟨_, rfl⟩
      rw [hya] at p1
      have HYA := Lib.hid hya
      have hmn : (m : Int) < (l.length : Int) := by omega
      have hm0 : decide ((m : Int) < 0) = false := decide_eq_false (by omega)
      clear hat2 hya HM
      cases c1 : (x.key == key)
      ·
        have HC := Lib.hid (show Vn.cnt key t k0 x = false from Vn.cnt_key (by intro e; rw [e] at c1; simp at c1))
        have HN := Lib.hid (show BestI l key t k0 (k + 1) (m : Int) from .inr ⟨m, hm, by omega, by rw [HSN.out, show (Vn.cnt key t k0 x && Vn.better (Vn.best (l.take k) key t k0) x) = false by rw [HC.out]; rfl, if_neg (by decide), HBN.out], rfl⟩)
        clear HSN HB
        go_wp2_with (fail)
        go_quiet (fail)
        go_wp2_with (fail)
        go_roundw
        case rel => exact ⟨k + 1, (m : Int), _, by go_num, rfl, by omega, HN, rfl⟩
        case measure => first | omega | (simp [intOf]; done) | (simp [intOf]; omega)
      cases c2 : decide (x.at_ ≤ t)
      ·
        have HC := Lib.hid (show Vn.cnt key t k0 x = false from Vn.cnt_at (by simp at c2; omega))
        have HN := Lib.hid (show BestI l key t k0 (k + 1) (m : Int) from .inr ⟨m, hm, by omega, by rw [HSN.out, show (Vn.cnt key t k0 x && Vn.better (Vn.best (l.take k) key t k0) x) = false by rw [HC.out]; rfl, if_neg (by decide), HBN.out], rfl⟩)
        clear HSN HB
        go_wp2_with (fail)
        go_quiet (fail)
        go_wp2_with (fail)
        go_roundw
        case rel => exact ⟨k + 1, (m : Int), _, by go_num, rfl, by omega, HN, rfl⟩
        case measure => first | omega | (simp [intOf]; done) | (simp [intOf]; omega)
      cases c3 : decide (x.known ≤ k0)
      ·
        have HC := Lib.hid (show Vn.cnt key t k0 x = false from Vn.cnt_known (by simp at c3; omega))
        have HN := Lib.hid (show BestI l key t k0 (k + 1) (m : Int) from .inr ⟨m, hm, by omega, by rw [HSN.out, show (Vn.cnt key t k0 x && Vn.better (Vn.best (l.take k) key t k0) x) = false by rw [HC.out]; rfl, if_neg (by decide), HBN.out], rfl⟩)
        clear HSN HB
        go_wp2_with (fail)
        go_quiet (fail)
        go_wp2_with (fail)
        go_roundw
        case rel => exact ⟨k + 1, (m : Int), _, by go_num, rfl, by omega, HN, rfl⟩
        case measure => first | omega | (simp [intOf]; done) | (simp [intOf]; omega)
      have HC := Lib.hid (show Vn.cnt key t k0 x = true from Vn.cnt_iff.2 ⟨by simpa using c1, by simpa using c3, by simpa using c2⟩)
      cases c4 : decide (ya ≤ x.at_)
      ·
        have HN := Lib.hid (show BestI l key t k0 (k + 1) (m : Int) from .inr ⟨m, hm, by omega, by rw [HSN.out, show (Vn.cnt key t k0 x && Vn.better (Vn.best (l.take k) key t k0) x) = false by rw [HC.out, HBN.out]; show (true && decide (l[m].at_ ≤ x.at_)) = false; rw [HYA.out, c4]; rfl, if_neg (by decide), HBN.out], rfl⟩)
        clear HSN HB
        go_wp2_with (fail)
        go_quiet (fail)
        go_wp2_with (fail)
        go_roundw
        case rel => exact ⟨k + 1, (m : Int), _, by go_num, rfl, by omega, HN, rfl⟩
        case measure => first | omega | (simp [intOf]; done) | (simp [intOf]; omega)
      ·
        have HN := Lib.hid (show BestI l key t k0 (k + 1) (k : Int) from .inr ⟨k, hlt, by omega, by rw [HSN.out, show (Vn.cnt key t k0 x && Vn.better (Vn.best (l.take k) key t k0) x) = true by rw [HC.out, HBN.out]; show (true && decide (l[m].at_ ≤ x.at_)) = true; rw [HYA.out, c4]; rfl, if_pos rfl, HX.out], rfl⟩)
        clear HSN HB
        go_wp2_with (fail)
        go_quiet (fail)
        go_wp2_with (fail)
        go_roundw
        case rel => exact ⟨k + 1, (k : Int), _, by go_num, rfl, by omega, HN, rfl⟩
        case measure => first | omega | (simp [intOf]; done) | (simp [intOf]; omega)
end Go.Proofs.Ytcifhigeieoogaa
