/- The statement BreaksSound, walked. -/
import Derived.Test.YtdcndhfjfllehaaL2
namespace Go.Proofs.Ytdcndhfjfllehaa
open Go.RowKit
set_option linter.unusedVariables false
set_option linter.unusedSimpArgs false

theorem ac_bool {xs es h : List Int} {sp rm : Int} {w w' : World} {e : Ending} (hp : AcPost xs sp rm es h w e w') {x : Int} (h2 : Bk.err xs sp rm = x) :
    ∃ b : Bool, e = .returned (.tuple #[.bool b, .int .i64 x]) ∧ (b = true ↔ accL xs sp rm es h) ∧ Hid (Below w.heap.size w w') := by
  obtain ⟨b, rfl, hb, hB⟩ := hp
  exact ⟨b, by rw [h2], hb, hB⟩
/-- whoever is accepted has the least cost -/
theorem acc_sound {xs es h : List Int} {sp rm : Int} (ha : accL xs sp rm es h) : okB xs sp rm = true ∧ h.length = xs.length + 1 ∧ Bk.cst sp rm 0 xs es = some (coL xs sp rm) ∧ Bk.at_ h 0 = coL xs sp rm ∧
    ∀ os d, Bk.cst sp rm 0 xs os = some d → coL xs sp rm ≤ d := by
  obtain ⟨he, c, h1, h2, h3⟩ := ha
  have hr := Bk.err_rt he
  have hw : Bk.wide xs rm = false := by
    cases hw : Bk.wide xs rm with
    | false => rfl
    | true => rw [Bk.cst_wide hr.pos hw] at h1; cases h1
  have hok := okB_yes he hw
  have ho := (okB_parts hok).2.2.1
  rw [(yes_ends hok).2.1]
  have h4 := Bk.tab_least hr ho h1
  have h5 := Bk.prv_le h2 (es := endsI sp rm 0 xs) (k := 0) hr.pos (Nat.zero_le _) (cst_ends xs.length xs 0 (Nat.le_refl _) ho)
  have h6 : c = Bk.at_ (Bk.tab sp rm xs) 0 := by omega
  refine ⟨hok, h2.len, by rw [h1, h6], by omega, fun os d hd => Bk.tab_least hr ho hd⟩

set_option maxHeartbeats 4000000 in
set_option maxRecDepth 100000 in
theorem BreaksSound_any (v u t o : Value) (xs es h os : List Int) (sp rm : Int) (w : World) (hv : IsInts w v xs) (lhv : xs.length ≤ 9223372036854775807) (hu : IsInts w u es) (lhu : es.length ≤ 9223372036854775807) (ht : IsInts w t h) (lht : h.length ≤ 9223372036854775807) (ho : IsInts w o os) (lho : os.length ≤ 9223372036854775807) :
    Calls Try.prog 6 #[v, .int .i64 sp, .int .i64 rm, u, t, o] w fun e w' => e = .returned (.bool true) ∧ Below w.heap.size w w' := by
  have Hhv := Lib.hid hv
  obtain ⟨A, c, rfl, _⟩ := id hv
  clear hv
  have Hhu := Lib.hid hu
  obtain ⟨A2, c2, rfl, _⟩ := id hu
  clear hu
  have Hht := Lib.hid ht
  obtain ⟨A3, c3, rfl, _⟩ := id ht
  clear ht
  have Hho := Lib.hid ho
  obtain ⟨A4, c4, rfl, _⟩ := id ho
  clear ho
  have B := Lib.hid (Below.refl w.heap.size w)
  go_enter Try.func6, Try.ntmps6
  go_wp2_with (fail)
  refine (sane_any _).mono ?_
  rintro e w1 ⟨rfl, b1⟩
  have Dw1 := Lib.hid (b1)
  replace Hhv := Lib.hid (Hhv.out.upb Dw1.out)
  replace Hhu := Lib.hid (Hhu.out.upb Dw1.out)
  replace Hht := Lib.hid (Hht.out.upb Dw1.out)
  replace Hho := Lib.hid (Hho.out.upb Dw1.out)
  replace B := Lib.hid (B.out.upb Dw1.out)
  clear Dw1 b1
  go_wp2_with (fail)
  by_cases he : Bk.err xs sp rm = 0
  · have HR := Lib.hid (Bk.err_rt he)
    refine (accepts_any xs es h _ _ _ _ _ _ sp rm _ Hhv.out Hhu.out Hht.out lhv lhu lht).mono ?_
    rintro e w2 hP
    obtain ⟨b, rfl, hb, X2⟩ := ac_bool (x := 0) hP he
    have Dw2 := Lib.hid (X2.out)
    replace Hhv := Lib.hid (Hhv.out.upb Dw2.out)
    replace Hhu := Lib.hid (Hhu.out.upb Dw2.out)
    replace Hht := Lib.hid (Hht.out.upb Dw2.out)
    replace Hho := Lib.hid (Hho.out.upb Dw2.out)
    replace B := Lib.hid (B.out.upb Dw2.out)
    clear Dw2 hP X2
    cases b
    · clear hb
      go_wp2_with (fail)
      go_ret
      exact ⟨rfl, B.out⟩
    · obtain ⟨hok, hlen, hes, hz, hmin⟩ := acc_sound (hb.1 rfl)
      clear hb
      obtain ⟨z, hzz⟩ : ∃ z, coL xs sp rm = z := ⟨_, rfl⟩
      rw [hzz] at hes hz hmin
      have hn := HR.out.len
      have HMIN := Lib.hid hmin
      have HES := Lib.hid hes
      clear hmin hes
      have hlz : (h.length : Int) = (xs.length : Int) + 1 := by omega
      have HT0 := Lib.hid (ints_zero Hht.out (by omega))
      have acc_at := Lib.hid hz
      rw [hz] at HT0
      clear hz
      obtain ⟨bz, oz, cz, ez, hcz⟩ := HT0.out
      injection ez with ez1 ez2 ez3
      subst ez1 ez3
      clear ez2 HT0 hcz
      go_wp2_with (fail)
      refine (refError_is _ xs sp rm _ Hhv.out lhv he).mono ?_
      rintro e _ ⟨rfl, rfl⟩
      go_wp2_with (fail)
      refine (break_any xs _ _ sp rm _ Hhv.out lhv).mono ?_
      rintro e w3 hP
      obtain ⟨A3, c3, rfl, H3, X3⟩ := br_get (ok := true) (x := 0) (s := (esL xs sp rm)) (y := z) (n := (esL xs sp rm).length) hP hok he rfl hzz rfl
      have Dw3 := Lib.hid (X3.out)
      replace Hhv := Lib.hid (Hhv.out.upb Dw3.out)
      replace Hhu := Lib.hid (Hhu.out.upb Dw3.out)
      replace Hht := Lib.hid (Hht.out.upb Dw3.out)
      replace Hho := Lib.hid (Hho.out.upb Dw3.out)
      replace B := Lib.hid (B.out.upb Dw3.out)
      clear Dw3 hP X3 H3
      go_wp2_with (fail)
      refine (cost_some _ _ xs es sp rm _ Hhv.out Hhu.out HR.out lhu HES.out).mono ?_
      rintro e _ ⟨rfl, rfl⟩
      go_wp2_with (fail)
      have hcz : w3.cell? ⟨bz, oz, none⟩ = some (.int .i64 z) := by
        obtain ⟨b', o', c', e', h'⟩ := ints_zero Hht.out (by omega)
        injection e' with e1 e2 e3
        cases e1
        rw [h', acc_at.out]
      cases hco : Bk.cst sp rm 0 xs os
      · skip
        refine (cost_no _ _ xs os sp rm _ Hhv.out Hho.out HR.out lho hco).mono ?_
        rintro e _ ⟨s, rfl, rfl⟩
        go_wp2_with (fail)
        go_ret
        exact ⟨rfl, B.out⟩
      · rename_i d
        have hle := HMIN.out os d hco
        have hd1 : decide (z ≤ d) = true := by rw [decide_eq_true_eq]; exact hle
        refine (cost_some _ _ xs os sp rm _ Hhv.out Hho.out HR.out lho hco).mono ?_
        rintro e _ ⟨rfl, rfl⟩
        go_wp2_with (fail)
        go_ret
        exact ⟨rfl, B.out⟩
  · obtain ⟨x, hx⟩ : ∃ x, Bk.err xs sp rm = x := ⟨_, rfl⟩
    have hne : (x != 0) = true := by rw [← hx]; simpa using he
    have hne2 : (x == 0) = false := by rw [← hx]; simpa using he
    refine (accepts_any xs es h _ _ _ _ _ _ sp rm _ Hhv.out Hhu.out Hht.out lhv lhu lht).mono ?_
    rintro e w2 hP
    obtain ⟨b, rfl, hb, X2⟩ := ac_bool (x := x) hP hx
    have Dw2 := Lib.hid (X2.out)
    replace Hhv := Lib.hid (Hhv.out.upb Dw2.out)
    replace Hhu := Lib.hid (Hhu.out.upb Dw2.out)
    replace Hht := Lib.hid (Hht.out.upb Dw2.out)
    replace Hho := Lib.hid (Hho.out.upb Dw2.out)
    replace B := Lib.hid (B.out.upb Dw2.out)
    clear Dw2 hP X2
    obtain rfl : b = false := by
      cases b with
      | false => rfl
      | true => exact absurd (hb.1 rfl).1 he
    clear hb he
    go_wp2_with (fail)
    go_ret
    exact ⟨rfl, B.out⟩

end Go.Proofs.Ytdcndhfjfllehaa
