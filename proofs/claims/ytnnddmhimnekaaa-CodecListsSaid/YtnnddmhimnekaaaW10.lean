/- Walk of length. -/
import Derived.Test.YtnnddmhimnekaaaW9
namespace Go.Proofs.Ytnnddmhimnekaaa
open Go.RowKit
set_option linter.unusedVariables false
set_option linter.unusedSimpArgs false

set_option maxRecDepth 100000 in
set_option maxHeartbeats 4000000 in
theorem length_any (base h : Nat) (bs : List UInt8) (w : World) (hr : Rd base h w bs) (hbh : base ≤ h) :
    Calls Try.prog 47 #[.pointer (some ⟨h, 0, none⟩)] w (RdPost base h w (fun n => .int .i64 (n : Int)) (Cd.lenD bs)) := by
  have HN := Lib.hid (number_any base h bs w hr hbh)
  clear hr
  unfold Cd.lenD
  cases hnum : Cd.numD 0 0 bs with
  | none =>
    rw [hnum] at HN
    clear hnum
    go_enter Try.func47, Try.ntmps47
    go_wp2_with (fail)
    refine HN.out.mono ?_
    rintro e w1 ⟨hg, he⟩
    simp only at he
    subst he
    go_wp2_with (fail)
    exact ⟨rfl, hg, rfl⟩
  | some p =>
    obtain ⟨n, t⟩ := p
    have hlt := (Cd.numD_bd hnum (by omega) (by decide)).1
    rw [hnum] at HN
    clear hnum
    go_enter Try.func47, Try.ntmps47
    go_wp2_with (fail)
    refine HN.out.mono ?_
    rintro e w1 ⟨hg, he, hr⟩
    subst he
    have HG := Lib.hid hg
    have HR := Lib.hid hr
    obtain ⟨v, hb, hi⟩ := hr
    obtain ⟨A, c, rfl, hc1, hc2, _, _⟩ := hi
    have h1 := hb.cell
    clear hb hg HN
    have hwu : IntKind.u64.wrap (t.length : Int) = (t.length : Int) := by rw [IntKind.wrap_u64]; omega
    by_cases hle : n ≤ t.length
    · have hd : decide (n ≤ t.length) = true := by simpa using hle
      have hwi : IntKind.i64.wrap (n : Int) = (n : Int) := by rw [IntKind.wrap_i64]; omega
      go_wp2_with (fail)
      refine (want_yes _ _).mono ?_
      rintro e w2 ⟨rfl, rfl⟩
      go_wp2_with (fail)
      go_ret
      exact ⟨HG.out, by simp only [if_pos hle]; exact ⟨rfl, HR.out⟩⟩
    · have hd : decide (n ≤ t.length) = false := by simpa using hle
      go_wp2_with (fail)
      refine (want_no _ _).mono ?_
      rintro e w2 ⟨rfl, rfl⟩
      go_wp2_with (fail)
      exact ⟨rfl, HG.out, by simp only [if_neg hle]⟩

end Go.Proofs.Ytnnddmhimnekaaa
