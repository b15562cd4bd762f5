/- Walks of check, possible, lines; the iterator of lines. -/
import Derived.Test.YtdcndhfjfllehaaW6
import Derived.Test.YtdcndhfjfllehaaRound
namespace Go.Proofs.Ytdcndhfjfllehaa
open Go.RowKit
set_option linter.unusedVariables false
set_option linter.unusedSimpArgs false
attribute [local go_sem] Oper.semAt_some

theorem al1 (w : World) (o : Obj) : Below w.heap.size w (w.alloc o) := (Below.refl _ _).alloc (Nat.le_refl _) _
def txt (xs : List Int) (A : Option Addr) (cap : Nat) (sp rm : Int) : Value := if Bk.err xs sp rm = 0 then .agg #[.slice A xs.length cap, .int .i64 sp, .int .i64 rm] else .agg #[.slice none 0 0, .int .i64 0, .int .i64 0]

set_option maxHeartbeats 2000000 in
theorem check_any (xs : List Int) (A : Option Addr) (cap : Nat) (sp rm : Int) (w : World) (hv : IsInts w (.slice A xs.length cap) xs) (hl : xs.length ≤ 9223372036854775807) :
    Calls Try.prog 22 #[.slice A xs.length cap, .int .i64 sp, .int .i64 rm] w fun e w' => e = .returned (.tuple #[txt xs A cap sp rm, .int .i64 (Bk.err xs sp rm)]) ∧ Below w.heap.size w w' := by
  have HV := Lib.hid hv
  have HCF := Lib.hid (fun W (hb : Below w.heap.size w W) => containsFunc_any (.slice A xs.length cap) xs W (HV.out.below hb) hl)
  clear hv
  have hend : ∀ (e : Int) (v3 : Value × Value × Value) (W : World), Bk.err xs sp rm = e → txt xs A cap sp rm = .agg #[v3.1, v3.2.1, v3.2.2] → Below w.heap.size w W →
      ∀ (E : Ending) (W' : World), E = .returned (.tuple #[.agg #[v3.1, v3.2.1, v3.2.2], .int .i64 e]) → W = W' → E = .returned (.tuple #[txt xs A cap sp rm, .int .i64 (Bk.err xs sp rm)]) ∧ Below w.heap.size w W' := by
    intro e v3 W h1 h2 h3 E W' h4 h5
    subst h5
    rw [h1, h2]
    exact ⟨h4, h3⟩
  have HEnd := Lib.hid hend
  clear hend
  by_cases h64 : 64 < xs.length
  · have HE := Lib.hid (show Bk.err xs sp rm = 2 by simp [Bk.err, h64])
    have HT := Lib.hid (show txt xs A cap sp rm = .agg #[.slice none 0 0, .int .i64 0, .int .i64 0] by rw [txt, HE.out]; rfl)
    go_enter Try.func22, Try.ntmps22
    go_wp2
    refine bodyPost_ret (v := .tuple #[.agg #[.slice none 0 0, .int .i64 0, .int .i64 0], .int .i64 2]) (by simp [results, Try.results22, go_sem]) rfl (HEnd.out 2 (_, _, _) _ HE.out HT.out ?_ _ _ rfl rfl)
    exact al1 w _
  · have HE : Hid (∀ b, xs.any Bk.badW = b → Bk.err xs sp rm = if b = true then 470 else if Bk.argOk sp rm = true then 0 else 1) := Lib.hid (fun b hb => by simp [Bk.err, h64, hb])
    go_enter Try.func22, Try.ntmps22
    go_wp2_with (fail)
    refine (HCF.out _ (al1 w _)).mono ?_
    rintro e w' ⟨rfl, rfl⟩
    cases hb : xs.any Bk.badW
    · have HE2 := Lib.hid (HE.out false hb)
      clear hb
      have hz : ∀ E, Bk.err xs sp rm = E → E ≠ 0 → txt xs A cap sp rm = .agg #[.slice none 0 0, .int .i64 0, .int .i64 0] := fun E h1 h2 => by rw [txt, if_neg (by rw [h1]; exact h2)]
      have HZ := Lib.hid hz
      clear hz
      by_cases a1 : sp < 0
      · have HX := Lib.hid (show Bk.err xs sp rm = 1 by rw [HE2.out, show Bk.argOk sp rm = false by simp [Bk.argOk]; omega]; rfl)
        go_wp2
        refine bodyPost_ret (v := .tuple #[.agg #[.slice none 0 0, .int .i64 0, .int .i64 0], .int .i64 1]) (by simp [results, Try.results22, go_sem]) rfl (HEnd.out 1 (_, _, _) _ HX.out (HZ.out 1 HX.out (by omega)) ?_ _ _ rfl rfl)
        exact al1 w _
      · by_cases a2 : 1048576 < sp
        · have HX := Lib.hid (show Bk.err xs sp rm = 1 by rw [HE2.out, show Bk.argOk sp rm = false by simp [Bk.argOk]; omega]; rfl)
          go_wp2
          refine bodyPost_ret (v := .tuple #[.agg #[.slice none 0 0, .int .i64 0, .int .i64 0], .int .i64 1]) (by simp [results, Try.results22, go_sem]) rfl (HEnd.out 1 (_, _, _) _ HX.out (HZ.out 1 HX.out (by omega)) ?_ _ _ rfl rfl)
          exact al1 w _
        · by_cases a3 : rm < 1
          · have HX := Lib.hid (show Bk.err xs sp rm = 1 by rw [HE2.out, show Bk.argOk sp rm = false by simp [Bk.argOk]; omega]; rfl)
            go_wp2
            refine bodyPost_ret (v := .tuple #[.agg #[.slice none 0 0, .int .i64 0, .int .i64 0], .int .i64 1]) (by simp [results, Try.results22, go_sem]) rfl (HEnd.out 1 (_, _, _) _ HX.out (HZ.out 1 HX.out (by omega)) ?_ _ _ rfl rfl)
            exact al1 w _
          · by_cases a4 : 1048576 < rm
            · have HX := Lib.hid (show Bk.err xs sp rm = 1 by rw [HE2.out, show Bk.argOk sp rm = false by simp [Bk.argOk]; omega]; rfl)
              go_wp2
              refine bodyPost_ret (v := .tuple #[.agg #[.slice none 0 0, .int .i64 0, .int .i64 0], .int .i64 1]) (by simp [results, Try.results22, go_sem]) rfl (HEnd.out 1 (_, _, _) _ HX.out (HZ.out 1 HX.out (by omega)) ?_ _ _ rfl rfl)
              exact al1 w _
            · have HX := Lib.hid (show Bk.err xs sp rm = 0 by rw [HE2.out, show Bk.argOk sp rm = true by simp [Bk.argOk]; omega]; rfl)
              have HT := Lib.hid (show txt xs A cap sp rm = .agg #[.slice A xs.length cap, .int .i64 sp, .int .i64 rm] by rw [txt, if_pos HX.out])
              go_wp2
              refine bodyPost_ret (v := .tuple #[.agg #[.slice A xs.length cap, .int .i64 sp, .int .i64 rm], .int .i64 0]) (by simp [results, Try.results22, go_sem]) rfl (HEnd.out 0 (_, _, _) _ HX.out HT.out ?_ _ _ rfl rfl)
              exact al1 w _
    · have HX := Lib.hid (show Bk.err xs sp rm = 470 by rw [HE.out true hb]; rfl)
      have HT := Lib.hid (show txt xs A cap sp rm = .agg #[.slice none 0 0, .int .i64 0, .int .i64 0] by rw [txt, if_neg (by rw [HX.out]; omega)])
      clear hb
      go_wp2
      refine bodyPost_ret (v := .tuple #[.agg #[.slice none 0 0, .int .i64 0, .int .i64 0], .int .i64 470]) (by simp [results, Try.results22, go_sem]) rfl (HEnd.out 470 (_, _, _) _ HX.out HT.out ?_ _ _ rfl rfl)
      exact al1 w _

end Go.Proofs.Ytdcndhfjfllehaa
