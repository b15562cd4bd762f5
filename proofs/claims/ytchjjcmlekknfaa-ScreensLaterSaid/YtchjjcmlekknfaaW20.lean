/- Walk of the closure of ScreensLater. -/
import Derived.Test.YtchjjcmlekknfaaL2
namespace Go.Proofs.Ytchjjcmlekknfaa
open Go.RowKit
set_option linter.unusedVariables false
set_option linter.unusedSimpArgs false

set_option maxHeartbeats 4000000 in
theorem later_any {v u : Value} {r d : List Int} {m f D : Int} {b : Nat} {w : World} (hv : IsInts w v r) (hu : IsInts w u d) (hl : r.length ≤ 9223372036854775807) (hl2 : d.length ≤ 9223372036854775807) (hb : b < w.heap.size) (hD : w.cell? ⟨b, 0, none⟩ = some (.int .i64 D))
    (hle : Sc.errQ r d m f = 0 → D ≤ (Sc.best (Sc.mkQ r d m f) 0 0).2) :
    Calls Try.prog 23 #[v, u, .int .i64 m, .int .i64 f, .pointer (some ⟨b, 0, none⟩)] w fun e w' => e = .returned (.bool true) ∧ Below w.heap.size w w' := by
  have HV := Lib.hid hv
  have HU := Lib.hid hu
  obtain ⟨A, c, rfl, _⟩ := id hv
  obtain ⟨A2, c2, rfl, _⟩ := id hu
  have HL := Lib.hid (And.intro hl hl2)
  obtain ⟨e0, he⟩ : ∃ e, Sc.errQ r d m f = e := ⟨_, rfl⟩
  obtain ⟨T, hT⟩ : ∃ e, gD r d m f = e := ⟨_, rfl⟩
  have HE := Lib.hid (And.intro he hT)
  have HLE := Lib.hid hle
  clear hv hu he hT hle
  go_enter Try.func23, Try.ntmps23
  go_wp2_with (fail)
  refine (grp_call HV.out HU.out HL.out.1 HL.out.2 HE.out.1 rfl HE.out.2).mono ?_
  rintro e w1 ⟨B1, k1, rfl, i1, b1⟩
  have HB1 := Lib.hid b1
  have hc1 : w1.cell? ⟨b, 0, none⟩ = some (.int .i64 D) := by rw [b1.cell hb]; exact hD
  clear i1 b1
  go_wp2_with (fail)
  cases hr : rightB r d m f
  · refine (right_is (HV.out.upb HB1.out) (HU.out.upb HB1.out) HL.out.1 HL.out.2 hr).mono ?_
    rintro e w2 ⟨rfl, b2⟩
    have HB2 := Lib.hid (HB1.out.up b2)
    clear b2
    go_wp2_with (fail)
    go_ret
    exact ⟨rfl, HB2.out⟩
  obtain ⟨h0, h40⟩ := rightB_zero hr
  obtain rfl : e0 = 0 := by rw [← HE.out.1, h0]
  have hle : D ≤ T := by have := HLE.out h0; rw [← gD_zero h0, HE.out.2] at this; exact this
  have hled : decide (D ≤ T) = true := by rw [decide_eq_true_eq]; exact hle
  refine (right_is (HV.out.upb HB1.out) (HU.out.upb HB1.out) HL.out.1 HL.out.2 hr).mono ?_
  rintro e w2 ⟨rfl, b2⟩
  have HB2 := Lib.hid (HB1.out.up b2)
  have hc2 : w2.cell? ⟨b, 0, none⟩ = some (.int .i64 D) := by rw [b2.cell (by have := HB1.out.size; show b < w1.heap.size; omega)]; exact hc1
  clear b2 hc1 h0
  go_wp2_with (fail)
  go_ret
  exact ⟨rfl, HB2.out⟩

namespace Sc
theorem H_flip {r d : List Int} {m f f' : Int} (h : errQ r d m f = 0) (h' : errQ r d m f' = 0) (hf : f ≤ f') : (best (mkQ r d m f) 0 0).2 ≤ (best (mkQ r d m f') 0 0).2 := by
  rw [best_done (ok_of h), best_done (ok_of h')]
  exact H_mono (ok_of h) (ok_of h') rfl (Nat.le_refl _) (fun i k b b' hb _ _ => scr_le hb hf (Int.le_refl _) (Int.le_refl _)) (Nat.le_refl _)
theorem H_most {r d : List Int} {m m' f : Int} (h : errQ r d m f = 0) (h' : errQ r d m' f = 0) (hm : m' ≤ m) : (best (mkQ r d m f) 0 0).2 ≤ (best (mkQ r d m' f) 0 0).2 := by
  rw [best_done (ok_of h), best_done (ok_of h')]
  exact H_mono (ok_of h) (ok_of h') rfl (by show m'.toNat ≤ m.toNat; omega) (fun i k b b' hb _ _ => scr_le hb (Int.le_refl _) (Int.le_refl _) (Int.le_refl _)) (Nat.le_refl _)
theorem H_need {r d d' : List Int} {m f : Int} (h : errQ r d m f = 0) (h' : errQ r d' m f = 0) (hl : d.length = d'.length) (hd : ∀ i, at_ d i ≤ at_ d' i) : (best (mkQ r d m f) 0 0).2 ≤ (best (mkQ r d' m f) 0 0).2 := by
  rw [best_done (ok_of h), best_done (ok_of h')]
  exact H_mono (ok_of h) (ok_of h') rfl (Nat.le_refl _) (fun i k b b' hb hik hk => scr_le hb (Int.le_refl _) (Int.le_refl _) (sum_le hl hd (Nat.le_of_lt hik) (by have := (ok_of h).len; show k ≤ d.length; have e : d.length = r.length := this; have e2 : k ≤ r.length := hk; omega))) (Nat.le_refl _)
theorem H_ready {r r' d : List Int} {m f : Int} (h : errQ r d m f = 0) (h' : errQ r' d m f = 0) (hl : r.length = r'.length) (hr : ∀ i, at_ r i ≤ at_ r' i) : (best (mkQ r d m f) 0 0).2 ≤ (best (mkQ r' d m f) 0 0).2 := by
  rw [best_done (ok_of h), best_done (ok_of h')]
  have := H_mono (ok_of h) (ok_of h') hl (Nat.le_refl _) (fun i k b b' hb hik hk => scr_le hb (Int.le_refl _) (hr _) (Int.le_refl _)) (Nat.le_refl _)
  have e : (mkQ r d m f).r.length = (mkQ r' d m f).r.length := hl
  rw [← e]
  exact this
end Sc
end Go.Proofs.Ytchjjcmlekknfaa
