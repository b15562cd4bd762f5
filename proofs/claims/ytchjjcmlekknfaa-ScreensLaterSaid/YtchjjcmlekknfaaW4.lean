/- Walks of the reference's Group, Prove, Accepts. -/
import Derived.Test.YtchjjcmlekknfaaW3
import Derived.Deep.RegionHeld3
namespace Go.Proofs.Ytchjjcmlekknfaa
open Go.RowKit
set_option linter.unusedVariables false
set_option linter.unusedSimpArgs false

theorem refError_is {v u : Value} {r d : List Int} {m f e0 : Int} {w : World} (he : Sc.errQ r d m f = e0) (hv : IsInts w v r) (hu : IsInts w u d) (hl : r.length ≤ 9223372036854775807) (hl2 : d.length ≤ 9223372036854775807) :
    Calls Try.prog 30 #[v, u, .int .i64 m, .int .i64 f] w fun e w' => e = .returned (.int .i64 e0) ∧ ∃ n, w' = w.drewN n := by subst he; exact refError_any v u r d m f w hv hu hl hl2
/-- what Group hands back: the ends, when they are done -/
def gL (r d : List Int) (m f : Int) : List Int := if Sc.errQ r d m f = 0 then Sc.toI (Sc.best (Sc.mkQ r d m f) 0 0).1 else []
def gD (r d : List Int) (m f : Int) : Int := if Sc.errQ r d m f = 0 then (Sc.best (Sc.mkQ r d m f) 0 0).2 else 0
def GPost (r d : List Int) (m f : Int) (w : World) (e : Ending) (w' : World) : Prop :=
  ∃ A c, e = .returned (.tuple #[.slice A (gL r d m f).length c, .int .i64 (gD r d m f), .int .i64 (Sc.errQ r d m f)]) ∧ IsInts w' (.slice A (gL r d m f).length c) (gL r d m f) ∧ Below w.heap.size w w'
/-- what Prove hands back -/
def pL (r d : List Int) (m f : Int) : List Int := if Sc.errQ r d m f = 0 then Sc.hs (Sc.mkQ r d m f) r.length else []
def PPost (r d : List Int) (m f : Int) (w : World) (e : Ending) (w' : World) : Prop :=
  ∃ A c, e = .returned (.tuple #[.slice A (pL r d m f).length c, .int .i64 (Sc.errQ r d m f)]) ∧ IsInts w' (.slice A (pL r d m f).length c) (pL r d m f) ∧ Below w.heap.size w w'
def aB (r d : List Int) (m f : Int) (ends h : List Int) : Bool := if Sc.errQ r d m f = 0 then Sc.accB (Sc.mkQ r d m f) ends h else false
def APost (r d : List Int) (m f : Int) (ends h : List Int) (w : World) (e : Ending) (w' : World) : Prop :=
  e = .returned (.tuple #[.bool (aB r d m f ends h), .int .i64 (Sc.errQ r d m f)]) ∧ Below w.heap.size w w'

set_option maxHeartbeats 2000000 in
theorem refGroup_any (v u : Value) (r d : List Int) (m f : Int) (w : World) (hv : IsInts w v r) (hu : IsInts w u d) (hl : r.length ≤ 9223372036854775807) (hl2 : d.length ≤ 9223372036854775807) :
    Calls Try.prog 12 #[v, u, .int .i64 m, .int .i64 f] w (GPost r d m f w) := by
  have HV := Lib.hid hv
  have HU := Lib.hid hu
  obtain ⟨A, c, rfl, _⟩ := id hv
  obtain ⟨A2, c2, rfl, _⟩ := id hu
  clear hv hu
  by_cases h0 : Sc.errQ r d m f = 0
  · have HG := Lib.hid (show gL r d m f = Sc.toI (Sc.best (Sc.mkQ r d m f) 0 0).1 from if_pos h0)
    have HD := Lib.hid (show gD r d m f = (Sc.best (Sc.mkQ r d m f) 0 0).2 from if_pos h0)
    have HE := Lib.hid h0
    have HQ := Lib.hid (Sc.ok_of h0)
    have hm := Lib.hid (show m = ((Sc.mkQ r d m f).m : Int) by have := (Sc.errQ_zero h0).2.2.1; show m = (m.toNat : Int); omega)
    clear h0
    go_enter Try.func12, Try.ntmps12
    go_wp2_with (fail)
    refine (refError_is HE.out HV.out HU.out hl hl2).mono ?_
    rintro e _ ⟨rfl, n, rfl⟩
    go_wp2_with (fail)
    have hB := refBest_any (Sc.mkQ r d m f) HQ.out r.length 0 (.slice A r.length c) (.slice A2 d.length c2) 0 (w.drewN n) (Nat.zero_add _) HV.out HU.out (Int.le_refl 0) (by decide)
    rw [← hm.out] at hB
    refine hB.mono ?_
    clear hB
    rintro e w2 ⟨g, cg, rfl, ho, hb⟩
    have HO := Lib.hid ho
    have HB := Lib.hid (show Below w.heap.size w w2 from (below_drewN (Below.refl _ w) n).up hb)
    clear ho hb hm
    go_wp2_with (fail)
    go_ret3
    exact ⟨some ⟨g, 0, none⟩, cg, by rw [HG.out, HD.out, HE.out]; rfl, by rw [HG.out]; exact HO.out.ints, HB.out⟩
  · have HG := Lib.hid (show gL r d m f = [] from if_neg h0)
    have HD := Lib.hid (show gD r d m f = 0 from if_neg h0)
    obtain ⟨e0, he0⟩ : ∃ e, Sc.errQ r d m f = e := ⟨_, rfl⟩
    have hb0 : (e0 == 0) = false := by rw [← he0]; simpa using h0
    have HE := Lib.hid he0
    clear h0 he0
    go_enter Try.func12, Try.ntmps12
    go_wp2_with (fail)
    refine (refError_is HE.out HV.out HU.out hl hl2).mono ?_
    rintro e _ ⟨rfl, n, rfl⟩
    go_wp2_with (fail)
    go_ret3
    exact ⟨none, 0, by rw [HG.out, HD.out, HE.out]; rfl, by rw [HG.out]; exact IsInts.nil, below_drewN (Below.refl _ w) n⟩

theorem take_ints {W : World} {b off n c : Nat} {l : List Int} (h : IsInts W (.slice (some ⟨b, off, none⟩) n c) l) (j c' : Nat) (hj : j ≤ l.length) : IsInts W (.slice (some ⟨b, off, none⟩) (l.take j).length c') (l.take j) := by
  obtain ⟨A', c'', e, hr⟩ := h
  injection e with e1 e2 e3
  subst e1
  refine ⟨_, c', rfl, fun hne => ?_⟩
  obtain ⟨b', off', e', hb, hc⟩ := hr (by intro h0; apply hne; have : l = [] := by simpa using h0
                                          rw [this]; simp)
  refine ⟨b', off', e', hb, fun i hi => ?_⟩
  have := hc i (by simp at hi ⊢; omega)
  rw [this]; simp
end Go.Proofs.Ytchjjcmlekknfaa
