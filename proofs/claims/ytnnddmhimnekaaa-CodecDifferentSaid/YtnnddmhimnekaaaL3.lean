/- The statement CodecSameSpec, walked. -/
import Derived.Test.YtnnddmhimnekaaaL0
import Derived.Deep.RegionHeld3
namespace Go.Proofs.Ytnnddmhimnekaaa
open Go.RowKit
set_option linter.unusedVariables false
set_option linter.unusedSimpArgs false

theorem few_all2 {v u : Cd.Vl} (hr : Cd.raw v) (hs : Cd.raw u) (h : [v, u].all Cd.fewB = true) : (Cd.fits v ∧ Cd.depth v ≤ 1000 ∧ (Cd.enc v).length ≤ 137438953472) ∧ (Cd.fits u ∧ Cd.depth u ≤ 1000 ∧ (Cd.enc u).length ≤ 137438953472) := by
  simp at h
  exact ⟨few_all1 hr (by simpa using h.1), few_all1 hs (by simpa using h.2)⟩
theorem boxes_two (w : World) (a b c d a' b' c' d' : Value) : Four ((w.alloc (.cells #[a, b, c, d] 24)).alloc (.cells #[a', b', c', d'] 24)) w.heap.size a b c d ∧ Four ((w.alloc (.cells #[a, b, c, d] 24)).alloc (.cells #[a', b', c', d'] 24)) (w.heap.size + 1) a' b' c' d' := four_pair w a b c d a' b' c' d'
theorem raw_two {v u : Cd.Vl} (hr : Cd.raw v) (hs : Cd.raw u) : ∀ x ∈ [v, u], Cd.raw x := by
  intro z hz
  simp at hz
  rcases hz with rfl | rfl
  · exact hr
  · exact hs
/-- two values, each boxed -/
structure TwoS (w X : World) (v u : Cd.Vl) (A : Option Addr) (c : Nat) (A2 : Option Addr) (c2 : Nat) : Prop where
  bl : Below w.heap.size w X
  f1 : Four X w.heap.size (.int .i64 v.kind) (.int .i64 v.num) (.string v.str) (.slice A v.elems.length c)
  f2 : Four X (w.heap.size + 1) (.int .i64 u.kind) (.int .i64 u.num) (.string u.str) (.slice A2 u.elems.length c2)
  v1 : IsV Any X (.agg #[.int .i64 v.kind, .int .i64 v.num, .string v.str, .slice A v.elems.length c]) v
  v2 : IsV Any X (.agg #[.int .i64 u.kind, .int .i64 u.num, .string u.str, .slice A2 u.elems.length c2]) u
theorem TwoS.upb {w X X' : World} {v u : Cd.Vl} {A : Option Addr} {c : Nat} {A2 : Option Addr} {c2 : Nat} (h : TwoS w X v u A c A2 c2) (hb : Below X.heap.size X X') : TwoS w X' v u A c A2 c2 :=
  ⟨h.bl.up hb, h.f1.upb hb, h.f2.upb hb, h.v1.upb hb, h.v2.upb hb⟩
theorem TwoS.start {w : World} {v u : Cd.Vl} {A : Option Addr} {c : Nat} {A2 : Option Addr} {c2 : Nat} (hv : IsV Any w (.agg #[.int .i64 v.kind, .int .i64 v.num, .string v.str, .slice A v.elems.length c]) v) (hu : IsV Any w (.agg #[.int .i64 u.kind, .int .i64 u.num, .string u.str, .slice A2 u.elems.length c2]) u) :
    TwoS w ((w.alloc (.cells #[.int .i64 v.kind, .int .i64 v.num, .string v.str, .slice A v.elems.length c] 24)).alloc (.cells #[.int .i64 u.kind, .int .i64 u.num, .string u.str, .slice A2 u.elems.length c2] 24)) v u A c A2 c2 :=
  ⟨blw2' w _ _, (boxes_two w _ _ _ _ _ _ _ _).1, (boxes_two w _ _ _ _ _ _ _ _).2, hv.upb (blw2' w _ _), hu.upb (blw2' w _ _)⟩
theorem tw2 {w X : World} {v u : Cd.Vl} {A : Option Addr} {c : Nat} {A2 : Option Addr} {c2 : Nat} (h : TwoS w X v u A c A2 c2) :
    Hid (TwoS w X v u A c A2 c2) ∧ X.cell? ⟨w.heap.size, 0, none⟩ = some (.int .i64 v.kind) ∧ X.cell? ⟨w.heap.size, 1, none⟩ = some (.int .i64 v.num) ∧ X.cell? ⟨w.heap.size, 2, none⟩ = some (.string v.str) ∧ X.cell? ⟨w.heap.size, 3, none⟩ = some (.slice A v.elems.length c) ∧
    X.cell? ⟨w.heap.size + 1, 0, none⟩ = some (.int .i64 u.kind) ∧ X.cell? ⟨w.heap.size + 1, 1, none⟩ = some (.int .i64 u.num) ∧ X.cell? ⟨w.heap.size + 1, 2, none⟩ = some (.string u.str) ∧ X.cell? ⟨w.heap.size + 1, 3, none⟩ = some (.slice A2 u.elems.length c2) :=
  ⟨Lib.hid h, h.f1.c0, h.f1.c1, h.f1.c2, h.f1.c3, h.f2.c0, h.f2.c1, h.f2.c2, h.f2.c3⟩

theorem same_self (v : Cd.Vl) (x y : Value) (P Q : Nat → Prop) (w : World) (hf : Cd.fits v) (hx : IsV P w x v) (hy : IsV Q w y v) : Calls Try.prog 21 #[x, y] w (SamePost true w) := by
  have h := Same_any v hf v x y P Q w hf hx hy
  rw [Cd.same_refl] at h
  exact h

set_option maxHeartbeats 4000000 in
set_option maxRecDepth 100000 in
theorem CodecSameSpec_any (x y : Value) (v u : Cd.Vl) (w : World) (hv : IsV Any w x v) (hr : Cd.raw v) (hu : IsV Any w y u) (hs : Cd.raw u) : Calls Try.prog 5 #[x, y] w fun e w' => e = .returned (.bool true) ∧ Below w.heap.size w w' := by
  have HR := Lib.hid hr
  have HS := Lib.hid hs
  obtain ⟨A, c, rfl, _⟩ := hv.opens
  obtain ⟨A2, c2, rfl, _⟩ := hu.opens
  have T := Lib.hid (TwoS.start hv hu)
  clear hv hr hu hs
  go_enter Try.func5, Try.ntmps5
  go_wp2_with (fail)
  refine (sane_any _).mono ?_
  rintro e w1 ⟨rfl, b1⟩
  have Dw1 := Lib.hid (b1)
  replace T := Lib.hid (T.out.upb Dw1.out)
  clear Dw1 b1
  have h0 := T.out.f1.c0
  have h1 := T.out.f1.c1
  have h2 := T.out.f1.c2
  have h3 := T.out.f1.c3
  have k0 := T.out.f2.c0
  have k1 := T.out.f2.c1
  have k2 := T.out.f2.c2
  have k3 := T.out.f2.c3
  go_wp2_with (fail)
  have HL := Lib.hid (vs_two _ _ _ _ _ _ _ _ _ _ _ T.out.v1 T.out.v2)
  refine (few_any [v, u] _ Any _ (raw_two HR.out HS.out) (by simp) HL.out).mono ?_
  rintro e w2 ⟨rfl, b2⟩
  have Dw2 := Lib.hid ((blw1 w1 _).up b2)
  replace T := Lib.hid (T.out.upb Dw2.out)
  clear Dw2 b2 HL h0 h1 h2 h3 k0 k1 k2 k3
  cases hfew : [v, u].all Cd.fewB
  · go_wp2_with (fail)
    go_ret
    exact ⟨rfl, T.out.bl⟩
  have HFT := Lib.hid (few_all2 HR.out HS.out hfew)
  clear hfew
  have HA := Lib.hid (fun W h1 h2 => Same_any v HFT.out.1.1 u (.agg #[.int .i64 v.kind, .int .i64 v.num, .string v.str, .slice A v.elems.length c]) (.agg #[.int .i64 u.kind, .int .i64 u.num, .string u.str, .slice A2 u.elems.length c2]) Any Any W HFT.out.2.1 h1 h2)
  have HB := Lib.hid (fun W h1 h2 => refSame_any v HFT.out.1.1 u (.agg #[.int .i64 v.kind, .int .i64 v.num, .string v.str, .slice A v.elems.length c]) (.agg #[.int .i64 u.kind, .int .i64 u.num, .string u.str, .slice A2 u.elems.length c2]) Any Any W HFT.out.2.1 h1 h2)
  have HC := Lib.hid (fun W h1 h2 => same_self v (.agg #[.int .i64 v.kind, .int .i64 v.num, .string v.str, .slice A v.elems.length c]) (.agg #[.int .i64 v.kind, .int .i64 v.num, .string v.str, .slice A v.elems.length c]) Any Any W HFT.out.1.1 h1 h2)
  have HD := Lib.hid (fun W h1 h2 => same_self u (.agg #[.int .i64 u.kind, .int .i64 u.num, .string u.str, .slice A2 u.elems.length c2]) (.agg #[.int .i64 u.kind, .int .i64 u.num, .string u.str, .slice A2 u.elems.length c2]) Any Any W HFT.out.2.1 h1 h2)
  generalize Cd.same v u = sm at *
  cases sm
  all_goals
    go_wp2_with (fail)
    go_region_held3 (fun X => Hid (TwoS w X v u A c A2 c2) ∧ X.cell? ⟨w.heap.size, 0, none⟩ = some (.int .i64 v.kind) ∧ X.cell? ⟨w.heap.size, 1, none⟩ = some (.int .i64 v.num) ∧ X.cell? ⟨w.heap.size, 2, none⟩ = some (.string v.str) ∧ X.cell? ⟨w.heap.size, 3, none⟩ = some (.slice A v.elems.length c) ∧
      X.cell? ⟨w.heap.size + 1, 0, none⟩ = some (.int .i64 u.kind) ∧ X.cell? ⟨w.heap.size + 1, 1, none⟩ = some (.int .i64 u.num) ∧ X.cell? ⟨w.heap.size + 1, 2, none⟩ = some (.string u.str) ∧ X.cell? ⟨w.heap.size + 1, 3, none⟩ = some (.slice A2 u.elems.length c2))
      (first
        | exact tw2 T.out
        | exact tw2 (T.out.upb (below_drew (Below.refl _ _)))
        | exact tw2 T7.out
        | exact tw2 T8.out
        | exact tw2 T9.out
        | exact tw2 TA.out)
      (first
        | (go_at_call 20
           refine (HB.out _ T7.out.v1 T7.out.v2).mono ?_
           rintro e X8 ⟨rfl, b8⟩
           have T8 := Lib.hid (T7.out.upb b8)
           clear b8)
        | (go_at_call 21
           refine (HD.out _ T9.out.v2 T9.out.v2).mono ?_
           rintro e XA ⟨rfl, ba⟩
           have TA := Lib.hid (T9.out.upb ba)
           clear ba)
        | (go_at_call 21
           refine (HC.out _ T8.out.v1 T8.out.v1).mono ?_
           rintro e X9 ⟨rfl, b9⟩
           have T9 := Lib.hid (T8.out.upb b9)
           clear b9)
        | (go_at_call 21
           refine (HA.out _ (T.out.upb (below_drew (Below.refl _ _))).v1 (T.out.upb (below_drew (Below.refl _ _))).v2).mono ?_
           rintro e X7 ⟨rfl, b7⟩
           have T7 := Lib.hid ((T.out.upb (below_drew (Below.refl _ _))).upb b7)
           clear b7))
    all_goals
      go_wp2_with (fail)
      go_ret
      exact ⟨rfl, TA.out.bl⟩

end Go.Proofs.Ytnnddmhimnekaaa
