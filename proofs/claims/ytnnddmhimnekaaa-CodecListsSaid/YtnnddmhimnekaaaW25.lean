/- Walk of the reference's Decode. -/
import Derived.Test.YtnnddmhimnekaaaW24
import Derived.Test.YtnnddmhimnekaaaW18
import Derived.Test.YtnnddmhimnekaaaPlain5
import Derived.Deep.RegionHeld3
import Derived.Deep.RegionWith
namespace Go.Proofs.Ytnnddmhimnekaaa
open Go.RowKit
set_option linter.unusedVariables false
set_option linter.unusedSimpArgs false

/-- a call of the reference's Decode, behind its reading: the result's cells, the reader, the value that was read -/
structure Rc (w X : World) (hb : Nat) (a b c d : Value) (v : Value) (at_ : Int) (bad : Bool) (k n s l : Value) : Prop where
  four : Four X w.heap.size a b c d
  tri : Tri X (w.heap.size + 1) v (.int .i64 at_) (.bool bad)
  val : Four X hb k n s l
  bl : Below w.heap.size w X
  hlt : w.heap.size + 1 < hb
theorem Rc.drewN {w X : World} {hb : Nat} {a b c d v : Value} {at_ : Int} {bad : Bool} {k n s l : Value} (h : Rc w X hb a b c d v at_ bad k n s l) (m : Nat) : Rc w (X.drewN m) hb a b c d v at_ bad k n s l := ⟨h.four, h.tri, h.val, below_drewN h.bl m, h.hlt⟩
theorem Rc.under {w X X' : World} {hb : Nat} {a b c d v : Value} {at_ : Int} {bad : Bool} {k n s l : Value} (h : Rc w X hb a b c d v at_ bad k n s l) (hg : Below X.heap.size X X') : Rc w X' hb a b c d v at_ bad k n s l :=
  ⟨h.four.under hg, (hg.block _ h.tri.lt).trans h.tri, h.val.under hg, h.bl.up hg, h.hlt⟩
theorem Rc.set4 {w X : World} {hb : Nat} {a b c d v : Value} {at_ : Int} {bad : Bool} {k n s l : Value} (h : Rc w X hb a b c d v at_ bad k n s l) (x0 x1 x2 x3 : Value) :
    Four ((((X.setCell ⟨w.heap.size, 0, none⟩ x0).setCell ⟨w.heap.size, 1, none⟩ x1).setCell ⟨w.heap.size, 2, none⟩ x2).setCell ⟨w.heap.size, 3, none⟩ x3) w.heap.size x0 x1 x2 x3 ∧
    Below w.heap.size w ((((X.setCell ⟨w.heap.size, 0, none⟩ x0).setCell ⟨w.heap.size, 1, none⟩ x1).setCell ⟨w.heap.size, 2, none⟩ x2).setCell ⟨w.heap.size, 3, none⟩ x3) :=
  ⟨h.four.set4 x0 x1 x2 x3, h.bl.grown (grown_set4 X w.heap.size x0 x1 x2 x3) h.bl.size (fun g e => by injection e with e; omega)⟩

theorem refCheck_ok (v : Cd.Vl) (x : Value) (P : Nat → Prop) (w : World) (hf : Cd.fits v) (hd : Cd.depth v ≤ 1000) (hv : IsV P w x v) (hc : Cd.check v = 0) :
    Calls Try.prog 17 #[x] w fun e w' => e = .returned (.int .i64 0) ∧ Below w.heap.size w w' := by
  have h := refCheck_any v x P w hf hd hv
  rw [hc] at h; exact h
theorem refEnc_is (v : Cd.Vl) (bs : List UInt8) (x : Value) (P : Nat → Prop) (w : World) (hf : Cd.fits v) (hl : bs.length ≤ 137438953472) (hv : IsV P w x v) (he : Cd.enc v = bs) : Calls Try.prog 27 #[x] w (NewB bs w) := by
  subst he; exact refEnc_any v x P w hf hl hv
theorem rc2 {w X : World} {hb : Nat} {a b c d : Value} {A : Option Addr} {m cp : Nat} {bs : List UInt8} {v' : Value} {at_ : Int} {bad : Bool} {k n s l : Value} (h : Rc w X hb a b c d v' at_ bad k n s l) (hi : InB w.heap.size X (.slice A m cp) bs) :
    Hid (Rc w X hb a b c d v' at_ bad k n s l ∧ InB w.heap.size X (.slice A m cp) bs) ∧ X.cell? ⟨w.heap.size + 1, 1, none⟩ = some (.int .i64 at_) ∧ X.cell? ⟨w.heap.size + 1, 2, none⟩ = some (.bool bad) ∧
      X.cell? ⟨hb, 0, none⟩ = some k ∧ X.cell? ⟨hb, 1, none⟩ = some n ∧ X.cell? ⟨hb, 2, none⟩ = some s ∧ X.cell? ⟨hb, 3, none⟩ = some l ∧ (convert 27 9 (.slice A m cp)).run Try.prog X = .ok (.string ⟨bs.toArray⟩) X :=
  ⟨⟨h, hi⟩, h.tri.c1, h.tri.c2, h.val.c0, h.val.c1, h.val.c2, h.val.c3, conv_str (hi.bytes h.bl.size)⟩

set_option maxRecDepth 100000 in
set_option maxHeartbeats 4000000 in
theorem refDecode_any (v : Value) (bs : List UInt8) (w : World) (hv : InB w.heap.size w v bs) (hl : bs.length ≤ 1000000) : Calls Try.prog 19 #[v] w (DecPost bs w) := by
  have HV := Lib.hid hv
  have R0 := Lib.hid (show Rs w.heap.size (w.heap.size + 1) ((w.alloc (.cells #[.int .i64 0, .int .i64 0, .string ByteArray.empty, .slice none 0 0] 24)).alloc (.cells #[v, .int .i64 0, .bool false] 62)) bs bs false from
    ⟨[], v, rfl, by unfold Tri; have := World.alloc_heap_new (w.alloc (.cells #[.int .i64 0, .int .i64 0, .string ByteArray.empty, .slice none 0 0] 24)) (.cells #[v, .int .i64 0, .bool false] 62); simpa using this, hv.keep (((Below.refl _ w).alloc (Nat.le_refl _) _).alloc (by simp) _)⟩)
  have F0 := Lib.hid ((Four.new w (.int .i64 0) (.int .i64 0) (.string ByteArray.empty) (.slice none 0 0)).alloc (.cells #[v, .int .i64 0, .bool false] 62))
  have HC := Lib.hid (rvalue_any w.heap.size (w.heap.size + 1) bs (by omega) hl 16 (by omega) bs _ R0.out)
  obtain ⟨A, c, rfl, hc1, hc2, hc3, hc4⟩ := hv
  clear hc4 hc3
  go_enter Try.func19, Try.ntmps19
  go_wp2_with (fail)
  refine HC.out.mono ?_
  rintro e w2 ⟨hg2, v2, x, t, bad, rfl, hv2, hr2, hx2⟩
  have HX := Lib.hid hx2
  obtain ⟨A2, c2, rfl, _⟩ := hv2.opens
  obtain ⟨pre, v', he, hT, hI⟩ := hr2
  have HE := Lib.hid he
  have hpl : pre.length + t.length ≤ bs.length := by rw [he]; simp
  have hpl2 : bs.length ≤ pre.length + t.length := by rw [he]; simp
  clear he hI hx2
  have HV2 := Lib.hid (hv2.under (blw1 w2 (.cells #[.int .i64 x.kind, .int .i64 x.num, .string x.str, .slice A2 x.elems.length c2] 24)))
  have RC := Lib.hid (show Rc w (w2.alloc (.cells #[.int .i64 x.kind, .int .i64 x.num, .string x.str, .slice A2 x.elems.length c2] 24)) w2.heap.size (.int .i64 0) (.int .i64 0) (.string ByteArray.empty) (.slice none 0 0) v' (pre.length : Nat) bad (.int .i64 x.kind) (.int .i64 x.num) (.string x.str) (.slice A2 x.elems.length c2) from by
    have b0 : Below w.heap.size w w2 := (((Below.refl _ w).alloc (Nat.le_refl _) (.cells #[.int .i64 0, .int .i64 0, .string ByteArray.empty, .slice none 0 0] 24)).alloc (by simp) (.cells #[.slice A bs.length c, .int .i64 0, .bool false] 62)).grown hg2 (by simp; omega) (fun g e => by injection e with e; omega)
    exact ⟨(four_grown F0.out hg2 (by intro e; injection e; omega)).alloc _, (Below.heap_alloc w2 _ _ hT.lt).trans hT, Four.new w2 _ _ _ _, b0.up (blw1 w2 _), by have := hg2.size; simp at this; omega⟩)
  clear hT hv2 hg2
  go_wp2_with (fail)
  generalize hX3 : w2.alloc (.cells #[.int .i64 x.kind, .int .i64 x.num, .string x.str, .slice A2 x.elems.length c2] 24) = X3 at *
  generalize hB3 : w2.heap.size = hb at *
  clear hX3 hB3
  have t1 := RC.out.tri.c1
  have t2 := RC.out.tri.c2
  have q0 := RC.out.four.c0
  have q1 := RC.out.four.c1
  have q2 := RC.out.four.c2
  have q3 := RC.out.four.c3
  have k0 := RC.out.four.f0 0
  have k1 := RC.out.four.f0 1
  have k2 := RC.out.four.f0 2
  have k3 := RC.out.four.f0 3
  cases bad with
  | true =>
    have HN := Lib.hid (show decR bs = (.mk 0 0 ByteArray.empty [], 10) from by
      have h := HX.out
      cases hval : Cd.valD 16 bs with
      | none => exact decR_none hval
      | some p => rw [hval] at h; exact absurd h.2 (by simp))
    go_quiet (fail)
    go_wp2_with (fail)
    have D3 := (RC.out.drewN nq).set4 (.int .i64 0) (.int .i64 0) (.string ⟨#[]⟩) (.slice none 0 0)
    clear q0 q1 q2 q3 k0 k1 k2 k3 t1 t2 R0 F0 HC
    have h0 := D3.1.c0
    have h1 := D3.1.c1
    have h2 := D3.1.c2
    have h3 := D3.1.c3
    refine ⟨rfl, .tuple #[.agg #[.int .i64 0, .int .i64 0, .string ⟨#[]⟩, .slice none 0 0], .int .i64 10], by simp [results, Try.results19, go_sem, h0, h1, h2, h3], ?_⟩
    refine ⟨_, by rw [HN.out], by rw [HN.out]; exact IsV.of IsVs.nil, D3.2⟩
  | false =>
    have hval : Cd.valD 16 bs = some (x, t) := by
      have h := HX.out
      cases hval : Cd.valD 16 bs with
      | none => rw [hval] at h; cases h
      | some p => rw [hval] at h; rw [h.1]
    cases t with
    | cons ch t =>
      have HN := Lib.hid (decR_rest hval)
      clear hval
      have hne : ((pre.length : Int) != (bs.length : Int)) = true := by rw [bne_iff_ne]; simp at hpl hpl2; omega
      go_quiet (fail)
      go_wp2_with (fail)
      have D3 := (RC.out.drewN nq).set4 (.int .i64 0) (.int .i64 0) (.string ⟨#[]⟩) (.slice none 0 0)
      clear q0 q1 q2 q3 k0 k1 k2 k3 t1 t2 R0 F0 HC
      have h0 := D3.1.c0
      have h1 := D3.1.c1
      have h2 := D3.1.c2
      have h3 := D3.1.c3
      refine ⟨rfl, .tuple #[.agg #[.int .i64 0, .int .i64 0, .string ⟨#[]⟩, .slice none 0 0], .int .i64 10], by simp [results, Try.results19, go_sem, h0, h1, h2, h3], ?_⟩
      refine ⟨_, by rw [HN.out], by rw [HN.out]; exact IsV.of IsVs.nil, D3.2⟩
    | nil =>
      obtain ⟨d1, d2, d3, d4⟩ := Cd.valD_inv 16 bs x [] hval
      have HN := Lib.hid (decR_yes hval)
      have hfit := d4 hl
      have henc : Cd.enc x = bs := by rw [d3]; simp
      have hck : Cd.check x = 0 := by simp [Cd.check, d1]; omega
      have HK := Lib.hid (fun W P hi => refCheck_ok x (.agg #[.int .i64 x.kind, .int .i64 x.num, .string x.str, .slice A2 x.elems.length c2]) P W hfit (by omega) hi hck)
      have HEN := Lib.hid (fun W P hi => refEnc_is x bs (.agg #[.int .i64 x.kind, .int .i64 x.num, .string x.str, .slice A2 x.elems.length c2]) P W hfit (by omega) hi henc)
      have hne : ((pre.length : Int) != (bs.length : Int)) = false := by rw [bne_eq_false_iff_eq]; simp at hpl hpl2; omega
      have HI3 := Lib.hid (HV.out.keep RC.out.bl)
      clear hval d1 d2 d3 d4 hfit henc hck HX HC R0 F0 HE HV
      clear q0 q1 q2 q3 k0 k1 k2 k3 t1 t2
      obtain ⟨HS0, t1, t2, m0, m1, m2, m3, _⟩ := rc2 RC.out HI3.out
      go_region_with (first
        | (go_at_call 17
           refine (HK.out _ _ (HV2.out.under (below_drewN (Below.refl _ _) 1))).mono ?_
           rintro e X4 ⟨rfl, hb4⟩
           have HV4 := Lib.hid ((HV2.out.under (below_drewN (Below.refl _ _) 1)).under hb4)
           obtain ⟨HS4, t41, t42, m40, m41, m42, m43, hcv4⟩ := rc2 ((RC.out.drewN 1).under hb4) (HI3.out.keep (((below_drewN (Below.refl _ X3) 1).up hb4).mono RC.out.bl.size))
           clear hb4)
        | (go_at_call 27
           refine (HEN.out _ _ HV4.out).mono ?_
           rintro e X5 ⟨v5, rfl, ho5, hb5⟩
           obtain ⟨HS5, t51, t52, m50, m51, m52, m53, hcv5⟩ := rc2 (HS4.out.1.under hb5) (HS4.out.2.keep (hb5.mono HS4.out.1.bl.size))
           have HV5 := Lib.hid (HV4.out.under hb5)
           obtain ⟨A5, c5, rfl⟩ := ownB_slice ho5
           have hcv := conv_str ho5.bytes
           clear hb5 ho5))
      all_goals
        clear t1 t2 m0 m1 m2 m3 t41 t42 m40 m41 m42 m43 hcv4 t51 t52 hcv5 hcv
        have q0 := HS5.out.1.four.c0
        have q1 := HS5.out.1.four.c1
        have q2 := HS5.out.1.four.c2
        have q3 := HS5.out.1.four.c3
        have k0 := HS5.out.1.four.f0 0
        have k1 := HS5.out.1.four.f0 1
        have k2 := HS5.out.1.four.f0 2
        have k3 := HS5.out.1.four.f0 3
        go_wp2_with (fail)
        have D3 := HS5.out.1.set4 (.int .i64 x.kind) (.int .i64 x.num) (.string x.str) (.slice A2 x.elems.length c2)
        clear q0 q1 q2 q3 k0 k1 k2 k3 m50 m51 m52 m53
        have h0 := D3.1.c0
        have h1 := D3.1.c1
        have h2 := D3.1.c2
        have h3 := D3.1.c3
        refine ⟨rfl, .tuple #[.agg #[.int .i64 x.kind, .int .i64 x.num, .string x.str, .slice A2 x.elems.length c2], .int .i64 0], by simp [results, Try.results19, go_sem, h0, h1, h2, h3], ?_⟩
        refine ⟨_, by rw [HN.out], ?_, D3.2⟩
        rw [HN.out]
        have V4 := HV5.out.keep (grown_set4 X5 w.heap.size (.int .i64 x.kind) (.int .i64 x.num) (.string x.str) (.slice A2 x.elems.length c2)).size (fun b hb hlt => (grown_set4 X5 w.heap.size _ _ _ _).block b hlt (by intro e; injection e; simp at hb; omega))
        exact V4.mono (fun b _ hb => by simp at hb; omega)

end Go.Proofs.Ytnnddmhimnekaaa
