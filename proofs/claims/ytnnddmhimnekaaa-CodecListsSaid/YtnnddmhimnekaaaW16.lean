/- Walk of Decode. -/
import Derived.Test.YtnnddmhimnekaaaW15
namespace Go.Proofs.Ytnnddmhimnekaaa
open Go.RowKit
set_option linter.unusedVariables false
set_option linter.unusedSimpArgs false

/-- what Decode returns -/
def decR (bs : List UInt8) : Cd.Vl × Int := match Cd.decD bs with
  | some v => (v, 0)
  | none => (.mk 0 0 ByteArray.empty [], 10)
def DecPost (bs : List UInt8) (w : World) (e : Ending) (w' : World) : Prop :=
  ∃ x, e = .returned (.tuple #[x, .int .i64 (decR bs).2]) ∧ IsV (fun b => w.heap.size ≤ b) w' x (decR bs).1 ∧ Below w.heap.size w w'

theorem decR_yes {bs : List UInt8} {x : Cd.Vl} (h : Cd.valD 16 bs = some (x, [])) : decR bs = (x, 0) := by
  unfold decR Cd.decD; rw [h]
theorem decR_none {bs : List UInt8} (h : Cd.valD 16 bs = none) : decR bs = (.mk 0 0 ByteArray.empty [], 10) := by
  unfold decR Cd.decD; rw [h]
theorem decR_rest {bs : List UInt8} {x : Cd.Vl} {c : UInt8} {t : List UInt8} (h : Cd.valD 16 bs = some (x, c :: t)) : decR bs = (.mk 0 0 ByteArray.empty [], 10) := by
  unfold decR Cd.decD; rw [h]

theorem InB.up {base base' : Nat} {w : World} {v : Value} {bs : List UInt8} (h : InB base w v bs) (hb : base ≤ base') : InB base' w v bs := by
  obtain ⟨A, c, e, h1, h2, h3, h4⟩ := h
  refine ⟨A, c, e, h1, h2, h3, fun hn => ?_⟩
  obtain ⟨b, off, ea, hlt, hc⟩ := h4 hn
  exact ⟨b, off, ea, by omega, hc⟩
theorem Bts.inB {w : World} {v : Value} {bs : List UInt8} (h : Bts w v bs) : InB w.heap.size w v bs := by
  obtain ⟨base, h⟩ := h
  have hb := h.bytes
  rcases h.2 with ⟨rfl, h0⟩ | ⟨g, cap, cur, rfl, _, hg, h1, h2, _⟩
  · exact ⟨none, 0, by rw [h0], by omega, by omega, fun _ => rfl, fun hn => absurd (List.eq_nil_of_length_eq_zero h0) hn⟩
  · refine ⟨_, cap, rfl, h1, by unfold maxLen at h2; omega, (fun e => by cases e), fun hn => ?_⟩
    obtain ⟨A, c, e, hr⟩ := hb
    injection e with e1 e2 e3
    obtain ⟨b, off, ea, hlt, hc⟩ := hr (by simpa using hn)
    rw [← e1] at ea
    exact ⟨b, off, ea, hlt, fun i hi => by rw [hc i (by simpa using hi)]; simp⟩
theorem Rd.other {base h : Nat} {w w' : World} {bs : List UInt8} (k : Rd base h w bs) {b : Nat} (hbh : base ≤ h) (hg : w.grownBy w' (some b)) (hb : base ≤ b) (hne : h ≠ b) : Rd base h w' bs := by
  obtain ⟨v, h1, h2⟩ := k
  have hlt := h1.lt
  refine ⟨v, (hg.block h h1.lt (by intro e; injection e; omega)).trans h1, h2.keep ?_⟩
  exact (Below.refl _ w).grown hg (by omega) (fun g e => by injection e; omega)

theorem grown_set4 (w : World) (b : Nat) (x0 x1 x2 x3 : Value) : w.grownBy ((((w.setCell ⟨b, 0, none⟩ x0).setCell ⟨b, 1, none⟩ x1).setCell ⟨b, 2, none⟩ x2).setCell ⟨b, 3, none⟩ x3) (some b) :=
  (((grown_setAt w b 0 x0).trans (grown_setAt _ b 1 x1)).trans (grown_setAt _ b 2 x2)).trans (grown_setAt _ b 3 x3)
theorem Four.set4 {X : World} {h : Nat} {a b c d : Value} (k : Four X h a b c d) (x0 x1 x2 x3 : Value) : Four ((((X.setCell ⟨h, 0, none⟩ x0).setCell ⟨h, 1, none⟩ x1).setCell ⟨h, 2, none⟩ x2).setCell ⟨h, 3, none⟩ x3) h x0 x1 x2 x3 := (((k.set0 x0).set1 x1).set2 x2).set3 x3
theorem boxed_grown {W W' : World} {B : Nat} {t : TypeId} {v : Value} (h : Boxed W B t v) {r : Option Nat} (hg : W.grownBy W' r) (hne : some B ≠ r) : Boxed W' B t v := (hg.block B h.lt hne).trans h
theorem four_grown {X X' : World} {h : Nat} {a b c d : Value} (k : Four X h a b c d) {r : Option Nat} (hg : X.grownBy X' r) (hne : some h ≠ r) : Four X' h a b c d := (hg.block h k.lt hne).trans k

/-- in a call of Decode: where the results and the reader lie -/
structure Dc (w X : World) (a b c d e : Value) (bs : List UInt8) : Prop where
  four : Four X w.heap.size a b c d
  box : Boxed X (w.heap.size + 1) 28 e
  rd : Rd w.heap.size (w.heap.size + 2) X bs
  bl : Below w.heap.size w X

theorem Dc.start {w : World} {v : Value} {bs : List UInt8} (h : InB w.heap.size w v bs) (a b c d e : Value) : Dc w (((w.alloc (.cells #[a, b, c, d] 24)).alloc (.cells #[e] 28)).alloc (.cells #[v] 58)) a b c d e bs := by
  have b0 : Below w.heap.size w (((w.alloc (.cells #[a, b, c, d] 24)).alloc (.cells #[e] 28)).alloc (.cells #[v] 58)) := (((Below.refl _ w).alloc (Nat.le_refl _) _).alloc (by simp) _).alloc (by simp; omega) _
  refine ⟨((Four.new w a b c d).alloc _).alloc _, ?_, ⟨v, ?_, h.keep b0⟩, b0⟩
  · have h1 : Boxed ((w.alloc (.cells #[a, b, c, d] 24)).alloc (.cells #[e] 28)) (w.heap.size + 1) 28 e := by
      have := Boxed.new (w.alloc (.cells #[a, b, c, d] 24)) 28 e
      simpa using this
    exact boxed_below h1 ((Below.refl _ _).alloc (Nat.le_refl _) _)
  · have := Boxed.new ((w.alloc (.cells #[a, b, c, d] 24)).alloc (.cells #[e] 28)) 58 v
    simpa using this
theorem Dc.reads {w X X' : World} {a b c d e : Value} {bs t : List UInt8} (k : Dc w X a b c d e bs) (hg : X.grownBy X' (some (w.heap.size + 2))) (hr : Rd w.heap.size (w.heap.size + 2) X' t) : Dc w X' a b c d e t :=
  ⟨four_grown k.four hg (by intro e; injection e; omega), boxed_grown k.box hg (by intro e; injection e; omega), hr, k.bl.grown hg k.bl.size (fun g e => by injection e; omega)⟩
theorem Dc.set4 {w X : World} {a b c d e : Value} {bs : List UInt8} (k : Dc w X a b c d e bs) (x0 x1 x2 x3 : Value) : Dc w ((((X.setCell ⟨w.heap.size, 0, none⟩ x0).setCell ⟨w.heap.size, 1, none⟩ x1).setCell ⟨w.heap.size, 2, none⟩ x2).setCell ⟨w.heap.size, 3, none⟩ x3) x0 x1 x2 x3 e bs :=
  ⟨k.four.set4 x0 x1 x2 x3, boxed_grown k.box (grown_set4 X _ x0 x1 x2 x3) (by intro e; injection e; omega), k.rd.other (by omega) (grown_set4 X _ x0 x1 x2 x3) (Nat.le_refl _) (by omega), k.bl.grown (grown_set4 X _ x0 x1 x2 x3) k.bl.size (fun g e => by injection e; omega)⟩
theorem Dc.setE {w X : World} {a b c d e : Value} {bs : List UInt8} (k : Dc w X a b c d e bs) (x : Value) : Dc w (X.setCell ⟨w.heap.size + 1, 0, none⟩ x) a b c d x bs :=
  ⟨four_grown k.four (grown_setAt X _ 0 x) (by intro e; injection e; omega), k.box.set x, k.rd.other (by omega) (grown_setAt X _ 0 x) (by omega) (by omega), k.bl.grown (grown_setAt X _ 0 x) k.bl.size (fun g e => by injection e; omega)⟩

theorem dec_zero (w : World) (bs : List UInt8) (P : Nat → Prop) : IsV P w (.agg #[.int .i64 0, .int .i64 0, .string ByteArray.empty, .slice none 0 0]) (.mk 0 0 ByteArray.empty []) := IsV.of IsVs.nil

set_option maxRecDepth 100000 in
set_option maxHeartbeats 4000000 in
theorem Decode_any (v : Value) (bs : List UInt8) (w : World) (hv : InB w.heap.size w v bs) (hl : bs.length ≤ 1000000) : Calls Try.prog 18 #[v] w (DecPost bs w) := by
  have HD := Lib.hid (Dc.start hv (.int .i64 0) (.int .i64 0) (.string ByteArray.empty) (.slice none 0 0) (.int .i64 0))
  obtain ⟨A, c, rfl, hc1, hc2, hc3, hc4⟩ := hv
  clear hc4 hc3 hc1 hc2
  have HV := Lib.hid (value_any w.heap.size (w.heap.size + 2) (by omega) 16 (by omega) bs _ HD.out.rd hl)
  cases hval : Cd.valD 16 bs with
  | none =>
    have HR := Lib.hid (decR_none hval)
    rw [hval] at HV
    clear hval
    go_enter_defers Try.func18, Try.ntmps18
    go_wp2_with (fail)
    refine HV.out.mono ?_
    rintro e w1 ⟨hg1, he1⟩
    simp only at he1
    subst he1
    have F1 := Lib.hid (four_grown HD.out.four hg1 (by intro e; injection e; omega))
    have X1 := Lib.hid (boxed_grown HD.out.box hg1 (by intro e; injection e; omega))
    have L1 := Lib.hid (HD.out.bl.grown hg1 HD.out.bl.size (fun g e => by injection e; omega))
    clear hg1
    go_wp2_with (fail)
    refine leaves_cons (f := 31) (args := #[.pointer (some ⟨w.heap.size, 0, none⟩), .pointer (some ⟨w.heap.size + 1, 0, none⟩)]) (by simp) (by simp [go_sem]) ?_
    refine (caught_panics _ _ _ _ _ _ _ _ F1.out X1.out).mono ?_
    rintro e u' w2 ⟨rfl, rfl, rfl⟩
    have G := grown_set4 w1 w.heap.size (.int .i64 0) (.int .i64 0) (.string ByteArray.empty) (.slice none 0 0)
    have F2 := four_grown (F1.out.set4 (.int .i64 0) (.int .i64 0) (.string ByteArray.empty) (.slice none 0 0)) (grown_setAt _ (w.heap.size + 1) 0 (.int .i64 10)) (by intro e; injection e; omega)
    have X2 := (boxed_grown X1.out G (by intro e; injection e; omega)).set (.int .i64 10)
    have L2 := (L1.out.grown G L1.out.size (fun g e => by injection e; omega)).setCell (p := ⟨w.heap.size + 1, 0, none⟩) (by simp) (.int .i64 10)
    have h0 := F2.c0
    have h1 := F2.c1
    have h2 := F2.c2
    have h3 := F2.c3
    have h4 := X2.cell
    clear F1 X1 L1 HV HD G
    refine ⟨.tuple #[.agg #[.int .i64 0, .int .i64 0, .string ByteArray.empty, .slice none 0 0], .int .i64 10], by simp [results, Try.results18, go_sem, h0, h1, h2, h3, h4], ?_⟩
    refine ⟨_, by rw [HR.out], by rw [HR.out]; exact IsV.of IsVs.nil, below_drew L2⟩
  | some p =>
    obtain ⟨x, t⟩ := p
    rw [hval] at HV
    go_enter_defers Try.func18, Try.ntmps18
    go_wp2_with (fail)
    refine HV.out.mono ?_
    rintro e w1 ⟨hg1, v1, he1, hv1, hr1⟩
    subst he1
    have D1 := Lib.hid (HD.out.reads hg1 hr1)
    have V1 := Lib.hid hv1
    obtain ⟨A1, c1, rfl, _⟩ := hv1.opens
    have hf0 := D1.out.four.f0 0
    have hf1 := D1.out.four.f0 1
    have hf2 := D1.out.four.f0 2
    have hf3 := D1.out.four.f0 3
    have h0 := D1.out.four.c0
    have h1 := D1.out.four.c1
    have h2 := D1.out.four.c2
    have h3 := D1.out.four.c3
    have D2 := Lib.hid (D1.out.set4 (.int .i64 x.kind) (.int .i64 x.num) (.string x.str) (.slice A1 x.elems.length c1))
    obtain ⟨rv, hrb, hri⟩ := D1.out.rd
    obtain ⟨Ar, cr, rfl, _, _, _, _⟩ := hri
    have hrc := hrb.cell
    clear hg1 hr1 hv1 hrb HV HD
    cases t with
    | nil =>
      have HR := Lib.hid (decR_yes hval)
      clear hval
      go_wp2_with (fail)
      refine (want_yes _ _).mono ?_
      rintro e w2 ⟨rfl, rfl⟩
      clear hf0 hf1 hf2 hf3 h0 h1 h2 h3 hrc D1
      have hf0 := D2.out.four.f0 0
      have hf1 := D2.out.four.f0 1
      have hf2 := D2.out.four.f0 2
      have hf3 := D2.out.four.f0 3
      have h0 := D2.out.four.c0
      have h1 := D2.out.four.c1
      have h2 := D2.out.four.c2
      have h3 := D2.out.four.c3
      have h4 := D2.out.box.cell
      have hf4 := D2.out.box.frozen
      have D3 := Lib.hid ((D2.out.set4 (.int .i64 x.kind) (.int .i64 x.num) (.string x.str) (.slice A1 x.elems.length c1)).setE (.int .i64 0))
      have V3 := Lib.hid ((V1.out.keep (grown_set4 w1 w.heap.size (.int .i64 x.kind) (.int .i64 x.num) (.string x.str) (.slice A1 x.elems.length c1)).size (fun b hb hlt => (grown_set4 w1 w.heap.size _ _ _ _).block b hlt (by intro e; injection e; simp at hb; omega))))
      generalize hW : ((((w1.setCell ⟨w.heap.size, 0, none⟩ (.int .i64 x.kind)).setCell ⟨w.heap.size, 1, none⟩ (.int .i64 x.num)).setCell ⟨w.heap.size, 2, none⟩ (.string x.str)).setCell ⟨w.heap.size, 3, none⟩ (.slice A1 x.elems.length c1)) = W at *
      clear hW
      go_wp2_with (fail)
      refine leaves_cons (f := 31) (args := #[.pointer (some ⟨w.heap.size, 0, none⟩), .pointer (some ⟨w.heap.size + 1, 0, none⟩)]) (by simp) (by simp [go_sem]) ?_
      refine (caught_idle _ _ _).mono ?_
      rintro e u' w2 ⟨rfl, rfl, rfl⟩
      clear hf0 hf1 hf2 hf3 h0 h1 h2 h3 h4 hf4
      have h0 := D3.out.four.c0
      have h1 := D3.out.four.c1
      have h2 := D3.out.four.c2
      have h3 := D3.out.four.c3
      have h4 := D3.out.box.cell
      refine ⟨.tuple #[.agg #[.int .i64 x.kind, .int .i64 x.num, .string x.str, .slice A1 x.elems.length c1], .int .i64 0], by simp [results, Try.results18, go_sem, h0, h1, h2, h3, h4], ?_⟩
      refine ⟨_, by rw [HR.out], ?_, D3.out.bl⟩
      rw [HR.out]
      have V4 := V3.out.keep (grown_set4 W w.heap.size (.int .i64 x.kind) (.int .i64 x.num) (.string x.str) (.slice A1 x.elems.length c1)).size (fun b hb hlt => (grown_set4 W w.heap.size _ _ _ _).block b hlt (by intro e; injection e; simp at hb; omega))
      have V5 := V4.keep (grown_setAt _ (w.heap.size + 1) 0 (.int .i64 0)).size (fun b hb hlt => (grown_setAt _ (w.heap.size + 1) 0 (.int .i64 0)).block b hlt (by intro e; injection e; simp at hb; omega))
      exact V5.mono (fun b _ hb => by simp at hb; omega)
    | cons c t =>
      have HR := Lib.hid (decR_rest hval)
      clear hval
      have hne : (((c :: t).length : Int) == 0) = false := by rw [beq_eq_false_iff_ne]; simp; omega
      go_wp2_with (fail)
      refine (want_no _ _).mono ?_
      rintro e w2 ⟨rfl, rfl⟩
      go_wp2_with (fail)
      refine leaves_cons (f := 31) (args := #[.pointer (some ⟨w.heap.size, 0, none⟩), .pointer (some ⟨w.heap.size + 1, 0, none⟩)]) (by simp) (by simp [go_sem]) ?_
      refine (caught_panics _ _ _ _ _ _ _ _ D2.out.four D2.out.box).mono ?_
      rintro e u' w2 ⟨rfl, rfl, rfl⟩
      have D3 := (D2.out.set4 (.int .i64 0) (.int .i64 0) (.string ByteArray.empty) (.slice none 0 0)).setE (.int .i64 10)
      clear hf0 hf1 hf2 hf3 h0 h1 h2 h3 hrc D1 D2
      have h0 := D3.four.c0
      have h1 := D3.four.c1
      have h2 := D3.four.c2
      have h3 := D3.four.c3
      have h4 := D3.box.cell
      refine ⟨.tuple #[.agg #[.int .i64 0, .int .i64 0, .string ByteArray.empty, .slice none 0 0], .int .i64 10], by simp [results, Try.results18, go_sem, h0, h1, h2, h3, h4], ?_⟩
      refine ⟨_, by rw [HR.out], by rw [HR.out]; exact IsV.of IsVs.nil, below_drew D3.bl⟩

end Go.Proofs.Ytnnddmhimnekaaa
