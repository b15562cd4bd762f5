/- Walk of greatest over whatever iterator of amendments. -/
import Derived.Test.YtcifhigeieoogaaW10
import Derived.Deep.WholeRow
import Derived.Deep.MidRow
import Derived.Laws.ResultCell
namespace Go.Proofs.Ytcifhigeieoogaa
open Go.RowKit
set_option linter.unusedVariables false
set_option linter.unusedSimpArgs false
attribute [local go_sem] frozen_new Oper.semAt_some
/-- a block of a type holds these cells -/
def Cells (W : World) (B : Nat) (t : TypeId) (cs : List Value) : Prop := W.heap[B]? = some (.cells cs.toArray t (0, 0))
theorem Cells.set {W : World} {B : Nat} {t : TypeId} {cs : List Value} (h : Cells W B t cs) {k : Nat} (v : Value) : Cells (W.setCell ⟨B, k, none⟩ v) B t (cs.set k v) := by
  have := heap_setCell_same W B k cs.toArray t v h
  unfold Cells; rw [this]; simp
theorem BoxA.other {W : World} {B : Nat} {x : Am} (h : BoxA W B x) {B' : Nat} (hne : B ≠ B') (k : Nat) (v : Value) : BoxA (W.setCell ⟨B', k, none⟩ v) B x := (Below.heap_setCell W ⟨B', k, none⟩ v B hne).trans h
/-- a box is stored whole -/
def setA (W : World) (B : Nat) (x : Am) : World := ((((((W.setCell ⟨B, 0, none⟩ (.int .i64 x.no)).setCell ⟨B, 1, none⟩ (.int .i64 x.at_)).setCell ⟨B, 2, none⟩ (.int .i64 x.known)).setCell ⟨B, 3, none⟩ (.int .i64 x.key)).setCell ⟨B, 4, none⟩ (.int .i64 x.value)).setCell ⟨B, 5, none⟩ (.bool x.gone))
theorem BoxA.setA {W : World} {B : Nat} {y : Am} (h : BoxA W B y) (x : Am) : BoxA (setA W B x) B x :=
  (((((((show Cells W B 27 (encA y) from h).set (k := 0) (.int .i64 x.no)).set (k := 1) (.int .i64 x.at_)).set (k := 2) (.int .i64 x.known)).set (k := 3) (.int .i64 x.key)).set (k := 4) (.int .i64 x.value)).set (k := 5) (.bool x.gone))
theorem setA_other (W : World) (B : Nat) (x : Am) {b : Nat} (hne : b ≠ B) : (setA W B x).heap[b]? = W.heap[b]? := by
  unfold setA
  rw [Below.heap_setCell _ _ _ b hne, Below.heap_setCell _ _ _ b hne, Below.heap_setCell _ _ _ b hne, Below.heap_setCell _ _ _ b hne, Below.heap_setCell _ _ _ b hne, Below.heap_setCell _ _ _ b hne]
theorem setA_size (W : World) (B : Nat) (x : Am) : (setA W B x).heap.size = W.heap.size := by simp [setA, World.setCell]
theorem Boxed.setA {W : World} {B B' : Nat} {t : TypeId} {v : Value} (h : Boxed W B t v) (x : Am) (hne : B ≠ B') : Boxed (setA W B' x) B t v := (setA_other W B' x hne).trans h
theorem RStep.setA {B : Nat} {Pr : Nat → Prop} (A : World) (b : Nat) (x : Am) (hp : ¬ Pr b) : RStep B Pr A (setA A b x) :=
  (RStep.setCell _ _ _ hp).trans ((RStep.setCell _ _ _ hp).trans ((RStep.setCell _ _ _ hp).trans ((RStep.setCell _ _ _ hp).trans ((RStep.setCell _ _ _ hp).trans ((RStep.setCell _ _ _ hp))))))

theorem val1_any (x : Am) (ba : Nat) (t : Int) (W : World) (tk : W.cell? ⟨ba, 0, none⟩ = some (.int .i64 t)) : Calls Try.prog 32 #[vA x, .pointer (some ⟨ba, 0, none⟩)] W (BPost (decide (x.at_ ≤ t)) W) := by
  have HB0 := Lib.hid (BoxA.new W x)
  have HW := Lib.hid (al1 W (.cells #[.int .i64 x.no, .int .i64 x.at_, .int .i64 x.known, .int .i64 x.key, .int .i64 x.value, .bool x.gone] 27))
  have q1 := HB0.out.c1
  have lk := cell_lt tk
  dsimp only at lk
  have hvv : vA x = vA x := rfl
  unfold vA
  clear hvv
  go_enter Try.func32, Try.ntmps32
  go_wp2_with (fail)
  go_ret
  exact ⟨rfl, HW.out⟩
theorem val1_is {x : Am} {t : Int} {b : Bool} (h : decide (x.at_ ≤ t) = b) (ba : Nat) (W : World) (tk : W.cell? ⟨ba, 0, none⟩ = some (.int .i64 t)) : Calls Try.prog 32 #[vA x, .pointer (some ⟨ba, 0, none⟩)] W (BPost b W) := by
  subst h; exact val1_any x ba t W tk

/-- one more element for greatest -/
def gstp (t : Int) (s : Am × Bool) (x : Am) : Am × Bool := if decide (x.at_ ≤ t) && (!s.2 || decide (cfAt s.1 x < 0)) then (x, true) else s
def gst (t : Int) (ys : List Am) : Am × Bool := ys.foldl (gstp t) ((⟨0, 0, 0, 0, 0, false⟩ : Am), false)
theorem gst_snoc (t : Int) (ys : List Am) (k : Nat) (h : k < ys.length) : gst t (ys.take (k + 1)) = gstp t (gst t (ys.take k)) ys[k] := by
  unfold gst; rw [List.take_succ_eq_append_getElem h, List.foldl_append]; rfl
/-- the boxes of greatest -/
structure Gt (w X : World) (ba : Nat) (y : Am) (f : Bool) : Prop where
  os : X.os = w.os
  tape : X.tape = w.tape
  output : X.output = w.output
  size : w.heap.size + 1 + 1 + 1 + 1 ≤ X.heap.size
  block : ∀ b, b < w.heap.size → X.heap[b]? = w.heap[b]?
  kb : Boxed X w.heap.size 50 (.func (.func 32) #[] #[.pointer (some ⟨ba, 0, none⟩)])
  ob : Boxed X (w.heap.size + 1) 49 (.func (.func 33) #[] #[])
  zb : BoxA X (w.heap.size + 1 + 1) y
  fb : Boxed X (w.heap.size + 1 + 1 + 1) 4 (.bool f)
theorem Gt.up {w X Y : World} {ba : Nat} {y : Am} {f : Bool} (h : Gt w X ba y f) (hb : Below X.heap.size X Y) : Gt w Y ba y f :=
  ⟨hb.os.trans h.os, hb.tape.trans h.tape, hb.output.trans h.output, Nat.le_trans h.size hb.size, fun b hlt => (hb.block b (by have := h.size; omega)).trans (h.block b hlt), boxed_below h.kb hb, boxed_below h.ob hb, h.zb.upb hb, boxed_below h.fb hb⟩
theorem Gt.istep {w X Y : World} {ba : Nat} {y : Am} {f : Bool} {B : Nat} (h : Gt w X ba y f) (hB : w.heap.size ≤ B) (hs : IStep B X Y) : Gt w Y ba y f :=
  ⟨hs.os.trans h.os, hs.tape.trans h.tape, hs.output.trans h.output, Nat.le_trans h.size hs.size, fun b hlt => by
    have h1 : b < X.heap.size := by have := h.size; omega
    rw [← h.block b hlt, Array.getElem?_eq_getElem h1]
    exact hs.block b _ (Array.getElem?_eq_getElem h1) (.inr (by omega)), hs.boxed h.kb, hs.boxed h.ob, hs.block _ _ h.zb (.inl rfl), hs.boxed h.fb⟩
theorem Gt.store {w X : World} {ba : Nat} {y : Am} {f : Bool} (h : Gt w X ba y f) (x : Am) (g : Bool) : Gt w ((setA X (w.heap.size + 1 + 1) x).setCell ⟨w.heap.size + 1 + 1 + 1, 0, none⟩ (.bool g)) ba x g := by
  have r : RStep 0 (fun b => b < w.heap.size) X ((setA X (w.heap.size + 1 + 1) x).setCell ⟨w.heap.size + 1 + 1 + 1, 0, none⟩ (.bool g)) := (RStep.setA X (w.heap.size + 1 + 1) x (by omega)).trans (RStep.setCell _ _ _ (by show ¬ w.heap.size + 1 + 1 + 1 < w.heap.size; omega))
  refine ⟨r.os.trans h.os, r.tape.trans h.tape, r.output.trans h.output, Nat.le_trans h.size r.size, fun b hlt => ?_, ?_, ?_, ?_, ?_⟩
  · have h1 : b < X.heap.size := by have := h.size; omega
    rw [← h.block b hlt, Array.getElem?_eq_getElem h1]
    exact r.block b _ (Array.getElem?_eq_getElem h1) (.inr hlt)
  · exact (Boxed.setA h.kb x (by omega)).other (B' := w.heap.size + 1 + 1 + 1) (by omega) _
  · exact (Boxed.setA h.ob x (by omega)).other (B' := w.heap.size + 1 + 1 + 1) (by omega) _
  · exact (h.zb.setA x).other (B' := w.heap.size + 1 + 1 + 1) (by omega) _ _
  · exact (Boxed.setA h.fb x (by omega)).set _
theorem Gt.drewN {w X : World} {ba : Nat} {y : Am} {f : Bool} (h : Gt w X ba y f) (n : Nat) : Gt w (X.drewN n) ba y f := ⟨h.os, h.tape, h.output, h.size, h.block, h.kb, h.ob, h.zb, h.fb⟩
theorem Gt.bel {w X : World} {ba : Nat} {y : Am} {f : Bool} (h : Gt w X ba y f) : Below w.heap.size w X := ⟨h.os, h.tape, h.output, by have := h.size; omega, h.block⟩
def GPost (s : Am × Bool) (w : World) (e : Ending) (w' : World) : Prop := e = .returned (.tuple #[vA s.1, .bool s.2]) ∧ Below w.heap.size w w'
theorem GPost.of {s : Am × Bool} {y : Am} {f : Bool} {w w' : World} (h : s = (y, f)) (hb : Below w.heap.size w w') : GPost s w (.returned (.tuple #[vA y, .bool f])) w' := by subst h; exact ⟨rfl, hb⟩

set_option maxHeartbeats 8000000 in
set_option maxRecDepth 100000 in
theorem greatest_any (gf : Nat) (lb : Array Value) (ys : List Am) (Prot : Nat → Prop) (ba : Nat) (t : Int) (w : World) (eg : ∀ args W, (callFunc gf args).run Try.prog W = .ok (.enter gf args) W) (hP : ∀ b, Prot b → b < w.heap.size) (ta : w.cell? ⟨ba, 0, none⟩ = some (.int .i64 t))
    (hit : ∀ W', Below w.heap.size w W' → Iter Try.prog gf lb encV ys Prot W') :
    Calls Try.prog 30 #[.func (.func gf) #[] lb, .func (.func 32) #[] #[.pointer (some ⟨ba, 0, none⟩)], .func (.func 33) #[] #[]] w (GPost (gst t ys) w) := by
  refine (callsIn_wide (n := 0)).1 ?_
  refine callsIn_of_wp_marks Try.func30 rfl trivial ?_ rfl
  simp only [Try.ntmps30, List.size_toArray, List.length_cons, List.length_nil, Nat.reduceAdd, Nat.reduceSub, Array.replicate_succ, Array.replicate_zero, List.push_toArray, List.append_toArray, List.nil_append, List.cons_append]
  have TA := Lib.hid ta
  have lba := cell_lt ta
  dsimp only at lba
  clear ta
  gi_wp2_with (fail)
  have hX0 : Gt w ((((w.alloc (.cells #[.func (.func 32) #[] #[.pointer (some ⟨ba, 0, none⟩)]] 50)).alloc (.cells #[.func (.func 33) #[] #[]] 49)).alloc (.cells #[.int .i64 0, .int .i64 0, .int .i64 0, .int .i64 0, .int .i64 0, .bool false] 27)).alloc (.cells #[.bool false] 4)) ba (⟨0, 0, 0, 0, 0, false⟩ : Am) false := by
    have a1 := Boxed.new w 50 (.func (.func 32) #[] #[.pointer (some ⟨ba, 0, none⟩)])
    have a2 := Boxed.new (w.alloc (.cells #[.func (.func 32) #[] #[.pointer (some ⟨ba, 0, none⟩)]] 50)) 49 (.func (.func 33) #[] #[])
    have a3 := BoxA.new ((w.alloc (.cells #[.func (.func 32) #[] #[.pointer (some ⟨ba, 0, none⟩)]] 50)).alloc (.cells #[.func (.func 33) #[] #[]] 49)) (⟨0, 0, 0, 0, 0, false⟩ : Am)
    have a4 := Boxed.new (((w.alloc (.cells #[.func (.func 32) #[] #[.pointer (some ⟨ba, 0, none⟩)]] 50)).alloc (.cells #[.func (.func 33) #[] #[]] 49)).alloc (.cells #[.int .i64 0, .int .i64 0, .int .i64 0, .int .i64 0, .int .i64 0, .bool false] 27)) 4 (.bool false)
    simp only [World.size_alloc] at a2 a3 a4
    exact ⟨rfl, rfl, rfl, by simp, fun b hlt => ((((al1 w _).up (al1 _ _)).up (al1 _ _)).up (al1 _ _)).block b hlt, ((a1.alloc _).alloc _).alloc _, (a2.alloc _).alloc _, a3.alloc _, a4⟩
  have hsz : ((((w.alloc (.cells #[.func (.func 32) #[] #[.pointer (some ⟨ba, 0, none⟩)]] 50)).alloc (.cells #[.func (.func 33) #[] #[]] 49)).alloc (.cells #[.int .i64 0, .int .i64 0, .int .i64 0, .int .i64 0, .int .i64 0, .bool false] 27)).alloc (.cells #[.bool false] 4)).heap.size = w.heap.size + 1 + 1 + 1 + 1 := by simp
  obtain ⟨WL, hWL⟩ : ∃ WL, ((((w.alloc (.cells #[.func (.func 32) #[] #[.pointer (some ⟨ba, 0, none⟩)]] 50)).alloc (.cells #[.func (.func 33) #[] #[]] 49)).alloc (.cells #[.int .i64 0, .int .i64 0, .int .i64 0, .int .i64 0, .int .i64 0, .bool false] 27)).alloc (.cells #[.bool false] 4)) = WL := ⟨_, rfl⟩
  rw [hWL] at hX0 hsz ⊢
  clear hWL
  refine rf_outer ys Prot (fun k X => Hid (Gt w X ba (gst t (ys.take k)).1 (gst t (ys.take k)).2)) (fun _ _ _ => False)
    (enc := encV) rfl eg (fun _ => rfl) ?hP ?hit ?hI ?hIx ?h0 ?hround ?hdone ?hstop
  case hP => exact fun b h => by have := hP b h; omega
  case hit => exact fun W hW => hit W (hX0.bel.up hW)
  case hI =>
    rintro k X Y h1 hs
    exact h1.out.istep (by omega) hs
  case hIx => rintro c k X Y h hs; exact h
  case h0 => exact hX0
  case hround =>
    rintro la k hk W hla HX
    have HS := Lib.hid (gst_snoc t ys k hk)
    generalize hx : ys[k] = x at *
    obtain ⟨f, hf⟩ : ∃ f, (gst t (ys.take k)).2 = f := ⟨_, rfl⟩
    obtain ⟨y, hy⟩ : ∃ z, (gst t (ys.take k)).1 = z := ⟨_, rfl⟩
    have HSS := Lib.hid (show gst t (ys.take k) = (y, f) by rw [← hf, ← hy])
    rw [hf, hy] at HX
    clear hx hf hy
    have HN := Lib.hid (BoxA.new W x)
    simp only [encV, vA]
    gi_wp2
    refine ⟨RStep.of_below (al1 W _), ?_⟩
    rintro W2 hW2 _
    have HX2 := Lib.hid ((HX.out.up (al1 W (.cells #[.int .i64 x.no, .int .i64 x.at_, .int .i64 x.known, .int .i64 x.key, .int .i64 x.value, .bool x.gone] 27))).istep (by omega) hW2)
    have HB := Lib.hid (show BoxA W2 W.heap.size x from hW2.block _ _ HN.out (.inl rfl))
    have HT2 := Lib.hid (show W2.cell? ⟨ba, 0, none⟩ = some (.int .i64 t) from (World.cell?_of_block (HX2.out.block ba lba)).trans TA.out)
    clear hW2 HN
    have kc := HX2.out.kb.cell
    have q0 := HB.out.c0
    have q1 := HB.out.c1
    have q2 := HB.out.c2
    have q3 := HB.out.c3
    have q4 := HB.out.c4
    have q5 := HB.out.c5
    have hnp2 : ¬ Prot (w.heap.size + 1 + 1) := fun h => by have := hP _ h; omega
    have hnp3 : ¬ Prot (w.heap.size + 1 + 1 + 1) := fun h => by have := hP _ h; omega
    gi_wp2_with (fail)
    cases hd : decide (x.at_ ≤ t)
    · have HE := Lib.hid (show gst t (ys.take (k + 1)) = (y, f) by rw [HS.out, HSS.out]; unfold gstp; rw [hd, Bool.false_and]; rfl)
      refine inCr (val1_is hd ba _ HT2.out) ?_
      rintro e W3 ⟨rfl, hb3⟩
      have HX3 := Lib.hid (HX2.out.up hb3)
      have HB3 := Lib.hid hb3
      clear hb3 kc q0 q1 q2 q3 q4 q5
      gi_wp2_with (fail)
      any_goals (exact absurd ‹some undef = some (Value.bool _)› (by intro h; cases h))
      refine ⟨fun _ h => (by cases h), ?_⟩
      gi_wp2_with (fail)
      refine ⟨RStep.of_below HB3.out, ?_⟩
      dsimp only
      rw [HE.out]
      exact HX3.out
    refine inCr (val1_is hd ba _ HT2.out) ?_
    rintro e W3 ⟨rfl, hb3⟩
    have HX3 := Lib.hid (HX2.out.up hb3)
    have HB3 := Lib.hid hb3
    have HBx := Lib.hid (HB.out.upb hb3)
    clear hb3 kc q0 q1 q2 q3 q4 q5
    have fc := HX3.out.fb.cell
    cases f
    · have HE := Lib.hid (show gst t (ys.take (k + 1)) = (x, true) by rw [HS.out, HSS.out]; unfold gstp; rw [hd]; rfl)
      have ff := HX3.out.fb.frozen
      have q0 := HBx.out.c0
      have q1 := HBx.out.c1
      have q2 := HBx.out.c2
      have q3 := HBx.out.c3
      have q4 := HBx.out.c4
      have q5 := HBx.out.c5
      have p0 := HX3.out.zb.c0
      have p1 := HX3.out.zb.c1
      have p2 := HX3.out.zb.c2
      have p3 := HX3.out.zb.c3
      have p4 := HX3.out.zb.c4
      have p5 := HX3.out.zb.c5
      have z0 := HX3.out.zb.frozen 0
      have z1 := HX3.out.zb.frozen 1
      have z2 := HX3.out.zb.frozen 2
      have z3 := HX3.out.zb.frozen 3
      have z4 := HX3.out.zb.frozen 4
      have z5 := HX3.out.zb.frozen 5
      have l2 := HX3.out.zb.lt
      have l3 := HX3.out.fb.lt
      gi_wp2_with (fail)
      refine ⟨fun _ h => (by cases h), ?_⟩
      gi_wp2_with (fail)
      have HF := Lib.hid (HX3.out.store x true)
      have HRS := Lib.hid (((RStep.of_below HB3.out).trans (RStep.setA W3 (w.heap.size + 1 + 1) x hnp2)).trans (RStep.setCell (B := WL.heap.size) (Pr := Prot) _ ⟨w.heap.size + 1 + 1 + 1, 0, none⟩ (.bool true) hnp3))
      unfold setA at HF HRS
      refine ⟨HRS.out, ?_⟩
      dsimp only
      rw [HE.out]
      exact HF.out
    · obtain ⟨c, hc⟩ : ∃ c, cfAt y x = c := ⟨_, rfl⟩
      have HC := Lib.hid (fun W => byAt_is hc W)
      have oc := HX3.out.ob.cell
      have q0 := HBx.out.c0
      have q1 := HBx.out.c1
      have q2 := HBx.out.c2
      have q3 := HBx.out.c3
      have q4 := HBx.out.c4
      have q5 := HBx.out.c5
      have p0 := HX3.out.zb.c0
      have p1 := HX3.out.zb.c1
      have p2 := HX3.out.zb.c2
      have p3 := HX3.out.zb.c3
      have p4 := HX3.out.zb.c4
      have p5 := HX3.out.zb.c5
      gi_wp2_with (fail)
      refine inCr (HC.out _) ?_
      rintro e W5 ⟨rfl, hb5⟩
      have HX5 := Lib.hid (HX3.out.up hb5)
      have HB5 := Lib.hid (HB3.out.up hb5)
      have HBy := Lib.hid (HBx.out.upb hb5)
      clear hb5 oc fc q0 q1 q2 q3 q4 q5 p0 p1 p2 p3 p4 p5 HC
      cases hn : decide (c < 0)
      · have HE := Lib.hid (show gst t (ys.take (k + 1)) = (y, true) by rw [HS.out, HSS.out]; unfold gstp; simp only [hd, hc, hn]; rfl)
        clear hc
        gi_wp2_with (fail)
        refine ⟨RStep.of_below HB5.out, ?_⟩
        dsimp only
        rw [HE.out]
        exact HX5.out
      · have HE := Lib.hid (show gst t (ys.take (k + 1)) = (x, true) by rw [HS.out, HSS.out]; unfold gstp; simp only [hd, hc, hn]; rfl)
        clear hc
        have ff := HX5.out.fb.frozen
        have fc := HX5.out.fb.cell
        have q0 := HBy.out.c0
        have q1 := HBy.out.c1
        have q2 := HBy.out.c2
        have q3 := HBy.out.c3
        have q4 := HBy.out.c4
        have q5 := HBy.out.c5
        have p0 := HX5.out.zb.c0
        have p1 := HX5.out.zb.c1
        have p2 := HX5.out.zb.c2
        have p3 := HX5.out.zb.c3
        have p4 := HX5.out.zb.c4
        have p5 := HX5.out.zb.c5
        have z0 := HX5.out.zb.frozen 0
        have z1 := HX5.out.zb.frozen 1
        have z2 := HX5.out.zb.frozen 2
        have z3 := HX5.out.zb.frozen 3
        have z4 := HX5.out.zb.frozen 4
        have z5 := HX5.out.zb.frozen 5
        have l2 := HX5.out.zb.lt
        have l3 := HX5.out.fb.lt
        gi_wp2_with (fail)
        have HF := Lib.hid (HX5.out.store x true)
        have HRS := Lib.hid (((RStep.of_below HB5.out).trans (RStep.setA W5 (w.heap.size + 1 + 1) x hnp2)).trans (RStep.setCell (B := WL.heap.size) (Pr := Prot) _ ⟨w.heap.size + 1 + 1 + 1, 0, none⟩ (.bool true) hnp3))
        unfold setA at HF HRS
        refine ⟨HRS.out, ?_⟩
        dsimp only
        rw [HE.out]
        exact HF.out
  case hstop => rintro D c k W _ _ h; exact h.elim
  case hdone =>
    rintro D W hD HX hDm
    rw [List.take_length] at HX
    obtain ⟨y, hy⟩ : ∃ y, (gst t ys).1 = y := ⟨_, rfl⟩
    obtain ⟨f, hf⟩ : ∃ y, (gst t ys).2 = y := ⟨_, rfl⟩
    have HE := Lib.hid (show gst t ys = (y, f) by rw [← hy, ← hf])
    rw [hy, hf] at HX
    clear hy hf hX0 hit
    have p0 := HX.out.zb.c0
    have p1 := HX.out.zb.c1
    have p2 := HX.out.zb.c2
    have p3 := HX.out.zb.c3
    have p4 := HX.out.zb.c4
    have p5 := HX.out.zb.c5
    have z0 := HX.out.zb.frozen 0
    have z1 := HX.out.zb.frozen 1
    have z2 := HX.out.zb.frozen 2
    have z3 := HX.out.zb.frozen 3
    have z4 := HX.out.zb.frozen 4
    have z5 := HX.out.zb.frozen 5
    have fc := HX.out.fb.cell
    have ff := HX.out.fb.frozen
    have l2 := HX.out.zb.lt
    have l3 := HX.out.fb.lt
    gi_wp2_with (fail)
    refine wpIn_wide.2 ?_
    go_region
    rename_i KK hKK
    refine hKK _ _ ?_
    clear hKK KK
    have HG0 := HX.out.store y f
    have HDm1 : ((setA W (w.heap.size + 1 + 1) y).setCell ⟨w.heap.size + 1 + 1 + 1, 0, none⟩ (.bool f)).heap[D]? = some (.deferred (some [])) := by
      rw [Below.heap_setCell (setA W (w.heap.size + 1 + 1) y) ⟨w.heap.size + 1 + 1 + 1, 0, none⟩ (.bool f) D (by show D ≠ w.heap.size + 1 + 1 + 1; omega), setA_other W (w.heap.size + 1 + 1) y (b := D) (by omega)]
      exact hDm
    obtain ⟨Y, hY⟩ : ∃ Y, (setA W (w.heap.size + 1 + 1) y).setCell ⟨w.heap.size + 1 + 1 + 1, 0, none⟩ (.bool f) = Y := ⟨_, rfl⟩
    rw [hY] at HG0 HDm1
    have HG := Lib.hid HG0
    have HDm := Lib.hid HDm1
    unfold setA at hY
    rw [hY]
    clear p0 p1 p2 p3 p4 p5 z0 z1 z2 z3 z4 z5 fc ff l2 l3 hDm HX hY HG0 HDm1
    gi_wp2_with (fail)
    refine leaves_marks _ _ (lo := w.heap.size) ⟨D, rfl, by omega, (show Y.drew.heap[D]? = some (.deferred (some [])) from HDm.out), by simp, trivial⟩ ?_
    rintro W' o1 o2 o3 o4 o5
    have HG' := Lib.hid ((HG.out.drewN 1).istep (Nat.le_refl _) (istep_marks o1 o2 o3 o4 o5))
    clear o1 o2 o3 o4 o5 HG HDm
    have p0 := HG'.out.zb.c0
    have p1 := HG'.out.zb.c1
    have p2 := HG'.out.zb.c2
    have p3 := HG'.out.zb.c3
    have p4 := HG'.out.zb.c4
    have p5 := HG'.out.zb.c5
    have fc := HG'.out.fb.cell
    exact ⟨.tuple #[.agg #[.int .i64 y.no, .int .i64 y.at_, .int .i64 y.known, .int .i64 y.key, .int .i64 y.value, .bool y.gone], .bool f], by simp [results, Try.results30, go_sem, p0, p1, p2, p3, p4, p5, fc], .of HE.out HG'.out.bel⟩
end Go.Proofs.Ytcifhigeieoogaa
