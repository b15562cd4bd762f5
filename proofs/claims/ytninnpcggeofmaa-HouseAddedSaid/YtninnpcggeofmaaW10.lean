/- Walk of extreme: a range over whatever iterator of decisions. -/
import Derived.Test.YtninnpcggeofmaaW9
import Derived.Test.YtninnpcggeofmaaIterS
namespace Go.Proofs.Ytninnpcggeofmaa
open Go.RowKit
set_option linter.unusedVariables false
set_option linter.unusedSimpArgs false
attribute [local go_sem] frozen_new Oper.semAt_some

def stp (ord : Int) (s : Bool × Int) (h : Hh) : Bool × Int := if s.1 = false ∨ cmpI h.no s.2 = ord then (true, h.no) else s
def extS (ord z0 : Int) (ys : List Hh) : Bool × Int := ys.foldl (stp ord) (false, z0)
def extN (ord z0 : Int) (ys : List Hh) : Int := (extS ord z0 ys).2
theorem extS_snoc (ord z0 : Int) (ys : List Hh) (k : Nat) (h : k < ys.length) : extS ord z0 (ys.take (k + 1)) = stp ord (extS ord z0 (ys.take k)) ys[k] := by
  unfold extS; rw [List.take_succ_eq_append_getElem h, List.foldl_append]; rfl
/-- the boxes of extreme -/
structure Xt (w X : World) (ord z : Int) (f : Bool) : Prop where
  os : X.os = w.os
  tape : X.tape = w.tape
  output : X.output = w.output
  size : w.heap.size + 1 + 1 + 1 + 1 ≤ X.heap.size
  block : ∀ b, b < w.heap.size → X.heap[b]? = w.heap[b]?
  kb : Boxed X w.heap.size 81 (.func (.func 56) #[] #[])
  ob : Boxed X (w.heap.size + 1) 3 (.int .i64 ord)
  zb : Boxed X (w.heap.size + 1 + 1) 3 (.int .i64 z)
  fb : Boxed X (w.heap.size + 1 + 1 + 1) 4 (.bool f)
theorem Xt.up {w X Y : World} {ord z : Int} {f : Bool} (h : Xt w X ord z f) (hb : Below X.heap.size X Y) : Xt w Y ord z f :=
  ⟨hb.os.trans h.os, hb.tape.trans h.tape, hb.output.trans h.output, Nat.le_trans h.size hb.size, fun b hlt => (hb.block b (by have := h.size; omega)).trans (h.block b hlt), boxed_below h.kb hb, boxed_below h.ob hb, boxed_below h.zb hb, boxed_below h.fb hb⟩
theorem Xt.istep {w X Y : World} {ord z : Int} {f : Bool} {B : Nat} (h : Xt w X ord z f) (hB : w.heap.size ≤ B) (hs : IStep B X Y) : Xt w Y ord z f :=
  ⟨hs.os.trans h.os, hs.tape.trans h.tape, hs.output.trans h.output, Nat.le_trans h.size hs.size, fun b hlt => by
    have h1 : b < X.heap.size := by have := h.size; omega
    rw [← h.block b hlt, Array.getElem?_eq_getElem h1]
    exact hs.block b _ (Array.getElem?_eq_getElem h1) (.inr (by omega)), hs.boxed h.kb, hs.boxed h.ob, hs.boxed h.zb, hs.boxed h.fb⟩
theorem Xt.store {w X : World} {ord z : Int} {f : Bool} (h : Xt w X ord z f) (y : Int) : Xt w ((X.setCell ⟨w.heap.size + 1 + 1, 0, none⟩ (.int .i64 y)).setCell ⟨w.heap.size + 1 + 1 + 1, 0, none⟩ (.bool true)) ord y true := by
  refine ⟨h.os, h.tape, h.output, by have := h.size; simpa [World.setCell] using this, fun b hlt => ?_, ?_, ?_, ?_, ?_⟩
  · rw [← h.block b hlt]
    exact (Below.heap_setCell (X.setCell ⟨w.heap.size + 1 + 1, 0, none⟩ (.int .i64 y)) ⟨w.heap.size + 1 + 1 + 1, 0, none⟩ (.bool true) b (by show b ≠ w.heap.size + 1 + 1 + 1; omega)).trans (Below.heap_setCell X ⟨w.heap.size + 1 + 1, 0, none⟩ (.int .i64 y) b (by show b ≠ w.heap.size + 1 + 1; omega))
  · exact (h.kb.other (B' := w.heap.size + 1 + 1) (by omega) _).other (B' := w.heap.size + 1 + 1 + 1) (by omega) _
  · exact (h.ob.other (B' := w.heap.size + 1 + 1) (by omega) _).other (B' := w.heap.size + 1 + 1 + 1) (by omega) _
  · exact (h.zb.set _).other (B' := w.heap.size + 1 + 1 + 1) (by omega) _
  · exact (h.fb.other (B' := w.heap.size + 1 + 1) (by omega) _).set _
theorem Xt.drewN {w X : World} {ord z : Int} {f : Bool} (h : Xt w X ord z f) (n : Nat) : Xt w (X.drewN n) ord z f := ⟨h.os, h.tape, h.output, h.size, h.block, h.kb, h.ob, h.zb, h.fb⟩
theorem Xt.bel {w X : World} {ord z : Int} {f : Bool} (h : Xt w X ord z f) : Below w.heap.size w X := ⟨h.os, h.tape, h.output, by have := h.size; omega, h.block⟩
theorem compare_is {a b c : Int} (h : cmpI a b = c) (w : World) : Calls Try.prog 39 #[.int .i64 a, .int .i64 b] w fun e w' => e = .returned (.int .i64 c) ∧ w = w' := by subst h; exact compare_any a b w

set_option maxHeartbeats 4000000 in
set_option maxRecDepth 100000 in
theorem extreme_any (gf : Nat) (lb : Array Value) (ys : List Hh) (Prot0 : Nat → Prop) (ord z0 : Int) (w : World) (eg : ∀ args W, (callFunc gf args).run Try.prog W = .ok (.enter gf args) W) (hP : ∀ b, Prot0 b → b < w.heap.size)
    (hit : ∀ W', Below w.heap.size w W' → Iter2 Try.prog gf lb encV ys (fun b => W'.heap.size ≤ b ∨ Prot0 b) W') :
    Calls Try.prog 55 #[.func (.func gf) #[] lb, .func (.func 56) #[] #[], .int .i64 ord, .int .i64 z0] w (IPost (extN ord z0 ys) w) := by
  refine (callsIn_wide (n := 0)).1 ?_
  refine callsIn_of_wp_marks Try.func55 rfl trivial ?_ rfl
  simp only [Try.ntmps55, List.size_toArray, List.length_cons, List.length_nil, Nat.reduceAdd, Nat.reduceSub, Array.replicate_succ, Array.replicate_zero, List.push_toArray, List.append_toArray, List.nil_append, List.cons_append]
  gi_wp2_with (fail)
  have hX0 : Xt w ((((w.alloc (.cells #[.func (.func 56) #[] #[]] 81)).alloc (.cells #[.int .i64 ord] 3)).alloc (.cells #[.int .i64 z0] 3)).alloc (.cells #[.bool false] 4)) ord z0 false := by
    have a1 := Boxed.new w 81 (.func (.func 56) #[] #[])
    have a2 := Boxed.new (w.alloc (.cells #[.func (.func 56) #[] #[]] 81)) 3 (.int .i64 ord)
    have a3 := Boxed.new ((w.alloc (.cells #[.func (.func 56) #[] #[]] 81)).alloc (.cells #[.int .i64 ord] 3)) 3 (.int .i64 z0)
    have a4 := Boxed.new (((w.alloc (.cells #[.func (.func 56) #[] #[]] 81)).alloc (.cells #[.int .i64 ord] 3)).alloc (.cells #[.int .i64 z0] 3)) 4 (.bool false)
    simp only [World.size_alloc] at a2 a3 a4
    exact ⟨rfl, rfl, rfl, by simp, fun b hlt => ((((al1 w _).up (al1 _ _)).up (al1 _ _)).up (al1 _ _)).block b hlt, ((a1.alloc _).alloc _).alloc _, (a2.alloc _).alloc _, a3.alloc _, a4⟩
  have hsz : ((((w.alloc (.cells #[.func (.func 56) #[] #[]] 81)).alloc (.cells #[.int .i64 ord] 3)).alloc (.cells #[.int .i64 z0] 3)).alloc (.cells #[.bool false] 4)).heap.size = w.heap.size + 1 + 1 + 1 + 1 := by simp
  obtain ⟨WL, hWL⟩ : ∃ WL, ((((w.alloc (.cells #[.func (.func 56) #[] #[]] 81)).alloc (.cells #[.int .i64 ord] 3)).alloc (.cells #[.int .i64 z0] 3)).alloc (.cells #[.bool false] 4)) = WL := ⟨_, rfl⟩
  rw [hWL] at hX0 hsz ⊢
  clear hWL
  refine rf_outerS ys (fun b => WL.heap.size ≤ b ∨ Prot0 b) (fun b => WL.heap.size + 2 ≤ b ∨ Prot0 b)
    (fun k X => Hid (Xt w X ord (extS ord z0 (ys.take k)).2 (extS ord z0 (ys.take k)).1)) (fun _ _ _ => False)
    (enc := encV) rfl eg (fun _ => rfl) ?h01 ?hP ?hit ?hI ?hIx ?h0 ?hround ?hdone ?hstop
  case h01 => rintro b (h | h); exact .inl (by omega); exact .inr h
  case hP => rintro b (h | h); exact .inr h; exact .inl (by have := hP b h; omega)
  case hit =>
    intro W hW hs
    rw [← hs]
    exact hit W (hX0.bel.up hW)
  case hI =>
    rintro k X Y h1 hs
    exact h1.out.istep (by omega) hs
  case hIx => rintro c k X Y h hs; exact h
  case h0 => exact hX0
  case hround =>
    rintro la k hk W hla HX
    have HS := Lib.hid (extS_snoc ord z0 ys k hk)
    generalize hx : ys[k] = x at *
    obtain ⟨f, hf⟩ : ∃ f, (extS ord z0 (ys.take k)).1 = f := ⟨_, rfl⟩
    obtain ⟨z, hz⟩ : ∃ z, (extS ord z0 (ys.take k)).2 = z := ⟨_, rfl⟩
    have HSS := Lib.hid (show extS ord z0 (ys.take k) = (f, z) by rw [← hf, ← hz])
    rw [hf, hz] at HX
    clear hx hf hz
    have HN := Lib.hid (BoxH.new W x)
    simp only [encV, vH]
    gi_wp2
    refine ⟨RStep.of_below (al1 W _), ?_⟩
    rintro W2 hW2 _
    have HX2 := Lib.hid ((HX.out.up (al1 W (.cells #[.int .i64 x.no, .int .i64 x.kind, .int .i64 x.spk, .int .i64 x.fst, .int .i64 x.lst, .int .i64 x.lang, .int .i64 x.frm, .int .i64 x.unt, .int .i64 x.known, .int .i64 x.ms] 24))).istep (by omega) hW2)
    have HB := Lib.hid (show BoxH W2 W.heap.size x from hW2.block _ _ HN.out (.inl rfl))
    clear hW2
    have kc := HX2.out.kb.cell
    have q0 := HB.out.c0
    have q1 := HB.out.c1
    have q2 := HB.out.c2
    have q3 := HB.out.c3
    have q4 := HB.out.c4
    have q5 := HB.out.c5
    have q6 := HB.out.c6
    have q7 := HB.out.c7
    have q8 := HB.out.c8
    have q9 := HB.out.c9
    gi_wp2_with (fail)
    refine inCr (noOf_any x _) ?_
    rintro e W3 ⟨rfl, hb3⟩
    have HX3 := Lib.hid (HX2.out.up hb3)
    have HB3 := Lib.hid hb3
    clear hb3 kc q0 q1 q2 q3 q4 q5 q6 q7 q8 q9
    have oc := HX3.out.ob.cell
    have zc := HX3.out.zb.cell
    have zf := HX3.out.zb.frozen
    have fc := HX3.out.fb.cell
    have ff := HX3.out.fb.frozen
    have hmix : Try.prog.follows .mixedOrders = true := by kernel_rfl
    have hnp2 : ¬ (WL.heap.size ≤ w.heap.size + 1 + 1 ∨ Prot0 (w.heap.size + 1 + 1)) := by rintro (h | h); omega; have := hP _ h; omega
    have hnp3 : ¬ (WL.heap.size ≤ w.heap.size + 1 + 1 + 1 ∨ Prot0 (w.heap.size + 1 + 1 + 1)) := by rintro (h | h); omega; have := hP _ h; omega
    gi_wp2_with (fail)
    cases f
    · have HE := Lib.hid (show extS ord z0 (ys.take (k + 1)) = (true, x.no) by rw [HS.out, HSS.out]; simp [stp])
      refine wpIn_round_quiet hmix (by kernel_rfl) (by simp) (fun _ _ h => h) ?_
      repeat (go_big_quiet_step (fail))
      rintro w' ⟨nq, rfl⟩
      have HX4 := Lib.hid (HX3.out.drewN nq)
      have zc' := HX4.out.zb.cell
      have zf' := HX4.out.zb.frozen
      have fc' := HX4.out.fb.cell
      have ff' := HX4.out.fb.frozen
      have fc2 := (HX4.out.fb.other (B' := w.heap.size + 1 + 1) (by omega) (.int .i64 x.no)).cell
      have ff2 := (HX4.out.fb.other (B' := w.heap.size + 1 + 1) (by omega) (.int .i64 x.no)).frozen
      gi_wp2_with (fail)
      refine ⟨(RStep.of_below (HB3.out)).trans (RStep.trans (Y := W3.drewN nq) ⟨rfl, rfl, rfl, Nat.le_refl _, fun _ _ h _ => h⟩ ((RStep.setCell _ _ _ hnp2).trans (RStep.setCell _ _ _ hnp3))), ?_⟩
      dsimp only
      rw [HE.out]
      exact HX4.out.store x.no
    · obtain ⟨c, hc⟩ : ∃ c, cmpI x.no z = c := ⟨_, rfl⟩
      have HC := Lib.hid hc
      clear hc
      by_cases hco : c = ord
      · have hcd : (c == ord) = true := by rw [beq_iff_eq]; exact hco
        have HE := Lib.hid (show extS ord z0 (ys.take (k + 1)) = (true, x.no) by rw [HS.out, HSS.out]; simp [stp, HC.out, hco])
        clear hco
        refine wpIn_round_quiet hmix (by kernel_rfl) (by simp) (fun _ _ h => h) ?_
        repeat (go_big_quiet_step (exact quiet_left (compare_is HC.out _)))
        rintro w' ⟨nq, rfl⟩
        have HX4 := Lib.hid (HX3.out.drewN nq)
        have zc' := HX4.out.zb.cell
        have zf' := HX4.out.zb.frozen
        have fc' := HX4.out.fb.cell
        have ff' := HX4.out.fb.frozen
        have fc2 := (HX4.out.fb.other (B' := w.heap.size + 1 + 1) (by omega) (.int .i64 x.no)).cell
        have ff2 := (HX4.out.fb.other (B' := w.heap.size + 1 + 1) (by omega) (.int .i64 x.no)).frozen
        gi_wp2_with (fail)
        refine ⟨(RStep.of_below (HB3.out)).trans (RStep.trans (Y := W3.drewN nq) ⟨rfl, rfl, rfl, Nat.le_refl _, fun _ _ h _ => h⟩ ((RStep.setCell _ _ _ hnp2).trans (RStep.setCell _ _ _ hnp3))), ?_⟩
        dsimp only
        rw [HE.out]
        exact HX4.out.store x.no
      · have hcd : (c == ord) = false := by rw [beq_eq_false_iff_ne]; exact hco
        have HE := Lib.hid (show extS ord z0 (ys.take (k + 1)) = (true, z) by rw [HS.out, HSS.out]; simp [stp, HC.out, hco])
        clear hco
        refine wpIn_round_quiet hmix (by kernel_rfl) (by simp) (fun _ _ h => h) ?_
        repeat (go_big_quiet_step (exact quiet_left (compare_is HC.out _)))
        rintro w' ⟨nq, rfl⟩
        gi_wp2_with (fail)
        refine ⟨(RStep.of_below (HB3.out)).trans (Y := W3) ⟨rfl, rfl, rfl, Nat.le_refl _, fun _ _ h _ => h⟩, ?_⟩
        dsimp only
        rw [HE.out]
        exact HX3.out.drewN nq
  case hstop => rintro D c k W _ _ h; exact h.elim
  case hdone =>
    rintro D W hD HX hDm
    rw [List.take_length] at HX
    have HR := Lib.hid (show (extS ord z0 ys).2 = extN ord z0 ys from rfl)
    rw [HR.out] at HX
    have zc := HX.out.zb.cell
    gi_wp2_with (fail)
    refine leaves_marks _ _ (lo := w.heap.size) ⟨D, rfl, by omega, hDm, by simp, trivial⟩ ?_
    rintro W' o1 o2 o3 o4 o5
    have hB := HX.out.bel
    refine ⟨_, results_tmp rfl _ _ _, rfl, o1.trans hB.os, o2.trans hB.tape, o3.trans hB.output, by rw [o4]; exact hB.size, fun b hb => ?_⟩
    have h2 : b < W.heap.size := Nat.lt_of_lt_of_le hb hB.size
    rw [o5 b _ (Array.getElem?_eq_getElem h2) (.inr hb), ← Array.getElem?_eq_getElem h2]
    exact hB.block b hb

end Go.Proofs.Ytninnpcggeofmaa
