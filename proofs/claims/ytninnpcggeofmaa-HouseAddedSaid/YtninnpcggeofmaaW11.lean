/- Walk of kept: an iterator that ranges over another one. -/
import Derived.Test.YtninnpcggeofmaaW10
namespace Go.Proofs.Ytninnpcggeofmaa
open Go.RowKit
set_option linter.unusedVariables false
set_option linter.unusedSimpArgs false
attribute [local go_sem] frozen_new Oper.semAt_some

theorem kept_any (gf : Nat) (lb caps : Array Value) (w : World) : Calls Try.prog 52 #[.func (.func gf) #[] lb, .func (.func 54) #[] caps] w fun e w' => e = .returned (.func (.func 70) #[] #[.pointer (some ⟨w.heap.size, 0, none⟩), .pointer (some ⟨w.heap.size + 1, 0, none⟩)]) ∧
    ((w.alloc (.cells #[.func (.func gf) #[] lb] 65)).alloc (.cells #[.func (.func 54) #[] caps] 39)) = w' := by
  go_enter Try.func52, Try.ntmps52
  go_wp2_with (fail)
  go_ret
  exact ⟨rfl, rfl⟩
theorem roundIn_inRound {P : Program} {lr l : Nat} {f : FuncId} {tmps : Array Value} {assign body : Code} {w : World} {R : Ending → World → Prop} (h : RoundIn Fence.wide 0 P l f tmps assign body w R) : RoundIn (Fence.wide.inRound lr) 0 P l f tmps assign body w R := h
theorem istep_marks {lo : Nat} {X W' : World} (o1 : W'.os = X.os) (o2 : W'.tape = X.tape) (o3 : W'.output = X.output) (o4 : W'.heap.size = X.heap.size) (o5 : ∀ b o, X.heap[b]? = some o → (o.isCells = true ∨ b < lo) → W'.heap[b]? = some o) : IStep lo X W' :=
  ⟨o1, o2, o3, by rw [o4]; exact Nat.le_refl _, o5⟩

set_option maxHeartbeats 4000000 in
set_option maxRecDepth 100000 in
theorem kept_iter (bf bg gf : Nat) (lb : Array Value) (c1 c2 c3 : Value) (ys : List Hh) (p : Hh → Bool) (ProtI Prot0 : Nat → Prop) (W : World) (eg : ∀ args W, (callFunc gf args).run Try.prog W = .ok (.enter gf args) W)
    (tf : W.cell? ⟨bf, 0, none⟩ = some (.func (.func gf) #[] lb)) (tg : W.cell? ⟨bg, 0, none⟩ = some (.func (.func 54) #[] #[c1, c2, c3])) (hbf : Prot0 bf) (hbg : Prot0 bg) (hPI : ∀ b, ProtI b → Prot0 b) (hP : ∀ b, Prot0 b → b < W.heap.size)
    (hit : ∀ W', Below W.heap.size W W' → Iter2 Try.prog gf lb encV ys ProtI W')
    (hok : ∀ x ∈ ys, ∀ W', RStep W.heap.size Prot0 W W' → Calls Try.prog 54 #[vH x, c1, c2, c3] W' (BPost (p x) W')) :
    Iter2 Try.prog 70 #[.pointer (some ⟨bf, 0, none⟩), .pointer (some ⟨bg, 0, none⟩)] encV (ys.filter p) (fun b => W.heap.size ≤ b ∨ Prot0 b) W := by
  intro la J Jx hJ hJx hY h0
  have HY := Lib.hid hY
  have HJ := Lib.hid hJ
  have HJx := Lib.hid hJx
  have HOK := Lib.hid hok
  have lf := cell_lt tf
  have lg := cell_lt tg
  dsimp only at lf lg
  clear hY hJ hJx hok
  refine callsIn_of_wp_marks Try.func70 rfl trivial ?_ rfl
  simp only [Try.ntmps70, List.size_toArray, List.length_cons, List.length_nil, Nat.reduceAdd, Nat.reduceSub, Array.replicate_succ, Array.replicate_zero, List.push_toArray, List.append_toArray, List.nil_append, List.cons_append]
  gi_wp2_with (fail)
  have hbx := Boxed.new W 39 (.func (.yield la) #[] #[])
  have hsz : (W.alloc (.cells #[.func (.yield la) #[] #[]] 39)).heap.size = W.heap.size + 1 := by simp
  have hbel := al1 W (.cells #[.func (.yield la) #[] #[]] 39)
  obtain ⟨WL, hWL⟩ : ∃ WL, W.alloc (.cells #[.func (.yield la) #[] #[]] 39) = WL := ⟨_, rfl⟩
  rw [hWL] at hbx hsz hbel ⊢
  clear hWL
  refine rf_outerS ys ProtI ProtI
    (fun k X => Hid (J ((ys.take k).filter p).length X) ∧ Hid (RStep W.heap.size (fun b => W.heap.size ≤ b ∨ Prot0 b) W X) ∧ Hid (Boxed X W.heap.size 39 (.func (.yield la) #[] #[])))
    (fun c _ X => c = .ret ∧ ∃ m, m ≤ (ys.filter p).length ∧ Jx m X)
    (enc := encV) rfl eg (fun _ => rfl) ?h01 ?hP ?hit ?hI ?hIx ?h0 ?hround ?hdone ?hstop
  case h01 => exact fun b h => h
  case hP => exact fun b h => .inl (by have := hP b (hPI b h); omega)
  case hit => intro X hX _; exact hit X (hbel.up hX)
  case hI =>
    rintro k X Y ⟨h1, h2, h3⟩ hs
    exact ⟨HJ.out _ _ _ h1.out (hs.mono (by omega)), h2.out.istep (by omega) hs, hs.boxed h3.out⟩
  case hIx =>
    rintro c k X Y ⟨h1, m, h2, h3⟩ hs
    exact ⟨h1, m, h2, HJx.out _ _ _ h3 (hs.mono (by omega))⟩
  case h0 => exact ⟨HJ.out _ _ _ h0 (IStep.of_below hbel), RStep.of_below hbel, hbx⟩
  case hround =>
    rintro lr k hk X hlr ⟨h1, h2, h3⟩
    have hmem := List.getElem_mem hk
    have HAT := Lib.hid (fun hp => filter_at p ys k hk hp)
    have HYES := Lib.hid (fun hp => filter_yes p ys k hk hp)
    have HNO := Lib.hid (fun hp => filter_no p ys k hk hp)
    generalize hx : ys[k] = x at *
    clear hx
    have HN := Lib.hid (BoxH.new X x)
    have ha := al1 X (.cells #[.int .i64 x.no, .int .i64 x.kind, .int .i64 x.spk, .int .i64 x.fst, .int .i64 x.lst, .int .i64 x.lang, .int .i64 x.frm, .int .i64 x.unt, .int .i64 x.known, .int .i64 x.ms] 24)
    have HJ1 := Lib.hid (HJ.out _ _ _ h1.out (IStep.of_below ha))
    have HS1 := Lib.hid (h2.out.trans (RStep.of_below ha))
    have HB1 := Lib.hid (boxed_below h3.out ha)
    clear ha h1 h2 h3
    simp only [encV, vH]
    gi_wp2
    refine ⟨RStep.of_below (al1 X _), ?_⟩
    rintro X2 hX2 _
    have HJ2 := Lib.hid (HJ.out _ _ _ HJ1.out (hX2.mono (by omega)))
    have HS2 := Lib.hid (HS1.out.istep (by omega) hX2)
    have HB2 := Lib.hid (hX2.boxed HB1.out)
    have HH := Lib.hid (show BoxH X2 X.heap.size x from hX2.block _ _ HN.out (.inl rfl))
    clear HJ1 HS1 HB1 hX2 HN
    have gc := HS2.out.cell (.inr hbg) tg
    have yc := HB2.out.cell
    have q0 := HH.out.c0
    have q1 := HH.out.c1
    have q2 := HH.out.c2
    have q3 := HH.out.c3
    have q4 := HH.out.c4
    have q5 := HH.out.c5
    have q6 := HH.out.c6
    have q7 := HH.out.c7
    have q8 := HH.out.c8
    have q9 := HH.out.c9
    have HC := Lib.hid (HOK.out x hmem X2 (HS2.out.mono (Nat.le_refl _) (fun b h => .inr h)))
    gi_wp2_with (fail)
    refine inCr HC.out ?_
    rintro e X3 ⟨rfl, hb3⟩
    have HB3 := Lib.hid (boxed_below HB2.out hb3)
    have HS3 := Lib.hid (HS2.out.trans (RStep.of_below hb3))
    have HJ3 := Lib.hid (HJ.out _ _ _ HJ2.out (IStep.of_below hb3))
    have HH3 := Lib.hid (HH.out.upb hb3)
    have HX3 := Lib.hid hb3
    clear hb3 gc yc q0 q1 q2 q3 q4 q5 q6 q7 q8 q9 HC HJ2 HS2 HB2 HH
    cases hp : p x
    · have HF := Lib.hid (HNO.out hp)
      clear hp HNO HYES HAT
      gi_wp2_with (fail)
      refine ⟨fun _ h => (by cases h), ?_⟩
      gi_wp2_with (fail)
      refine ⟨RStep.of_below HX3.out, ?_, HS3, HB3⟩
      rw [HF.out]
      exact HJ3
    · have HF := Lib.hid (HYES.out hp)
      obtain ⟨hlt2, hget⟩ := HAT.out hp
      clear hp HNO HYES HAT
      have yc := HB3.out.cell
      have q0 := HH3.out.c0
      have q1 := HH3.out.c1
      have q2 := HH3.out.c2
      have q3 := HH3.out.c3
      have q4 := HH3.out.c4
      have q5 := HH3.out.c5
      have q6 := HH3.out.c6
      have q7 := HH3.out.c7
      have q8 := HH3.out.c8
      have q9 := HH3.out.c9
      obtain ⟨fn, tmps, assign, body, hy, hR⟩ := HY.out _ hlt2 X3 HJ3.out
      rw [hget] at hy
      simp only [encV, vH] at hy
      have HRr := Lib.hid hR
      clear hR hget
      gi_wp2_with (fail)
      refine ⟨rfl, roundIn_inRound (HRr.out.mono ?_)⟩
      rintro e X4 (⟨rfl, hJ4, hs4⟩ | ⟨rfl, hJx4, hs4⟩)
      · have HJ4 := Lib.hid hJ4
        have HS4 := Lib.hid hs4
        clear hJ4 hs4 yc q0 q1 q2 q3 q4 q5 q6 q7 q8 q9
        gi_wp2_with (fail)
        refine ⟨(RStep.of_below HX3.out).trans (HS4.out.mono (by omega) (fun b h => .inr (hPI b h))), ?_, HS3.out.trans HS4.out, HS4.out.block _ _ HB3.out (.inr (.inl (Nat.le_refl _)))⟩
        rw [HF.out]
        exact HJ4
      · have HJ4 := Lib.hid hJx4
        have HS4 := Lib.hid hs4
        clear hJx4 hs4 yc q0 q1 q2 q3 q4 q5 q6 q7 q8 q9
        gi_wp2_with (fail)
        exact ⟨(RStep.of_below HX3.out).trans (HS4.out.mono (by omega) (fun _ h => h)), rfl, _, hlt2, HJ4.out⟩
  case hstop =>
    rintro D c k X hD hk ⟨rfl, m, hm, hj⟩ hDm
    gi_wp2_with (fail)
    refine leaves_marks _ _ (lo := W.heap.size) ⟨D, rfl, by omega, hDm, by simp, trivial⟩ ?_
    rintro W' o1 o2 o3 o4 o5
    exact ⟨_, results_none rfl _ _ _, ⟨_, rfl⟩, .inr ⟨m, hm, HJx.out _ _ _ hj (istep_marks o1 o2 o3 o4 o5)⟩⟩
  case hdone =>
    rintro D X hD ⟨h1, h2, h3⟩ hDm
    rw [List.take_length] at h1
    gi_wp2_with (fail)
    refine leaves_marks _ _ (lo := W.heap.size) ⟨D, rfl, by omega, hDm, by simp, trivial⟩ ?_
    rintro W' o1 o2 o3 o4 o5
    exact ⟨_, results_none rfl _ _ _, ⟨_, rfl⟩, .inl (HJ.out _ _ _ h1.out (istep_marks o1 o2 o3 o4 o5))⟩

end Go.Proofs.Ytninnpcggeofmaa
