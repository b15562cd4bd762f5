/- Walk of Withdrawn. -/
import Derived.Test.YtofllhbcediafaaW7
namespace Go.Proofs.Ytofllhbcediafaa
open Go.RowKit
set_option linter.unusedVariables false
attribute [local go_sem] Oper.semAt_some

theorem lostW_len (i : Nat) (t : Int) (x : List Pl.Life) : (Pl.lostW i t x).length ≤ x.length := by
  induction x with
  | nil => simp [Pl.lostW]
  | cons y r ih =>
    simp only [Pl.lostW, List.length_cons]
    split
    · simp only [List.length_cons]; omega
    · omega
theorem lostF_len (i : Nat) (l : List (List Pl.Life)) (s : List Int) (h : ∀ k (h : k < l.length), l[k].length ≤ 16) : (Pl.lostF i l s).length ≤ 16 * l.length := by
  induction l generalizing i s with
  | nil => simp [Pl.lostF]
  | cons x l ih =>
    have h0 := h 0 (by simp)
    have h1 := ih (i + 1) s.tail (fun k hk => by have := h (k + 1) (by simpa using hk); simpa using this)
    have h2 := lostW_len i (s.headD 0) x
    simp only [Pl.lostF, List.length_append, List.length_cons]
    simp only [List.getElem_cons_zero] at h0
    omega

theorem wd_end {w W : World} {k : Int} {D : Nat} {tmps : Array Value} {fn : Func} (hres : fn.results = #[.cell 6 3, .cell 7 26]) (t6 : tmps.getD 6 undef = .pointer (some ⟨w.heap.size, 0, none⟩)) (t7 : tmps.getD 7 undef = .pointer (some ⟨w.heap.size + 1, 0, none⟩))
    (h1 : Boxed W w.heap.size 3 (.int .i64 k)) (h2 : Boxed W (w.heap.size + 1) 26 (.int .i64 0)) (h5 : Below w.heap.size w W) (hD : w.heap.size ≤ D) (hK : W.heap[D]? = some (.deferred (some []))) (R : Ending → World → Prop)
    (hR : ∀ w', Below w.heap.size w w' → R (.returned (.tuple #[.int .i64 k, .int .i64 0])) w') :
    bodyPostM Fence.wide 0 Try.prog fn R .ret { tmps := tmps, defers := [{ target := .collected D, args := #[] }, { target := .fn (.func 23) #[], args := #[.pointer (some ⟨w.heap.size + 1, 0, none⟩)] }] }
      ((W.setCell ⟨w.heap.size, 0, none⟩ (.int .i64 k)).setCell ⟨w.heap.size + 1, 0, none⟩ (.int .i64 0)) := by
  have a1 := (h1.set (.int .i64 k)).other (B' := w.heap.size + 1) (by omega) (.int .i64 0)
  have a2 := (h2.other (B' := w.heap.size) (by omega) (.int .i64 k)).set (.int .i64 0)
  have a5 : Below w.heap.size w ((W.setCell ⟨w.heap.size, 0, none⟩ (.int .i64 k)).setCell ⟨w.heap.size + 1, 0, none⟩ (.int .i64 0)) :=
    (h5.setCell (p := ⟨w.heap.size, 0, none⟩) (Nat.le_refl _) _).setCell (by show w.heap.size ≤ w.heap.size + 1; omega) _
  have aK : ((W.setCell ⟨w.heap.size, 0, none⟩ (.int .i64 k)).setCell ⟨w.heap.size + 1, 0, none⟩ (.int .i64 0)).heap[D]? = some (.deferred (some [])) :=
    (KeepsOthers.setCell _ _ _).same D _ ((KeepsOthers.setCell _ _ _).same D _ hK rfl) rfl
  generalize ((W.setCell ⟨w.heap.size, 0, none⟩ (.int .i64 k)).setCell ⟨w.heap.size + 1, 0, none⟩ (.int .i64 0)) = W' at *
  refine leavesM_mark (by simp) aK ?_
  have hs : IStep w.heap.size W' (W'.putObj D (.deferred none)) := IStep.putObj _ hD aK rfl
  have hc1 := (hs.boxed a1).cell
  have hc2 := (hs.boxed a2).cell
  refine leavesM_fn (f := 23) (args := #[.pointer (some ⟨w.heap.size + 1, 0, none⟩)]) (by simp) (by simp [go_sem]) ?_
  refine (caughtIn_idle _ _).mono ?_
  rintro e u' w2 ⟨rfl, rfl, rfl⟩
  have t6' : tmps[6]?.getD undef = .pointer (some ⟨w.heap.size, 0, none⟩) := by rw [← t6]; simp
  have t7' : tmps[7]?.getD undef = .pointer (some ⟨w.heap.size + 1, 0, none⟩) := by rw [← t7]; simp
  exact ⟨.tuple #[.int .i64 k, .int .i64 0], by simp [results, hres, go_sem, t6', t7', hc1, hc2], hR _ (takes_below hD aK a5)⟩

set_option maxHeartbeats 1000000 in
theorem Withdrawn_any (v u x : Value) (l : List (List Pl.Life)) (ds s : List Int) (w : World) (hv : IsWords w v l) (hu : IsInts w u ds) (hx : IsInts w x s) (hl : l.length ≤ 9223372036854775807) (hl2 : ds.length ≤ 9223372036854775807) (hl3 : s.length ≤ 9223372036854775807) :
    Calls Try.prog 18 #[v, u, x] w fun e w' => e = .returned (.tuple #[.int .i64 (wdN l ds s), .int .i64 (wdE l ds s)]) ∧ Below w.heap.size w w' := by
  have HV := Lib.hid hv
  have HU := Lib.hid hu
  have HX := Lib.hid hx
  obtain ⟨A, cap, vs, rfl, hlen, hr, hvs⟩ := hv
  obtain ⟨A2, cap2, rfl, hr2⟩ := hu
  obtain ⟨A3, cap3, rfl, hr3⟩ := hx
  clear hr hvs hlen hr2 hr3
  have hb0 : Below w.heap.size w ((w.alloc (.cells #[.int .i64 0] 3)).alloc (.cells #[.int .i64 0] 26)) := ((Below.refl _ w).alloc (Nat.le_refl _) _).alloc (by simp) _
  have hz1 : Boxed ((w.alloc (.cells #[.int .i64 0] 3)).alloc (.cells #[.int .i64 0] 26)) w.heap.size 3 (.int .i64 0) := (Boxed.new w 3 _).alloc _
  have hz2 : Boxed ((w.alloc (.cells #[.int .i64 0] 3)).alloc (.cells #[.int .i64 0] 26)) (w.heap.size + 1) 26 (.int .i64 0) := by
    have := Boxed.new (w.alloc (.cells #[.int .i64 0] 3)) 26 (.int .i64 0)
    simpa using this
  refine (callsIn_wide (n := 0)).1 ?_
  refine callsIn_of_wp_marks Try.func18 rfl trivial ?_ rfl
  simp only [Try.ntmps18, List.size_toArray, List.length_cons, List.length_nil, Nat.reduceAdd, Nat.reduceSub, Array.replicate_succ, Array.replicate_zero, List.push_toArray, List.append_toArray, List.nil_append, List.cons_append]
  gi_wp2_with (fail)
  refine inC (check_any _ _ l ds _ (HV.out.below hb0) (HU.out.below hb0) hl hl2) ?_
  rintro e w1 ⟨rfl, hb1⟩
  replace hz1 := boxed_below hz1 hb1
  replace hz2 := boxed_below hz2 hb1
  replace hb1 : Below w.heap.size w w1 := hb0.trans (hb1.mono hb0.size)
  clear hb0
  by_cases he : Pl.err l ds = 0
  · have HE := Lib.hid he
    have HRt := Lib.hid (right_of he)
    rw [endE_0 he]
    clear he
    gi_wp2_with (fail)
    refine inC (inTime_any _ _ _ l ds s _ (HV.out.below hb1) (HU.out.below hb1) (HX.out.below hb1) HRt.out hl3) ?_
    rintro e w2 ⟨rfl, hb2⟩
    replace hz1 := boxed_below hz1 hb2
    replace hz2 := boxed_below hz2 hb2
    replace hb1 : Below w.heap.size w w2 := hb1.up hb2
    clear hb2
    cases hi : Pl.inTime l ds s
    · have HW := Lib.hid (show wdE l ds s = 500 by simp [wdE, HE.out, hi])
      gi_wp2_with (fail)
      refine inC (need_no _ _) ?_
      rintro e w3 ⟨rfl, rfl⟩
      gi_wp2_with (fail)
      refine wd_bad rfl rfl rfl hz1 hz2 hb1 _ ⟨?_, hb1.setCell (by show w.heap.size ≤ w.heap.size + 1; omega) _⟩
      simp [wdN, HW.out]
    · have HW := Lib.hid (show wdE l ds s = 0 by simp [wdE, HE.out, hi])
      have HWN := Lib.hid (show wdN l ds s = (Pl.lostF 0 l s).length by simp [wdN, HW.out, Pl.withdrawn])
      have hsl : s.length = l.length := by simp [Pl.inTime] at hi; exact hi.1
      have hfew := HRt.out.few
      have hll := lostF_len 0 l s HRt.out.most
      have HSL := Lib.hid hsl
      clear hsl
      gi_wp2_with (fail)
      refine inC (need_yes _ _) ?_
      rintro e w3 ⟨rfl, rfl⟩
      gi_wp2_with (fail)
      refine inC (lost_any _ _ _ ⟨_, _, _, rfl⟩ ⟨_, _, _, rfl⟩) ?_
      rintro e w4 ⟨rfl, rfl⟩
      gi_wp2_with (fail)
      have hB3 : Below w2.heap.size w2 ((w2.alloc (.cells #[.slice A l.length cap] 22)).alloc (.cells #[.slice A3 s.length cap3] 23)) := ((Below.refl _ w2).alloc (Nat.le_refl _) _).alloc (by simp) _
      have hx1 : Boxed ((w2.alloc (.cells #[.slice A l.length cap] 22)).alloc (.cells #[.slice A3 s.length cap3] 23)) w2.heap.size 22 (.slice A l.length cap) := (Boxed.new w2 22 _).alloc _
      have hx2 : Boxed ((w2.alloc (.cells #[.slice A l.length cap] 22)).alloc (.cells #[.slice A3 s.length cap3] 23)) (w2.heap.size + 1) 23 (.slice A3 s.length cap3) := by
        have := Boxed.new (w2.alloc (.cells #[.slice A l.length cap] 22)) 23 (.slice A3 s.length cap3)
        simpa using this
      obtain ⟨wL, hwL⟩ : ∃ wL, ((w2.alloc (.cells #[.slice A l.length cap] 22)).alloc (.cells #[.slice A3 s.length cap3] 23)) = wL := ⟨_, rfl⟩
      rw [hwL] at hB3 hx1 hx2 ⊢
      have hsz : w2.heap.size + 2 ≤ wL.heap.size := by rw [← hwL]; simp
      clear hwL
      have hbwL : Below w.heap.size w wL := hb1.up hB3
      have hy1 := boxed_below hz1 hB3
      have hy2 := boxed_below hz2 hB3
      have hw2 : w.heap.size + 1 < w2.heap.size := hz2.lt
      clear hz1 hz2 hb1 hB3
      refine rf_outer (Pl.lostF 0 l s) (protL w2.heap.size (w2.heap.size + 1) w.heap.size)
        (fun k W => Boxed W w.heap.size 3 (.int .i64 k) ∧ Boxed W (w.heap.size + 1) 26 (.int .i64 0) ∧ Below w.heap.size w W)
        (fun _ _ _ => False)
        (enc := fun i : Nat => #[.int .i64 i]) rfl (enters_of Try.func36 (by kernel_rfl) rfl) (fun _ => rfl) ?hP ?hit ?hI ?hIx ?h0 ?hround ?hdone ?hstop
      case hP => rintro b (rfl | rfl | hb) <;> omega
      case hit =>
        intro W hW
        exact lost1_iter _ _ A A3 cap cap3 l s w W (boxed_below hx1 hW).cell (boxed_below hx2 hW).cell HV.out HX.out (hbwL.up hW) hfew HSL.out HRt.out.most
      case hI =>
        rintro k X Y ⟨h1, h2, h5⟩ hs
        exact ⟨hs.boxed h1, hs.boxed h2, h5.trans (hs.below hbwL.size h5.size)⟩
      case hIx =>
        rintro c k X Y h hs
        exact h
      case h0 => exact ⟨by simpa using hy1, hy2, hbwL⟩
      case hround =>
        rintro la k hk W hla ⟨h1, h2, h5⟩
        gi_wp2
        refine ⟨RStep.refl _ _ _, ?_⟩
        rintro W2 hW2 _
        replace h1 := hW2.boxed h1
        replace h2 := hW2.boxed h2
        replace h5 := h5.trans (hW2.below hbwL.size h5.size)
        have hc := h1.cell
        have hf := h1.frozen
        gi_wp2
        refine ⟨RStep.setCell _ _ _ ?_, ?_, h2.other (by omega) _, h5.setCell (Nat.le_refl _) _⟩
        · rintro (h | h | h) <;> simp at h <;> omega
        · have := h1.set (.int .i64 ((k : Int) + 1))
          rw [show (((k + 1 : Nat) : Int)) = (k : Int) + 1 by omega]
          exact this
      case hdone =>
        rintro D W hD ⟨h1, h2, h5⟩ hK
        have hc1 := h1.cell
        have hf1 := h1.frozen
        have hc2 := h2.cell
        have hf2 := h2.frozen
        gi_wp2
        refine wd_end rfl rfl rfl h1 h2 h5 (Nat.le_trans hbwL.size hD) hK _ (fun w' hb => ⟨?_, hb⟩)
        rw [HW.out, HWN.out]
      case hstop =>
        rintro D c k W hD hle h hK
        exact h.elim
  · have HW := Lib.hid (show wdE l ds s = Pl.err l ds by simp [wdE, he])
    rw [show endE (Pl.err l ds) = .panicked (bad (Pl.err l ds)) by simp [endE, he]]
    gi_wp2_with (fail)
    refine wd_bad rfl rfl rfl hz1 hz2 hb1 _ ⟨?_, hb1.setCell (by show w.heap.size ≤ w.heap.size + 1; omega) _⟩
    simp [wdN, HW.out, he]

end Go.Proofs.Ytofllhbcediafaa
