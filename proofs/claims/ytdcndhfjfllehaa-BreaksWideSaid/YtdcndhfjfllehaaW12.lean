/- Walk of Break. -/
import Derived.Test.YtdcndhfjfllehaaW11
namespace Go.Proofs.Ytdcndhfjfllehaa
open Go.RowKit
set_option linter.unusedVariables false
set_option linter.unusedSimpArgs false
attribute [local go_sem] Oper.semAt_some

theorem own_far {W : World} {base : Nat} {v : Value} {xs : List Int} (h : OwnInts W base v xs) (p : Addr) (hp : p.block < base) (u : Value) : OwnInts (W.setCell p u) base v xs := by
  obtain ⟨h0, h | ⟨g, cap, cur, e1, e2, e3, e4⟩⟩ := h
  · exact ⟨h0, .inl h⟩
  · exact ⟨h0, .inr ⟨g, cap, cur, e1, e2, (Below.heap_setCell W p u g (by omega)).trans e3, e4⟩⟩
theorem br_out {n : Nat} {W : World} {tmps : Array Value} {fn : Func} {a : Value} {t : Bool} {co x : Int} (hres : fn.results = #[.cell 6 22, .tmp 7, .tmp 8, .tmp 9]) (t6 : tmps.getD 6 undef = .pointer (some ⟨n, 0, none⟩)) (t7 : tmps.getD 7 undef = .int .i64 co) (t8 : tmps.getD 8 undef = .bool t) (t9 : tmps.getD 9 undef = .int .i64 x)
    (h : Boxed W n 22 a) (ha : ∃ A l c, a = .slice A l c) : (results fn tmps).run Try.prog W = .ok (.tuple #[a, .int .i64 co, .bool t, .int .i64 x]) W := by
  obtain ⟨A, l, c, rfl⟩ := ha
  have hc1 := h.cell
  have t6' : tmps[6]?.getD undef = .pointer (some ⟨n, 0, none⟩) := by rw [← t6]; simp
  have t7' : tmps[7]?.getD undef = .int .i64 co := by rw [← t7]; simp
  have t8' : tmps[8]?.getD undef = .bool t := by rw [← t8]; simp
  have t9' : tmps[9]?.getD undef = .int .i64 x := by rw [← t9]; simp
  simp [results, hres, t6', t7', t8', t9', hc1, go_sem]
theorem own_keep {W W' : World} {base : Nat} {v : Value} {xs : List Int} (h : OwnInts W base v xs) (hk : ∀ (b : Nat) (o : Obj), W.heap[b]? = some o → o.isCells = true → W'.heap[b]? = some o) : OwnInts W' base v xs := by
  obtain ⟨h0, h | ⟨g, cap, cur, e1, e2, e3, e4⟩⟩ := h
  · exact ⟨h0, .inl h⟩
  · exact ⟨h0, .inr ⟨g, cap, cur, e1, e2, hk _ _ e3 rfl, e4⟩⟩
theorem br_end {n lo : Nat} {ds : List Deferred} {W : World} {tmps : Array Value} {a : Value} {t : Bool} {c x : Int} {R : Ending → World → Prop} (t6 : tmps.getD 6 undef = .pointer (some ⟨n, 0, none⟩)) (t7 : tmps.getD 7 undef = .int .i64 c) (t8 : tmps.getD 8 undef = .bool t) (t9 : tmps.getD 9 undef = .int .i64 x)
    (h : Boxed W n 22 a) (ha : ∃ A l c, a = .slice A l c) (hm : Mk lo ds W)
    (hR : ∀ W', W'.os = W.os → W'.tape = W.tape → W'.output = W.output → W'.heap.size = W.heap.size → (∀ b o, W.heap[b]? = some o → (o.isCells = true ∨ b < lo) → W'.heap[b]? = some o) → R (.returned (.tuple #[a, .int .i64 c, .bool t, .int .i64 x])) W') :
    bodyPostM Fence.wide 0 Try.prog Try.f10 R .ret { tmps := tmps, defers := ds } W := by
  refine leaves_marks ds W hm ?_
  rintro W' o1 o2 o3 o4 o5
  exact ⟨_, br_out rfl t6 t7 t8 t9 (o5 _ _ h (.inl rfl)) ha, hR W' o1 o2 o3 o4 o5⟩
theorem br_no {xs : List Int} {sp rm : Int} {w W : World} {tmps : Array Value} {e : Int} (t6 : tmps.getD 6 undef = .pointer (some ⟨w.heap.size, 0, none⟩)) (t7 : tmps.getD 7 undef = .int .i64 0) (t8 : tmps.getD 8 undef = .bool false) (t9 : tmps.getD 9 undef = .int .i64 e)
    (h : Boxed W w.heap.size 22 (.slice none 0 0)) (ho : okB xs sp rm = false) (he : Bk.err xs sp rm = e) (hB : Below w.heap.size w W) : bodyPostM Fence.wide 0 Try.prog Try.f10 (BrPost xs sp rm w) .ret { tmps := tmps, defers := [] } W := by
  refine br_end (lo := W.heap.size) t6 t7 t8 t9 h ⟨_, _, _, rfl⟩ trivial ?_
  rintro W' o1 o2 o3 o4 o5
  have he0 : esL xs sp rm = [] := by rw [esL, if_neg (by rw [ho]; simp)]
  refine ⟨none, 0, ?_, ?_, ?_⟩
  · rw [he0, ho, he, coL, if_neg (by rw [ho]; simp)]; rfl
  · rw [he0]; exact IsInts.nil
  · refine ⟨o1.trans hB.os, o2.trans hB.tape, o3.trans hB.output, by rw [o4]; exact hB.size, fun b hb => ?_⟩
    have h2 : b < W.heap.size := Nat.lt_of_lt_of_le hb hB.size
    rw [o5 b _ (Array.getElem?_eq_getElem h2) (.inr h2), ← Array.getElem?_eq_getElem h2]
    exact hB.block b hb
theorem Ex.grown {wm W W' : World} {b6 g : Nat} {row : Option Nat} (h : Ex wm W b6 g) (hg : W.grownBy W' row) (hr : ∀ j, row = some j → wm.heap.size ≤ j) : Ex wm W' b6 g :=
  ⟨hg.os.trans h.os, hg.tape.trans h.tape, hg.output.trans h.output, Nat.le_trans h.size hg.size, fun b hb h1 h2 => (hg.block b (Nat.lt_of_lt_of_le hb h.size) (fun e => by have := hr b e.symm; omega)).trans (h.block b hb h1 h2)⟩
set_option maxHeartbeats 4000000 in
set_option maxRecDepth 100000 in
theorem break_any (xs : List Int) (A : Option Addr) (cap : Nat) (sp rm : Int) (w : World) (hv : IsInts w (.slice A xs.length cap) xs) (hl : xs.length ≤ 9223372036854775807) :
    Calls Try.prog 10 #[.slice A xs.length cap, .int .i64 sp, .int .i64 rm] w (BrPost xs sp rm w) := by
  have HV := Lib.hid hv
  clear hv
  refine (callsIn_wide (n := 0)).1 ?_
  refine callsIn_of_wp_marks Try.func10 rfl trivial ?_ rfl
  simp only [Try.ntmps10, List.size_toArray, List.length_cons, List.length_nil, Nat.reduceAdd, Nat.reduceSub, Array.replicate_succ, Array.replicate_zero, List.push_toArray, List.append_toArray, List.nil_append, List.cons_append]
  gi_wp2_with (fail)
  refine inC (check_any xs A cap sp rm _ (HV.out.below (al1 _ _)) hl) ?_
  rintro e w1 ⟨rfl, hb1⟩
  have hx0 : Boxed w1 w.heap.size 22 (.slice none 0 0) := boxed_below (Boxed.new w 22 (.slice none 0 0)) hb1
  have hB1 : Below w.heap.size w w1 := (al1 w _).up hb1
  have HB1 := Lib.hid hB1
  clear hb1
  by_cases he : Bk.err xs sp rm = 0
  · have HR := Lib.hid (Bk.err_rt he)
    rw [txt, if_pos he, he]
    by_cases hw : Bk.wide xs rm = true
    · have HO := Lib.hid (okB_wide (sp := sp) hw)
      gi_wp2_with (fail)
      refine inC (possible_any xs A cap sp rm _ (HV.out.below (HB1.out.up (al1 _ _))) hl) ?_
      rintro e w2 ⟨rfl, hb2⟩
      rw [hw]
      have hx2 := boxed_below (hx0.alloc (.cells #[.slice A xs.length cap, .int .i64 sp, .int .i64 rm] 42)) hb2
      have HB2 := Lib.hid ((HB1.out.up (al1 w1 (.cells #[.slice A xs.length cap, .int .i64 sp, .int .i64 rm] 42))).up hb2)
      have hxc := hx2.cell
      have hxf := hx2.frozen
      clear hb2
      gi_wp2_with (fail)
      exact br_no rfl rfl rfl rfl (show Boxed _ _ _ _ from hx2.set _) HO.out he (HB2.out.setCell (Nat.le_refl _) _)
    · have hw' : Bk.wide xs rm = false := by simpa using hw
      have HO := Lib.hid (okB_yes he hw')
      have HOK := Lib.hid (HR.out.ok hw')
      gi_wp2_with (fail)
      refine inC (possible_any xs A cap sp rm _ (HV.out.below (HB1.out.up (al1 _ _))) hl) ?_
      rintro e w2 ⟨rfl, hb2⟩
      rw [hw']
      have ht2 : w2.heap[w1.heap.size]? = some (.cells #[.slice A xs.length cap, .int .i64 sp, .int .i64 rm] 42 (0, 0)) := (hb2.block _ (by simp)).trans (World.alloc_heap_new w1 _)
      have hx2 := boxed_below (hx0.alloc (.cells #[.slice A xs.length cap, .int .i64 sp, .int .i64 rm] 42)) hb2
      have HB2 := Lib.hid ((HB1.out.up (al1 w1 (.cells #[.slice A xs.length cap, .int .i64 sp, .int .i64 rm] 42))).up hb2)
      have h20 : w2.cell? ⟨w1.heap.size, 0, none⟩ = some (.slice A xs.length cap) := by simp [World.cell?, ht2]
      have h21 : w2.cell? ⟨w1.heap.size, 1, none⟩ = some (.int .i64 sp) := by simp [World.cell?, ht2]
      have h22 : w2.cell? ⟨w1.heap.size, 2, none⟩ = some (.int .i64 rm) := by simp [World.cell?, ht2]
      clear hb2 ht2
      gi_wp2_with (fail)
      refine inC (solve_any xs A cap sp rm _ (HV.out.below HB2.out) HR.out HOK.out) ?_
      rintro e w3 ⟨g, es, rfl, hp3, hl3, hes, hb3⟩
      obtain ⟨hc0, hi0⟩ := hes 0 (by omega)
      have h30 := hp3.c0 (k := 0) (by omega)
      have h31 := hp3.c1 (k := 0) (by omega)
      simp only [List.drop_zero] at hc0
      rw [hc0] at h30
      have hx3 := boxed_below hx2 hb3
      have HB3 := Lib.hid (HB2.out.up hb3)
      clear h20 h21 h22 hb3
      obtain ⟨rv, hrv⟩ : ∃ rv, rev sp rm xs 0 = rv := ⟨_, rfl⟩
      rw [hrv] at hi0
      obtain ⟨Av, cv, hev, _⟩ := id hi0
      rw [hev] at hi0 h31
      have HI0 := Lib.hid hi0
      clear hi0 hev hc0
      gi_wp2_with (fail)
      refine inC (backward_any _ _ ⟨_, _, _, rfl⟩) ?_
      rintro e w4 ⟨rfl, rfl⟩
      gi_wp2_with (fail)
      clear h30 h31 hes
      have hC := Boxed.new (w3.alloc (.cells #[.int .i64 (Bk.at_ (Bk.tab sp rm xs) 0), .slice Av rv.length cv] 46)) 22 (.slice Av rv.length cv)
      have hR46 : ((w3.alloc (.cells #[.int .i64 (Bk.at_ (Bk.tab sp rm xs) 0), .slice Av rv.length cv] 46)).alloc (.cells #[.slice Av rv.length cv] 22)).cell? ⟨w3.heap.size, 0, none⟩ = some (.int .i64 (Bk.at_ (Bk.tab sp rm xs) 0)) := by
        have h := World.alloc_heap_new w3 (.cells #[.int .i64 (Bk.at_ (Bk.tab sp rm xs) 0), .slice Av rv.length cv] 46)
        have h2 := (Below.heap_alloc (w3.alloc (.cells #[.int .i64 (Bk.at_ (Bk.tab sp rm xs) 0), .slice Av rv.length cv] 46)) (.cells #[.slice Av rv.length cv] 22) w3.heap.size (by simp)).trans h
        simp [World.cell?, h2]
      have hST : Below w3.heap.size w3 ((w3.alloc (.cells #[.int .i64 (Bk.at_ (Bk.tab sp rm xs) 0), .slice Av rv.length cv] 46)).alloc (.cells #[.slice Av rv.length cv] 22)) := (al1 w3 _).up (al1 _ _)
      simp only [World.size_alloc] at hC ⊢
      obtain ⟨f, hf⟩ : ∃ f, w3.heap.size = f := ⟨_, rfl⟩
      obtain ⟨WL, hWL⟩ : ∃ WL, ((w3.alloc (.cells #[.int .i64 (Bk.at_ (Bk.tab sp rm xs) 0), .slice Av rv.length cv] 46)).alloc (.cells #[.slice Av rv.length cv] 22)) = WL := ⟨_, rfl⟩
      have hsz : f + 2 = WL.heap.size := by rw [← hWL, ← hf]; simp
      have hIW := (HI0.out.low.keep hST.size (fun b hb _ => hST.block b hb.2)).mono (P' := fun b => b < f ∧ w.heap.size < b) (fun b hb => ⟨by have := hb.2; omega, by have := hb.1.1; have := HB2.out.size; have := hx2.lt; omega⟩)
      have hx4 := boxed_below hx3 hST
      have hB4 := HB3.out.up hST
      have hn0 := hx3.lt
      rw [hWL] at hC hR46 hIW hx4 hB4 ⊢
      rw [hf] at hC hR46 hn0 ⊢
      have HIW := Lib.hid hIW
      have HB4 := Lib.hid hB4
      have HRL := Lib.hid hrv
      have hrl : rv.length ≤ 64 := by
        rw [← hrv]
        unfold rev endsI
        rw [List.length_reverse, List.length_map]
        exact Nat.le_trans (ends_len _ _ _ (Nat.le_refl _) (HOK.out.drop 0)) (by have := HR.out.len; rw [List.length_drop]; omega)
      clear hST hWL hx3 hx2 hx0 hp3 hl3 hf hIW hB4 hB1 hrv
      refine rf_outer (Bk.downs rv) (protD (f + 1) (fun b => b < f ∧ w.heap.size < b))
        (fun k W => ∃ v, Hid (Ex WL W w.heap.size w.heap.size) ∧ Hid (Boxed W w.heap.size 22 v) ∧ Hid (OwnInts W WL.heap.size v (rv.reverse.take k)))
        (fun _ _ _ => False)
        (enc := fun q : Nat × Int => #[.int .i64 q.1, .int .i64 q.2]) rfl (enters_of Try.func35 (by kernel_rfl) rfl) (fun _ => rfl) ?hP ?hit ?hI ?hIx ?h0 ?hround ?hdone ?hstop
      case hP => rintro b (rfl | ⟨h1, h2⟩) <;> omega
      case hit =>
        intro W hW
        exact backward1_iter _ Av cv rv _ W (boxed_below hC hW).cell (HIW.out.keep hW.size (fun b _ hlt => hW.block b hlt)) (by omega)
      case hI =>
        rintro k X Y ⟨v, h1, h2, h3⟩ hs
        exact ⟨v, h1.out.istep hs, hs.boxed h2.out, hs.owns h3.out⟩
      case hIx =>
        rintro c k X Y h hs
        exact h
      case h0 => exact ⟨_, Ex.refl _ _ _, hx4, by rw [List.take_zero]; exact own_none _ _⟩
      case hround =>
        rintro la k hk W hla ⟨v, hE, hX, hO⟩
        rw [Bk.downs_length] at hk
        obtain ⟨p, hp⟩ : ∃ p : Nat, p + k + 1 = rv.length := ⟨rv.length - k - 1, by omega⟩
        have hpl : p < rv.length := by omega
        rw [Bk.downs_at rv k _ p hp hpl]
        gi_wp2
        refine ⟨RStep.refl _ _ _, ?_⟩
        rintro W2 hW2 _
        have HE2 := Lib.hid (hE.out.istep hW2)
        have HX2 := Lib.hid (hW2.boxed hX.out)
        have HO2 := Lib.hid (show OwnInts W2 _ _ _ from hW2.owns hO.out)
        clear hW2 hE hX hO
        have hxc := HX2.out.cell
        have hxf := HX2.out.frozen
        obtain ⟨Ax, cx, hvx⟩ := own_len HO2.out
        have htl : (rv.reverse.take k).length = k := by rw [List.length_take, List.length_reverse]; omega
        rw [htl] at hvx
        subst hvx
        have HSZ := Lib.hid HE2.out.size
        gi_wp2_with (gi_at_builtin; go_must (refine wpListIn_push rfl (.tmp 38) (.tmp 40) rfl WL.heap.size (.slice Ax k cx) (rv.reverse.take k) rfl HO2.out rv[p] W2.heap.size rfl rfl (by rw [htl]; omega) HSZ.out ?_; intro v1 w1 hown1 hg1 hce1; have HO3 := Lib.hid hown1; have HG3 := Lib.hid hg1; have HX3 := Lib.hid (HX2.out.kept hg1 (fun e => by have := (World.ownsRow.lt HO2.out _ e.symm).1; omega)); have hx3 := HX3.out.cell; have hf3 := HX3.out.frozen; obtain ⟨A1, c1, hv1⟩ := own_len hown1; rw [List.length_append, htl] at hv1; subst hv1; clear hown1 hg1))
        have hrow : ∀ j, (Value.slice Ax k cx).ownBlock = some j → WL.heap.size ≤ j := fun j hj => (World.ownsRow.lt HO2.out j hj).1
        refine ⟨(RStep.grown HG3.out ?_).trans (RStep.setCell _ _ _ ?_), _, (HE2.out.grown HG3.out hrow).set _ _ _ (.inl rfl), HX3.out.set _, ?_⟩
        · intro j o hj ho
          have hlow := hrow j hj
          refine ⟨?_, by rintro (h | ⟨h1, h2⟩) <;> omega⟩
          obtain ⟨_, h | ⟨g', cap', cur, e1, e2, e3, _⟩⟩ := HO2.out
          · rw [h.1] at hj; cases hj
          · rw [e1] at hj
            injection hj with hj
            subst hj
            dsimp only at ho
            rw [e3] at ho
            injection ho with ho
            subst ho
            rfl
        · rintro (h | ⟨h1, h2⟩)
          · dsimp only at h; omega
          · dsimp only at h2; omega
        · have hts : rv.reverse.take (k + 1) = rv.reverse.take k ++ [rv[p]] := by
            rw [List.take_succ_eq_append_getElem (by simp; omega), List.getElem_reverse]
            congr 2
            have : rv.length - 1 - k = p := by omega
            simp only [this]
          exact show OwnInts _ _ _ _ from by
            rw [hts]
            exact own_far HO3.out ⟨w.heap.size, 0, none⟩ (by dsimp only; omega) _
      case hstop => rintro D c k W _ _ h; exact h.elim
      case hdone =>
        rintro D W hD ⟨v, HE, HX, HO5⟩ hDm
        rw [Bk.downs_length, List.take_of_length_le (by simp)] at HO5
        have HES := Lib.hid (show rv.reverse = esL xs sp rm from by rw [← HRL.out, esL, if_pos HO.out]; unfold rev; rw [List.reverse_reverse, List.drop_zero])
        rw [HES.out] at HO5
        have hlt := hx4.lt
        have hrc : W.cell? ⟨f, 0, none⟩ = some (.int .i64 (Bk.at_ (Bk.tab sp rm xs) 0)) := (World.cell?_of_block (HE.out.block f (by omega) (by omega) (by omega))).trans hR46
        obtain ⟨Ax, cx, hvx⟩ := own_len HO5.out
        obtain ⟨m, hm⟩ : ∃ m, (esL xs sp rm).length = m := ⟨_, rfl⟩
        rw [hm] at hvx
        subst hvx
        have hxc := HX.out.cell
        have hxf := HX.out.frozen
        gi_wp2_with (fail)
        gi_region
        gi_wp2_with (fail)
        refine br_end (lo := WL.heap.size) rfl rfl rfl rfl (show Boxed _ _ _ _ from HX.out.set _) ⟨_, _, _, rfl⟩ ⟨D, rfl, hD, ?_, by simp, trivial⟩ ?_
        · exact (Below.heap_setCell W ⟨w.heap.size, 0, none⟩ _ D (by dsimp only; omega)).trans hDm
        · rintro W' o1 o2 o3 o4 o5
          have hO6 := own_keep (W' := W') (own_far HO5.out ⟨w.heap.size, 0, none⟩ (by dsimp only; omega) (.slice Ax m cx)) (fun b o h1 h2 => o5 b o h1 (.inl h2))
          have hB := HB4.out
          refine ⟨Ax, cx, ?_, ?_, ?_⟩
          · rw [hm, he, HO.out, coL, if_pos HO.out]
          · rw [hm]
            exact hO6.ints
          · refine ⟨o1.trans (HE.out.os.trans hB.os), o2.trans (HE.out.tape.trans hB.tape), o3.trans (HE.out.output.trans hB.output), ?_, fun b hb => ?_⟩
            · have h1 : (W.setCell ⟨w.heap.size, 0, none⟩ (.slice Ax m cx)).drew.heap.size = W.heap.size := by simp [World.drew, World.setCell]
              have h2 := HE.out.size
              rw [h1] at o4
              have := hB.size
              omega
            · have h1 := (Below.heap_setCell W ⟨w.heap.size, 0, none⟩ (.slice Ax m cx) b (by dsimp only; omega)).trans (HE.out.block b (by omega) (by omega) (by omega))
              have h2 : b < WL.heap.size := by omega
              have h3 := h1.trans (Array.getElem?_eq_getElem h2)
              have h4 := o5 b _ h3 (.inr h2)
              rw [h4, ← Array.getElem?_eq_getElem h2]
              exact hB.block b hb
  · have HO := Lib.hid (okB_err he)
    rw [txt, if_neg he]
    generalize hee : Bk.err xs sp rm = e at *
    have hne : (e != 0) = true := by simpa using he
    have hxc := (hx0.alloc (.cells #[.slice none 0 0, .int .i64 0, .int .i64 0] 42)).cell
    have hxf := (hx0.alloc (.cells #[.slice none 0 0, .int .i64 0, .int .i64 0] 42)).frozen
    gi_wp2_with (fail)
    refine ⟨trivial, ?_⟩
    gi_wp2_with (fail)
    exact br_no rfl rfl rfl rfl (show Boxed _ _ _ _ from (hx0.alloc _).set _) HO.out hee ((HB1.out.up (al1 _ _)).setCell (Nat.le_refl _) _)

end Go.Proofs.Ytdcndhfjfllehaa
