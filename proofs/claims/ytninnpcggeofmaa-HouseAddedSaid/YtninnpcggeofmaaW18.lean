/- Walks of slices.AppendSeq, slices.Collect and Standing. -/
import Derived.Test.YtninnpcggeofmaaW17
namespace Go.Proofs.Ytninnpcggeofmaa
open Go.RowKit
set_option linter.unusedVariables false
set_option linter.unusedSimpArgs false
attribute [local go_sem] frozen_new Oper.semAt_some

/-- a step of a plain region in a round -/
theorem round_step {la : Nat} {P : Program} {ops : Array Oper} {o : Oper} {a : Act} {w : World} {K : Act → World → Prop} {Q : Exit → Act → World → Prop} {E E' : Prop} (hg : o.guard = none) (hd : ∀ c, o.op ≠ .defer c)
    (h : if Region.wanted o (yielded ops a.tmps) = true then Oper.wp P o a w K Q else E) : if Region.wanted o (yielded ops a.tmps) = true then o.wpIn (Fence.wide.inRound la) 0 P a w K Q else E' := by
  have hw : Region.wanted o (yielded ops a.tmps) = true := by simp [Region.wanted, hg]
  rw [if_pos hw] at h ⊢
  exact wp_round_op hd h
theorem wpListIn_pushH {W : World} {la : Nat} {ops : Array Oper} {rest : List Oper} {o : Oper} {a : Act} {Q : Exit → Act → World → Prop} (hgd : o.guard = none) (s x : Operand)
    (ho : o.op = .call { callee := .builtin .append, args := #[s, x], argTypes := #[22, 22] })
    (base : Nat) (v : Value) (xs : List Hh) (hs : a.eval s = v) (hown : OwnHs W base v xs) (h : Hh) (H : Nat) (hH : W.heap.size = H) (hx : a.eval x = .slice (some ⟨H, 0, none⟩) 1 1)
    (hlen : xs.length ≤ 1000000) (hb : base ≤ W.heap.size)
    (hk : ∀ v' w', OwnHs w' base v' (xs ++ [h]) → W.grownBy w' v.ownBlock → (v'.ownBlock = v.ownBlock ∨ v'.ownBlock = some (W.heap.size + 1)) → wpListIn (Fence.wide.inRound la) 0 Try.prog ops Q rest (a.put o.dst v') w') :
    wpListIn (Fence.wide.inRound la) 0 Try.prog ops Q (o :: rest) a (W.alloc (.cells #[.int .i64 h.no, .int .i64 h.kind, .int .i64 h.spk, .int .i64 h.fst, .int .i64 h.lst, .int .i64 h.lang, .int .i64 h.frm, .int .i64 h.unt, .int .i64 h.known, .int .i64 h.ms] 24)) := by
  subst hH
  obtain ⟨i0, hi, hz0, hz1, hz2⟩ := info_parts infoHouse
  obtain ⟨v', w', hr, h2, h3, h4, h5⟩ := run_append_own_at (P := Try.prog) (W.alloc (.cells #[.int .i64 h.no, .int .i64 h.kind, .int .i64 h.spk, .int .i64 h.fst, .int .i64 h.lst, .int .i64 h.lang, .int .i64 h.frm, .int .i64 h.unt, .int .i64 h.known, .int .i64 h.ms] 24)) base 22 o.type 24 i0 _ 10 80 Try.underlying22 hi hz0 hz1 hz2 rfl (by decide) v xs.length (xs.flatMap encH) (World.ownsRow.alloc hown _)
    ⟨W.heap.size, 0, none⟩ 1 1 (encH h) rfl (cell_newH W (encH h) _) (by simp [Value.oneCell', encH]) (by unfold maxLen; omega) (by omega) (by simp; omega)
  have hkk := hk v' w' (by unfold OwnHs; simpa [encH] using h2) ((World.grownBy_alloc W _ v.ownBlock).trans h3) (by simpa using h5)
  refine wpListIn_step (fun K hK => ?_)
  refine round_step (E := True) hgd (by intro c h; rw [ho] at h; cases h) ?_
  split
  · unfold Oper.wp execOp
    simp only [ho, resolve, invoke, builtin, Sem.run_bind, Sem.run_pure, Result.andThen_ok, List.map_toArray, List.map_cons, List.map_nil, hs, hx, hr]
    exact hK _ _ hkk
  · trivial

def OwnPost (ys : List Hh) (w : World) : Ending → World → Prop := fun e w' => ∃ v', e = .returned v' ∧ OwnHs w' w.heap.size v' ys ∧ Below w.heap.size w w'
set_option maxHeartbeats 4000000 in
set_option maxRecDepth 100000 in
theorem appendSeq_any (gf : Nat) (lb : Array Value) (ys : List Hh) (Prot : Nat → Prop) (w : World) (eg : ∀ args W, (callFunc gf args).run Try.prog W = .ok (.enter gf args) W) (hP : ∀ b, Prot b → b < w.heap.size) (hl : ys.length ≤ 1024)
    (hit : ∀ W', Below w.heap.size w W' → Iter Try.prog gf lb encV ys Prot W') :
    Calls Try.prog 65 #[.slice none 0 0, .func (.func gf) #[] lb] w (OwnPost ys w) := by
  refine (callsIn_wide (n := 0)).1 ?_
  refine callsIn_of_wp_marks Try.func65 rfl trivial ?_ rfl
  simp only [Try.ntmps65, List.size_toArray, List.length_cons, List.length_nil, Nat.reduceAdd, Nat.reduceSub, Array.replicate_succ, Array.replicate_zero, List.push_toArray, List.append_toArray, List.nil_append, List.cons_append]
  gi_wp2_with (fail)
  have hbx := Boxed.new w 22 (.slice none 0 0)
  have hsz : (w.alloc (.cells #[.slice none 0 0] 22)).heap.size = w.heap.size + 1 := by simp
  have hbel := al1 w (.cells #[.slice none 0 0] 22)
  obtain ⟨WL, hWL⟩ : ∃ WL, w.alloc (.cells #[.slice none 0 0] 22) = WL := ⟨_, rfl⟩
  rw [hWL] at hbx hsz hbel ⊢
  clear hWL
  refine rf_outer ys Prot (fun k X => ∃ v, Hid (Boxed X w.heap.size 22 v) ∧ Hid (OwnHs X w.heap.size v (ys.take k)) ∧ Hid (Below w.heap.size w X)) (fun _ _ _ => False)
    (enc := encV) rfl eg (fun _ => rfl) ?hP ?hit ?hI ?hIx ?h0 ?hround ?hdone ?hstop
  case hP => exact fun b h => by have := hP b h; omega
  case hit => exact fun X hX => hit X (hbel.up hX)
  case hI =>
    rintro k X Y ⟨v, h1, h2, h3⟩ hs
    refine ⟨v, hs.boxed h1.out, hs.owns h2.out, h3.out.os ▸ hs.os, h3.out.tape ▸ hs.tape, h3.out.output ▸ hs.output, Nat.le_trans h3.out.size hs.size, fun b hlt => ?_⟩
    have h4 : b < X.heap.size := Nat.lt_of_lt_of_le hlt h3.out.size
    rw [← h3.out.block b hlt, Array.getElem?_eq_getElem h4]
    exact hs.block b _ (Array.getElem?_eq_getElem h4) (.inr (by omega))
  case hIx => rintro c k X Y h hs; exact h
  case h0 => exact ⟨_, hbx, ownH_none _ _, hbel⟩
  case hround =>
    rintro lr k hk X hlr ⟨v, HBx, HO, HK⟩
    have HS := Lib.hid (List.take_succ_eq_append_getElem hk)
    have hgl : (ys.take k).length ≤ 1000000 := by have := List.length_take_le k ys; omega
    generalize hx : ys[k] = x at *
    clear hx
    have HN := Lib.hid (BoxH.new X x)
    have ha := al1 X (.cells #[.int .i64 x.no, .int .i64 x.kind, .int .i64 x.spk, .int .i64 x.fst, .int .i64 x.lst, .int .i64 x.lang, .int .i64 x.frm, .int .i64 x.unt, .int .i64 x.known, .int .i64 x.ms] 24)
    have HBx1 := Lib.hid (boxed_below HBx.out ha)
    have HO1 := Lib.hid (ownH_below HO.out ha)
    have HK1 := Lib.hid (HK.out.up ha)
    clear ha HBx HO HK
    simp only [encV, vH]
    gi_wp2
    refine ⟨RStep.of_below (al1 X _), ?_⟩
    rintro X2 hX2 _
    have HBx2 := Lib.hid (hX2.boxed HBx1.out)
    have HO2 := Lib.hid (show OwnHs X2 w.heap.size v (ys.take k) from hX2.owns HO1.out)
    have HH := Lib.hid (show BoxH X2 X.heap.size x from hX2.block _ _ HN.out (.inl rfl))
    have HK2 := Lib.hid (show Below w.heap.size w X2 from ⟨hX2.os.trans HK1.out.os, hX2.tape.trans HK1.out.tape, hX2.output.trans HK1.out.output, Nat.le_trans HK1.out.size hX2.size, fun b hlt => by
      have h4 : b < (X.alloc (.cells #[.int .i64 x.no, .int .i64 x.kind, .int .i64 x.spk, .int .i64 x.fst, .int .i64 x.lst, .int .i64 x.lang, .int .i64 x.frm, .int .i64 x.unt, .int .i64 x.known, .int .i64 x.ms] 24)).heap.size := Nat.lt_of_lt_of_le hlt HK1.out.size
      rw [← HK1.out.block b hlt, Array.getElem?_eq_getElem h4]
      exact hX2.block b _ (Array.getElem?_eq_getElem h4) (.inr (by omega))⟩)
    clear HBx1 HO1 HK1 hX2 HN
    have bc := HBx2.out.cell
    have bl := HBx2.out.lt
    have lx := HH.out.lt
    have q0 := HH.out.c0
    have q1 := HH.out.c1
    have q2 := HH.out.c2
    have q3 := HH.out.c3
    have q4 := HH.out.c4
    have q5 := HH.out.c5
    have q6 := HH.out.c6
    have q7 := HH.out.c7
    have q8 := HH.out.c8
    have q9 := HH.out.c9
    gi_wp2_with (gi_at_builtin; go_must (refine wpListIn_pushH rfl (.tmp 8) (.tmp 10) rfl w.heap.size v (ys.take k) rfl HO2.out x X2.heap.size rfl rfl hgl HK2.out.size ?_; intro v1 w1 hown1 hg1 hce1; obtain ⟨A1, cc1, e1⟩ := ownH_slice hown1; generalize (ys.take k ++ [x]).length = n1 at e1; subst e1; have HO3 := Lib.hid hown1; have HG3 := Lib.hid hg1; have HX3 := Lib.hid (HBx2.out.kept hg1 (HBx2.out.not_row (by decide) HO2.out)); have bc3 := HX3.out.cell; have bf3 := HX3.out.frozen; clear hown1 hg1 hce1))
    have hrow : ∀ j, v.ownBlock = some j → w.heap.size ≤ j := fun j hj => (ownH_at HO2.out j hj).1
    refine ⟨(RStep.grown HG3.out ?_).trans (RStep.setCell _ _ _ ?_), _, HX3.out.set _, ?_, ?_⟩
    · intro j o hj ho
      have hlow := hrow j hj
      refine ⟨?_, fun h => by have := hP _ h; omega⟩
      obtain ⟨_, h | ⟨g', cap', cur, e1, e2, e3, _⟩⟩ := HO2.out
      · rw [h.1] at hj; cases hj
      · rw [e1] at hj
        injection hj with hj
        subst hj
        rw [e3] at ho; cases ho; rfl
    · exact fun h => by have := hP _ h; dsimp only at this; omega
    · rw [HS.out]
      exact World.ownsRow.kept HO3.out (grownBy_setCell' w1 _ _) (.inr (HX3.out.not_row (by decide) HO3.out).symm)
    · exact Lib.hid ((HK2.out.grown HG3.out HK2.out.size hrow).setCell (p := ⟨w.heap.size, 0, none⟩) (Nat.le_refl _) _)
  case hstop => rintro D c k W _ _ h; exact h.elim
  case hdone =>
    rintro D W hD ⟨v, HBx, HO, HK⟩ hDm
    rw [List.take_length] at HO
    have bc := HBx.out.cell
    gi_wp2_with (fail)
    refine leaves_marks _ _ (lo := w.heap.size) ⟨D, rfl, by omega, hDm, by simp, trivial⟩ ?_
    rintro W' o1 o2 o3 o4 o5
    have hB := HK.out
    have hst : IStep w.heap.size W W' := istep_marks o1 o2 o3 o4 o5
    refine ⟨_, results_tmp rfl _ _ _, v, rfl, (show OwnHs W' w.heap.size v ys from hst.owns HO.out), o1.trans hB.os, o2.trans hB.tape, o3.trans hB.output, by rw [o4]; exact hB.size, fun b hb => ?_⟩
    have h2 : b < W.heap.size := Nat.lt_of_lt_of_le hb hB.size
    rw [o5 b _ (Array.getElem?_eq_getElem h2) (.inr hb), ← Array.getElem?_eq_getElem h2]
    exact hB.block b hb

end Go.Proofs.Ytninnpcggeofmaa
