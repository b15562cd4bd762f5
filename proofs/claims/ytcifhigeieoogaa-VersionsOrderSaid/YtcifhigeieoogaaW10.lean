/- Walks of known and its iterator, slices.AppendSeq, slices.Collect. -/
import Derived.Test.YtcifhigeieoogaaW9
import Derived.Test.YtcifhigeieoogaaPlain2
import Derived.Test.YtcifhigeieoogaaMarks
import Derived.Test.YtcifhigeieoogaaRound
namespace Go.Proofs.Ytcifhigeieoogaa
open Go.RowKit
set_option linter.unusedVariables false
set_option linter.unusedSimpArgs false
attribute [local go_sem] frozen_new Oper.semAt_some
theorem filter_at {α : Type} (p : α → Bool) (l : List α) (k : Nat) (h : k < l.length) (hp : p l[k] = true) : ∃ h2 : ((l.take k).filter p).length < (l.filter p).length, (l.filter p)[((l.take k).filter p).length] = l[k] := by
  have e : l.filter p = (l.take k).filter p ++ l[k] :: (l.drop (k + 1)).filter p := by
    conv => lhs; rw [← List.take_append_drop k l, List.drop_eq_getElem_cons h, List.filter_append, List.filter_cons, if_pos hp]
  have hlen : ((l.take k).filter p).length < (l.filter p).length := by rw [e]; simp
  refine ⟨hlen, ?_⟩
  have : (l.filter p)[((l.take k).filter p).length]? = some l[k] := by rw [e, List.getElem?_append_right (Nat.le_refl _)]; simp
  rw [List.getElem?_eq_getElem hlen] at this
  exact Option.some.inj this
theorem filter_yes {α : Type} (p : α → Bool) (l : List α) (k : Nat) (h : k < l.length) (hp : p l[k] = true) : ((l.take (k + 1)).filter p).length = ((l.take k).filter p).length + 1 := by
  rw [List.take_succ_eq_append_getElem h, List.filter_append]; simp [hp]
theorem filter_no {α : Type} (p : α → Bool) (l : List α) (k : Nat) (h : k < l.length) (hp : p l[k] = false) : ((l.take (k + 1)).filter p).length = ((l.take k).filter p).length := by
  rw [List.take_succ_eq_append_getElem h, List.filter_append]; simp [hp]
theorem istep_marks {lo : Nat} {X W' : World} (o1 : W'.os = X.os) (o2 : W'.tape = X.tape) (o3 : W'.output = X.output) (o4 : W'.heap.size = X.heap.size) (o5 : ∀ b o, X.heap[b]? = some o → (o.isCells = true ∨ b < lo) → W'.heap[b]? = some o) : IStep lo X W' :=
  ⟨o1, o2, o3, by rw [o4]; exact Nat.le_refl _, o5⟩
def encV (h : Am) : Array Value := #[vA h]
theorem AtA.keepR {w0 W wr : World} {B : Nat} {Pr : Nat → Prop} {b o : Nat} {h : Am} (hh : AtA w0 b o h) (hb : Below w0.heap.size w0 W) (hs : RStep B Pr W wr) (hp : ∀ b, b < w0.heap.size → Pr b) : AtA wr b o h := by
  have h1 := hh.below hb
  have k : ∀ {i v}, W.cell? ⟨b, i, none⟩ = some v → wr.cell? ⟨b, i, none⟩ = some v := fun h => hs.cell (hp b hh.lt) h
  exact ⟨Nat.lt_of_lt_of_le h1.lt hs.size, k h1.c0, k h1.c1, k h1.c2, k h1.c3, k h1.c4, k h1.c5⟩
/-- of a register and known -/
def kn (l : List Am) (key t : Int) : List Am := l.filter (Vn.own key t)
theorem known_any (A : Option Addr) (n c : Nat) (key t : Int) (w : World) : Calls Try.prog 31 #[.slice A n c, .int .i64 key, .int .i64 t] w fun e w' => e = .returned (.func (.func 42) #[] #[.pointer (some ⟨w.heap.size, 0, none⟩), .pointer (some ⟨w.heap.size + 1, 0, none⟩), .pointer (some ⟨w.heap.size + 1 + 1, 0, none⟩)]) ∧ ((w.alloc (.cells #[.slice A n c] 22)).alloc (.cells #[.int .i64 key] 3)).alloc (.cells #[.int .i64 t] 3) = w' := by
  go_enter Try.func31, Try.ntmps31
  go_wp2_with (fail)
  go_ret
  exact ⟨rfl, rfl⟩
def protK (bl bk bt n0 : Nat) : Nat → Prop := fun b => b = bl ∨ b = bk ∨ b = bt ∨ b < n0

set_option maxHeartbeats 4000000 in
set_option maxRecDepth 100000 in
theorem known_iter (bl bk bt : Nat) (l : List Am) (A : Option Addr) (cap : Nat) (key t : Int) (w0 W : World) (tl : W.cell? ⟨bl, 0, none⟩ = some (.slice A l.length cap)) (tk : W.cell? ⟨bk, 0, none⟩ = some (.int .i64 key)) (tt : W.cell? ⟨bt, 0, none⟩ = some (.int .i64 t))
    (hv : IsAs w0 (.slice A l.length cap) l) (hb0 : Below w0.heap.size w0 W) (hl : l.length ≤ 4096) :
    Iter Try.prog 42 #[.pointer (some ⟨bl, 0, none⟩), .pointer (some ⟨bk, 0, none⟩), .pointer (some ⟨bt, 0, none⟩)] encV (kn l key t) (protK bl bk bt w0.heap.size) W := by
  intro la J Jx hJ hJx hY h0
  obtain ⟨A', cap', e, hrow⟩ := hv
  injection e with e1 e2 e3
  subst e1 e3
  have HR := Lib.hid hrow
  have TK := Lib.hid tk
  have TT := Lib.hid tt
  have HY := Lib.hid hY
  have HJ := Lib.hid hJ
  have HJx := Lib.hid hJx
  have HB0 := Lib.hid hb0
  clear hrow hY hJ hJx hb0 tk tt
  refine callsIn_of_wp Try.func42 rfl trivial ?_ rfl
  simp only [Try.ntmps42, List.size_toArray, List.length_cons, List.length_nil, Nat.reduceAdd, Nat.reduceSub, Array.replicate_succ, Array.replicate_zero, List.push_toArray, List.append_toArray, List.nil_append, List.cons_append]
  gi_wp2
  clear tl
  gi_loopw [9] (fun i wr => ∃ k : Nat, k ≤ l.length ∧ i = .int .i64 k ∧ J ((kn (l.take k) key t).length) wr ∧ RStep W.heap.size (protK bl bk bt w0.heap.size) W wr) (fun i _ => l.length - (intOf i).toNat)
  case atStart => exact ⟨0, by omega, rfl, h0, RStep.refl _ _ _⟩
  case round =>
    obtain ⟨k, hk, rfl, hj, hs⟩ := hrel
    have HS := Lib.hid hs
    have HJk := Lib.hid hj
    by_cases hlt : k < l.length
    · obtain ⟨b, off, rfl, hat⟩ := IsAs_at HR.out hlt
      have HX := Lib.hid (hat.keepR HB0.out hs (fun b hb => .inr (.inr (.inr hb))))
      have HNO := Lib.hid (fun hp => filter_no (Vn.own key t) l k hlt hp)
      have HYES := Lib.hid (fun hp => filter_yes (Vn.own key t) l k hlt hp)
      have HAT := Lib.hid (fun hp => filter_at (Vn.own key t) l k hlt hp)
      generalize l[k] = x at *
      have tk := hs.cell (.inr (.inl rfl)) TK.out
      have tt := hs.cell (.inr (.inr (.inl rfl))) TT.out
      have lk := cell_lt tk
      have lt := cell_lt tt
      dsimp only at lk lt
      have HN := Lib.hid (BoxA.new wr x)
      have HA := Lib.hid (al1 wr (.cells #[.int .i64 x.no, .int .i64 x.at_, .int .i64 x.known, .int .i64 x.key, .int .i64 x.value, .bool x.gone] 27))
      clear hat hs hj
      have q0 := HX.out.c0
      have q1 := HX.out.c1
      have q2 := HX.out.c2
      have q3 := HX.out.c3
      have q4 := HX.out.c4
      have q5 := HX.out.c5
      cases hk0 : (x.key == key)
      · have hown : Vn.own key t x = false := by
          have : ¬ x.key = key := by simpa using hk0
          unfold Vn.own; rw [decide_eq_false this, Bool.false_and]
        have HF := Lib.hid (HNO.out hown)
        clear HYES HAT hown
        gi_wp2
        refine ⟨fun _ h => (by cases h), ?_⟩
        gi_wp2
        go_roundw
        case rel => exact ⟨k + 1, by omega, by go_num, by rw [show (kn (l.take (k + 1)) key t).length = (kn (l.take k) key t).length from HF.out]; exact HJ.out _ _ _ HJk.out (IStep.of_below HA.out), HS.out.trans (RStep.of_below HA.out)⟩
        case measure => first | omega | (simp [intOf]; omega)
      cases hn : decide (x.known ≤ t)
      · have hown : Vn.own key t x = false := by unfold Vn.own; rw [hn, Bool.and_false]
        have HF := Lib.hid (HNO.out hown)
        clear HYES HAT hown
        gi_wp2
        refine ⟨fun _ h => (by cases h), ?_⟩
        gi_wp2
        go_roundw
        case rel => exact ⟨k + 1, by omega, by go_num, by rw [show (kn (l.take (k + 1)) key t).length = (kn (l.take k) key t).length from HF.out]; exact HJ.out _ _ _ HJk.out (IStep.of_below HA.out), HS.out.trans (RStep.of_below HA.out)⟩
        case measure => first | omega | (simp [intOf]; omega)
      · have hown : Vn.own key t x = true := by
          have : x.key = key := by simpa using hk0
          unfold Vn.own; rw [hn, decide_eq_true this]; rfl
        have HF := Lib.hid (HYES.out hown)
        obtain ⟨hlt2, hget⟩ := HAT.out hown
        clear hown HYES HAT HNO
        have HN2 := HN
        obtain ⟨fn, tmps, assign, body, hy, hR⟩ := HY.out _ hlt2 _ (HJ.out _ _ _ HJk.out (IStep.of_below HA.out))
        rw [show (kn l key t)[((l.take k).filter (Vn.own key t)).length]'hlt2 = x from hget] at hy
        simp only [encV, vA] at hy
        have HRr := Lib.hid hR
        clear hR hget
        gi_wp2
        refine ⟨rfl, HRr.out.mono ?_⟩
        rintro e W3 (⟨rfl, hJ3, hs3⟩ | ⟨rfl, hJx3⟩)
        · gi_wp2
          go_roundw
          case rel => exact ⟨k + 1, by omega, by go_num, by rw [show (kn (l.take (k + 1)) key t).length = (kn (l.take k) key t).length + 1 from HF.out]; exact hJ3, (HS.out.trans (RStep.of_below HA.out)).trans hs3⟩
          case measure => first | omega | (simp [intOf]; omega)
        · gi_wp2
          refine bodyPost_ret (results_none rfl _ _ _) rfl ?_
          exact ⟨⟨_, rfl⟩, .inr ⟨_, hlt2, hJx3⟩⟩
    · have HE := Lib.hid (show kn (l.take k) key t = kn l key t by rw [List.take_of_length_le (by omega)])
      gi_wp2
      go_end0
      exact ⟨⟨_, rfl⟩, .inl (by rw [← HE.out]; exact HJk.out)⟩
/-- a step of a plain region in a round -/
theorem round_step {la : Nat} {P : Program} {ops : Array Oper} {o : Oper} {a : Act} {w : World} {K : Act → World → Prop} {Q : Exit → Act → World → Prop} {E E' : Prop} (hg : o.guard = none) (hd : ∀ c, o.op ≠ .defer c)
    (h : if Region.wanted o (yielded ops a.tmps) = true then Oper.wp P o a w K Q else E) : if Region.wanted o (yielded ops a.tmps) = true then o.wpIn (Fence.wide.inRound la) 0 P a w K Q else E' := by
  have hw : Region.wanted o (yielded ops a.tmps) = true := by simp [Region.wanted, hg]
  rw [if_pos hw] at h ⊢
  exact wp_round_op hd h
theorem wpListIn_pushA {W : World} {la : Nat} {ops : Array Oper} {rest : List Oper} {o : Oper} {a : Act} {Q : Exit → Act → World → Prop} (hgd : o.guard = none) (s x : Operand)
    (ho : o.op = .call { callee := .builtin .append, args := #[s, x], argTypes := #[22, 22] })
    (base : Nat) (v : Value) (xs : List Am) (hs : a.eval s = v) (hown : OwnAs W base v xs) (h : Am) (H : Nat) (hH : W.heap.size = H) (hx : a.eval x = .slice (some ⟨H, 0, none⟩) 1 1)
    (hlen : xs.length ≤ 1000000) (hb : base ≤ W.heap.size)
    (hk : ∀ v' w', OwnAs w' base v' (xs ++ [h]) → W.grownBy w' v.ownBlock → (v'.ownBlock = v.ownBlock ∨ v'.ownBlock = some (W.heap.size + 1)) → wpListIn (Fence.wide.inRound la) 0 Try.prog ops Q rest (a.put o.dst v') w') :
    wpListIn (Fence.wide.inRound la) 0 Try.prog ops Q (o :: rest) a (W.alloc (.cells #[.int .i64 h.no, .int .i64 h.at_, .int .i64 h.known, .int .i64 h.key, .int .i64 h.value, .bool h.gone] 27)) := by
  subst hH
  obtain ⟨i0, hi, hz0, hz1, hz2⟩ := info_parts infoA
  obtain ⟨v', w', hr, h2, h3, h4, h5⟩ := run_append_own_at (P := Try.prog) (W.alloc (.cells #[.int .i64 h.no, .int .i64 h.at_, .int .i64 h.known, .int .i64 h.key, .int .i64 h.value, .bool h.gone] 27)) base 22 o.type 27 i0 _ 6 48 Try.underlying22 hi hz0 hz1 hz2 rfl (by decide) v xs.length (xs.flatMap encA) (World.ownsRow.alloc hown _)
    ⟨W.heap.size, 0, none⟩ 1 1 (encA h) rfl (cell_newH W (encA h) _) (by simp [Value.oneCell', encA]) (by unfold maxLen; omega) (by omega) (by simp; omega)
  have hkk := hk v' w' (by unfold OwnAs; simpa [encA] using h2) ((World.grownBy_alloc W _ v.ownBlock).trans h3) (by simpa using h5)
  refine wpListIn_step (fun K hK => ?_)
  refine round_step (E := True) hgd (by intro c h; rw [ho] at h; cases h) ?_
  split
  · unfold Oper.wp execOp
    simp only [ho, resolve, invoke, builtin, Sem.run_bind, Sem.run_pure, Result.andThen_ok, List.map_toArray, List.map_cons, List.map_nil, hs, hx, hr]
    exact hK _ _ hkk
  · trivial

set_option maxHeartbeats 4000000 in
set_option maxRecDepth 100000 in
theorem appendSeq_any (gf : Nat) (lb : Array Value) (ys : List Am) (Prot : Nat → Prop) (w : World) (eg : ∀ args W, (callFunc gf args).run Try.prog W = .ok (.enter gf args) W) (hP : ∀ b, Prot b → b < w.heap.size) (hl : ys.length ≤ 4096)
    (hit : ∀ W', Below w.heap.size w W' → Iter Try.prog gf lb encV ys Prot W') :
    Calls Try.prog 48 #[.slice none 0 0, .func (.func gf) #[] lb] w (OwnPost ys w) := by
  refine (callsIn_wide (n := 0)).1 ?_
  refine callsIn_of_wp_marks Try.func48 rfl trivial ?_ rfl
  simp only [Try.ntmps48, List.size_toArray, List.length_cons, List.length_nil, Nat.reduceAdd, Nat.reduceSub, Array.replicate_succ, Array.replicate_zero, List.push_toArray, List.append_toArray, List.nil_append, List.cons_append]
  gi_wp2_with (fail)
  have hbx := Boxed.new w 22 (.slice none 0 0)
  have hsz : (w.alloc (.cells #[.slice none 0 0] 22)).heap.size = w.heap.size + 1 := by simp
  have hbel := al1 w (.cells #[.slice none 0 0] 22)
  obtain ⟨WL, hWL⟩ : ∃ WL, w.alloc (.cells #[.slice none 0 0] 22) = WL := ⟨_, rfl⟩
  rw [hWL] at hbx hsz hbel ⊢
  clear hWL
  refine rf_outer ys Prot (fun k X => ∃ v, Hid (Boxed X w.heap.size 22 v) ∧ Hid (OwnAs X w.heap.size v (ys.take k)) ∧ Hid (Below w.heap.size w X)) (fun _ _ _ => False)
    (enc := encV) rfl eg (fun _ => rfl) ?hP ?hit ?hI ?hIx ?h0 ?hround ?hdone ?hstop
  case hP => exact fun b h => by have := hP b h; omega
  case hit => exact fun X hX => hit X (hbel.up hX)
  case hI =>
    rintro k X Y ⟨v, h1, h2, h3⟩ hs
    refine ⟨v, hs.boxed h1.out, hs.owns h2.out, h3.out.os ▸ hs.os, h3.out.tape ▸ hs.tape, h3.out.output ▸ hs.output, Nat.le_trans h3.out.size hs.size, fun b hlt => ?_⟩
    have h4 : b < X.heap.size := Nat.lt_of_lt_of_le hlt h3.out.size
    rw [← h3.out.block b hlt, Array.getElem?_eq_getElem h4]
    exact hs.block b _ (Array.getElem?_eq_getElem h4) (.inr (by omega))
  case hIx => rintro c k X Y h hs; exact h
  case h0 => exact ⟨_, hbx, OwnAs.nil _ _, hbel⟩
  case hround =>
    rintro lr k hk X hlr ⟨v, HBx, HO, HK⟩
    have HS := Lib.hid (List.take_succ_eq_append_getElem hk)
    have hgl : (ys.take k).length ≤ 1000000 := by have := List.length_take_le k ys; omega
    generalize hx : ys[k] = x at *
    clear hx
    have HN := Lib.hid (BoxA.new X x)
    have ha := al1 X (.cells #[.int .i64 x.no, .int .i64 x.at_, .int .i64 x.known, .int .i64 x.key, .int .i64 x.value, .bool x.gone] 27)
    have HBx1 := Lib.hid (boxed_below HBx.out ha)
    have HO1 := Lib.hid (OwnAs.below HO.out ha)
    have HK1 := Lib.hid (HK.out.up ha)
    clear ha HBx HO HK
    simp only [encV, vA]
    gi_wp2
    refine ⟨RStep.of_below (al1 X _), ?_⟩
    rintro X2 hX2 _
    have HBx2 := Lib.hid (hX2.boxed HBx1.out)
    have HO2 := Lib.hid (show OwnAs X2 w.heap.size v (ys.take k) from hX2.owns HO1.out)
    have HH := Lib.hid (show BoxA X2 X.heap.size x from hX2.block _ _ HN.out (.inl rfl))
    have HK2 := Lib.hid (show Below w.heap.size w X2 from ⟨hX2.os.trans HK1.out.os, hX2.tape.trans HK1.out.tape, hX2.output.trans HK1.out.output, Nat.le_trans HK1.out.size hX2.size, fun b hlt => by
      have h4 : b < (X.alloc (.cells #[.int .i64 x.no, .int .i64 x.at_, .int .i64 x.known, .int .i64 x.key, .int .i64 x.value, .bool x.gone] 27)).heap.size := Nat.lt_of_lt_of_le hlt HK1.out.size
      rw [← HK1.out.block b hlt, Array.getElem?_eq_getElem h4]
      exact hX2.block b _ (Array.getElem?_eq_getElem h4) (.inr (by omega))⟩)
    clear HBx1 HO1 HK1 hX2 HN
    have bc := HBx2.out.cell
    have bl := HBx2.out.lt
    have lx := HH.out.lt
    have q0 := HH.out.c0
    have q1 := HH.out.c1
    have q2 := HH.out.c2
    have q3 := HH.out.c3
    have q4 := HH.out.c4
    have q5 := HH.out.c5
    gi_wp2_with (gi_at_builtin; go_must (refine wpListIn_pushA rfl (.tmp 8) (.tmp 10) rfl w.heap.size v (ys.take k) rfl HO2.out x X2.heap.size rfl rfl hgl HK2.out.size ?_; intro v1 w1 hown1 hg1 hce1; obtain ⟨A1, cc1, e1⟩ := OwnAs.slice hown1; generalize (ys.take k ++ [x]).length = n1 at e1; subst e1; have HO3 := Lib.hid hown1; have HG3 := Lib.hid hg1; have HX3 := Lib.hid (HBx2.out.kept hg1 (HBx2.out.not_row (by decide) HO2.out)); have bc3 := HX3.out.cell; have bf3 := HX3.out.frozen; clear hown1 hg1 hce1))
    have hrow : ∀ j, v.ownBlock = some j → w.heap.size ≤ j := fun j hj => (OwnAs.at HO2.out j hj).1
    refine ⟨(RStep.grown HG3.out ?_).trans (RStep.setCell _ _ _ ?_), _, HX3.out.set _, ?_, ?_⟩
    · intro j o hj ho
      have hlow := hrow j hj
      refine ⟨?_, fun h => by have := hP _ h; omega⟩
      obtain ⟨_, h | ⟨g', cap', cur, e1, e2, e3, _⟩⟩ := HO2.out
      · rw [h.1] at hj; cases hj
      · rw [e1] at hj
        injection hj with hj
        subst hj
        rw [e3] at ho; cases ho; rfl
    · exact fun h => by have := hP _ h; dsimp only at this; omega
    · rw [HS.out]
      exact World.ownsRow.kept HO3.out (grownBy_setCell' w1 _ _) (.inr (HX3.out.not_row (by decide) HO3.out).symm)
    · exact Lib.hid ((HK2.out.grown HG3.out HK2.out.size hrow).setCell (p := ⟨w.heap.size, 0, none⟩) (Nat.le_refl _) _)
  case hstop => rintro D c k W _ _ h; exact h.elim
  case hdone =>
    rintro D W hD ⟨v, HBx, HO, HK⟩ hDm
    rw [List.take_length] at HO
    have bc := HBx.out.cell
    gi_wp2_with (fail)
    refine leaves_marks _ _ (lo := w.heap.size) ⟨D, rfl, by omega, hDm, by simp, trivial⟩ ?_
    rintro W' o1 o2 o3 o4 o5
    have hB := HK.out
    have hst : IStep w.heap.size W W' := istep_marks o1 o2 o3 o4 o5
    refine ⟨_, results_tmp rfl _ _ _, v, rfl, (show OwnAs W' w.heap.size v ys from hst.owns HO.out), o1.trans hB.os, o2.trans hB.tape, o3.trans hB.output, by rw [o4]; exact hB.size, fun b hb => ?_⟩
    have h2 : b < W.heap.size := Nat.lt_of_lt_of_le hb hB.size
    rw [o5 b _ (Array.getElem?_eq_getElem h2) (.inr hb), ← Array.getElem?_eq_getElem h2]
    exact hB.block b hb

theorem collect_any (gf : Nat) (lb : Array Value) (ys : List Am) (Prot : Nat → Prop) (w : World) (eg : ∀ args W, (callFunc gf args).run Try.prog W = .ok (.enter gf args) W) (hP : ∀ b, Prot b → b < w.heap.size) (hl : ys.length ≤ 4096)
    (hit : ∀ W', Below w.heap.size w W' → Iter Try.prog gf lb encV ys Prot W') :
    Calls Try.prog 44 #[.func (.func gf) #[] lb] w (OwnPost ys w) := by
  have HC := Lib.hid (appendSeq_any gf lb ys Prot w eg hP hl hit)
  clear hit
  go_enter Try.func44, Try.ntmps44
  go_wp2_with (fail)
  refine HC.out.mono ?_
  rintro e w1 ⟨v', rfl, HO, HB⟩
  go_wp2_with (fail)
  go_ret
  exact ⟨_, rfl, HO, HB⟩
end Go.Proofs.Ytcifhigeieoogaa
