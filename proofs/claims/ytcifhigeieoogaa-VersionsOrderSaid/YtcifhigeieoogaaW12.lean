/- Walk of Value. -/
import Derived.Test.YtcifhigeieoogaaW11
namespace Go.Proofs.Ytcifhigeieoogaa
open Go.RowKit
set_option linter.unusedVariables false
set_option linter.unusedSimpArgs false
attribute [local go_sem] frozen_new
theorem cfAt_neg (x y : Am) : decide (cfAt x y < 0) = decide (x.at_ < y.at_ ∨ x.at_ = y.at_ ∧ x.no < y.no) := by
  rw [decide_eq_decide]
  unfold cfAt cmpI orN orN orN
  repeat (first | split | omega)
/-- the state of greatest for what counts -/
def ofO (b : Option Am) : Am × Bool := match b with
  | none => (⟨0, 0, 0, 0, 0, false⟩, false)
  | some x => (x, true)
theorem gst_take {l : List Am} (h : l.Pairwise (fun x y => x.no < y.no)) (key t k0 : Int) {k : Nat} (hk : k ≤ l.length) : gst t (kn (l.take k) key k0) = ofO (Vn.best (l.take k) key t k0) := by
  induction k with
  | zero => rfl
  | succ k ih =>
    have ih := ih (by omega)
    have hb := Vn.best_take h key t k0 (k := k) (by omega)
    have hi := Vn.inc_take h (k := k) (by omega)
    rw [Vn.best_take_succ (by omega)]
    unfold kn at ih ⊢
    rw [List.take_succ_eq_append_getElem (by omega), List.filter_append, Vn.cnt_own]
    generalize l[k] = x at *
    generalize Vn.best (l.take k) key t k0 = b at *
    by_cases ho : Vn.own key k0 x = true
    · have e1 : [x].filter (Vn.own key k0) = [x] := by simp [ho]
      rw [e1, ho, Bool.true_and]
      unfold gst at ih ⊢
      rw [List.foldl_append, ih]
      show gstp t (ofO b) x = _
      cases b with
      | none =>
        show gstp t (⟨0, 0, 0, 0, 0, false⟩, false) x = _
        unfold gstp
        simp only [Vn.better, Bool.not_false, Bool.true_or, Bool.and_true]
        split <;> rfl
      | some m =>
        have hm := hi m hb.1
        show gstp t (m, true) x = _
        unfold gstp
        simp only [Vn.better, Bool.not_true, Bool.false_or]
        rw [cfAt_neg, show decide (m.at_ < x.at_ ∨ m.at_ = x.at_ ∧ m.no < x.no) = decide (m.at_ ≤ x.at_) by rw [decide_eq_decide]; omega]
        split <;> rename_i hh <;> simp [hh, ofO]
    · have ho' : Vn.own key k0 x = false := by simpa using ho
      have e1 : [x].filter (Vn.own key k0) = [] := by simp [ho']
      rw [e1, ho', Bool.false_and, Bool.false_and, List.append_nil, ih]
      rfl
theorem vl_gst {l : List Am} (h : l.Pairwise (fun x y => x.no < y.no)) {key t k0 : Int} {y : Am} {f : Bool} (hs : gst t (kn l key k0) = (y, f)) : Vn.vl l key t k0 = (y.value, f && !y.gone) := by
  have h1 := gst_take h key t k0 (Nat.le_refl _)
  rw [List.take_length, hs] at h1
  unfold Vn.vl
  cases hb : Vn.best l key t k0 with
  | none => rw [hb] at h1; injection h1 with h2 h3; subst h2 h3; rfl
  | some m => rw [hb] at h1; injection h1 with h2 h3; subst h2 h3; simp [Vn.ofB]
theorem argV_k {key t k0 : Int} (h : Vn.inn key 1048576 = false) : Vn.argV key t k0 = false := by simp [Vn.argV, h]
theorem argV_t {key t k0 : Int} (h : Vn.inn t 1099511627775 = false) : Vn.argV key t k0 = false := by simp [Vn.argV, h]
theorem argV_n {key t k0 : Int} (h : Vn.inn k0 1099511627775 = false) : Vn.argV key t k0 = false := by simp [Vn.argV, h]
theorem argV_y {key t k0 : Int} (h1 : Vn.inn key 1048576 = true) (h2 : Vn.inn t 1099511627775 = true) (h3 : Vn.inn k0 1099511627775 = true) : Vn.argV key t k0 = true := by simp [Vn.argV, h1, h2, h3]
theorem valE_arg {l : List Am} {key t k0 : Int} (h : Vn.err l = 0) (ha : Vn.argV key t k0 = false) : Vn.valE l key t k0 = 1 ∧ Vn.val l key t k0 = (0, false) := by
  have h1 : Vn.valE l key t k0 = 1 := by unfold Vn.valE; rw [if_pos h, ha]; rfl
  exact ⟨h1, by unfold Vn.val; rw [h1]; rfl⟩
theorem valE_err {l : List Am} {key t k0 z : Int} (h : Vn.err l = z) (hz : ¬ z = 0) : Vn.valE l key t k0 = z ∧ Vn.val l key t k0 = (0, false) := by
  have h1 : Vn.valE l key t k0 = z := by unfold Vn.valE; rw [if_neg (by rw [h]; exact hz), h]
  exact ⟨h1, by unfold Vn.val; rw [h1, if_neg hz]⟩
theorem valE_ok {l : List Am} {key t k0 : Int} (h : Vn.err l = 0) (ha : Vn.argV key t k0 = true) : Vn.valE l key t k0 = 0 ∧ Vn.val l key t k0 = Vn.vl l key t k0 := by
  have h1 : Vn.valE l key t k0 = 0 := by unfold Vn.valE; rw [if_pos h, ha]; rfl
  exact ⟨h1, by unfold Vn.val; rw [h1]; rfl⟩
def ValPost (l : List Am) (key t k0 : Int) (w : World) : Ending → World → Prop := fun e w' => e = .returned (.tuple #[.int .i64 (Vn.val l key t k0).1, .bool (Vn.val l key t k0).2, .int .i64 (Vn.valE l key t k0)]) ∧ Below w.heap.size w w'
theorem ValPost.of {l : List Am} {key t k0 : Int} {w w' : World} {v z : Int} {b : Bool} (h : Vn.valE l key t k0 = z ∧ Vn.val l key t k0 = (v, b)) (hb : Below w.heap.size w w') : ValPost l key t k0 w (.returned (.tuple #[.int .i64 v, .bool b, .int .i64 z])) w' := by
  obtain ⟨h1, h2⟩ := h
  exact ⟨by rw [h1, h2], hb⟩

set_option maxHeartbeats 4000000 in
set_option maxRecDepth 100000 in
theorem Value_any (v : Value) (l : List Am) (key t k0 : Int) (w : World) (hv : IsAs w v l) (hl : l.length ≤ 9223372036854775807) : Calls Try.prog 12 #[v, .int .i64 key, .int .i64 t, .int .i64 k0] w (ValPost l key t k0 w) := by
  have HV := Lib.hid hv
  obtain ⟨A, cap, rfl, hr⟩ := id hv
  clear hr hv
  have HB0 := Lib.hid (al1 w (.cells #[.int .i64 t] 3))
  have HT0 := Lib.hid (Boxed.new w 3 (.int .i64 t))
  go_enter Try.func12, Try.ntmps12
  go_wp2_with (fail)
  by_cases he : Vn.err l = 0
  rotate_left
  · obtain ⟨z, hz⟩ : ∃ z, Vn.err l = z := ⟨_, rfl⟩
    have hne : (z != 0) = true := by rw [← hz, bne_iff_ne]; exact he
    have E := Lib.hid (valE_err (key := key) (t := t) (k0 := k0) hz (by rw [← hz]; exact he))
    refine (Check_is hz (HV.out.upb HB0.out) hl).mono ?_
    rintro e w1 ⟨rfl, b1⟩
    clear he hz
    go_wp2_with (fail)
    go_ret3
    exact .of E.out (HB0.out.up b1)
  have HOK := Lib.hid ((Vn.err_iff l).1 he)
  have hl2 : l.length ≤ 4096 := HOK.out.len
  refine (Check_is he (HV.out.upb HB0.out) hl).mono ?_
  rintro e w1 ⟨rfl, b1⟩
  have HB1 := Lib.hid (HB0.out.up b1)
  have HT1 := Lib.hid (boxed_below HT0.out b1)
  have HE := Lib.hid he
  clear b1 he HB0 HT0
  have tc := HT1.out.cell
  go_wp2_with (fail)
  cases a0 : Vn.inn key 1048576
  · refine (within_is a0 _).mono ?_
    rintro e _ ⟨rfl, rfl⟩
    have E := Lib.hid (valE_arg HE.out (argV_k (key := key) (t := t) (k0 := k0) a0))
    go_wp2_with (fail)
    go_ret3
    exact .of E.out HB1.out
  refine (within_is a0 _).mono ?_
  rintro e _ ⟨rfl, rfl⟩
  go_wp2_with (fail)
  cases a1 : Vn.inn t 1099511627775
  · refine (within_is a1 _).mono ?_
    rintro e _ ⟨rfl, rfl⟩
    have E := Lib.hid (valE_arg HE.out (argV_t (key := key) (t := t) (k0 := k0) a1))
    go_wp2_with (fail)
    go_ret3
    exact .of E.out HB1.out
  refine (within_is a1 _).mono ?_
  rintro e _ ⟨rfl, rfl⟩
  go_wp2_with (fail)
  cases a2 : Vn.inn k0 1099511627775
  · refine (within_is a2 _).mono ?_
    rintro e _ ⟨rfl, rfl⟩
    have E := Lib.hid (valE_arg HE.out (argV_n (key := key) (t := t) (k0 := k0) a2))
    go_wp2_with (fail)
    go_ret3
    exact .of E.out HB1.out
  refine (within_is a2 _).mono ?_
  rintro e _ ⟨rfl, rfl⟩
  go_wp2_with (fail)
  obtain ⟨y, hy⟩ : ∃ y, (gst t (kn l key k0)).1 = y := ⟨_, rfl⟩
  obtain ⟨f, hf⟩ : ∃ y, (gst t (kn l key k0)).2 = y := ⟨_, rfl⟩
  have HS := Lib.hid (show gst t (kn l key k0) = (y, f) by rw [← hy, ← hf])
  have E := Lib.hid (show Vn.valE l key t k0 = 0 ∧ Vn.val l key t k0 = (y.value, f && !y.gone) from by
    have := valE_ok (l := l) HE.out (argV_y a0 a1 a2)
    exact ⟨this.1, this.2.trans (vl_gst HOK.out.inc HS.out)⟩)
  clear hy hf a0 a1 a2
  refine (known_any A l.length cap key k0 _).mono ?_
  rintro e w2 ⟨rfl, hw2⟩
  have b2 : Below w1.heap.size w1 w2 := by rw [← hw2]; exact ((al1 w1 _).up (al1 _ _)).up (al1 _ _)
  have c1 : Boxed w2 w1.heap.size 22 (.slice A l.length cap) := by rw [← hw2]; exact ((Boxed.new w1 22 _).alloc _).alloc _
  have c2 : Boxed w2 (w1.heap.size + 1) 3 (.int .i64 key) := by
    have := ((Boxed.new (w1.alloc (.cells #[.slice A l.length cap] 22)) 3 (.int .i64 key))).alloc (.cells #[.int .i64 k0] 3)
    rw [World.size_alloc] at this
    rw [← hw2]; exact this
  have c3 : Boxed w2 (w1.heap.size + 1 + 1) 3 (.int .i64 k0) := by
    have := (Boxed.new ((w1.alloc (.cells #[.slice A l.length cap] 22)).alloc (.cells #[.int .i64 key] 3)) 3 (.int .i64 k0))
    rw [World.size_alloc, World.size_alloc] at this
    rw [← hw2]; exact this
  clear hw2
  have HB2 := Lib.hid (HB1.out.up b2)
  have HT2 := Lib.hid (boxed_below HT1.out b2)
  have hw : w.heap.size ≤ w2.heap.size := HB2.out.size
  have hn1 := c1.lt
  have hn2 := c2.lt
  have hn3 := c3.lt
  have HG := Lib.hid (greatest_any 42 #[.pointer (some ⟨w1.heap.size, 0, none⟩), .pointer (some ⟨w1.heap.size + 1, 0, none⟩), .pointer (some ⟨w1.heap.size + 1 + 1, 0, none⟩)] (kn l key k0) (protK w1.heap.size (w1.heap.size + 1) (w1.heap.size + 1 + 1) w.heap.size) w.heap.size t w2 (fun _ _ => rfl)
    (by rintro b (rfl | rfl | rfl | h) <;> omega) HT2.out.cell
    (fun X hX => known_iter w1.heap.size (w1.heap.size + 1) (w1.heap.size + 1 + 1) l A cap key k0 w X (boxed_below c1 hX).cell (boxed_below c2 hX).cell (boxed_below c3 hX).cell HV.out (HB2.out.up hX) hl2))
  have HG2 := Lib.hid (show Calls Try.prog 30 _ w2 (GPost (y, f) w2) from HS.out ▸ HG.out)
  clear b2 c1 c2 c3 tc HG hw hn1 hn2 hn3 HT1
  go_wp2_with (fail)
  refine HG2.out.mono ?_
  rintro e w3 ⟨rfl, b3⟩
  have HB3 := Lib.hid (HB2.out.up b3)
  clear b3 HG2 HT2 HB2
  have HY := Lib.hid (BoxA.new w3 y)
  have HBY := Lib.hid (al1 w3 (.cells #[.int .i64 y.no, .int .i64 y.at_, .int .i64 y.known, .int .i64 y.key, .int .i64 y.value, .bool y.gone] 27))
  have q4 := HY.out.c4
  have q5 := HY.out.c5
  dsimp only [vA]
  go_wp2_with (fail)
  cases f
  all_goals
    go_quiet (fail)
    go_wp2_with (fail)
    go_ret3
    exact .of E.out (below_drewN (HB3.out.up HBY.out) _)
theorem Value_is {v : Value} {l : List Am} {key t k0 z x : Int} {b : Bool} {w : World} (hz : Vn.valE l key t k0 = z) (hx : Vn.val l key t k0 = (x, b)) (hv : IsAs w v l) (hl : l.length ≤ 9223372036854775807) : Calls Try.prog 12 #[v, .int .i64 key, .int .i64 t, .int .i64 k0] w fun e w' => e = .returned (.tuple #[.int .i64 x, .bool b, .int .i64 z]) ∧ Below w.heap.size w w' :=
  (Value_any v l key t k0 w hv hl).mono fun e w' h => ⟨by rw [h.1, hz, hx], h.2⟩
end Go.Proofs.Ytcifhigeieoogaa
