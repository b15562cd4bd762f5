/- Walks of Check, the reference's Check, Few, Same, SameSteps. -/
import Derived.Test.YtcifhigeieoogaaW1
import Derived.Deep.RegionHeld3
namespace Go.Proofs.Ytcifhigeieoogaa
open Go.RowKit
set_option linter.unusedVariables false
set_option linter.unusedSimpArgs false
attribute [local go_sem] frozen_new

theorem okF_drop (z : Int) (l : List Am) (k : Nat) (h : k < l.length) : Vn.okF z (l.drop k) = (Vn.right l[k] && decide (z < l[k].no) && Vn.okF l[k].no (l.drop (k + 1))) := by
  rw [List.drop_eq_getElem_cons h, Vn.okF]
theorem err_many {l : List Am} (h : 4096 < l.length) : Vn.err l = 2 := by unfold Vn.err; rw [if_pos h]
theorem err_no {l : List Am} (h : l.length ≤ 4096) (h2 : Vn.okF (-1) l = false) : Vn.err l = 160 := by unfold Vn.err; rw [if_neg (by omega), if_neg (by rw [h2]; simp)]
theorem err_ok {l : List Am} (h : l.length ≤ 4096) (h2 : Vn.okF (-1) l = true) : Vn.err l = 0 := by unfold Vn.err; rw [if_neg (by omega), if_pos h2]

set_option maxHeartbeats 4000000 in
theorem Check_any (v : Value) (l : List Am) (w : World) (hv : IsAs w v l) (hl : l.length ≤ 9223372036854775807) : Calls Try.prog 16 #[v] w (IPost (Vn.err l) w) := by
  obtain ⟨A, cap, rfl, hr⟩ := hv
  have HR := Lib.hid hr
  clear hr
  by_cases hlen : 4096 < l.length
  · have hd : decide ((4096 : Int) < (l.length : Int)) = true := by rw [decide_eq_true_eq]; omega
    have HE := Lib.hid (err_many hlen)
    go_enter Try.func16, Try.ntmps16
    go_wp2_with (fail)
    go_ret
    exact .of HE.out (Below.refl _ _)
  have hd : decide ((4096 : Int) < (l.length : Int)) = false := by rw [decide_eq_false_iff_not]; omega
  have hlen2 : l.length ≤ 4096 := by omega
  clear hlen
  go_enter Try.func16, Try.ntmps16
  go_wp2_with (fail)
  clear hd
  go_loopw [3, 11] (fun t i wr => ∃ (k : Nat) (z : Int), k ≤ l.length ∧ i = .int .i64 k ∧ t = .int .i64 z ∧ Hid (Vn.okF (-1) l = Vn.okF z (l.drop k)) ∧ Hid (Below w.heap.size w wr)) (fun _ i _ => l.length - (intOf i).toNat)
  case atStart => exact ⟨0, -1, Nat.zero_le _, rfl, rfl, rfl, Below.refl _ _⟩
  case round =>
    obtain ⟨k, z, hk, rfl, rfl, H, HB⟩ := hrel
    by_cases hlt : k < l.length
    · obtain ⟨b, off, rfl, hat⟩ := IsAs_at HR.out hlt
      have hx := hat.below HB.out
      have HI := Lib.hid (H.out.trans (okF_drop z l k hlt))
      generalize l[k] = x at *
      clear hat H
      have q0 := hx.c0
      have q1 := hx.c1
      have q2 := hx.c2
      have q3 := hx.c3
      have q4 := hx.c4
      have q5 := hx.c5
      clear hx
      have HN := Lib.hid (BoxA.new wr x)
      have HW := Lib.hid (HB.out.trans ((al1 wr (.cells #[.int .i64 x.no, .int .i64 x.at_, .int .i64 x.known, .int .i64 x.key, .int .i64 x.value, .bool x.gone] 27)).mono HB.out.size))
      go_wp2_with (fail)
      cases hr : Vn.right x
      · have HE := Lib.hid (err_no hlen2 (by rw [HI.out, hr]; simp))
        refine (right_is hr _).mono ?_
        rintro e w2 ⟨rfl, hb2⟩
        go_wp2_with (fail)
        go_ret
        exact .of HE.out (HW.out.trans (hb2.mono HW.out.size))
      · refine (right_is hr _).mono ?_
        rintro e w2 ⟨rfl, hb2⟩
        have HN2 := Lib.hid (HN.out.upb hb2)
        have HW2 := Lib.hid (HW.out.trans (hb2.mono HW.out.size))
        clear hb2 q0 q1 q2 q3 q4 q5 HN HW
        have q0 := HN2.out.c0
        by_cases hz : x.no ≤ z
        · have hzd : decide (x.no ≤ z) = true := decide_eq_true hz
          have HE := Lib.hid (err_no hlen2 (by rw [HI.out, hr, decide_eq_false (show ¬ z < x.no by omega)]; simp))
          clear hz hr
          go_wp2_with (fail)
          go_ret
          exact .of HE.out HW2.out
        · have hzd : decide (x.no ≤ z) = false := decide_eq_false hz
          have HI2 := Lib.hid (show Vn.okF (-1) l = Vn.okF x.no (l.drop (k + 1)) by rw [HI.out, hr, decide_eq_true (show z < x.no by omega)]; simp)
          clear hz hr HI
          go_wp2_with (fail)
          go_roundw
          case rel => exact ⟨k + 1, x.no, by omega, by go_num, rfl, HI2, HW2⟩
          case measure => first | omega | (simp [intOf]; omega)
    · have HE := Lib.hid (err_ok hlen2 (by rw [H.out, List.drop_eq_nil_of_le (by omega)]; rfl))
      go_wp2_with (fail)
      go_ret
      exact .of HE.out HB.out

/-- the worlds that keep what lay in w -/
structure BW (w : World) where
  x : World
  h : Below w.heap.size w x
instance (w : World) : Nonempty (BW w) := ⟨⟨w, Below.refl _ w⟩⟩
theorem BW.call {w : World} {n : BW w} {f : Nat} {args : Array Value} {v : Value} {R : Ending → World → Prop} (h : Calls Try.prog f args n.x R) (hR : ∀ e w', R e w' → e = .returned v ∧ Below n.x.heap.size n.x w') :
    Calls Try.prog f args n.x fun e w'' => e = .returned v ∧ ∃ m : BW w, w'' = m.x :=
  h.mono fun e w' hr => ⟨(hR e w' hr).1, ⟨w', n.h.trans ((hR e w' hr).2.mono n.h.size)⟩, rfl⟩
theorem BW.start (w : World) : ∃ n : BW w, w.drew = n.x := ⟨⟨w.drew, below_drewN (Below.refl _ _) 1⟩, rfl⟩
/-- a region that draws, reads, and calls what keeps the world -/
theorem wp_region_kept {id : Nat} {Q : Exit → Act → World → Prop} {a : Act} {w : World} {l : List Oper} (hB : Region.lexB .any l.toArray = true)
    (h : wpQuiet Try.prog l.toArray (fun X => ∃ n : BW w, X = n.x) (fun a' => ∀ w', (∃ n : BW w, w' = n.x) → Q .normal a' w') l a) : (Code.region id l.toArray true).wp Try.prog Q a w :=
  wp_region_quiet (C := fun X => ∃ n : BW w, X = n.x) (by kernel_rfl) hB (BW.start w) (by simpa using h)
theorem BW.cell {w : World} {b o : Nat} {v : Value} (h : w.cell? ⟨b, o, none⟩ = some v) (n : BW w) : n.x.cell? ⟨b, o, none⟩ = some v := (n.h.cell (p := ⟨b, o, none⟩) (cell_lt h)).trans h

set_option maxHeartbeats 4000000 in
theorem refCheck_any (v : Value) (l : List Am) (w : World) (hv : IsAs w v l) (hl : l.length ≤ 9223372036854775807) : Calls Try.prog 17 #[v] w (IPost (Vn.err l) w) := by
  obtain ⟨A, cap, rfl, hr⟩ := hv
  have HR := Lib.hid hr
  clear hr
  by_cases hlen : 4096 < l.length
  · have hd : decide ((4096 : Int) < (l.length : Int)) = true := by rw [decide_eq_true_eq]; omega
    have HE := Lib.hid (err_many hlen)
    go_enter Try.func17, Try.ntmps17
    go_wp2_with (fail)
    go_ret
    exact .of HE.out (Below.refl _ _)
  have hd : decide ((4096 : Int) < (l.length : Int)) = false := by rw [decide_eq_false_iff_not]; omega
  have hlen2 : l.length ≤ 4096 := by omega
  clear hlen
  go_enter Try.func17, Try.ntmps17
  go_wp2_with (fail)
  clear hd
  go_loopw [3] (fun i wr => ∃ (k : Nat) (z : Int), k ≤ l.length ∧ i = .int .i64 k ∧ (k = 0 ∧ z = -1 ∨ ∃ m, ∃ h : m < l.length, k = m + 1 ∧ z = l[m].no) ∧ Hid (Vn.okF (-1) l = Vn.okF z (l.drop k)) ∧ Hid (Below w.heap.size w wr)) (fun i _ => l.length - (intOf i).toNat)
  case atStart => exact ⟨0, -1, Nat.zero_le _, rfl, .inl ⟨rfl, rfl⟩, rfl, Below.refl _ _⟩
  case round =>
    obtain ⟨k, z, hk, rfl, hz, H, HB⟩ := hrel
    by_cases hlt : k < l.length
    · obtain ⟨b, off, rfl, hat⟩ := IsAs_at HR.out hlt
      have HX := Lib.hid (hat.below HB.out)
      have HI := Lib.hid (H.out.trans (okF_drop z l k hlt))
      have HR0 := HR.out
      rcases hz with ⟨rfl, rfl⟩ | ⟨m, hm, rfl, rfl⟩
      · skip
        obtain ⟨x, hx⟩ : ∃ x, l[0] = x := ⟨_, rfl⟩
        have HLX := Lib.hid hx
        rw [hx] at HX HI
        have g2 : (0 : Int) < (l.length : Int) := by omega
        have hq := HX.out
        clear hat hx H HR0
        have q0 := BW.cell hq.c0
        have q1 := BW.cell hq.c1
        have q2 := BW.cell hq.c2
        have q3 := BW.cell hq.c3
        have q4 := BW.cell hq.c4
        have q5 := BW.cell hq.c5
        simp only [Nat.zero_mul, Nat.add_zero] at q0 q1 q2 q3 q4 q5
        clear hq
        cases hr : Vn.right x
        · skip
          have HE := Lib.hid (err_no hlen2 (by rw [HI.out, hr]; simp))
          go_wp2_with (fail)
          refine wp_region_kept (by kernel_rfl) ?_
          repeat (go_big_quiet_step (exact BW.call (refRight_is hr _) (fun _ _ h => h)))
          rintro _ ⟨nq, rfl⟩
          go_wp2_with (fail)
          go_ret
          exact .of HE.out (HB.out.trans (nq.h.mono HB.out.size))
        · have hno := (Vn.right_no hr).1
          have HI2 := Lib.hid (show Vn.okF (-1) l = Vn.okF x.no (l.drop (0 + 1)) by rw [HI.out, hr, decide_eq_true (show -1 < x.no by omega)]; simp)
          go_wp2_with (fail)
          refine wp_region_kept (by kernel_rfl) ?_
          repeat (go_big_quiet_step (exact BW.call (refRight_is hr _) (fun _ _ h => h)))
          rintro _ ⟨nq, rfl⟩
          have HB2 := Lib.hid (HB.out.trans (nq.h.mono HB.out.size))
          clear q0 q1 q2 q3 q4 q5
          go_wp2_with (fail)
          go_roundw
          case rel => exact ⟨0 + 1, x.no, by omega, by go_num, .inr ⟨0, hlt, rfl, by rw [HLX.out]⟩, HI2, HB2⟩
          case measure => first | omega | (simp [intOf]; omega)
      · skip
        obtain ⟨x, hx⟩ : ∃ x, l[m + 1] = x := ⟨_, rfl⟩
        have HLX := Lib.hid hx
        rw [hx] at HX HI
        obtain ⟨b', off', e', hat2⟩ := IsAs_at HR0 hm
        injection e' with e'
        injection e' with e1 e2
        subst e1 e2
        have p0 := BW.cell (hat2.below HB.out).c0
        obtain ⟨y, hy⟩ : ∃ y, l[m].no = y := ⟨_, rfl⟩
        rw [hy] at p0 HI H
        clear hat2 hy
        have g0 : decide ((0 : Int) < (m : Int) + 1) = true := by rw [decide_eq_true_eq]; omega
        have g1 : (m : Int) < (l.length : Int) := by omega
        have g2 : (m : Int) + 1 < (l.length : Int) := by omega
        have hq := HX.out
        clear hat hx H HR0
        have q0 := BW.cell hq.c0
        have q1 := BW.cell hq.c1
        have q2 := BW.cell hq.c2
        have q3 := BW.cell hq.c3
        have q4 := BW.cell hq.c4
        have q5 := BW.cell hq.c5
        clear hq
        cases hr : Vn.right x
        · skip
          have HE := Lib.hid (err_no hlen2 (by rw [HI.out, hr]; simp))
          go_wp2_with (fail)
          refine wp_region_kept (by kernel_rfl) ?_
          repeat (go_big_quiet_step (exact BW.call (refRight_is hr _) (fun _ _ h => h)))
          rintro _ ⟨nq, rfl⟩
          go_wp2_with (fail)
          go_ret
          exact .of HE.out (HB.out.trans (nq.h.mono HB.out.size))
        · by_cases hz : x.no ≤ y
          · have hzd : decide (x.no ≤ y) = true := decide_eq_true hz
            have HE := Lib.hid (err_no hlen2 (by rw [HI.out, hr, decide_eq_false (show ¬ y < x.no by omega)]; simp))
            go_wp2_with (fail)
            refine wp_region_kept (by kernel_rfl) ?_
            repeat (go_big_quiet_step (exact BW.call (refRight_is hr _) (fun _ _ h => h)))
            rintro _ ⟨nq, rfl⟩
            go_wp2_with (fail)
            go_ret
            exact .of HE.out (HB.out.trans (nq.h.mono HB.out.size))
          · have hzd : decide (x.no ≤ y) = false := decide_eq_false hz
            have HI2 := Lib.hid (show Vn.okF (-1) l = Vn.okF x.no (l.drop (m + 1 + 1)) by rw [HI.out, hr, decide_eq_true (show y < x.no by omega)]; simp)
            go_wp2_with (fail)
            refine wp_region_kept (by kernel_rfl) ?_
            repeat (go_big_quiet_step (exact BW.call (refRight_is hr _) (fun _ _ h => h)))
            rintro _ ⟨nq, rfl⟩
            have HB2 := Lib.hid (HB.out.trans (nq.h.mono HB.out.size))
            clear q0 q1 q2 q3 q4 q5 p0 hzd
            go_wp2_with (fail)
            go_roundw
            case rel => exact ⟨m + 1 + 1, x.no, by omega, by go_num, .inr ⟨m + 1, hlt, rfl, by rw [HLX.out]⟩, HI2, HB2⟩
            case measure => first | omega | (simp [intOf]; omega)
    · have HE := Lib.hid (err_ok hlen2 (by rw [H.out, List.drop_eq_nil_of_le (by omega)]; rfl))
      go_wp2_with (fail)
      go_ret
      exact .of HE.out HB.out

theorem Check_is {v : Value} {l : List Am} {x : Int} {w : World} (hx : Vn.err l = x) (hv : IsAs w v l) (hl : l.length ≤ 9223372036854775807) : Calls Try.prog 16 #[v] w (IPost x w) := by subst hx; exact Check_any v l w hv hl
theorem refCheck_is {v : Value} {l : List Am} {x : Int} {w : World} (hx : Vn.err l = x) (hv : IsAs w v l) (hl : l.length ≤ 9223372036854775807) : Calls Try.prog 17 #[v] w (IPost x w) := by subst hx; exact refCheck_any v l w hv hl

def fewB (n : Nat) : Bool := decide (n ≤ 30) || decide (4090 ≤ n) && decide (n ≤ 4100)
theorem few_any (v : Value) (l : List Am) (w : World) (hv : IsAs w v l) (hl : l.length ≤ 9223372036854775807) : Calls Try.prog 14 #[v] w fun e w' => e = .returned (.bool (fewB l.length)) ∧ w = w' := by
  obtain ⟨A, c, rfl, _⟩ := hv
  unfold fewB
  rw [show decide (l.length ≤ 30) = decide ((l.length : Int) ≤ 30) by rw [decide_eq_decide]; omega, show decide (4090 ≤ l.length) = decide ((4090 : Int) ≤ (l.length : Int)) by rw [decide_eq_decide]; omega, show decide (l.length ≤ 4100) = decide ((l.length : Int) ≤ 4100) by rw [decide_eq_decide]; omega]
  cases h1 : decide ((l.length : Int) ≤ 30)
  all_goals cases h2 : decide ((4090 : Int) ≤ (l.length : Int))
  all_goals cases h3 : decide ((l.length : Int) ≤ 4100)
  all_goals
    go_enter Try.func14, Try.ntmps14
    go_wp2
    go_ret
    exact ⟨rfl, rfl⟩
theorem few_is {v : Value} {l : List Am} {b : Bool} {w : World} (hb : fewB l.length = b) (hv : IsAs w v l) (hl : l.length ≤ 9223372036854775807) : Calls Try.prog 14 #[v] w fun e w' => e = .returned (.bool b) ∧ w = w' := by subst hb; exact few_any v l w hv hl

theorem same_of_takeA {xs ys : List Am} (h1 : xs.length ≤ ys.length) (h2 : ys.length ≤ xs.length) {k : Nat} (hk : xs.length ≤ k) (h : xs.take k = ys.take k) : xs = ys := by
  rwa [List.take_of_length_le hk, List.take_of_length_le (by omega)] at h

set_option maxHeartbeats 4000000 in
theorem same_any (v u : Value) (xs ys : List Am) (w : World) (hv : IsAs w v xs) (hu : IsAs w u ys) (hl : xs.length ≤ 9223372036854775807) (hl2 : ys.length ≤ 9223372036854775807) :
    Calls Try.prog 13 #[v, u] w fun e w' => e = .returned (.bool (decide (xs = ys))) ∧ ∃ k, w' = w.drewN k := by
  obtain ⟨A, c, rfl, hr⟩ := hv
  obtain ⟨A2, c2, rfl, hr2⟩ := hu
  have HR := Lib.hid hr
  have HR2 := Lib.hid hr2
  clear hr hr2
  by_cases hne : xs.length = ys.length
  · have h1 : xs.length ≤ ys.length := by omega
    have h2 : ys.length ≤ xs.length := by omega
    clear hne
    go_enter Try.func13, Try.ntmps13
    go_wp2
    go_loopw [5] (fun i wr => ∃ k : Nat, k ≤ xs.length ∧ i = .int .i64 k ∧ Hid (xs.take k = ys.take k) ∧ ∃ q, wr = w.drewN q) (fun i _ => xs.length - (intOf i).toNat)
    case atStart => exact ⟨0, Nat.zero_le _, rfl, rfl, 0, rfl⟩
    case round =>
      obtain ⟨k, hk, rfl, H, q, rfl⟩ := hrel
      by_cases hlt : k < xs.length
      · obtain ⟨b, off, rfl, hat⟩ := IsAs_at HR.out hlt
        obtain ⟨b2, off2, rfl, hat2⟩ := IsAs_at HR2.out (show k < ys.length by omega)
        have x0 := hat.c0
        have y0 := hat2.c0
        have x1 := hat.c1
        have y1 := hat2.c1
        have x2 := hat.c2
        have y2 := hat2.c2
        have x3 := hat.c3
        have y3 := hat2.c3
        have x4 := hat.c4
        have y4 := hat2.c4
        have x5 := hat.c5
        have y5 := hat2.c5
        have HT := Lib.hid (fun (e : xs[k] = ys[k]) => show xs.take (k + 1) = ys.take (k + 1) by rw [List.take_succ_eq_append_getElem hlt, List.take_succ_eq_append_getElem (by omega), H.out, e])
        have HF := Lib.hid (fun (e : ¬ xs[k] = ys[k]) (h : xs = ys) => e (by subst h; rfl))
        generalize xs[k] = x at *
        generalize ys[k] = y at *
        clear hat hat2

        cases d0 : (x.no == y.no)
        · have HN := Lib.hid (HF.out (by rintro rfl; simp at d0))
          clear HF HT
          go_wp2
          go_quiet (fail)
          go_wp2
          go_ret
          exact ⟨ret_bool (by symm; simpa using HN.out), _, World.drewN_drewN ..⟩
        cases d1 : (x.at_ == y.at_)
        · have HN := Lib.hid (HF.out (by rintro rfl; simp at d1))
          clear HF HT
          go_wp2
          go_quiet (fail)
          go_wp2
          go_ret
          exact ⟨ret_bool (by symm; simpa using HN.out), _, World.drewN_drewN ..⟩
        cases d2 : (x.known == y.known)
        · have HN := Lib.hid (HF.out (by rintro rfl; simp at d2))
          clear HF HT
          go_wp2
          go_quiet (fail)
          go_wp2
          go_ret
          exact ⟨ret_bool (by symm; simpa using HN.out), _, World.drewN_drewN ..⟩
        cases d3 : (x.key == y.key)
        · have HN := Lib.hid (HF.out (by rintro rfl; simp at d3))
          clear HF HT
          go_wp2
          go_quiet (fail)
          go_wp2
          go_ret
          exact ⟨ret_bool (by symm; simpa using HN.out), _, World.drewN_drewN ..⟩
        cases d4 : (x.value == y.value)
        · have HN := Lib.hid (HF.out (by rintro rfl; simp at d4))
          clear HF HT
          go_wp2
          go_quiet (fail)
          go_wp2
          go_ret
          exact ⟨ret_bool (by symm; simpa using HN.out), _, World.drewN_drewN ..⟩
        cases d5 : (x.gone == y.gone)
        · have HN := Lib.hid (HF.out (by rintro rfl; simp at d5))
          clear HF HT
          go_wp2
          go_quiet (fail)
          go_wp2
          go_ret
          exact ⟨ret_bool (by symm; simpa using HN.out), _, World.drewN_drewN ..⟩
        have he : x = y := by cases x; cases y; simp at d0 d1 d2 d3 d4 d5; simp [*]
        subst he
        clear d0 d1 d2 d3 d4 d5
        have HTT := Lib.hid (HT.out rfl)
        clear HT HF
        go_wp2
        go_quiet (fail)
        go_wp2
        go_roundw
        case rel => exact ⟨k + 1, by omega, by go_num, HTT, _, rfl⟩
        case measure => first | omega | (simp [intOf]; omega)
      · go_wp2
        go_ret
        exact ⟨ret_bool (by symm; simpa using same_of_takeA h1 h2 (by omega) H.out), _, rfl⟩
  · have hb : ((xs.length : Int) != (ys.length : Int)) = true := by simp; omega
    go_enter Try.func13, Try.ntmps13
    go_wp2
    go_ret
    exact ⟨ret_bool (by symm; simp; rintro rfl; exact hne rfl), 0, rfl⟩
theorem same_is {v u : Value} {xs ys : List Am} {b : Bool} {w : World} (hb : decide (xs = ys) = b) (hv : IsAs w v xs) (hu : IsAs w u ys) (hl : xs.length ≤ 9223372036854775807) (hl2 : ys.length ≤ 9223372036854775807) :
    Calls Try.prog 13 #[v, u] w fun e w' => e = .returned (.bool b) ∧ ∃ k, w' = w.drewN k := by subst hb; exact same_any v u xs ys w hv hu hl hl2

theorem same_of_takeS {xs ys : List St} (h1 : xs.length ≤ ys.length) (h2 : ys.length ≤ xs.length) {k : Nat} (hk : xs.length ≤ k) (h : xs.take k = ys.take k) : xs = ys := by
  rwa [List.take_of_length_le hk, List.take_of_length_le (by omega)] at h

set_option maxHeartbeats 4000000 in
theorem sameS_any (v u : Value) (xs ys : List St) (w : World) (hv : IsSs w v xs) (hu : IsSs w u ys) (hl : xs.length ≤ 9223372036854775807) (hl2 : ys.length ≤ 9223372036854775807) :
    Calls Try.prog 21 #[v, u] w fun e w' => e = .returned (.bool (decide (xs = ys))) ∧ ∃ k, w' = w.drewN k := by
  obtain ⟨A, c, rfl, hr⟩ := hv
  obtain ⟨A2, c2, rfl, hr2⟩ := hu
  have HR := Lib.hid hr
  have HR2 := Lib.hid hr2
  clear hr hr2
  by_cases hne : xs.length = ys.length
  · have h1 : xs.length ≤ ys.length := by omega
    have h2 : ys.length ≤ xs.length := by omega
    clear hne
    go_enter Try.func21, Try.ntmps21
    go_wp2
    go_loopw [5] (fun i wr => ∃ k : Nat, k ≤ xs.length ∧ i = .int .i64 k ∧ Hid (xs.take k = ys.take k) ∧ ∃ q, wr = w.drewN q) (fun i _ => xs.length - (intOf i).toNat)
    case atStart => exact ⟨0, Nat.zero_le _, rfl, rfl, 0, rfl⟩
    case round =>
      obtain ⟨k, hk, rfl, H, q, rfl⟩ := hrel
      by_cases hlt : k < xs.length
      · obtain ⟨b, off, rfl, hat⟩ := IsSs_at HR.out hlt
        obtain ⟨b2, off2, rfl, hat2⟩ := IsSs_at HR2.out (show k < ys.length by omega)
        have x0 := hat.c0
        have y0 := hat2.c0
        have x1 := hat.c1
        have y1 := hat2.c1
        have x2 := hat.c2
        have y2 := hat2.c2
        have HT := Lib.hid (fun (e : xs[k] = ys[k]) => show xs.take (k + 1) = ys.take (k + 1) by rw [List.take_succ_eq_append_getElem hlt, List.take_succ_eq_append_getElem (by omega), H.out, e])
        have HF := Lib.hid (fun (e : ¬ xs[k] = ys[k]) (h : xs = ys) => e (by subst h; rfl))
        generalize xs[k] = x at *
        generalize ys[k] = y at *
        clear hat hat2

        cases d0 : (x.at_ == y.at_)
        · have HN := Lib.hid (HF.out (by rintro rfl; simp at d0))
          clear HF HT
          go_wp2
          go_quiet (fail)
          go_wp2
          go_ret
          exact ⟨ret_bool (by symm; simpa using HN.out), _, World.drewN_drewN ..⟩
        cases d1 : (x.value == y.value)
        · have HN := Lib.hid (HF.out (by rintro rfl; simp at d1))
          clear HF HT
          go_wp2
          go_quiet (fail)
          go_wp2
          go_ret
          exact ⟨ret_bool (by symm; simpa using HN.out), _, World.drewN_drewN ..⟩
        cases d2 : (x.ok == y.ok)
        · have HN := Lib.hid (HF.out (by rintro rfl; simp at d2))
          clear HF HT
          go_wp2
          go_quiet (fail)
          go_wp2
          go_ret
          exact ⟨ret_bool (by symm; simpa using HN.out), _, World.drewN_drewN ..⟩
        have he : x = y := by cases x; cases y; simp at d0 d1 d2; simp [*]
        subst he
        clear d0 d1 d2
        have HTT := Lib.hid (HT.out rfl)
        clear HT HF
        go_wp2
        go_quiet (fail)
        go_wp2
        go_roundw
        case rel => exact ⟨k + 1, by omega, by go_num, HTT, _, rfl⟩
        case measure => first | omega | (simp [intOf]; omega)
      · go_wp2
        go_ret
        exact ⟨ret_bool (by symm; simpa using same_of_takeS h1 h2 (by omega) H.out), _, rfl⟩
  · have hb : ((xs.length : Int) != (ys.length : Int)) = true := by simp; omega
    go_enter Try.func21, Try.ntmps21
    go_wp2
    go_ret
    exact ⟨ret_bool (by symm; simp; rintro rfl; exact hne rfl), 0, rfl⟩
theorem sameS_is {v u : Value} {xs ys : List St} {b : Bool} {w : World} (hb : decide (xs = ys) = b) (hv : IsSs w v xs) (hu : IsSs w u ys) (hl : xs.length ≤ 9223372036854775807) (hl2 : ys.length ≤ 9223372036854775807) :
    Calls Try.prog 21 #[v, u] w fun e w' => e = .returned (.bool b) ∧ ∃ k, w' = w.drewN k := by subst hb; exact sameS_any v u xs ys w hv hu hl hl2

end Go.Proofs.Ytcifhigeieoogaa
