/- Walks of Check and of the reference's Check. -/
import Derived.Test.YtninnpcggeofmaaW5
import Derived.Deep.RegionHeld3
namespace Go.Proofs.Ytninnpcggeofmaa
open Go.RowKit
set_option linter.unusedVariables false
set_option linter.unusedSimpArgs false
attribute [local go_sem] frozen_new

theorem incr_cons (z : Int) (l : List Hh) (k : Nat) (h : k < l.length) : Hh.incr z (l.drop k) = (Hh.right l[k] && decide (z < l[k].no) && Hh.incr l[k].no (l.drop (k + 1))) := by
  rw [List.drop_eq_getElem_cons h, Hh.incr]
theorem err_many {l : List Hh} (h : 1024 < l.length) : Hh.err l = 2 := by unfold Hh.err; rw [if_pos h]
theorem err_no {l : List Hh} (h : l.length ≤ 1024) (h2 : Hh.incr (-1) l = false) : Hh.err l = 350 := by unfold Hh.err; rw [if_neg (by omega), if_neg (by rw [h2]; simp)]
theorem err_ok {l : List Hh} (h : l.length ≤ 1024) (h2 : Hh.incr (-1) l = true) : Hh.err l = 0 := by unfold Hh.err; rw [if_neg (by omega), if_pos h2]
def IPost (x : Int) (w : World) (e : Ending) (w' : World) : Prop := e = .returned (.int .i64 x) ∧ Below w.heap.size w w'
theorem IPost.of {x y : Int} {w w' : World} (h : x = y) (hb : Below w.heap.size w w') : IPost x w (.returned (.int .i64 y)) w' := by subst h; exact ⟨rfl, hb⟩

set_option maxHeartbeats 4000000 in
theorem Check_any (v : Value) (l : List Hh) (w : World) (hv : IsHs w v l) (hl : l.length ≤ 9223372036854775807) : Calls Try.prog 20 #[v] w (IPost (Hh.err l) w) := by
  obtain ⟨A, cap, rfl, hr⟩ := hv
  have HR := Lib.hid hr
  clear hr
  by_cases hlen : 1024 < l.length
  · have hd : decide ((1024 : Int) < (l.length : Int)) = true := by rw [decide_eq_true_eq]; omega
    have HE := Lib.hid (err_many hlen)
    go_enter Try.func20, Try.ntmps20
    go_wp2_with (fail)
    go_ret
    exact .of HE.out (Below.refl _ _)
  have hd : decide ((1024 : Int) < (l.length : Int)) = false := by rw [decide_eq_false_iff_not]; omega
  have hlen2 : l.length ≤ 1024 := by omega
  clear hlen
  go_enter Try.func20, Try.ntmps20
  go_wp2_with (fail)
  clear hd
  go_loopw [3, 11] (fun t i wr => ∃ (k : Nat) (z : Int), k ≤ l.length ∧ i = .int .i64 k ∧ t = .int .i64 z ∧ Hid (Hh.incr (-1) l = Hh.incr z (l.drop k)) ∧ Hid (Below w.heap.size w wr)) (fun _ i _ => l.length - (intOf i).toNat)
  case atStart => exact ⟨0, -1, Nat.zero_le _, rfl, rfl, rfl, Below.refl _ _⟩
  case round =>
    obtain ⟨k, z, hk, rfl, rfl, H, HB⟩ := hrel
    by_cases hlt : k < l.length
    · obtain ⟨b, off, rfl, hat⟩ := hs_at HR.out hlt
      have hx := hat.below HB.out
      have HI := Lib.hid (H.out.trans (incr_cons z l k hlt))
      generalize l[k] = x at *
      clear hat H
      have q0 := hx.c0
      have q1 := hx.c1
      have q2 := hx.c2
      have q3 := hx.c3
      have q4 := hx.c4
      have q5 := hx.c5
      have q6 := hx.c6
      have q7 := hx.c7
      have q8 := hx.c8
      have q9 := hx.c9
      clear hx
      have HN := Lib.hid (BoxH.new wr x)
      have HW := Lib.hid (HB.out.trans ((al1 wr (.cells #[.int .i64 x.no, .int .i64 x.kind, .int .i64 x.spk, .int .i64 x.fst, .int .i64 x.lst, .int .i64 x.lang, .int .i64 x.frm, .int .i64 x.unt, .int .i64 x.known, .int .i64 x.ms] 24)).mono HB.out.size))
      go_wp2_with (fail)
      cases hr : Hh.right x
      · have HE := Lib.hid (err_no hlen2 (by rw [HI.out, hr]; simp))
        refine (right_is hr _).mono ?_
        rintro e w2 ⟨rfl, hb2⟩
        go_wp2_with (fail)
        go_ret
        exact .of HE.out (HW.out.trans (hb2.mono HW.out.size))
      · refine (right_is hr _).mono ?_
        rintro e w2 ⟨rfl, hb2⟩
        have HN2 := Lib.hid (HN.out.upb hb2)
        have HW2 := Lib.hid (HW.out.trans (hb2.mono HW.out.size))
        clear hb2 q0 q1 q2 q3 q4 q5 q6 q7 q8 q9 HN HW
        have q0 := HN2.out.c0
        by_cases hz : x.no ≤ z
        · have hzd : decide (x.no ≤ z) = true := decide_eq_true hz
          have HE := Lib.hid (err_no hlen2 (by rw [HI.out, hr, decide_eq_false (show ¬ z < x.no by omega)]; simp))
          clear hz hr
          go_wp2_with (fail)
          go_ret
          exact .of HE.out HW2.out
        · have hzd : decide (x.no ≤ z) = false := decide_eq_false hz
          have HI2 := Lib.hid (show Hh.incr (-1) l = Hh.incr x.no (l.drop (k + 1)) by rw [HI.out, hr, decide_eq_true (show z < x.no by omega)]; simp)
          clear hz hr HI
          go_wp2_with (fail)
          go_roundw
          case rel => exact ⟨k + 1, x.no, by omega, by go_num, rfl, HI2, HW2⟩
          case measure => first | omega | (simp [intOf]; omega)
    · have HE := Lib.hid (err_ok hlen2 (by rw [H.out, List.drop_eq_nil_of_le (by omega)]; rfl))
      go_wp2_with (fail)
      go_ret
      exact .of HE.out HB.out


/-- the worlds that keep what lay in w -/
structure BW (w : World) where
  x : World
  h : Below w.heap.size w x
instance (w : World) : Nonempty (BW w) := ⟨⟨w, Below.refl _ w⟩⟩
theorem BW.call {w : World} {n : BW w} {f : Nat} {args : Array Value} {v : Value} {R : Ending → World → Prop} (h : Calls Try.prog f args n.x R) (hR : ∀ e w', R e w' → e = .returned v ∧ Below n.x.heap.size n.x w') :
    Calls Try.prog f args n.x fun e w'' => e = .returned v ∧ ∃ m : BW w, w'' = m.x :=
  h.mono fun e w' hr => ⟨(hR e w' hr).1, ⟨w', n.h.trans ((hR e w' hr).2.mono n.h.size)⟩, rfl⟩
theorem BW.start (w : World) : ∃ n : BW w, w.drew = n.x := ⟨⟨w.drew, below_drewN (Below.refl _ _) 1⟩, rfl⟩
/-- a region that draws, reads, and calls what keeps the world -/
theorem wp_region_kept {id : Nat} {Q : Exit → Act → World → Prop} {a : Act} {w : World} {l : List Oper} (hB : Region.lexB .any l.toArray = true)
    (h : wpQuiet Try.prog l.toArray (fun X => ∃ n : BW w, X = n.x) (fun a' => ∀ w', (∃ n : BW w, w' = n.x) → Q .normal a' w') l a) : (Code.region id l.toArray true).wp Try.prog Q a w :=
  wp_region_quiet (C := fun X => ∃ n : BW w, X = n.x) (by kernel_rfl) hB (BW.start w) (by simpa using h)
theorem BW.cell {w : World} {b o : Nat} {v : Value} (h : w.cell? ⟨b, o, none⟩ = some v) (n : BW w) : n.x.cell? ⟨b, o, none⟩ = some v := (n.h.cell (p := ⟨b, o, none⟩) (cell_lt h)).trans h

set_option maxHeartbeats 4000000 in
theorem refCheck_any (v : Value) (l : List Hh) (w : World) (hv : IsHs w v l) (hl : l.length ≤ 9223372036854775807) : Calls Try.prog 21 #[v] w (IPost (Hh.err l) w) := by
  obtain ⟨A, cap, rfl, hr⟩ := hv
  have HR := Lib.hid hr
  clear hr
  by_cases hlen : 1024 < l.length
  · have hd : decide ((1024 : Int) < (l.length : Int)) = true := by rw [decide_eq_true_eq]; omega
    have HE := Lib.hid (err_many hlen)
    go_enter Try.func21, Try.ntmps21
    go_wp2_with (fail)
    go_ret
    exact .of HE.out (Below.refl _ _)
  have hd : decide ((1024 : Int) < (l.length : Int)) = false := by rw [decide_eq_false_iff_not]; omega
  have hlen2 : l.length ≤ 1024 := by omega
  clear hlen
  go_enter Try.func21, Try.ntmps21
  go_wp2_with (fail)
  clear hd
  go_loopw [3] (fun i wr => ∃ (k : Nat) (z : Int), k ≤ l.length ∧ i = .int .i64 k ∧ (k = 0 ∧ z = -1 ∨ ∃ m, ∃ h : m < l.length, k = m + 1 ∧ z = l[m].no) ∧ Hid (Hh.incr (-1) l = Hh.incr z (l.drop k)) ∧ Hid (Below w.heap.size w wr)) (fun i _ => l.length - (intOf i).toNat)
  case atStart => exact ⟨0, -1, Nat.zero_le _, rfl, .inl ⟨rfl, rfl⟩, rfl, Below.refl _ _⟩
  case round =>
    obtain ⟨k, z, hk, rfl, hz, H, HB⟩ := hrel
    by_cases hlt : k < l.length
    · obtain ⟨b, off, rfl, hat⟩ := hs_at HR.out hlt
      have HX := Lib.hid (hat.below HB.out)
      have HI := Lib.hid (H.out.trans (incr_cons z l k hlt))
      have HR0 := HR.out
      rcases hz with ⟨rfl, rfl⟩ | ⟨m, hm, rfl, rfl⟩
      · skip
        obtain ⟨x, hx⟩ : ∃ x, l[0] = x := ⟨_, rfl⟩
        have HLX := Lib.hid hx
        rw [hx] at HX HI
        have g2 : (0 : Int) < (l.length : Int) := by omega
        have hq := HX.out
        clear hat hx H HR0
        have q0 := BW.cell hq.c0
        have q1 := BW.cell hq.c1
        have q2 := BW.cell hq.c2
        have q3 := BW.cell hq.c3
        have q4 := BW.cell hq.c4
        have q5 := BW.cell hq.c5
        have q6 := BW.cell hq.c6
        have q7 := BW.cell hq.c7
        have q8 := BW.cell hq.c8
        have q9 := BW.cell hq.c9
        simp only [Nat.zero_mul, Nat.add_zero] at q0 q1 q2 q3 q4 q5 q6 q7 q8 q9
        clear hq
        cases hr : Hh.right x
        · skip
          have HE := Lib.hid (err_no hlen2 (by rw [HI.out, hr]; simp))
          go_wp2_with (fail)
          refine wp_region_kept (by kernel_rfl) ?_
          repeat (go_big_quiet_step (exact BW.call (refRight_is hr _) (fun _ _ h => h)))
          rintro _ ⟨nq, rfl⟩
          go_wp2_with (fail)
          go_ret
          exact .of HE.out (HB.out.trans (nq.h.mono HB.out.size))
        · have hno := ((Hh.right_iff x).1 hr).no.1
          have HI2 := Lib.hid (show Hh.incr (-1) l = Hh.incr x.no (l.drop (0 + 1)) by rw [HI.out, hr, decide_eq_true (show -1 < x.no by omega)]; simp)
          go_wp2_with (fail)
          refine wp_region_kept (by kernel_rfl) ?_
          repeat (go_big_quiet_step (exact BW.call (refRight_is hr _) (fun _ _ h => h)))
          rintro _ ⟨nq, rfl⟩
          have HB2 := Lib.hid (HB.out.trans (nq.h.mono HB.out.size))
          clear q0 q1 q2 q3 q4 q5 q6 q7 q8 q9
          go_wp2_with (fail)
          go_roundw
          case rel => exact ⟨0 + 1, x.no, by omega, by go_num, .inr ⟨0, hlt, rfl, by rw [HLX.out]⟩, HI2, HB2⟩
          case measure => first | omega | (simp [intOf]; omega)
      · skip
        obtain ⟨x, hx⟩ : ∃ x, l[m + 1] = x := ⟨_, rfl⟩
        have HLX := Lib.hid hx
        rw [hx] at HX HI
        obtain ⟨b', off', e', hat2⟩ := hs_at HR0 hm
        injection e' with e'
        injection e' with e1 e2
        subst e1 e2
        have p0 := BW.cell (hat2.below HB.out).c0
        obtain ⟨y, hy⟩ : ∃ y, l[m].no = y := ⟨_, rfl⟩
        rw [hy] at p0 HI H
        clear hat2 hy
        have g0 : decide ((0 : Int) < (m : Int) + 1) = true := by rw [decide_eq_true_eq]; omega
        have g1 : (m : Int) < (l.length : Int) := by omega
        have g2 : (m : Int) + 1 < (l.length : Int) := by omega
        have hq := HX.out
        clear hat hx H HR0
        have q0 := BW.cell hq.c0
        have q1 := BW.cell hq.c1
        have q2 := BW.cell hq.c2
        have q3 := BW.cell hq.c3
        have q4 := BW.cell hq.c4
        have q5 := BW.cell hq.c5
        have q6 := BW.cell hq.c6
        have q7 := BW.cell hq.c7
        have q8 := BW.cell hq.c8
        have q9 := BW.cell hq.c9
        clear hq
        cases hr : Hh.right x
        · skip
          have HE := Lib.hid (err_no hlen2 (by rw [HI.out, hr]; simp))
          go_wp2_with (fail)
          refine wp_region_kept (by kernel_rfl) ?_
          repeat (go_big_quiet_step (exact BW.call (refRight_is hr _) (fun _ _ h => h)))
          rintro _ ⟨nq, rfl⟩
          go_wp2_with (fail)
          go_ret
          exact .of HE.out (HB.out.trans (nq.h.mono HB.out.size))
        · by_cases hz : x.no ≤ y
          · have hzd : decide (x.no ≤ y) = true := decide_eq_true hz
            have HE := Lib.hid (err_no hlen2 (by rw [HI.out, hr, decide_eq_false (show ¬ y < x.no by omega)]; simp))
            go_wp2_with (fail)
            refine wp_region_kept (by kernel_rfl) ?_
            repeat (go_big_quiet_step (exact BW.call (refRight_is hr _) (fun _ _ h => h)))
            rintro _ ⟨nq, rfl⟩
            go_wp2_with (fail)
            go_ret
            exact .of HE.out (HB.out.trans (nq.h.mono HB.out.size))
          · have hzd : decide (x.no ≤ y) = false := decide_eq_false hz
            have HI2 := Lib.hid (show Hh.incr (-1) l = Hh.incr x.no (l.drop (m + 1 + 1)) by rw [HI.out, hr, decide_eq_true (show y < x.no by omega)]; simp)
            go_wp2_with (fail)
            refine wp_region_kept (by kernel_rfl) ?_
            repeat (go_big_quiet_step (exact BW.call (refRight_is hr _) (fun _ _ h => h)))
            rintro _ ⟨nq, rfl⟩
            have HB2 := Lib.hid (HB.out.trans (nq.h.mono HB.out.size))
            clear q0 q1 q2 q3 q4 q5 q6 q7 q8 q9 p0 hzd
            go_wp2_with (fail)
            go_roundw
            case rel => exact ⟨m + 1 + 1, x.no, by omega, by go_num, .inr ⟨m + 1, hlt, rfl, by rw [HLX.out]⟩, HI2, HB2⟩
            case measure => first | omega | (simp [intOf]; omega)
    · have HE := Lib.hid (err_ok hlen2 (by rw [H.out, List.drop_eq_nil_of_le (by omega)]; rfl))
      go_wp2_with (fail)
      go_ret
      exact .of HE.out HB.out

end Go.Proofs.Ytninnpcggeofmaa
