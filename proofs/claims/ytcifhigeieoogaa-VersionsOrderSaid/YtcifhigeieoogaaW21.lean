/- Walk of the reference's Add. -/
import Derived.Test.YtcifhigeieoogaaW20
import Derived.Deep.RegionHeld3
namespace Go.Proofs.Ytcifhigeieoogaa
open Go.RowKit
set_option linter.unusedVariables false
set_option linter.unusedSimpArgs false
attribute [local go_sem] frozen_new

set_option maxHeartbeats 8000000 in
set_option maxRecDepth 100000 in
theorem refAdd_any (v : Value) (l : List Am) (x : Am) (w : World) (hv : IsAs w v l) (hl : l.length ≤ 9223372036854775807) (hcap : ∀ A n c, v = .slice A n c → n ≤ c) : Calls Try.prog 15 #[v, vA x] w (AddPost l x w) := by
  have HV := Lib.hid hv
  obtain ⟨A, cap, rfl, hr⟩ := id hv
  have HR := Lib.hid hr
  have hcp := hcap _ _ _ rfl
  clear hr hv hcap
  have HX0 := Lib.hid (BoxA.new w x)
  have HB0 := Lib.hid (al1 w (.cells #[.int .i64 x.no, .int .i64 x.at_, .int .i64 x.known, .int .i64 x.key, .int .i64 x.value, .bool x.gone] 27))
  have hvv : vA x = vA x := rfl
  unfold vA
  clear hvv
  go_enter Try.func15, Try.ntmps15
  go_wp2_with (fail)
  by_cases he : Vn.err l = 0
  rotate_left
  · obtain ⟨z, hz⟩ : ∃ z, Vn.err l = z := ⟨_, rfl⟩
    have hne : (z != 0) = true := by rw [← hz, bne_iff_ne]; exact he
    refine (refCheck_is hz (HV.out.upb HB0.out) hl).mono ?_
    rintro e w1 ⟨rfl, b1⟩
    have e1 : Vn.addE l x = z := by unfold Vn.addE; rw [if_neg he, hz]
    have e2 : Vn.addL l x = [] := by unfold Vn.addL; rw [e1, if_neg (by rw [← hz]; exact he)]
    have E := Lib.hid e1
    have E2 := Lib.hid e2
    clear e1 e2 he hz
    go_wp2_with (fail)
    go_ret2
    exact ⟨_, by rw [E.out]; rfl, by rw [E2.out]; exact OwnAs.nil _ _, HB0.out.up b1⟩
  have hl2 : l.length ≤ 4096 := ((Vn.err_iff l).1 he).len
  have hpw := Lib.hid ((Vn.err_iff l).1 he).inc
  refine (refCheck_is he (HV.out.upb HB0.out) hl).mono ?_
  rintro e w1 ⟨rfl, b1⟩
  have HB1 := Lib.hid (HB0.out.up b1)
  have HX1 := Lib.hid (HX0.out.upb b1)
  have HE := Lib.hid he
  clear b1 he HB0 HX0
  have q0 := HX1.out.c0
  have q1 := HX1.out.c1
  have q2 := HX1.out.c2
  have q3 := HX1.out.c3
  have q4 := HX1.out.c4
  have q5 := HX1.out.c5
  go_wp2_with (fail)
  cases hr : Vn.right x
  · refine (refRight_is hr _).mono ?_
    rintro e w2 ⟨rfl, b2⟩
    have E := Lib.hid (show Vn.addE l x = 160 by unfold Vn.addE; rw [if_pos HE.out, hr]; rfl)
    have E2 := Lib.hid (show Vn.addL l x = [] by unfold Vn.addL; rw [E.out]; rfl)
    have HB2 := Lib.hid (HB1.out.up b2)
    clear b2 q0 q1 q2 q3 q4 q5 HX1
    go_wp2_with (fail)
    go_ret2
    exact ⟨_, by rw [E.out]; rfl, by rw [E2.out]; exact OwnAs.nil _ _, HB2.out⟩
  refine (refRight_is hr _).mono ?_
  rintro e w2 ⟨rfl, b2⟩
  have HRX := Lib.hid hr
  have HB2 := Lib.hid (HB1.out.up b2)
  have HX2 := Lib.hid (HX1.out.upb b2)
  clear b2 q0 q1 q2 q3 q4 q5 HX1 HB1 hr
  go_wp2_with (fail)
  go_loopw [7] (fun i wr => ∃ k : Nat, k ≤ l.length ∧ i = .int .i64 k ∧ Hid (∀ j (h : j < l.length), j < k → l[j].no < x.no) ∧ ∃ n, wr = w2.drewN n) (fun i _ => l.length - (intOf i).toNat)
  case atStart => exact ⟨0, Nat.zero_le _, rfl, Lib.hid (fun j h hj => by omega), 0, rfl⟩
  case round =>
    obtain ⟨k, hk, rfl, H1, n, rfl⟩ := hrel
    have q0 := HX2.out.c0
    by_cases hlt : k < l.length
    · have hld : decide ((k : Int) < (l.length : Int)) = true := by rw [decide_eq_true_eq]; omega
      obtain ⟨b, off, rfl, hat⟩ := IsAs_at HR.out hlt
      have HX := Lib.hid (hat.below HB2.out)
      have HLO := Lib.hid (fun (hy : l[k].no < x.no) => (show ∀ j (h : j < l.length), j < k + 1 → l[j].no < x.no from fun j h hj => by
        rcases Nat.lt_or_ge j k with h3 | h3
        · exact H1.out j h h3
        · have : j = k := by omega
          subst this; exact hy))
      have HGE := Lib.hid (fun (hy : ¬ l[k].no < x.no) => (show ∀ j (h : j < l.length), k ≤ j → x.no ≤ l[j].no from fun j h hj => by
        rcases Nat.lt_or_ge k j with h3 | h3
        · have := List.pairwise_iff_getElem.1 hpw.out k j hlt h h3; omega
        · have : j = k := by omega
          subst this; omega))
      have HEQ := Lib.hid (fun (e : l[k].no = x.no) => (show Vn.has l x.no = true by unfold Vn.has; rw [List.any_eq_true]; exact ⟨_, List.getElem_mem hlt, by simpa using e⟩))
      have HNE := Lib.hid (fun (hy : ¬ l[k].no < x.no) (e : ¬ l[k].no = x.no) => (show Vn.has l x.no = false from (has_at hlt (List.pairwise_iff_getElem.1 hpw.out) H1.out (HGE.out hy)).trans (decide_eq_false e)))
      generalize l[k] = y at *
      clear hat
      have y0 := HX.out.c0
      cases dl : decide (y.no < x.no)
      · have hge : ¬ y.no < x.no := of_decide_eq_false dl
        have HHI := Lib.hid (HGE.out hge)
        cases de : (y.no == x.no)
        · have HHAS := Lib.hid (HNE.out hge (by simpa using de))
          have HPOS := Lib.hid (pos_of hk H1.out HHI.out)
          have hck : ¬ cap = k := by omega
          have hc0 : ¬ cap = 0 := by omega
          cases dm : ((l.length : Int) == 4096)
          rotate_left
          · have hll : l.length = 4096 := by simp at dm; omega
            have E := Lib.hid (show Vn.addE l x = 2 by unfold Vn.addE; rw [if_pos HE.out, if_pos HRX.out, HHAS.out, if_pos hll]; rfl)
            have E2 := Lib.hid (show Vn.addL l x = [] by unfold Vn.addL; rw [E.out]; rfl)
            clear hll
            go_wp2
            go_quiet (fail)
            go_wp2
            go_quiet (fail)
            go_wp2
            go_ret2
            exact ⟨_, by rw [E.out]; rfl, by rw [E2.out]; exact OwnAs.nil _ _, below_drewN HB2.out _⟩
          have hll : ¬ l.length = 4096 := by simp at dm; omega
          have E := Lib.hid (show Vn.addE l x = 0 by unfold Vn.addE; rw [if_pos HE.out, if_pos HRX.out, HHAS.out, if_neg hll]; rfl)
          have E2 := Lib.hid (show Vn.addL l x = l.take k ++ x :: l.drop k by unfold Vn.addL; rw [E.out]; unfold Vn.ins; rw [HPOS.out]; rfl)
          clear hll
          go_wp2
          go_quiet (fail)
          go_wp2
          go_quiet (fail)
          go_wp2
          refine over_drewN ?_
          rintro W0 ⟨mW, hW⟩
          have HB4 := Lib.hid (show Below w.heap.size w W0.drew by rw [hW]; exact below_drewN HB2.out (_ + 1))
          have HX4 := Lib.hid (show BoxA W0.drew w.heap.size x by rw [hW]; exact HX2.out)
          clear hW HX2 HB2 q0
          try clear y0
          have q0 := HX4.out.c0
          have q1 := HX4.out.c1
          have q2 := HX4.out.c2
          have q3 := HX4.out.c3
          have q4 := HX4.out.c4
          have q5 := HX4.out.c5
          have HT := Lib.hid (hs_take HR.out k hk cap)
          have HD := Lib.hid (hs_dropc HR.out k _ (cap - k) hlt rfl)
          have HRA := Lib.hid (Reg.start HB4.out HX4.out)
          have HRB := Lib.hid (HRA.out.alloc (.cells #[.int .i64 x.no, .int .i64 x.at_, .int .i64 x.known, .int .i64 x.key, .int .i64 x.value, .bool x.gone] 27))
          have HRC := Lib.hid (Reg.startC (.cells #[.int .i64 x.no, .int .i64 x.at_, .int .i64 x.known, .int .i64 x.key, .int .i64 x.value, .bool x.gone] 27) HB4.out HX4.out)
          have HNB := Lib.hid (BoxA.new1 W0.drew (.cells #[] 27) x)
          have HNC := Lib.hid ((BoxA.new W0.drew x).alloc (.cells #[] 27))
          have htl : (l.take k).length ≤ 4096 := Nat.le_trans (List.length_take_le' _ _) hl2
          have hdl : (l.drop k).length ≤ 4096 := by rw [List.length_drop]; omega
          have hz1 : (0 : Int) ≤ (k : Int) := by omega
          have hz2 : (k : Int) ≤ (l.length : Int) := by omega
          have hz3 : (k : Int) ≤ (cap : Int) := by omega
          go_region_held3 (fun X => X.cell? ⟨w.heap.size, 0, none⟩ = some (.int .i64 x.no) ∧ X.cell? ⟨w.heap.size, 1, none⟩ = some (.int .i64 x.at_) ∧ X.cell? ⟨w.heap.size, 2, none⟩ = some (.int .i64 x.known) ∧ X.cell? ⟨w.heap.size, 3, none⟩ = some (.int .i64 x.key) ∧ X.cell? ⟨w.heap.size, 4, none⟩ = some (.int .i64 x.value) ∧ X.cell? ⟨w.heap.size, 5, none⟩ = some (.bool x.gone))
            (first
              | exact HX4.out.ten
              | exact HRA.out.box.ten
              | exact HRB.out.box.ten
              | exact HRC.out.box.ten
              | exact (HX4.out.alloc _).ten
              | exact HR3.out.box.ten
              | exact HR2.out.box.ten
              | exact HR1.out.box.ten
              | exact (HR1.out.alloc _).box.ten)
            (first
              | (refine step_appH (by rfl) (.tmp 49) (.tmp 52) (by rfl) W0.drew.heap.size _ _ [] (l.take k) (by rfl) (by rfl) HRA.out.own (HT.out.upb HRA.out.below) (by simp only [List.length_nil]; omega) HRA.out.sz ?_
                 intro v1 X1 o1 g1 r1; have HR1 := Lib.hid (HRA.out.app o1 g1); clear o1 g1 r1
                 have HR1b := Lib.hid (HR1.out.alloc (.cells #[.int .i64 x.no, .int .i64 x.at_, .int .i64 x.known, .int .i64 x.key, .int .i64 x.value, .bool x.gone] 27))
                 have HN1 := Lib.hid (BoxA.new X1 x))
              | (refine step_appH (by rfl) (.tmp 49) (.tmp 52) (by rfl) W0.drew.heap.size _ _ [] (l.take k) (by rfl) (by rfl) HRB.out.own (HT.out.upb HRB.out.below) (by simp only [List.length_nil]; omega) HRB.out.sz ?_
                 intro v1 X1 o1 g1 r1
                 have HR1 := Lib.hid (HRB.out.app o1 g1)
                 have HN1 := Lib.hid (HNB.out.grown g1 (by intro e; have e2 : W0.drew.heap.size + 1 = W0.drew.heap.size := Option.some.inj e; omega))
                 clear o1 g1 r1)
              | (refine step_appH (by rfl) (.tmp 49) (.tmp 52) (by rfl) W0.drew.heap.size _ _ [] (l.take k) (by rfl) (by rfl) HRC.out.own (HT.out.upb HRC.out.below) (by simp only [List.length_nil]; omega) HRC.out.sz ?_
                 intro v1 X1 o1 g1 r1
                 have HR1 := Lib.hid (HRC.out.app o1 g1)
                 have HN1 := Lib.hid (HNC.out.grown g1 (by intro e; have e2 : W0.drew.heap.size = W0.drew.heap.size + 1 := Option.some.inj e; omega))
                 clear o1 g1 r1)
              | (refine step_appH (by rfl) (.tmp 53) (.tmp 55) (by rfl) W0.drew.heap.size _ _ _ [x] (by rfl) (by rfl) HR1.out.own HN1.out.one (by simp only [List.length_append, List.length_nil, List.length_cons]; omega) HR1.out.sz ?_
                 intro v2 X2 o2 g2 r2; have HR2 := Lib.hid (HR1.out.app o2 g2); clear o2 g2 r2)
              | (refine step_appH (by rfl) (.tmp 53) (.tmp 55) (by rfl) W0.drew.heap.size _ _ _ [x] (by rfl) (by rfl) HR1b.out.own HN1.out.one (by simp only [List.length_append, List.length_nil, List.length_cons]; omega) HR1b.out.sz ?_
                 intro v2 X2 o2 g2 r2; have HR2 := Lib.hid (HR1b.out.app o2 g2); clear o2 g2 r2)
              | (refine step_appH (by rfl) (.tmp 56) (.tmp 59) (by rfl) W0.drew.heap.size _ _ _ (l.drop k) (by rfl) (by rfl) HR2.out.own (HD.out.upb HR2.out.below) (by simp only [List.length_append, List.length_nil, List.length_cons]; omega) HR2.out.sz ?_
                 intro v3 X3 o3 g3 r3; have HR3 := Lib.hid (HR2.out.app o3 g3); clear o3 g3 r3))
          all_goals
            go_wp2
            go_ret2
            exact ⟨_, by rw [E.out]; rfl, by rw [E2.out]; exact OwnAs.mono (by simpa using HR3.out.own) (Nat.le_of_lt HR3.out.lt), HR3.out.below⟩
        · have HHAS := Lib.hid (HEQ.out (by simpa using de))
          have E := Lib.hid (show Vn.addE l x = 181 by unfold Vn.addE; rw [if_pos HE.out, if_pos HRX.out, HHAS.out]; rfl)
          have E2 := Lib.hid (show Vn.addL l x = [] by unfold Vn.addL; rw [E.out]; rfl)
          go_wp2
          go_quiet (fail)
          go_wp2
          go_quiet (fail)
          go_wp2
          go_ret2
          exact ⟨_, by rw [E.out]; rfl, by rw [E2.out]; exact OwnAs.nil _ _, below_drewN (below_drewN (below_drewN HB2.out _) _) _⟩
      · have HLX := Lib.hid (HLO.out (of_decide_eq_true dl))
        go_wp2
        go_quiet (fail)
        go_wp2
        go_roundw
        case rel => exact ⟨k + 1, by omega, by go_num, HLX, _, rfl⟩
        case measure => first | omega | (simp [intOf]; omega)
    · have hld : decide ((k : Int) < (l.length : Int)) = false := by rw [decide_eq_false_iff_not]; omega
      have hkl : k = l.length := by omega
      have HHAS := Lib.hid (show Vn.has l x.no = false from has_no (fun j h _ => H1.out j h (by omega)))
      have HPOS := Lib.hid (pos_of hk H1.out (fun j h hj => by omega))
      by_cases h0 : 0 < l.length
      · obtain ⟨b, off, rfl, hat⟩ := IsAs_at HR.out h0
        have HND := Lib.hid (show l.drop k = [] from List.drop_eq_nil_of_le (by omega))
        have HND0 := Lib.hid (show l.length - k = 0 by omega)
        clear hat hkl
        have hc0 : ¬ cap = 0 := by omega
        by_cases hck : cap = k
        · obtain rfl := hck.symm
          cases dm : ((l.length : Int) == 4096)
          rotate_left
          · have hll : l.length = 4096 := by simp at dm; omega
            have E := Lib.hid (show Vn.addE l x = 2 by unfold Vn.addE; rw [if_pos HE.out, if_pos HRX.out, HHAS.out, if_pos hll]; rfl)
            have E2 := Lib.hid (show Vn.addL l x = [] by unfold Vn.addL; rw [E.out]; rfl)
            clear hll
            go_wp2
            go_quiet (fail)
            go_wp2
            go_quiet (fail)
            go_wp2
            go_ret2
            exact ⟨_, by rw [E.out]; rfl, by rw [E2.out]; exact OwnAs.nil _ _, below_drewN HB2.out _⟩
          have hll : ¬ l.length = 4096 := by simp at dm; omega
          have E := Lib.hid (show Vn.addE l x = 0 by unfold Vn.addE; rw [if_pos HE.out, if_pos HRX.out, HHAS.out, if_neg hll]; rfl)
          have E2 := Lib.hid (show Vn.addL l x = l.take k ++ x :: l.drop k by unfold Vn.addL; rw [E.out]; unfold Vn.ins; rw [HPOS.out]; rfl)
          clear hll
          go_wp2
          go_quiet (fail)
          go_wp2
          go_quiet (fail)
          go_wp2
          refine over_drewN ?_
          rintro W0 ⟨mW, hW⟩
          have HB4 := Lib.hid (show Below w.heap.size w W0.drew by rw [hW]; exact below_drewN HB2.out (_ + 1))
          have HX4 := Lib.hid (show BoxA W0.drew w.heap.size x by rw [hW]; exact HX2.out)
          clear hW HX2 HB2 q0
          try clear y0
          have q0 := HX4.out.c0
          have q1 := HX4.out.c1
          have q2 := HX4.out.c2
          have q3 := HX4.out.c3
          have q4 := HX4.out.c4
          have q5 := HX4.out.c5
          have HT := Lib.hid (hs_take HR.out k hk k)
          have HD := Lib.hid (rfl : k = k)
          have HRA := Lib.hid (Reg.start HB4.out HX4.out)
          have HRB := Lib.hid (HRA.out.alloc (.cells #[.int .i64 x.no, .int .i64 x.at_, .int .i64 x.known, .int .i64 x.key, .int .i64 x.value, .bool x.gone] 27))
          have HRC := Lib.hid (Reg.startC (.cells #[.int .i64 x.no, .int .i64 x.at_, .int .i64 x.known, .int .i64 x.key, .int .i64 x.value, .bool x.gone] 27) HB4.out HX4.out)
          have HNB := Lib.hid (BoxA.new1 W0.drew (.cells #[] 27) x)
          have HNC := Lib.hid ((BoxA.new W0.drew x).alloc (.cells #[] 27))
          have htl : (l.take k).length ≤ 4096 := Nat.le_trans (List.length_take_le' _ _) hl2
          have hdl : (l.drop k).length ≤ 4096 := by rw [List.length_drop]; omega
          have hz1 : (0 : Int) ≤ (k : Int) := by omega
          have hz2 : (k : Int) ≤ (l.length : Int) := by omega
          have hz3 : (k : Int) ≤ (k : Int) := by omega
          go_region_held3 (fun X => X.cell? ⟨w.heap.size, 0, none⟩ = some (.int .i64 x.no) ∧ X.cell? ⟨w.heap.size, 1, none⟩ = some (.int .i64 x.at_) ∧ X.cell? ⟨w.heap.size, 2, none⟩ = some (.int .i64 x.known) ∧ X.cell? ⟨w.heap.size, 3, none⟩ = some (.int .i64 x.key) ∧ X.cell? ⟨w.heap.size, 4, none⟩ = some (.int .i64 x.value) ∧ X.cell? ⟨w.heap.size, 5, none⟩ = some (.bool x.gone))
            (first
              | exact HX4.out.ten
              | exact HRA.out.box.ten
              | exact HRB.out.box.ten
              | exact HRC.out.box.ten
              | exact (HX4.out.alloc _).ten
              | exact HR3.out.box.ten
              | exact HR2.out.box.ten
              | exact HR1.out.box.ten
              | exact (HR1.out.alloc _).box.ten)
            (first
              | (refine step_appH (by rfl) (.tmp 49) (.tmp 52) (by rfl) W0.drew.heap.size _ _ [] (l.take k) (by rfl) (by rfl) HRA.out.own (HT.out.upb HRA.out.below) (by simp only [List.length_nil]; omega) HRA.out.sz ?_
                 intro v1 X1 o1 g1 r1; have HR1 := Lib.hid (HRA.out.app o1 g1); clear o1 g1 r1
                 have HR1b := Lib.hid (HR1.out.alloc (.cells #[.int .i64 x.no, .int .i64 x.at_, .int .i64 x.known, .int .i64 x.key, .int .i64 x.value, .bool x.gone] 27))
                 have HN1 := Lib.hid (BoxA.new X1 x))
              | (refine step_appH (by rfl) (.tmp 49) (.tmp 52) (by rfl) W0.drew.heap.size _ _ [] (l.take k) (by rfl) (by rfl) HRB.out.own (HT.out.upb HRB.out.below) (by simp only [List.length_nil]; omega) HRB.out.sz ?_
                 intro v1 X1 o1 g1 r1
                 have HR1 := Lib.hid (HRB.out.app o1 g1)
                 have HN1 := Lib.hid (HNB.out.grown g1 (by intro e; have e2 : W0.drew.heap.size + 1 = W0.drew.heap.size := Option.some.inj e; omega))
                 clear o1 g1 r1)
              | (refine step_appH (by rfl) (.tmp 49) (.tmp 52) (by rfl) W0.drew.heap.size _ _ [] (l.take k) (by rfl) (by rfl) HRC.out.own (HT.out.upb HRC.out.below) (by simp only [List.length_nil]; omega) HRC.out.sz ?_
                 intro v1 X1 o1 g1 r1
                 have HR1 := Lib.hid (HRC.out.app o1 g1)
                 have HN1 := Lib.hid (HNC.out.grown g1 (by intro e; have e2 : W0.drew.heap.size = W0.drew.heap.size + 1 := Option.some.inj e; omega))
                 clear o1 g1 r1)
              | (refine step_appH (by rfl) (.tmp 53) (.tmp 55) (by rfl) W0.drew.heap.size _ _ _ [x] (by rfl) (by rfl) HR1.out.own HN1.out.one (by simp only [List.length_append, List.length_nil, List.length_cons]; omega) HR1.out.sz ?_
                 intro v2 X2 o2 g2 r2; have HR2 := Lib.hid (HR1.out.app o2 g2); clear o2 g2 r2)
              | (refine step_appH (by rfl) (.tmp 53) (.tmp 55) (by rfl) W0.drew.heap.size _ _ _ [x] (by rfl) (by rfl) HR1b.out.own HN1.out.one (by simp only [List.length_append, List.length_nil, List.length_cons]; omega) HR1b.out.sz ?_
                 intro v2 X2 o2 g2 r2; have HR2 := Lib.hid (HR1b.out.app o2 g2); clear o2 g2 r2)
              | (refine step_appH (by rfl) (.tmp 56) (.tmp 59) (by rfl) W0.drew.heap.size _ _ _ (l.drop k) (by rfl) (by rfl) HR2.out.own (hs_nil0 _ _ (by first | rfl | exact HK0.out | exact HND0.out | (have h1 := HND0.out; have h2 := HK0.out; omega) | (simp; done)) HND.out) (by simp only [List.length_append, List.length_nil, List.length_cons]; omega) HR2.out.sz ?_
                 intro v3 X3 o3 g3 r3; have HR3 := Lib.hid (HR2.out.app o3 g3); clear o3 g3 r3))
          all_goals
            go_wp2
            go_ret2
            exact ⟨_, by rw [E.out]; rfl, by rw [E2.out]; exact OwnAs.mono (by simpa using HR3.out.own) (Nat.le_of_lt HR3.out.lt), HR3.out.below⟩
        · skip
          cases dm : ((l.length : Int) == 4096)
          rotate_left
          · have hll : l.length = 4096 := by simp at dm; omega
            have E := Lib.hid (show Vn.addE l x = 2 by unfold Vn.addE; rw [if_pos HE.out, if_pos HRX.out, HHAS.out, if_pos hll]; rfl)
            have E2 := Lib.hid (show Vn.addL l x = [] by unfold Vn.addL; rw [E.out]; rfl)
            clear hll
            go_wp2
            go_quiet (fail)
            go_wp2
            go_quiet (fail)
            go_wp2
            go_ret2
            exact ⟨_, by rw [E.out]; rfl, by rw [E2.out]; exact OwnAs.nil _ _, below_drewN HB2.out _⟩
          have hll : ¬ l.length = 4096 := by simp at dm; omega
          have E := Lib.hid (show Vn.addE l x = 0 by unfold Vn.addE; rw [if_pos HE.out, if_pos HRX.out, HHAS.out, if_neg hll]; rfl)
          have E2 := Lib.hid (show Vn.addL l x = l.take k ++ x :: l.drop k by unfold Vn.addL; rw [E.out]; unfold Vn.ins; rw [HPOS.out]; rfl)
          clear hll
          go_wp2
          go_quiet (fail)
          go_wp2
          go_quiet (fail)
          go_wp2
          refine over_drewN ?_
          rintro W0 ⟨mW, hW⟩
          have HB4 := Lib.hid (show Below w.heap.size w W0.drew by rw [hW]; exact below_drewN HB2.out (_ + 1))
          have HX4 := Lib.hid (show BoxA W0.drew w.heap.size x by rw [hW]; exact HX2.out)
          clear hW HX2 HB2 q0
          try clear y0
          have q0 := HX4.out.c0
          have q1 := HX4.out.c1
          have q2 := HX4.out.c2
          have q3 := HX4.out.c3
          have q4 := HX4.out.c4
          have q5 := HX4.out.c5
          have HT := Lib.hid (hs_take HR.out k hk cap)
          have HD := Lib.hid (rfl : k = k)
          have HRA := Lib.hid (Reg.start HB4.out HX4.out)
          have HRB := Lib.hid (HRA.out.alloc (.cells #[.int .i64 x.no, .int .i64 x.at_, .int .i64 x.known, .int .i64 x.key, .int .i64 x.value, .bool x.gone] 27))
          have HRC := Lib.hid (Reg.startC (.cells #[.int .i64 x.no, .int .i64 x.at_, .int .i64 x.known, .int .i64 x.key, .int .i64 x.value, .bool x.gone] 27) HB4.out HX4.out)
          have HNB := Lib.hid (BoxA.new1 W0.drew (.cells #[] 27) x)
          have HNC := Lib.hid ((BoxA.new W0.drew x).alloc (.cells #[] 27))
          have htl : (l.take k).length ≤ 4096 := Nat.le_trans (List.length_take_le' _ _) hl2
          have hdl : (l.drop k).length ≤ 4096 := by rw [List.length_drop]; omega
          have hz1 : (0 : Int) ≤ (k : Int) := by omega
          have hz2 : (k : Int) ≤ (l.length : Int) := by omega
          have hz3 : (k : Int) ≤ (cap : Int) := by omega
          go_region_held3 (fun X => X.cell? ⟨w.heap.size, 0, none⟩ = some (.int .i64 x.no) ∧ X.cell? ⟨w.heap.size, 1, none⟩ = some (.int .i64 x.at_) ∧ X.cell? ⟨w.heap.size, 2, none⟩ = some (.int .i64 x.known) ∧ X.cell? ⟨w.heap.size, 3, none⟩ = some (.int .i64 x.key) ∧ X.cell? ⟨w.heap.size, 4, none⟩ = some (.int .i64 x.value) ∧ X.cell? ⟨w.heap.size, 5, none⟩ = some (.bool x.gone))
            (first
              | exact HX4.out.ten
              | exact HRA.out.box.ten
              | exact HRB.out.box.ten
              | exact HRC.out.box.ten
              | exact (HX4.out.alloc _).ten
              | exact HR3.out.box.ten
              | exact HR2.out.box.ten
              | exact HR1.out.box.ten
              | exact (HR1.out.alloc _).box.ten)
            (first
              | (refine step_appH (by rfl) (.tmp 49) (.tmp 52) (by rfl) W0.drew.heap.size _ _ [] (l.take k) (by rfl) (by rfl) HRA.out.own (HT.out.upb HRA.out.below) (by simp only [List.length_nil]; omega) HRA.out.sz ?_
                 intro v1 X1 o1 g1 r1; have HR1 := Lib.hid (HRA.out.app o1 g1); clear o1 g1 r1
                 have HR1b := Lib.hid (HR1.out.alloc (.cells #[.int .i64 x.no, .int .i64 x.at_, .int .i64 x.known, .int .i64 x.key, .int .i64 x.value, .bool x.gone] 27))
                 have HN1 := Lib.hid (BoxA.new X1 x))
              | (refine step_appH (by rfl) (.tmp 49) (.tmp 52) (by rfl) W0.drew.heap.size _ _ [] (l.take k) (by rfl) (by rfl) HRB.out.own (HT.out.upb HRB.out.below) (by simp only [List.length_nil]; omega) HRB.out.sz ?_
                 intro v1 X1 o1 g1 r1
                 have HR1 := Lib.hid (HRB.out.app o1 g1)
                 have HN1 := Lib.hid (HNB.out.grown g1 (by intro e; have e2 : W0.drew.heap.size + 1 = W0.drew.heap.size := Option.some.inj e; omega))
                 clear o1 g1 r1)
              | (refine step_appH (by rfl) (.tmp 49) (.tmp 52) (by rfl) W0.drew.heap.size _ _ [] (l.take k) (by rfl) (by rfl) HRC.out.own (HT.out.upb HRC.out.below) (by simp only [List.length_nil]; omega) HRC.out.sz ?_
                 intro v1 X1 o1 g1 r1
                 have HR1 := Lib.hid (HRC.out.app o1 g1)
                 have HN1 := Lib.hid (HNC.out.grown g1 (by intro e; have e2 : W0.drew.heap.size = W0.drew.heap.size + 1 := Option.some.inj e; omega))
                 clear o1 g1 r1)
              | (refine step_appH (by rfl) (.tmp 53) (.tmp 55) (by rfl) W0.drew.heap.size _ _ _ [x] (by rfl) (by rfl) HR1.out.own HN1.out.one (by simp only [List.length_append, List.length_nil, List.length_cons]; omega) HR1.out.sz ?_
                 intro v2 X2 o2 g2 r2; have HR2 := Lib.hid (HR1.out.app o2 g2); clear o2 g2 r2)
              | (refine step_appH (by rfl) (.tmp 53) (.tmp 55) (by rfl) W0.drew.heap.size _ _ _ [x] (by rfl) (by rfl) HR1b.out.own HN1.out.one (by simp only [List.length_append, List.length_nil, List.length_cons]; omega) HR1b.out.sz ?_
                 intro v2 X2 o2 g2 r2; have HR2 := Lib.hid (HR1b.out.app o2 g2); clear o2 g2 r2)
              | (refine step_appH (by rfl) (.tmp 56) (.tmp 59) (by rfl) W0.drew.heap.size _ _ _ (l.drop k) (by rfl) (by rfl) HR2.out.own (hs_nil0 _ _ (by first | rfl | exact HK0.out | exact HND0.out | (have h1 := HND0.out; have h2 := HK0.out; omega) | (simp; done)) HND.out) (by simp only [List.length_append, List.length_nil, List.length_cons]; omega) HR2.out.sz ?_
                 intro v3 X3 o3 g3 r3; have HR3 := Lib.hid (HR2.out.app o3 g3); clear o3 g3 r3))
          all_goals
            go_wp2
            go_ret2
            exact ⟨_, by rw [E.out]; rfl, by rw [E2.out]; exact OwnAs.mono (by simpa using HR3.out.own) (Nat.le_of_lt HR3.out.lt), HR3.out.below⟩
      · have HK0 := Lib.hid (show k = 0 by omega)
        have hln : l = [] := List.eq_nil_of_length_eq_zero (by omega)
        have HNT := Lib.hid (show l.take k = [] by rw [hln]; simp)
        have HND := Lib.hid (show l.drop k = [] by rw [hln]; simp)
        have HND0 := Lib.hid (show l.length - k = 0 by omega)
        clear hln h0 hkl
        cases A with
        | none =>
          by_cases hck : cap = k
          · obtain rfl := hck.symm
            cases dm : ((l.length : Int) == 4096)
            rotate_left
            · have hll : l.length = 4096 := by simp at dm; omega
              have E := Lib.hid (show Vn.addE l x = 2 by unfold Vn.addE; rw [if_pos HE.out, if_pos HRX.out, HHAS.out, if_pos hll]; rfl)
              have E2 := Lib.hid (show Vn.addL l x = [] by unfold Vn.addL; rw [E.out]; rfl)
              clear hll
              go_wp2
              go_quiet (fail)
              go_wp2
              go_quiet (fail)
              go_wp2
              go_ret2
              exact ⟨_, by rw [E.out]; rfl, by rw [E2.out]; exact OwnAs.nil _ _, below_drewN HB2.out _⟩
            have hll : ¬ l.length = 4096 := by simp at dm; omega
            have E := Lib.hid (show Vn.addE l x = 0 by unfold Vn.addE; rw [if_pos HE.out, if_pos HRX.out, HHAS.out, if_neg hll]; rfl)
            have E2 := Lib.hid (show Vn.addL l x = l.take k ++ x :: l.drop k by unfold Vn.addL; rw [E.out]; unfold Vn.ins; rw [HPOS.out]; rfl)
            clear hll
            go_wp2
            go_quiet (fail)
            go_wp2
            go_quiet (fail)
            go_wp2
            refine over_drewN ?_
            rintro W0 ⟨mW, hW⟩
            have HB4 := Lib.hid (show Below w.heap.size w W0.drew by rw [hW]; exact below_drewN HB2.out (_ + 1))
            have HX4 := Lib.hid (show BoxA W0.drew w.heap.size x by rw [hW]; exact HX2.out)
            clear hW HX2 HB2 q0
            try clear y0
            have q0 := HX4.out.c0
            have q1 := HX4.out.c1
            have q2 := HX4.out.c2
            have q3 := HX4.out.c3
            have q4 := HX4.out.c4
            have q5 := HX4.out.c5
            have HT := Lib.hid (rfl : k = k)
            have HD := Lib.hid (rfl : k = k)
            have HRA := Lib.hid (Reg.start HB4.out HX4.out)
            have HRB := Lib.hid (HRA.out.alloc (.cells #[.int .i64 x.no, .int .i64 x.at_, .int .i64 x.known, .int .i64 x.key, .int .i64 x.value, .bool x.gone] 27))
            have HRC := Lib.hid (Reg.startC (.cells #[.int .i64 x.no, .int .i64 x.at_, .int .i64 x.known, .int .i64 x.key, .int .i64 x.value, .bool x.gone] 27) HB4.out HX4.out)
            have HNB := Lib.hid (BoxA.new1 W0.drew (.cells #[] 27) x)
            have HNC := Lib.hid ((BoxA.new W0.drew x).alloc (.cells #[] 27))
            have htl : (l.take k).length ≤ 4096 := Nat.le_trans (List.length_take_le' _ _) hl2
            have hdl : (l.drop k).length ≤ 4096 := by rw [List.length_drop]; omega
            have hz1 : (0 : Int) ≤ (k : Int) := by omega
            have hz2 : (k : Int) ≤ (l.length : Int) := by omega
            have hz3 : (k : Int) ≤ (k : Int) := by omega
            go_region_held3 (fun X => X.cell? ⟨w.heap.size, 0, none⟩ = some (.int .i64 x.no) ∧ X.cell? ⟨w.heap.size, 1, none⟩ = some (.int .i64 x.at_) ∧ X.cell? ⟨w.heap.size, 2, none⟩ = some (.int .i64 x.known) ∧ X.cell? ⟨w.heap.size, 3, none⟩ = some (.int .i64 x.key) ∧ X.cell? ⟨w.heap.size, 4, none⟩ = some (.int .i64 x.value) ∧ X.cell? ⟨w.heap.size, 5, none⟩ = some (.bool x.gone))
              (first
                | exact HX4.out.ten
                | exact HRA.out.box.ten
                | exact HRB.out.box.ten
                | exact HRC.out.box.ten
                | exact (HX4.out.alloc _).ten
                | exact HR3.out.box.ten
                | exact HR2.out.box.ten
                | exact HR1.out.box.ten
                | exact (HR1.out.alloc _).box.ten)
              (first
                | (refine step_appH (by rfl) (.tmp 49) (.tmp 52) (by rfl) W0.drew.heap.size _ _ [] (l.take k) (by rfl) (by rfl) HRA.out.own (hs_nil0 _ _ (by first | rfl | exact HK0.out | exact HND0.out | (simp; done)) HNT.out) (by simp only [List.length_nil]; omega) HRA.out.sz ?_
                   intro v1 X1 o1 g1 r1; have HR1 := Lib.hid (HRA.out.app o1 g1); clear o1 g1 r1
                   have HR1b := Lib.hid (HR1.out.alloc (.cells #[.int .i64 x.no, .int .i64 x.at_, .int .i64 x.known, .int .i64 x.key, .int .i64 x.value, .bool x.gone] 27))
                   have HN1 := Lib.hid (BoxA.new X1 x))
                | (refine step_appH (by rfl) (.tmp 49) (.tmp 52) (by rfl) W0.drew.heap.size _ _ [] (l.take k) (by rfl) (by rfl) HRB.out.own (hs_nil0 _ _ (by first | rfl | exact HK0.out | exact HND0.out | (simp; done)) HNT.out) (by simp only [List.length_nil]; omega) HRB.out.sz ?_
                   intro v1 X1 o1 g1 r1
                   have HR1 := Lib.hid (HRB.out.app o1 g1)
                   have HN1 := Lib.hid (HNB.out.grown g1 (by intro e; have e2 : W0.drew.heap.size + 1 = W0.drew.heap.size := Option.some.inj e; omega))
                   clear o1 g1 r1)
                | (refine step_appH (by rfl) (.tmp 49) (.tmp 52) (by rfl) W0.drew.heap.size _ _ [] (l.take k) (by rfl) (by rfl) HRC.out.own (hs_nil0 _ _ (by first | rfl | exact HK0.out | exact HND0.out | (simp; done)) HNT.out) (by simp only [List.length_nil]; omega) HRC.out.sz ?_
                   intro v1 X1 o1 g1 r1
                   have HR1 := Lib.hid (HRC.out.app o1 g1)
                   have HN1 := Lib.hid (HNC.out.grown g1 (by intro e; have e2 : W0.drew.heap.size = W0.drew.heap.size + 1 := Option.some.inj e; omega))
                   clear o1 g1 r1)
                | (refine step_appH (by rfl) (.tmp 53) (.tmp 55) (by rfl) W0.drew.heap.size _ _ _ [x] (by rfl) (by rfl) HR1.out.own HN1.out.one (by simp only [List.length_append, List.length_nil, List.length_cons]; omega) HR1.out.sz ?_
                   intro v2 X2 o2 g2 r2; have HR2 := Lib.hid (HR1.out.app o2 g2); clear o2 g2 r2)
                | (refine step_appH (by rfl) (.tmp 53) (.tmp 55) (by rfl) W0.drew.heap.size _ _ _ [x] (by rfl) (by rfl) HR1b.out.own HN1.out.one (by simp only [List.length_append, List.length_nil, List.length_cons]; omega) HR1b.out.sz ?_
                   intro v2 X2 o2 g2 r2; have HR2 := Lib.hid (HR1b.out.app o2 g2); clear o2 g2 r2)
                | (refine step_appH (by rfl) (.tmp 56) (.tmp 59) (by rfl) W0.drew.heap.size _ _ _ (l.drop k) (by rfl) (by rfl) HR2.out.own (hs_nil0 _ _ (by first | rfl | exact HK0.out | exact HND0.out | (have h1 := HND0.out; have h2 := HK0.out; omega) | (simp; done)) HND.out) (by simp only [List.length_append, List.length_nil, List.length_cons]; omega) HR2.out.sz ?_
                   intro v3 X3 o3 g3 r3; have HR3 := Lib.hid (HR2.out.app o3 g3); clear o3 g3 r3))
            all_goals
              go_wp2
              go_ret2
              exact ⟨_, by rw [E.out]; rfl, by rw [E2.out]; exact OwnAs.mono (by simpa using HR3.out.own) (Nat.le_of_lt HR3.out.lt), HR3.out.below⟩
          · skip
            cases dm : ((l.length : Int) == 4096)
            rotate_left
            · have hll : l.length = 4096 := by simp at dm; omega
              have E := Lib.hid (show Vn.addE l x = 2 by unfold Vn.addE; rw [if_pos HE.out, if_pos HRX.out, HHAS.out, if_pos hll]; rfl)
              have E2 := Lib.hid (show Vn.addL l x = [] by unfold Vn.addL; rw [E.out]; rfl)
              clear hll
              go_wp2
              go_quiet (fail)
              go_wp2
              go_quiet (fail)
              go_wp2
              go_ret2
              exact ⟨_, by rw [E.out]; rfl, by rw [E2.out]; exact OwnAs.nil _ _, below_drewN HB2.out _⟩
            have hll : ¬ l.length = 4096 := by simp at dm; omega
            have E := Lib.hid (show Vn.addE l x = 0 by unfold Vn.addE; rw [if_pos HE.out, if_pos HRX.out, HHAS.out, if_neg hll]; rfl)
            have E2 := Lib.hid (show Vn.addL l x = l.take k ++ x :: l.drop k by unfold Vn.addL; rw [E.out]; unfold Vn.ins; rw [HPOS.out]; rfl)
            clear hll
            go_wp2
            go_quiet (fail)
            go_wp2
            go_quiet (fail)
            go_wp2
            refine over_drewN ?_
            rintro W0 ⟨mW, hW⟩
            have HB4 := Lib.hid (show Below w.heap.size w W0.drew by rw [hW]; exact below_drewN HB2.out (_ + 1))
            have HX4 := Lib.hid (show BoxA W0.drew w.heap.size x by rw [hW]; exact HX2.out)
            clear hW HX2 HB2 q0
            try clear y0
            have q0 := HX4.out.c0
            have q1 := HX4.out.c1
            have q2 := HX4.out.c2
            have q3 := HX4.out.c3
            have q4 := HX4.out.c4
            have q5 := HX4.out.c5
            have HT := Lib.hid (rfl : k = k)
            have HD := Lib.hid (rfl : k = k)
            have HRA := Lib.hid (Reg.start HB4.out HX4.out)
            have HRB := Lib.hid (HRA.out.alloc (.cells #[.int .i64 x.no, .int .i64 x.at_, .int .i64 x.known, .int .i64 x.key, .int .i64 x.value, .bool x.gone] 27))
            have HRC := Lib.hid (Reg.startC (.cells #[.int .i64 x.no, .int .i64 x.at_, .int .i64 x.known, .int .i64 x.key, .int .i64 x.value, .bool x.gone] 27) HB4.out HX4.out)
            have HNB := Lib.hid (BoxA.new1 W0.drew (.cells #[] 27) x)
            have HNC := Lib.hid ((BoxA.new W0.drew x).alloc (.cells #[] 27))
            have htl : (l.take k).length ≤ 4096 := Nat.le_trans (List.length_take_le' _ _) hl2
            have hdl : (l.drop k).length ≤ 4096 := by rw [List.length_drop]; omega
            have hz1 : (0 : Int) ≤ (k : Int) := by omega
            have hz2 : (k : Int) ≤ (l.length : Int) := by omega
            have hz3 : (k : Int) ≤ (cap : Int) := by omega
            go_region_held3 (fun X => X.cell? ⟨w.heap.size, 0, none⟩ = some (.int .i64 x.no) ∧ X.cell? ⟨w.heap.size, 1, none⟩ = some (.int .i64 x.at_) ∧ X.cell? ⟨w.heap.size, 2, none⟩ = some (.int .i64 x.known) ∧ X.cell? ⟨w.heap.size, 3, none⟩ = some (.int .i64 x.key) ∧ X.cell? ⟨w.heap.size, 4, none⟩ = some (.int .i64 x.value) ∧ X.cell? ⟨w.heap.size, 5, none⟩ = some (.bool x.gone))
              (first
                | exact HX4.out.ten
                | exact HRA.out.box.ten
                | exact HRB.out.box.ten
                | exact HRC.out.box.ten
                | exact (HX4.out.alloc _).ten
                | exact HR3.out.box.ten
                | exact HR2.out.box.ten
                | exact HR1.out.box.ten
                | exact (HR1.out.alloc _).box.ten)
              (first
                | (refine step_appH (by rfl) (.tmp 49) (.tmp 52) (by rfl) W0.drew.heap.size _ _ [] (l.take k) (by rfl) (by rfl) HRA.out.own (hs_nil0 _ _ (by first | rfl | exact HK0.out | exact HND0.out | (simp; done)) HNT.out) (by simp only [List.length_nil]; omega) HRA.out.sz ?_
                   intro v1 X1 o1 g1 r1; have HR1 := Lib.hid (HRA.out.app o1 g1); clear o1 g1 r1
                   have HR1b := Lib.hid (HR1.out.alloc (.cells #[.int .i64 x.no, .int .i64 x.at_, .int .i64 x.known, .int .i64 x.key, .int .i64 x.value, .bool x.gone] 27))
                   have HN1 := Lib.hid (BoxA.new X1 x))
                | (refine step_appH (by rfl) (.tmp 49) (.tmp 52) (by rfl) W0.drew.heap.size _ _ [] (l.take k) (by rfl) (by rfl) HRB.out.own (hs_nil0 _ _ (by first | rfl | exact HK0.out | exact HND0.out | (simp; done)) HNT.out) (by simp only [List.length_nil]; omega) HRB.out.sz ?_
                   intro v1 X1 o1 g1 r1
                   have HR1 := Lib.hid (HRB.out.app o1 g1)
                   have HN1 := Lib.hid (HNB.out.grown g1 (by intro e; have e2 : W0.drew.heap.size + 1 = W0.drew.heap.size := Option.some.inj e; omega))
                   clear o1 g1 r1)
                | (refine step_appH (by rfl) (.tmp 49) (.tmp 52) (by rfl) W0.drew.heap.size _ _ [] (l.take k) (by rfl) (by rfl) HRC.out.own (hs_nil0 _ _ (by first | rfl | exact HK0.out | exact HND0.out | (simp; done)) HNT.out) (by simp only [List.length_nil]; omega) HRC.out.sz ?_
                   intro v1 X1 o1 g1 r1
                   have HR1 := Lib.hid (HRC.out.app o1 g1)
                   have HN1 := Lib.hid (HNC.out.grown g1 (by intro e; have e2 : W0.drew.heap.size = W0.drew.heap.size + 1 := Option.some.inj e; omega))
                   clear o1 g1 r1)
                | (refine step_appH (by rfl) (.tmp 53) (.tmp 55) (by rfl) W0.drew.heap.size _ _ _ [x] (by rfl) (by rfl) HR1.out.own HN1.out.one (by simp only [List.length_append, List.length_nil, List.length_cons]; omega) HR1.out.sz ?_
                   intro v2 X2 o2 g2 r2; have HR2 := Lib.hid (HR1.out.app o2 g2); clear o2 g2 r2)
                | (refine step_appH (by rfl) (.tmp 53) (.tmp 55) (by rfl) W0.drew.heap.size _ _ _ [x] (by rfl) (by rfl) HR1b.out.own HN1.out.one (by simp only [List.length_append, List.length_nil, List.length_cons]; omega) HR1b.out.sz ?_
                   intro v2 X2 o2 g2 r2; have HR2 := Lib.hid (HR1b.out.app o2 g2); clear o2 g2 r2)
                | (refine step_appH (by rfl) (.tmp 56) (.tmp 59) (by rfl) W0.drew.heap.size _ _ _ (l.drop k) (by rfl) (by rfl) HR2.out.own (hs_nil0 _ _ (by first | rfl | exact HK0.out | exact HND0.out | (have h1 := HND0.out; have h2 := HK0.out; omega) | (simp; done)) HND.out) (by simp only [List.length_append, List.length_nil, List.length_cons]; omega) HR2.out.sz ?_
                   intro v3 X3 o3 g3 r3; have HR3 := Lib.hid (HR2.out.app o3 g3); clear o3 g3 r3))
            all_goals
              go_wp2
              go_ret2
              exact ⟨_, by rw [E.out]; rfl, by rw [E2.out]; exact OwnAs.mono (by simpa using HR3.out.own) (Nat.le_of_lt HR3.out.lt), HR3.out.below⟩
        | some ad =>
          by_cases hck : cap = k
          · obtain rfl := hck.symm
            cases dm : ((l.length : Int) == 4096)
            rotate_left
            · have hll : l.length = 4096 := by simp at dm; omega
              have E := Lib.hid (show Vn.addE l x = 2 by unfold Vn.addE; rw [if_pos HE.out, if_pos HRX.out, HHAS.out, if_pos hll]; rfl)
              have E2 := Lib.hid (show Vn.addL l x = [] by unfold Vn.addL; rw [E.out]; rfl)
              clear hll
              go_wp2
              go_quiet (fail)
              go_wp2
              go_quiet (fail)
              go_wp2
              go_ret2
              exact ⟨_, by rw [E.out]; rfl, by rw [E2.out]; exact OwnAs.nil _ _, below_drewN HB2.out _⟩
            have hll : ¬ l.length = 4096 := by simp at dm; omega
            have E := Lib.hid (show Vn.addE l x = 0 by unfold Vn.addE; rw [if_pos HE.out, if_pos HRX.out, HHAS.out, if_neg hll]; rfl)
            have E2 := Lib.hid (show Vn.addL l x = l.take k ++ x :: l.drop k by unfold Vn.addL; rw [E.out]; unfold Vn.ins; rw [HPOS.out]; rfl)
            clear hll
            go_wp2
            go_quiet (fail)
            go_wp2
            go_quiet (fail)
            go_wp2
            refine over_drewN ?_
            rintro W0 ⟨mW, hW⟩
            have HB4 := Lib.hid (show Below w.heap.size w W0.drew by rw [hW]; exact below_drewN HB2.out (_ + 1))
            have HX4 := Lib.hid (show BoxA W0.drew w.heap.size x by rw [hW]; exact HX2.out)
            clear hW HX2 HB2 q0
            try clear y0
            have q0 := HX4.out.c0
            have q1 := HX4.out.c1
            have q2 := HX4.out.c2
            have q3 := HX4.out.c3
            have q4 := HX4.out.c4
            have q5 := HX4.out.c5
            have HT := Lib.hid (rfl : k = k)
            have HD := Lib.hid (rfl : k = k)
            have HRA := Lib.hid (Reg.start HB4.out HX4.out)
            have HRB := Lib.hid (HRA.out.alloc (.cells #[.int .i64 x.no, .int .i64 x.at_, .int .i64 x.known, .int .i64 x.key, .int .i64 x.value, .bool x.gone] 27))
            have HRC := Lib.hid (Reg.startC (.cells #[.int .i64 x.no, .int .i64 x.at_, .int .i64 x.known, .int .i64 x.key, .int .i64 x.value, .bool x.gone] 27) HB4.out HX4.out)
            have HNB := Lib.hid (BoxA.new1 W0.drew (.cells #[] 27) x)
            have HNC := Lib.hid ((BoxA.new W0.drew x).alloc (.cells #[] 27))
            have htl : (l.take k).length ≤ 4096 := Nat.le_trans (List.length_take_le' _ _) hl2
            have hdl : (l.drop k).length ≤ 4096 := by rw [List.length_drop]; omega
            have hz1 : (0 : Int) ≤ (k : Int) := by omega
            have hz2 : (k : Int) ≤ (l.length : Int) := by omega
            have hz3 : (k : Int) ≤ (k : Int) := by omega
            have hk00 : k = 0 := HK0.out
            go_region_held3 (fun X => X.cell? ⟨w.heap.size, 0, none⟩ = some (.int .i64 x.no) ∧ X.cell? ⟨w.heap.size, 1, none⟩ = some (.int .i64 x.at_) ∧ X.cell? ⟨w.heap.size, 2, none⟩ = some (.int .i64 x.known) ∧ X.cell? ⟨w.heap.size, 3, none⟩ = some (.int .i64 x.key) ∧ X.cell? ⟨w.heap.size, 4, none⟩ = some (.int .i64 x.value) ∧ X.cell? ⟨w.heap.size, 5, none⟩ = some (.bool x.gone))
              (first
                | exact HX4.out.ten
                | exact HRA.out.box.ten
                | exact HRB.out.box.ten
                | exact HRC.out.box.ten
                | exact (HX4.out.alloc _).ten
                | exact HR3.out.box.ten
                | exact HR2.out.box.ten
                | exact HR1.out.box.ten
                | exact (HR1.out.alloc _).box.ten)
              (first
                | (refine step_appH (by rfl) (.tmp 49) (.tmp 52) (by rfl) W0.drew.heap.size _ _ [] (l.take k) (by rfl) (by rfl) HRA.out.own (hs_nil0 _ _ (by first | rfl | exact HK0.out | exact HND0.out | (simp; done)) HNT.out) (by simp only [List.length_nil]; omega) HRA.out.sz ?_
                   intro v1 X1 o1 g1 r1; have HR1 := Lib.hid (HRA.out.app o1 g1); clear o1 g1 r1
                   have HR1b := Lib.hid (HR1.out.alloc (.cells #[.int .i64 x.no, .int .i64 x.at_, .int .i64 x.known, .int .i64 x.key, .int .i64 x.value, .bool x.gone] 27))
                   have HN1 := Lib.hid (BoxA.new X1 x))
                | (refine step_appH (by rfl) (.tmp 49) (.tmp 52) (by rfl) W0.drew.heap.size _ _ [] (l.take k) (by rfl) (by rfl) HRB.out.own (hs_nil0 _ _ (by first | rfl | exact HK0.out | exact HND0.out | (simp; done)) HNT.out) (by simp only [List.length_nil]; omega) HRB.out.sz ?_
                   intro v1 X1 o1 g1 r1
                   have HR1 := Lib.hid (HRB.out.app o1 g1)
                   have HN1 := Lib.hid (HNB.out.grown g1 (by intro e; have e2 : W0.drew.heap.size + 1 = W0.drew.heap.size := Option.some.inj e; omega))
                   clear o1 g1 r1)
                | (refine step_appH (by rfl) (.tmp 49) (.tmp 52) (by rfl) W0.drew.heap.size _ _ [] (l.take k) (by rfl) (by rfl) HRC.out.own (hs_nil0 _ _ (by first | rfl | exact HK0.out | exact HND0.out | (simp; done)) HNT.out) (by simp only [List.length_nil]; omega) HRC.out.sz ?_
                   intro v1 X1 o1 g1 r1
                   have HR1 := Lib.hid (HRC.out.app o1 g1)
                   have HN1 := Lib.hid (HNC.out.grown g1 (by intro e; have e2 : W0.drew.heap.size = W0.drew.heap.size + 1 := Option.some.inj e; omega))
                   clear o1 g1 r1)
                | (refine step_appH (by rfl) (.tmp 53) (.tmp 55) (by rfl) W0.drew.heap.size _ _ _ [x] (by rfl) (by rfl) HR1.out.own HN1.out.one (by simp only [List.length_append, List.length_nil, List.length_cons]; omega) HR1.out.sz ?_
                   intro v2 X2 o2 g2 r2; have HR2 := Lib.hid (HR1.out.app o2 g2); clear o2 g2 r2)
                | (refine step_appH (by rfl) (.tmp 53) (.tmp 55) (by rfl) W0.drew.heap.size _ _ _ [x] (by rfl) (by rfl) HR1b.out.own HN1.out.one (by simp only [List.length_append, List.length_nil, List.length_cons]; omega) HR1b.out.sz ?_
                   intro v2 X2 o2 g2 r2; have HR2 := Lib.hid (HR1b.out.app o2 g2); clear o2 g2 r2)
                | (refine step_appH (by rfl) (.tmp 56) (.tmp 59) (by rfl) W0.drew.heap.size _ _ _ (l.drop k) (by rfl) (by rfl) HR2.out.own (hs_nil0 _ _ (by first | rfl | exact HK0.out | exact HND0.out | (have h1 := HND0.out; have h2 := HK0.out; omega) | (simp; done)) HND.out) (by simp only [List.length_append, List.length_nil, List.length_cons]; omega) HR2.out.sz ?_
                   intro v3 X3 o3 g3 r3; have HR3 := Lib.hid (HR2.out.app o3 g3); clear o3 g3 r3))
            all_goals
              go_wp2
              go_ret2
              exact ⟨_, by rw [E.out]; rfl, by rw [E2.out]; exact OwnAs.mono (by simpa using HR3.out.own) (Nat.le_of_lt HR3.out.lt), HR3.out.below⟩
          · have hc0 : ¬ cap = 0 := by have := HK0.out; omega
            cases dm : ((l.length : Int) == 4096)
            rotate_left
            · have hll : l.length = 4096 := by simp at dm; omega
              have E := Lib.hid (show Vn.addE l x = 2 by unfold Vn.addE; rw [if_pos HE.out, if_pos HRX.out, HHAS.out, if_pos hll]; rfl)
              have E2 := Lib.hid (show Vn.addL l x = [] by unfold Vn.addL; rw [E.out]; rfl)
              clear hll
              go_wp2
              go_quiet (fail)
              go_wp2
              go_quiet (fail)
              go_wp2
              go_ret2
              exact ⟨_, by rw [E.out]; rfl, by rw [E2.out]; exact OwnAs.nil _ _, below_drewN HB2.out _⟩
            have hll : ¬ l.length = 4096 := by simp at dm; omega
            have E := Lib.hid (show Vn.addE l x = 0 by unfold Vn.addE; rw [if_pos HE.out, if_pos HRX.out, HHAS.out, if_neg hll]; rfl)
            have E2 := Lib.hid (show Vn.addL l x = l.take k ++ x :: l.drop k by unfold Vn.addL; rw [E.out]; unfold Vn.ins; rw [HPOS.out]; rfl)
            clear hll
            go_wp2
            go_quiet (fail)
            go_wp2
            go_quiet (fail)
            go_wp2
            refine over_drewN ?_
            rintro W0 ⟨mW, hW⟩
            have HB4 := Lib.hid (show Below w.heap.size w W0.drew by rw [hW]; exact below_drewN HB2.out (_ + 1))
            have HX4 := Lib.hid (show BoxA W0.drew w.heap.size x by rw [hW]; exact HX2.out)
            clear hW HX2 HB2 q0
            try clear y0
            have q0 := HX4.out.c0
            have q1 := HX4.out.c1
            have q2 := HX4.out.c2
            have q3 := HX4.out.c3
            have q4 := HX4.out.c4
            have q5 := HX4.out.c5
            have HT := Lib.hid (rfl : k = k)
            have HD := Lib.hid (rfl : k = k)
            have HRA := Lib.hid (Reg.start HB4.out HX4.out)
            have HRB := Lib.hid (HRA.out.alloc (.cells #[.int .i64 x.no, .int .i64 x.at_, .int .i64 x.known, .int .i64 x.key, .int .i64 x.value, .bool x.gone] 27))
            have HRC := Lib.hid (Reg.startC (.cells #[.int .i64 x.no, .int .i64 x.at_, .int .i64 x.known, .int .i64 x.key, .int .i64 x.value, .bool x.gone] 27) HB4.out HX4.out)
            have HNB := Lib.hid (BoxA.new1 W0.drew (.cells #[] 27) x)
            have HNC := Lib.hid ((BoxA.new W0.drew x).alloc (.cells #[] 27))
            have htl : (l.take k).length ≤ 4096 := Nat.le_trans (List.length_take_le' _ _) hl2
            have hdl : (l.drop k).length ≤ 4096 := by rw [List.length_drop]; omega
            have hz1 : (0 : Int) ≤ (k : Int) := by omega
            have hz2 : (k : Int) ≤ (l.length : Int) := by omega
            have hz3 : (k : Int) ≤ (cap : Int) := by omega
            go_region_held3 (fun X => X.cell? ⟨w.heap.size, 0, none⟩ = some (.int .i64 x.no) ∧ X.cell? ⟨w.heap.size, 1, none⟩ = some (.int .i64 x.at_) ∧ X.cell? ⟨w.heap.size, 2, none⟩ = some (.int .i64 x.known) ∧ X.cell? ⟨w.heap.size, 3, none⟩ = some (.int .i64 x.key) ∧ X.cell? ⟨w.heap.size, 4, none⟩ = some (.int .i64 x.value) ∧ X.cell? ⟨w.heap.size, 5, none⟩ = some (.bool x.gone))
              (first
                | exact HX4.out.ten
                | exact HRA.out.box.ten
                | exact HRB.out.box.ten
                | exact HRC.out.box.ten
                | exact (HX4.out.alloc _).ten
                | exact HR3.out.box.ten
                | exact HR2.out.box.ten
                | exact HR1.out.box.ten
                | exact (HR1.out.alloc _).box.ten)
              (first
                | (refine step_appH (by rfl) (.tmp 49) (.tmp 52) (by rfl) W0.drew.heap.size _ _ [] (l.take k) (by rfl) (by rfl) HRA.out.own (hs_nil0 _ _ (by first | rfl | exact HK0.out | exact HND0.out | (simp; done)) HNT.out) (by simp only [List.length_nil]; omega) HRA.out.sz ?_
                   intro v1 X1 o1 g1 r1; have HR1 := Lib.hid (HRA.out.app o1 g1); clear o1 g1 r1
                   have HR1b := Lib.hid (HR1.out.alloc (.cells #[.int .i64 x.no, .int .i64 x.at_, .int .i64 x.known, .int .i64 x.key, .int .i64 x.value, .bool x.gone] 27))
                   have HN1 := Lib.hid (BoxA.new X1 x))
                | (refine step_appH (by rfl) (.tmp 49) (.tmp 52) (by rfl) W0.drew.heap.size _ _ [] (l.take k) (by rfl) (by rfl) HRB.out.own (hs_nil0 _ _ (by first | rfl | exact HK0.out | exact HND0.out | (simp; done)) HNT.out) (by simp only [List.length_nil]; omega) HRB.out.sz ?_
                   intro v1 X1 o1 g1 r1
                   have HR1 := Lib.hid (HRB.out.app o1 g1)
                   have HN1 := Lib.hid (HNB.out.grown g1 (by intro e; have e2 : W0.drew.heap.size + 1 = W0.drew.heap.size := Option.some.inj e; omega))
                   clear o1 g1 r1)
                | (refine step_appH (by rfl) (.tmp 49) (.tmp 52) (by rfl) W0.drew.heap.size _ _ [] (l.take k) (by rfl) (by rfl) HRC.out.own (hs_nil0 _ _ (by first | rfl | exact HK0.out | exact HND0.out | (simp; done)) HNT.out) (by simp only [List.length_nil]; omega) HRC.out.sz ?_
                   intro v1 X1 o1 g1 r1
                   have HR1 := Lib.hid (HRC.out.app o1 g1)
                   have HN1 := Lib.hid (HNC.out.grown g1 (by intro e; have e2 : W0.drew.heap.size = W0.drew.heap.size + 1 := Option.some.inj e; omega))
                   clear o1 g1 r1)
                | (refine step_appH (by rfl) (.tmp 53) (.tmp 55) (by rfl) W0.drew.heap.size _ _ _ [x] (by rfl) (by rfl) HR1.out.own HN1.out.one (by simp only [List.length_append, List.length_nil, List.length_cons]; omega) HR1.out.sz ?_
                   intro v2 X2 o2 g2 r2; have HR2 := Lib.hid (HR1.out.app o2 g2); clear o2 g2 r2)
                | (refine step_appH (by rfl) (.tmp 53) (.tmp 55) (by rfl) W0.drew.heap.size _ _ _ [x] (by rfl) (by rfl) HR1b.out.own HN1.out.one (by simp only [List.length_append, List.length_nil, List.length_cons]; omega) HR1b.out.sz ?_
                   intro v2 X2 o2 g2 r2; have HR2 := Lib.hid (HR1b.out.app o2 g2); clear o2 g2 r2)
                | (refine step_appH (by rfl) (.tmp 56) (.tmp 59) (by rfl) W0.drew.heap.size _ _ _ (l.drop k) (by rfl) (by rfl) HR2.out.own (hs_nil0 _ _ (by first | rfl | exact HK0.out | exact HND0.out | (have h1 := HND0.out; have h2 := HK0.out; omega) | (simp; done)) HND.out) (by simp only [List.length_append, List.length_nil, List.length_cons]; omega) HR2.out.sz ?_
                   intro v3 X3 o3 g3 r3; have HR3 := Lib.hid (HR2.out.app o3 g3); clear o3 g3 r3))
            all_goals
              go_wp2
              go_ret2
              exact ⟨_, by rw [E.out]; rfl, by rw [E2.out]; exact OwnAs.mono (by simpa using HR3.out.own) (Nat.le_of_lt HR3.out.lt), HR3.out.below⟩
end Go.Proofs.Ytcifhigeieoogaa
