/- Walks of the reference's Standing and Same and of the comparison that Add hands on. -/
import Derived.Test.YtninnpcggeofmaaW15
namespace Go.Proofs.Ytninnpcggeofmaa
open Go.RowKit
set_option linter.unusedVariables false
set_option linter.unusedSimpArgs false
attribute [local go_sem] frozen_new

def Hh.stand (l : List Hh) (t : Int) : List Hh := l.filter (fun h => decide (h.known ≤ t))
def Hh.stdE (l : List Hh) (t : Int) : Int := if Hh.err l = 0 then (if Hh.inn t 0 1099511627775 = true then 0 else 1) else Hh.err l
def Hh.stdL (l : List Hh) (t : Int) : List Hh := if Hh.stdE l t = 0 then Hh.stand l t else []
def StdPost (l : List Hh) (t : Int) (w : World) : Ending → World → Prop := fun e w' => ∃ v', e = .returned (.tuple #[v', .int .i64 (Hh.stdE l t)]) ∧ OwnHs w' w.heap.size v' (Hh.stdL l t) ∧ Below w.heap.size w w'
theorem stand_snoc (l : List Hh) (t : Int) (k : Nat) (h : k < l.length) : Hh.stand (l.take (k + 1)) t = if l[k].known ≤ t then Hh.stand (l.take k) t ++ [l[k]] else Hh.stand (l.take k) t := by
  unfold Hh.stand
  rw [List.take_succ_eq_append_getElem h, List.filter_append]
  split
  · rename_i hb; simp [hb]
  · rename_i hb; simp [hb]

theorem add1_any (h : Hh) (n : Int) (w : World) : Calls Try.prog 38 #[vH h, .int .i64 n] w fun e w' => e = .returned (.int .i64 (cmpI h.no n)) ∧ Below w.heap.size w w' := by
  have HB0 := Lib.hid (BoxH.new w h)
  have HW := Lib.hid (al1 w (.cells #[.int .i64 h.no, .int .i64 h.kind, .int .i64 h.spk, .int .i64 h.fst, .int .i64 h.lst, .int .i64 h.lang, .int .i64 h.frm, .int .i64 h.unt, .int .i64 h.known, .int .i64 h.ms] 24))
  have q0 := HB0.out.c0
  have HC := Lib.hid (fun W => compare_any h.no n W)
  have hvv : vH h = vH h := rfl
  unfold vH
  clear hvv
  go_enter Try.func38, Try.ntmps38
  go_wp2_with (fail)
  refine (HC.out _).mono ?_
  rintro e _ ⟨rfl, rfl⟩
  go_wp2_with (fail)
  go_ret
  exact ⟨rfl, HW.out⟩

set_option maxHeartbeats 4000000 in
theorem refStanding_any (v : Value) (l : List Hh) (t : Int) (w : World) (hv : IsHs w v l) (hl : l.length ≤ 9223372036854775807) : Calls Try.prog 19 #[v, .int .i64 t] w (StdPost l t w) := by
  have HV := Lib.hid hv
  obtain ⟨A, cap, rfl, hr⟩ := id hv
  have HR := Lib.hid hr
  clear hr hv
  go_enter Try.func19, Try.ntmps19
  go_wp2_with (fail)
  by_cases he : Hh.err l = 0
  rotate_left
  · obtain ⟨x, hx⟩ : ∃ x, Hh.err l = x := ⟨_, rfl⟩
    have hne : (x == 0) = false := by rw [← hx]; simpa using he
    refine (refCheck_is hx HV.out hl).mono ?_
    rintro e w1 ⟨rfl, b1⟩
    have e1 : Hh.stdE l t = x := by unfold Hh.stdE; rw [if_neg he, hx]
    have e2 : Hh.stdL l t = [] := by unfold Hh.stdL; rw [e1, if_neg (by rw [← hx]; exact he)]
    have E := Lib.hid e1
    have E2 := Lib.hid e2
    clear e1 e2 he hx
    go_wp2_with (fail)
    go_ret2
    exact ⟨_, by rw [E.out]; rfl, by rw [E2.out]; exact ownH_none _ _, b1⟩
  have hl2 : l.length ≤ 1024 := (err_zero he).1
  refine (refCheck_is he HV.out hl).mono ?_
  rintro e w1 ⟨rfl, b1⟩
  have HB1 := Lib.hid b1
  have HE := Lib.hid he
  clear b1 he
  go_wp2_with (fail)
  cases ht : Hh.inn t 0 1099511627775
  · refine (refTime_is ht _).mono ?_
    rintro e _ ⟨rfl, rfl⟩
    have E := Lib.hid (show Hh.stdE l t = 1 by unfold Hh.stdE; rw [if_pos HE.out, ht]; rfl)
    have E2 := Lib.hid (show Hh.stdL l t = [] by unfold Hh.stdL; rw [E.out]; rfl)
    go_wp2_with (fail)
    go_ret2
    exact ⟨_, by rw [E.out]; rfl, by rw [E2.out]; exact ownH_none _ _, HB1.out⟩
  refine (refTime_is ht _).mono ?_
  rintro e _ ⟨rfl, rfl⟩
  have E := Lib.hid (show Hh.stdE l t = 0 by unfold Hh.stdE; rw [if_pos HE.out, ht]; rfl)
  have E2 := Lib.hid (show Hh.stdL l t = Hh.stand l t by unfold Hh.stdL; rw [E.out]; rfl)
  go_wp2_with (fail)
  go_loopw [7, 8] (fun r i wr => ∃ k : Nat, k ≤ l.length ∧ i = .int .i64 k ∧ Hid (OwnHs wr w.heap.size r (Hh.stand (l.take k) t)) ∧ Hid (Below w.heap.size w wr)) (fun _ i _ => l.length - (intOf i).toNat)
  case atStart => exact ⟨0, Nat.zero_le _, rfl, ownH_none _ _, HB1⟩
  case round =>
    obtain ⟨k, hk, rfl, HO, HB⟩ := hrel
    by_cases hlt : k < l.length
    · obtain ⟨b, off, rfl, hat⟩ := hs_at HR.out hlt
      have HX := Lib.hid (hat.below HB.out)
      have HS := Lib.hid (stand_snoc l t k hlt)
      have hgl : (Hh.stand (l.take k) t).length ≤ 1000000 := by
        have h1 := List.length_filter_le (fun h : Hh => decide (h.known ≤ t)) (l.take k)
        have h2 : (l.take k).length ≤ k := List.length_take_le _ _
        unfold Hh.stand; omega
      generalize l[k] = x at *
      clear hat
      have q0 := HX.out.c0
      have q1 := HX.out.c1
      have q2 := HX.out.c2
      have q3 := HX.out.c3
      have q4 := HX.out.c4
      have q5 := HX.out.c5
      have q6 := HX.out.c6
      have q7 := HX.out.c7
      have q8 := HX.out.c8
      have q9 := HX.out.c9
      by_cases hn : x.known ≤ t
      · have hnd : decide (x.known ≤ t) = true := decide_eq_true hn
        have HE3 := Lib.hid (show Hh.stand (l.take (k + 1)) t = Hh.stand (l.take k) t ++ [x] by rw [HS.out, if_pos hn])
        clear hn
        go_wp2_with (at_builtin; go_must (refine wpList_pushH rfl (.tmp 30) (.tmp 35) rfl w.heap.size _ _ rfl HO.out x wr.heap.size rfl rfl hgl HB.out.size ?_); intro v1 w3 hown1 hg1 hat1; have HO1 := Lib.hid hown1; have HG1 := Lib.hid hg1; clear hown1 hg1 hat1)
        go_roundw
        case rel => exact ⟨k + 1, by omega, by go_num, by rw [HE3.out]; exact HO1, Lib.hid (HB.out.grown HG1.out HB.out.size (fun g hg => (ownH_at HO.out g hg).1))⟩
        case measure => first | omega | (simp [intOf]; omega)
      · have hnd : decide (x.known ≤ t) = false := decide_eq_false hn
        have HE3 := Lib.hid (show Hh.stand (l.take (k + 1)) t = Hh.stand (l.take k) t by rw [HS.out, if_neg hn])
        clear hn
        go_wp2_with (fail)
        go_roundw
        case rel => exact ⟨k + 1, by omega, by go_num, by rw [HE3.out]; exact HO, HB⟩
        case measure => first | omega | (simp [intOf]; omega)
    · have HT := Lib.hid (show Hh.stand (l.take k) t = Hh.stand l t by rw [List.take_of_length_le (by omega)])
      go_wp2_with (fail)
      go_ret2
      exact ⟨_, by rw [E.out]; rfl, by rw [E2.out, ← HT.out]; exact HO.out, HB.out⟩

theorem same_of_takeH {xs ys : List Hh} (h1 : xs.length ≤ ys.length) (h2 : ys.length ≤ xs.length) {k : Nat} (hk : xs.length ≤ k) (h : xs.take k = ys.take k) : xs = ys := by
  rwa [List.take_of_length_le hk, List.take_of_length_le (by omega)] at h

set_option maxHeartbeats 4000000 in
theorem same_any (v u : Value) (xs ys : List Hh) (w : World) (hv : IsHs w v xs) (hu : IsHs w u ys) (hl : xs.length ≤ 9223372036854775807) (hl2 : ys.length ≤ 9223372036854775807) :
    Calls Try.prog 22 #[v, u] w fun e w' => e = .returned (.bool (decide (xs = ys))) ∧ ∃ k, w' = w.drewN k := by
  obtain ⟨A, c, rfl, hr⟩ := hv
  obtain ⟨A2, c2, rfl, hr2⟩ := hu
  have HR := Lib.hid hr
  have HR2 := Lib.hid hr2
  clear hr hr2
  by_cases hne : xs.length = ys.length
  · have h1 : xs.length ≤ ys.length := by omega
    have h2 : ys.length ≤ xs.length := by omega
    clear hne
    go_enter Try.func22, Try.ntmps22
    go_wp2
    go_loopw [5] (fun i wr => ∃ k : Nat, k ≤ xs.length ∧ i = .int .i64 k ∧ Hid (xs.take k = ys.take k) ∧ ∃ q, wr = w.drewN q) (fun i _ => xs.length - (intOf i).toNat)
    case atStart => exact ⟨0, Nat.zero_le _, rfl, rfl, 0, rfl⟩
    case round =>
      obtain ⟨k, hk, rfl, H, q, rfl⟩ := hrel
      by_cases hlt : k < xs.length
      · obtain ⟨b, off, rfl, hat⟩ := hs_at HR.out hlt
        obtain ⟨b2, off2, rfl, hat2⟩ := hs_at HR2.out (show k < ys.length by omega)
        have x0 := hat.c0
        have y0 := hat2.c0
        have x1 := hat.c1
        have y1 := hat2.c1
        have x2 := hat.c2
        have y2 := hat2.c2
        have x3 := hat.c3
        have y3 := hat2.c3
        have x4 := hat.c4
        have y4 := hat2.c4
        have x5 := hat.c5
        have y5 := hat2.c5
        have x6 := hat.c6
        have y6 := hat2.c6
        have x7 := hat.c7
        have y7 := hat2.c7
        have x8 := hat.c8
        have y8 := hat2.c8
        have x9 := hat.c9
        have y9 := hat2.c9
        have HT := Lib.hid (fun (e : xs[k] = ys[k]) => show xs.take (k + 1) = ys.take (k + 1) by rw [List.take_succ_eq_append_getElem hlt, List.take_succ_eq_append_getElem (by omega), H.out, e])
        have HF := Lib.hid (fun (e : ¬ xs[k] = ys[k]) (h : xs = ys) => e (by subst h; rfl))
        generalize xs[k] = x at *
        generalize ys[k] = y at *
        clear hat hat2

        cases d0 : (x.no == y.no)
        · have HN := Lib.hid (HF.out (by rintro rfl; simp at d0))
          clear HF HT
          go_wp2
          go_quiet (fail)
          go_wp2
          go_ret
          exact ⟨ret_bool (by symm; simpa using HN.out), _, World.drewN_drewN ..⟩
        cases d1 : (x.kind == y.kind)
        · have HN := Lib.hid (HF.out (by rintro rfl; simp at d1))
          clear HF HT
          go_wp2
          go_quiet (fail)
          go_wp2
          go_ret
          exact ⟨ret_bool (by symm; simpa using HN.out), _, World.drewN_drewN ..⟩
        cases d2 : (x.spk == y.spk)
        · have HN := Lib.hid (HF.out (by rintro rfl; simp at d2))
          clear HF HT
          go_wp2
          go_quiet (fail)
          go_wp2
          go_ret
          exact ⟨ret_bool (by symm; simpa using HN.out), _, World.drewN_drewN ..⟩
        cases d3 : (x.fst == y.fst)
        · have HN := Lib.hid (HF.out (by rintro rfl; simp at d3))
          clear HF HT
          go_wp2
          go_quiet (fail)
          go_wp2
          go_ret
          exact ⟨ret_bool (by symm; simpa using HN.out), _, World.drewN_drewN ..⟩
        cases d4 : (x.lst == y.lst)
        · have HN := Lib.hid (HF.out (by rintro rfl; simp at d4))
          clear HF HT
          go_wp2
          go_quiet (fail)
          go_wp2
          go_ret
          exact ⟨ret_bool (by symm; simpa using HN.out), _, World.drewN_drewN ..⟩
        cases d5 : (x.lang == y.lang)
        · have HN := Lib.hid (HF.out (by rintro rfl; simp at d5))
          clear HF HT
          go_wp2
          go_quiet (fail)
          go_wp2
          go_ret
          exact ⟨ret_bool (by symm; simpa using HN.out), _, World.drewN_drewN ..⟩
        cases d6 : (x.frm == y.frm)
        · have HN := Lib.hid (HF.out (by rintro rfl; simp at d6))
          clear HF HT
          go_wp2
          go_quiet (fail)
          go_wp2
          go_ret
          exact ⟨ret_bool (by symm; simpa using HN.out), _, World.drewN_drewN ..⟩
        cases d7 : (x.unt == y.unt)
        · have HN := Lib.hid (HF.out (by rintro rfl; simp at d7))
          clear HF HT
          go_wp2
          go_quiet (fail)
          go_wp2
          go_ret
          exact ⟨ret_bool (by symm; simpa using HN.out), _, World.drewN_drewN ..⟩
        cases d8 : (x.known == y.known)
        · have HN := Lib.hid (HF.out (by rintro rfl; simp at d8))
          clear HF HT
          go_wp2
          go_quiet (fail)
          go_wp2
          go_ret
          exact ⟨ret_bool (by symm; simpa using HN.out), _, World.drewN_drewN ..⟩
        cases d9 : (x.ms == y.ms)
        · have HN := Lib.hid (HF.out (by rintro rfl; simp at d9))
          clear HF HT
          go_wp2
          go_quiet (fail)
          go_wp2
          go_ret
          exact ⟨ret_bool (by symm; simpa using HN.out), _, World.drewN_drewN ..⟩
        have he : x = y := by cases x; cases y; simp at d0 d1 d2 d3 d4 d5 d6 d7 d8 d9; simp [*]
        subst he
        clear d0 d1 d2 d3 d4 d5 d6 d7 d8 d9
        have HTT := Lib.hid (HT.out rfl)
        clear HT HF
        go_wp2
        go_quiet (fail)
        go_wp2
        go_roundw
        case rel => exact ⟨k + 1, by omega, by go_num, HTT, _, rfl⟩
        case measure => first | omega | (simp [intOf]; omega)
      · go_wp2
        go_ret
        exact ⟨ret_bool (by symm; simpa using same_of_takeH h1 h2 (by omega) H.out), _, rfl⟩
  · have hb : ((xs.length : Int) != (ys.length : Int)) = true := by simp; omega
    go_enter Try.func22, Try.ntmps22
    go_wp2
    go_ret
    exact ⟨ret_bool (by symm; simp; rintro rfl; exact hne rfl), 0, rfl⟩

end Go.Proofs.Ytninnpcggeofmaa
