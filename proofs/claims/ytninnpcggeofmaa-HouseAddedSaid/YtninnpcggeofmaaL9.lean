/- The statement HouseAdded, walked. -/
import Derived.Test.YtninnpcggeofmaaL6
import Derived.Test.YtninnpcggeofmaaPlain9
import Derived.Deep.Cut
namespace Go.Proofs.Ytninnpcggeofmaa
open Go.RowKit
set_option linter.unusedVariables false
set_option linter.unusedSimpArgs false
attribute [local go_sem] frozen_new

theorem metN_snoc (l : List Hh) (a : Hh) (k : Nat) (h : k < l.length) : metN (l.take (k + 1)) a = if l[k] = a then metN (l.take k) a + 1 else metN (l.take k) a := by
  unfold metN
  rw [List.take_succ_eq_append_getElem h, List.filter_append]
  split
  · rename_i hb; simp [hb]
  · rename_i hb; simp [hb]
theorem oths_snoc (l : List Hh) (a : Hh) (k : Nat) (h : k < l.length) : oths (l.take (k + 1)) a = if l[k] = a then oths (l.take k) a else oths (l.take k) a ++ [l[k]] := by
  unfold oths
  rw [List.take_succ_eq_append_getElem h, List.filter_append]
  split
  · rename_i hb; simp [hb]
  · rename_i hb; simp [hb]
theorem fewB_len {n : Nat} (h : fewB n = true) (h2 : n ≤ 1024) : n ≤ 30 := by
  unfold fewB at h; simp at h; omega

set_option maxHeartbeats 8000000 in
set_option maxRecDepth 100000 in
theorem HouseAdded_any (v : Value) (l : List Hh) (a b : Hh) (t : Int) (w : World) (hv : IsHs w v l) (hl : l.length ≤ 9223372036854775807) : Calls Try.prog 7 #[v, vH a, vH b, .int .i64 t] w fun e w' => e = .returned (.bool true) ∧ Below w.heap.size w w' := by
  have HV := Lib.hid hv
  obtain ⟨A, cap, rfl, hrow⟩ := id hv
  clear hrow hv
  have HA0 := Lib.hid ((BoxH.new w a).upb (al1 (w.alloc (.cells #[.int .i64 a.no, .int .i64 a.kind, .int .i64 a.spk, .int .i64 a.fst, .int .i64 a.lst, .int .i64 a.lang, .int .i64 a.frm, .int .i64 a.unt, .int .i64 a.known, .int .i64 a.ms] 24)) (.cells #[.int .i64 b.no, .int .i64 b.kind, .int .i64 b.spk, .int .i64 b.fst, .int .i64 b.lst, .int .i64 b.lang, .int .i64 b.frm, .int .i64 b.unt, .int .i64 b.known, .int .i64 b.ms] 24)))
  have HB0 := Lib.hid ((al1 w (.cells #[.int .i64 a.no, .int .i64 a.kind, .int .i64 a.spk, .int .i64 a.fst, .int .i64 a.lst, .int .i64 a.lang, .int .i64 a.frm, .int .i64 a.unt, .int .i64 a.known, .int .i64 a.ms] 24)).up (al1 (w.alloc (.cells #[.int .i64 a.no, .int .i64 a.kind, .int .i64 a.spk, .int .i64 a.fst, .int .i64 a.lst, .int .i64 a.lang, .int .i64 a.frm, .int .i64 a.unt, .int .i64 a.known, .int .i64 a.ms] 24)) (.cells #[.int .i64 b.no, .int .i64 b.kind, .int .i64 b.spk, .int .i64 b.fst, .int .i64 b.lst, .int .i64 b.lang, .int .i64 b.frm, .int .i64 b.unt, .int .i64 b.known, .int .i64 b.ms] 24)))
  have HT0 := Lib.hid (BoxH.new (w.alloc (.cells #[.int .i64 a.no, .int .i64 a.kind, .int .i64 a.spk, .int .i64 a.fst, .int .i64 a.lst, .int .i64 a.lang, .int .i64 a.frm, .int .i64 a.unt, .int .i64 a.known, .int .i64 a.ms] 24)) b)
  simp only [World.size_alloc] at HT0
  have hxx : vH a = vH a := rfl
  unfold vH
  clear hxx
  go_enter Try.func7, Try.ntmps7
  go_wp2_with (fail)
  refine (sane35_any _).mono ?_
  rintro e w1 ⟨rfl, b1⟩
  have HW := Lib.hid (HB0.out.up b1)
  have HA := Lib.hid (HA0.out.upb b1)
  have HT := Lib.hid (HT0.out.upb b1)
  clear b1 HB0 HA0 HT0
  go_wp2_with (fail)
  refine (few_any _ l w1 (HV.out.upb HW.out) hl).mono ?_
  rintro e _ ⟨rfl, rfl⟩
  cases hf : fewB l.length
  · go_wp2_with (fail)
    go_ret
    exact ⟨rfl, HW.out⟩
  have q0 := HA.out.c0
  have q1 := HA.out.c1
  have q2 := HA.out.c2
  have q3 := HA.out.c3
  have q4 := HA.out.c4
  have q5 := HA.out.c5
  have q6 := HA.out.c6
  have q7 := HA.out.c7
  have q8 := HA.out.c8
  have q9 := HA.out.c9
  replace hf := Lib.hid hf
  go_wp2_with (fail)
  by_cases hae : Hh.addE l a = 0
  rotate_left
  · obtain ⟨ae, hae2⟩ : ∃ b, Hh.addE l a = b := ⟨_, rfl⟩
    refine (Add_is (x := a) hae2 (show Hh.addL l a = [] by unfold Hh.addL; rw [if_neg hae]) (HV.out.upb HW.out) hl).mono ?_
    rintro e w2 ⟨v1, rfl, o1, b2⟩
    have HW2 := Lib.hid (HW.out.up b2)
    obtain ⟨A1, c1, rfl, hh⟩ := o1.hs
    have hbad : (ae == 0) = false := by rw [← hae2]; simpa using hae
    clear b2 o1 HW q0 q1 q2 q3 q4 q5 q6 q7 q8 q9 hh hae hae2
    go_wp2_with (fail)
    go_ret
    exact ⟨rfl, HW2.out⟩
  have HAE := Lib.hid hae
  refine (Add_is (x := a) hae (show Hh.addL l a = Hh.ins l a by unfold Hh.addL; rw [if_pos hae]) (HV.out.upb HW.out) hl).mono ?_
  rintro e w2 ⟨v1, rfl, o1, b2⟩
  have HW2 := Lib.hid (HW.out.up b2)
  have HA2 := Lib.hid (HA.out.upb b2)
  have HT2 := Lib.hid (HT.out.upb b2)
  have H1 := Lib.hid o1.hs
  obtain ⟨A1, c1, rfl, hrow1⟩ := o1.hs
  have HR1 := Lib.hid hrow1
  obtain ⟨hz1, hz2, hz3, hz4⟩ := addE_zero hae
  have HL30 := Lib.hid (fewB_len hf.out (err_zero hz1).1)
  have HLE := Lib.hid (show (Hh.ins l a).length ≤ 2000 by rw [len_ins]; have := HL30.out; omega)
  have hxl : (Hh.ins l a).length ≤ 9223372036854775807 := by have := HLE.out; omega
  have HF1 := Lib.hid (oths_ins hz3)
  have HF2 := Lib.hid (metN_ins hz3)
  have HF3 := Lib.hid (err_ins hae)
  have HF4 := Lib.hid (stdE_ins (k := t) hae)
  have HF5 := Lib.hid (oths_stand (k := t) hz3)
  have HF6 := Lib.hid (metN_stand (k := t) hz3)
  have HF7 := Lib.hid (fun h => add_comm (b := b) HL30.out hae h)
  have HF8 := Lib.hid (fun h => add_no (b := b) HL30.out hae h)
  have HF9 := Lib.hid (show (Hh.stand (Hh.ins l a) t).length ≤ 2000 by
    have := List.length_filter_le (fun h : Hh => decide (h.known ≤ t)) (Hh.ins l a)
    have := HLE.out
    unfold Hh.stand; omega)
  clear b2 o1 HW HA HT q0 q1 q2 q3 q4 q5 q6 q7 q8 q9 hrow1 hae hz1 hz2 hz3 hz4 hf
  generalize Hh.ins l a = xs at *
  go_wp2_with (fail)
  go_loopw [11, 12, 13] (fun m r i wr => ∃ k : Nat, k ≤ xs.length ∧ m = .int .i64 (metN (xs.take k) a) ∧ i = .int .i64 k ∧ Hid (OwnHs wr w2.heap.size r (oths (xs.take k) a)) ∧ Hid (Below w2.heap.size w2 wr)) (fun _ _ i _ => xs.length - (intOf i).toNat)
  case atStart => exact ⟨0, Nat.zero_le _, rfl, rfl, ownH_none _ _, Lib.hid (Below.refl _ _)⟩
  case round =>
    obtain ⟨k, hk, rfl, rfl, HO, HWr⟩ := hrel
    by_cases hlt : k < xs.length
    · obtain ⟨bb, off, eA, hat0⟩ := hs_at HR1.out hlt
      have HX := Lib.hid (hat0.below HWr.out)
      have HAr := Lib.hid (HA2.out.upb HWr.out)
      obtain ⟨n0, hn0⟩ : ∃ n, metN (xs.take k) a = n := ⟨_, rfl⟩
      have hnk : n0 ≤ 2048 := by
        have h1 := List.length_filter_le (fun y : Hh => decide (y = a)) (xs.take k)
        have h2 : (xs.take k).length ≤ k := List.length_take_le _ _
        have h3 := HLE.out
        rw [← hn0]; unfold metN; omega
      have HS := Lib.hid (metN_snoc xs a k hlt)
      have HS2 := Lib.hid (oths_snoc xs a k hlt)
      have hgl : (oths (xs.take k) a).length ≤ 1000000 := by
        have h1 := List.length_filter_le (fun y : Hh => decide (y ≠ a)) (xs.take k)
        have h2 : (xs.take k).length ≤ k := List.length_take_le _ _
        have h3 := HLE.out
        unfold oths; omega
      generalize xs[k] = x at *
      clear hat0
      subst eA
      rw [hn0] at HS ⊢
      replace hn0 := Lib.hid hn0
      have q0 := HX.out.c0
      have q1 := HX.out.c1
      have q2 := HX.out.c2
      have q3 := HX.out.c3
      have q4 := HX.out.c4
      have q5 := HX.out.c5
      have q6 := HX.out.c6
      have q7 := HX.out.c7
      have q8 := HX.out.c8
      have q9 := HX.out.c9
      have p0 := HAr.out.c0
      have p1 := HAr.out.c1
      have p2 := HAr.out.c2
      have p3 := HAr.out.c3
      have p4 := HAr.out.c4
      have p5 := HAr.out.c5
      have p6 := HAr.out.c6
      have p7 := HAr.out.c7
      have p8 := HAr.out.c8
      have p9 := HAr.out.c9
      by_cases hxa : x = a
      · subst hxa
        have HE1 := Lib.hid (show metN (xs.take (k + 1)) x = n0 + 1 by rw [HS.out, if_pos rfl])
        have HE2 := Lib.hid (show oths (xs.take (k + 1)) x = oths (xs.take k) x by rw [HS2.out, if_pos rfl])
        clear p0 p1 p2 p3 p4 p5 p6 p7 p8 p9 HS HS2 
        have p0 := HAr.out.c0
        have p1 := HAr.out.c1
        have p2 := HAr.out.c2
        have p3 := HAr.out.c3
        have p4 := HAr.out.c4
        have p5 := HAr.out.c5
        have p6 := HAr.out.c6
        have p7 := HAr.out.c7
        have p8 := HAr.out.c8
        have p9 := HAr.out.c9
        go_wp2_with (fail)
        go_quiet (fail)
        go_wp2_with (fail)
        go_roundw
        case rel => exact ⟨k + 1, by omega, by rw [HE1.out]; go_num, by go_num, by rw [HE2.out]; exact HO, Lib.hid (below_drewN HWr.out _)⟩
        case measure => first | omega | (simp [intOf]; omega)
      · have HE1 := Lib.hid (show metN (xs.take (k + 1)) a = n0 by rw [HS.out, if_neg hxa])
        have HE2 := Lib.hid (show oths (xs.take (k + 1)) a = oths (xs.take k) a ++ [x] by rw [HS2.out, if_neg hxa])
        replace hxa := Lib.hid hxa
        clear HS HS2
        cases d0 : (x.no == a.no)
        · go_wp2_with (fail)
          go_quiet (fail)
          go_wp2_with (at_builtin; go_must (refine wpList_pushH rfl (.tmp 57) (.tmp 62) rfl w2.heap.size _ _ rfl (ownH_drewN HO.out _) x wr.heap.size rfl rfl hgl HWr.out.size ?_); intro v1 w3 hown1 hg1 hat1; have HO1 := Lib.hid hown1; have HG1 := Lib.hid hg1; clear hown1 hg1 hat1)
          go_roundw
          case rel => exact ⟨k + 1, by omega, by rw [HE1.out], by go_num, by rw [HE2.out]; exact HO1, Lib.hid ((below_drewN HWr.out _).grown HG1.out HWr.out.size (fun g hg => (ownH_at HO.out g hg).1))⟩
          case measure => first | omega | (simp [intOf]; omega)
        cases d1 : (x.kind == a.kind)
        · go_wp2_with (fail)
          go_quiet (fail)
          go_wp2_with (at_builtin; go_must (refine wpList_pushH rfl (.tmp 57) (.tmp 62) rfl w2.heap.size _ _ rfl (ownH_drewN HO.out _) x wr.heap.size rfl rfl hgl HWr.out.size ?_); intro v1 w3 hown1 hg1 hat1; have HO1 := Lib.hid hown1; have HG1 := Lib.hid hg1; clear hown1 hg1 hat1)
          go_roundw
          case rel => exact ⟨k + 1, by omega, by rw [HE1.out], by go_num, by rw [HE2.out]; exact HO1, Lib.hid ((below_drewN HWr.out _).grown HG1.out HWr.out.size (fun g hg => (ownH_at HO.out g hg).1))⟩
          case measure => first | omega | (simp [intOf]; omega)
        cases d2 : (x.spk == a.spk)
        · go_wp2_with (fail)
          go_quiet (fail)
          go_wp2_with (at_builtin; go_must (refine wpList_pushH rfl (.tmp 57) (.tmp 62) rfl w2.heap.size _ _ rfl (ownH_drewN HO.out _) x wr.heap.size rfl rfl hgl HWr.out.size ?_); intro v1 w3 hown1 hg1 hat1; have HO1 := Lib.hid hown1; have HG1 := Lib.hid hg1; clear hown1 hg1 hat1)
          go_roundw
          case rel => exact ⟨k + 1, by omega, by rw [HE1.out], by go_num, by rw [HE2.out]; exact HO1, Lib.hid ((below_drewN HWr.out _).grown HG1.out HWr.out.size (fun g hg => (ownH_at HO.out g hg).1))⟩
          case measure => first | omega | (simp [intOf]; omega)
        cases d3 : (x.fst == a.fst)
        · go_wp2_with (fail)
          go_quiet (fail)
          go_wp2_with (at_builtin; go_must (refine wpList_pushH rfl (.tmp 57) (.tmp 62) rfl w2.heap.size _ _ rfl (ownH_drewN HO.out _) x wr.heap.size rfl rfl hgl HWr.out.size ?_); intro v1 w3 hown1 hg1 hat1; have HO1 := Lib.hid hown1; have HG1 := Lib.hid hg1; clear hown1 hg1 hat1)
          go_roundw
          case rel => exact ⟨k + 1, by omega, by rw [HE1.out], by go_num, by rw [HE2.out]; exact HO1, Lib.hid ((below_drewN HWr.out _).grown HG1.out HWr.out.size (fun g hg => (ownH_at HO.out g hg).1))⟩
          case measure => first | omega | (simp [intOf]; omega)
        cases d4 : (x.lst == a.lst)
        · go_wp2_with (fail)
          go_quiet (fail)
          go_wp2_with (at_builtin; go_must (refine wpList_pushH rfl (.tmp 57) (.tmp 62) rfl w2.heap.size _ _ rfl (ownH_drewN HO.out _) x wr.heap.size rfl rfl hgl HWr.out.size ?_); intro v1 w3 hown1 hg1 hat1; have HO1 := Lib.hid hown1; have HG1 := Lib.hid hg1; clear hown1 hg1 hat1)
          go_roundw
          case rel => exact ⟨k + 1, by omega, by rw [HE1.out], by go_num, by rw [HE2.out]; exact HO1, Lib.hid ((below_drewN HWr.out _).grown HG1.out HWr.out.size (fun g hg => (ownH_at HO.out g hg).1))⟩
          case measure => first | omega | (simp [intOf]; omega)
        cases d5 : (x.lang == a.lang)
        · go_wp2_with (fail)
          go_quiet (fail)
          go_wp2_with (at_builtin; go_must (refine wpList_pushH rfl (.tmp 57) (.tmp 62) rfl w2.heap.size _ _ rfl (ownH_drewN HO.out _) x wr.heap.size rfl rfl hgl HWr.out.size ?_); intro v1 w3 hown1 hg1 hat1; have HO1 := Lib.hid hown1; have HG1 := Lib.hid hg1; clear hown1 hg1 hat1)
          go_roundw
          case rel => exact ⟨k + 1, by omega, by rw [HE1.out], by go_num, by rw [HE2.out]; exact HO1, Lib.hid ((below_drewN HWr.out _).grown HG1.out HWr.out.size (fun g hg => (ownH_at HO.out g hg).1))⟩
          case measure => first | omega | (simp [intOf]; omega)
        cases d6 : (x.frm == a.frm)
        · go_wp2_with (fail)
          go_quiet (fail)
          go_wp2_with (at_builtin; go_must (refine wpList_pushH rfl (.tmp 57) (.tmp 62) rfl w2.heap.size _ _ rfl (ownH_drewN HO.out _) x wr.heap.size rfl rfl hgl HWr.out.size ?_); intro v1 w3 hown1 hg1 hat1; have HO1 := Lib.hid hown1; have HG1 := Lib.hid hg1; clear hown1 hg1 hat1)
          go_roundw
          case rel => exact ⟨k + 1, by omega, by rw [HE1.out], by go_num, by rw [HE2.out]; exact HO1, Lib.hid ((below_drewN HWr.out _).grown HG1.out HWr.out.size (fun g hg => (ownH_at HO.out g hg).1))⟩
          case measure => first | omega | (simp [intOf]; omega)
        cases d7 : (x.unt == a.unt)
        · go_wp2_with (fail)
          go_quiet (fail)
          go_wp2_with (at_builtin; go_must (refine wpList_pushH rfl (.tmp 57) (.tmp 62) rfl w2.heap.size _ _ rfl (ownH_drewN HO.out _) x wr.heap.size rfl rfl hgl HWr.out.size ?_); intro v1 w3 hown1 hg1 hat1; have HO1 := Lib.hid hown1; have HG1 := Lib.hid hg1; clear hown1 hg1 hat1)
          go_roundw
          case rel => exact ⟨k + 1, by omega, by rw [HE1.out], by go_num, by rw [HE2.out]; exact HO1, Lib.hid ((below_drewN HWr.out _).grown HG1.out HWr.out.size (fun g hg => (ownH_at HO.out g hg).1))⟩
          case measure => first | omega | (simp [intOf]; omega)
        cases d8 : (x.known == a.known)
        · go_wp2_with (fail)
          go_quiet (fail)
          go_wp2_with (at_builtin; go_must (refine wpList_pushH rfl (.tmp 57) (.tmp 62) rfl w2.heap.size _ _ rfl (ownH_drewN HO.out _) x wr.heap.size rfl rfl hgl HWr.out.size ?_); intro v1 w3 hown1 hg1 hat1; have HO1 := Lib.hid hown1; have HG1 := Lib.hid hg1; clear hown1 hg1 hat1)
          go_roundw
          case rel => exact ⟨k + 1, by omega, by rw [HE1.out], by go_num, by rw [HE2.out]; exact HO1, Lib.hid ((below_drewN HWr.out _).grown HG1.out HWr.out.size (fun g hg => (ownH_at HO.out g hg).1))⟩
          case measure => first | omega | (simp [intOf]; omega)
        cases d9 : (x.ms == a.ms)
        · go_wp2_with (fail)
          go_quiet (fail)
          go_wp2_with (at_builtin; go_must (refine wpList_pushH rfl (.tmp 57) (.tmp 62) rfl w2.heap.size _ _ rfl (ownH_drewN HO.out _) x wr.heap.size rfl rfl hgl HWr.out.size ?_); intro v1 w3 hown1 hg1 hat1; have HO1 := Lib.hid hown1; have HG1 := Lib.hid hg1; clear hown1 hg1 hat1)
          go_roundw
          case rel => exact ⟨k + 1, by omega, by rw [HE1.out], by go_num, by rw [HE2.out]; exact HO1, Lib.hid ((below_drewN HWr.out _).grown HG1.out HWr.out.size (fun g hg => (ownH_at HO.out g hg).1))⟩
          case measure => first | omega | (simp [intOf]; omega)
        exact absurd (by cases x; cases a; simp at d0 d1 d2 d3 d4 d5 d6 d7 d8 d9; simp [*]) hxa.out
    · have hTk : xs.take k = xs := List.take_of_length_le (by omega)
      rw [hTk] at HO ⊢
      clear hTk
      rw [HF2.out]
      rw [HF1.out] at HO
      have HW3 := Lib.hid (HW2.out.up HWr.out)
      have HA3 := Lib.hid (HA2.out.upb HWr.out)
      have HT3 := Lib.hid (HT2.out.upb HWr.out)
      have H3 := Lib.hid (H1.out.upb HWr.out)
      have HRest := Lib.hid HO.out.hs
      clear HW2 HA2 HT2 HWr HO H1
      go_wp2_with (fail)
      refine (same_any _ _ l l wr HRest.out (HV.out.upb HW3.out) hl hl).mono ?_
      rintro e _ ⟨rfl, n1, rfl⟩
      have hd1 : decide (l = l) = true := by simp
      have HW4 := Lib.hid (below_drewN HW3.out n1)
      have HA4 := Lib.hid (show BoxH (wr.drewN n1) _ _ from HA3.out)
      have HT4 := Lib.hid (show BoxH (wr.drewN n1) _ _ from HT3.out)
      have H4 := Lib.hid (show IsHs (wr.drewN n1) _ _ from H3.out)
      clear HW3 HA3 HT3 H3 HRest
      generalize wr.drewN n1 = w4 at *
      go_wp2_with (fail)
      refine (Check_is HF3.out H4.out hxl).mono ?_
      rintro e w5 ⟨rfl, bq⟩
      have HW5 := Lib.hid (HW4.out.up bq)
      have HA5 := Lib.hid (HA4.out.upb bq)
      have HT5 := Lib.hid (HT4.out.upb bq)
      have H5 := Lib.hid (H4.out.upb bq)
      clear HW4 HA4 HT4 H4 bq
      go_wp2_with (fail)
      obtain ⟨se, hse⟩ : ∃ b, Hh.stdE l t = b := ⟨_, rfl⟩
      have HS1 := Lib.hid (HF4.out.trans hse)
      replace hse := Lib.hid hse
      obtain ⟨os, hos⟩ : ∃ y, Hh.stdL l t = y := ⟨_, rfl⟩
      obtain ⟨ys, hys⟩ : ∃ y, Hh.stdL xs t = y := ⟨_, rfl⟩
      replace hos := Lib.hid hos
      replace hys := Lib.hid hys
      refine (Standing_is hse.out hos.out (HV.out.upb HW5.out) hl).mono ?_
      rintro e w6 ⟨v3, rfl, o1, bq⟩
      have HW6 := Lib.hid (HW5.out.up bq)
      have HA6 := Lib.hid (HA5.out.upb bq)
      have HT6 := Lib.hid (HT5.out.upb bq)
      have H6 := Lib.hid (H5.out.upb bq)
      have HO6 := Lib.hid o1.hs
      clear HW5 HA5 HT5 H5 bq o1
      go_wp2_with (fail)
      refine (Standing_is HS1.out hys.out H6.out hxl).mono ?_
      rintro e w7 ⟨v4, rfl, o1, bq⟩
      have HW7 := Lib.hid (HW6.out.up bq)
      have HA7 := Lib.hid (HA6.out.upb bq)
      have HT7 := Lib.hid (HT6.out.upb bq)
      have H7 := Lib.hid (H6.out.upb bq)
      have HO7 := Lib.hid (HO6.out.upb bq)
      have HN7 := Lib.hid o1.hs
      obtain ⟨A4, c4, rfl, hrow4⟩ := o1.hs
      have HR4 := Lib.hid hrow4
      clear HW6 HA6 HT6 H6 bq o1 HO6 hrow4
      go_upto_if 93 with (fail)
      go_cut [18, 19, 20] from 92 (fun _ _ _ wx => Hid (Below w7.heap.size w7 wx))
      case first =>
        by_cases hse0 : se = 0
        rotate_left
        · have hb0 : (se == 0) = false := by simpa using hse0
          clear hse0
          go_wp2_with (fail)
          go_meet
          exact Lib.hid (Below.refl _ _)
        have hse1 : (se == 0) = true := by simpa using hse0
        replace hse0 := Lib.hid hse0
        have e1 : os = Hh.stand l t := by rw [← hos.out]; unfold Hh.stdL; rw [if_pos (hse.out.trans hse0.out)]
        have e2 : ys = Hh.stand xs t := by rw [← hys.out]; unfold Hh.stdL; rw [if_pos (HS1.out.trans hse0.out)]
        have HG5 := Lib.hid (show oths ys a = os by rw [e1, e2]; exact HF5.out)
        have HG6 := Lib.hid (show metN ys a = if a.known ≤ t then 1 else 0 by rw [e2]; exact HF6.out)
        have HLO := Lib.hid (show os.length ≤ 9223372036854775807 by
          have := List.length_filter_le (fun h : Hh => decide (h.known ≤ t)) l
          have := HL30.out
          rw [e1]; unfold Hh.stand; omega)
        clear HLE
        have HLE := Lib.hid (show ys.length ≤ 2000 by rw [e2]; exact HF9.out)
        have hyl0 : ys.length ≤ 9223372036854775807 := by have := HLE.out; omega
        clear e1 e2 hse0
        rw [hse1]
        go_wp2_with (fail)
        go_loopw [18, 19, 20] (fun m r i wr => ∃ k : Nat, k ≤ ys.length ∧ m = .int .i64 (metN (ys.take k) a) ∧ i = .int .i64 k ∧ Hid (OwnHs wr w7.heap.size r (oths (ys.take k) a)) ∧ Hid (Below w7.heap.size w7 wr)) (fun _ _ i _ => ys.length - (intOf i).toNat)
        case atStart => exact ⟨0, Nat.zero_le _, rfl, rfl, ownH_none _ _, Lib.hid (Below.refl _ _)⟩
        case round =>
          obtain ⟨k, hk, rfl, rfl, HO, HWr⟩ := hrel
          by_cases hlt : k < ys.length
          · obtain ⟨bb, off, eA, hat0⟩ := hs_at HR4.out hlt
            have HX := Lib.hid (hat0.below HWr.out)
            have HAr := Lib.hid (HA7.out.upb HWr.out)
            obtain ⟨n0, hn0⟩ : ∃ n, metN (ys.take k) a = n := ⟨_, rfl⟩
            have hnk : n0 ≤ 2048 := by
              have h1 := List.length_filter_le (fun y : Hh => decide (y = a)) (ys.take k)
              have h2 : (ys.take k).length ≤ k := List.length_take_le _ _
              have h3 := HLE.out
              rw [← hn0]; unfold metN; omega
            have HS := Lib.hid (metN_snoc ys a k hlt)
            have HS2 := Lib.hid (oths_snoc ys a k hlt)
            have hgl : (oths (ys.take k) a).length ≤ 1000000 := by
              have h1 := List.length_filter_le (fun y : Hh => decide (y ≠ a)) (ys.take k)
              have h2 : (ys.take k).length ≤ k := List.length_take_le _ _
              have h3 := HLE.out
              unfold oths; omega
            generalize ys[k] = x at *
            clear hat0
            subst eA
            rw [hn0] at HS ⊢
            replace hn0 := Lib.hid hn0
            have q0 := HX.out.c0
            have q1 := HX.out.c1
            have q2 := HX.out.c2
            have q3 := HX.out.c3
            have q4 := HX.out.c4
            have q5 := HX.out.c5
            have q6 := HX.out.c6
            have q7 := HX.out.c7
            have q8 := HX.out.c8
            have q9 := HX.out.c9
            have p0 := HAr.out.c0
            have p1 := HAr.out.c1
            have p2 := HAr.out.c2
            have p3 := HAr.out.c3
            have p4 := HAr.out.c4
            have p5 := HAr.out.c5
            have p6 := HAr.out.c6
            have p7 := HAr.out.c7
            have p8 := HAr.out.c8
            have p9 := HAr.out.c9
            by_cases hxa : x = a
            · subst hxa
              have HE1 := Lib.hid (show metN (ys.take (k + 1)) x = n0 + 1 by rw [HS.out, if_pos rfl])
              have HE2 := Lib.hid (show oths (ys.take (k + 1)) x = oths (ys.take k) x by rw [HS2.out, if_pos rfl])
              clear p0 p1 p2 p3 p4 p5 p6 p7 p8 p9 HS HS2 
              have p0 := HAr.out.c0
              have p1 := HAr.out.c1
              have p2 := HAr.out.c2
              have p3 := HAr.out.c3
              have p4 := HAr.out.c4
              have p5 := HAr.out.c5
              have p6 := HAr.out.c6
              have p7 := HAr.out.c7
              have p8 := HAr.out.c8
              have p9 := HAr.out.c9
              go_wp2_with (fail)
              go_quiet (fail)
              go_wp2_with (fail)
              go_roundw
              case rel => exact ⟨k + 1, by omega, by rw [HE1.out]; go_num, by go_num, by rw [HE2.out]; exact HO, Lib.hid (below_drewN HWr.out _)⟩
              case measure => first | omega | (simp [intOf]; omega)
            · have HE1 := Lib.hid (show metN (ys.take (k + 1)) a = n0 by rw [HS.out, if_neg hxa])
              have HE2 := Lib.hid (show oths (ys.take (k + 1)) a = oths (ys.take k) a ++ [x] by rw [HS2.out, if_neg hxa])
              replace hxa := Lib.hid hxa
              clear HS HS2
              cases d0 : (x.no == a.no)
              · go_wp2_with (fail)
                go_quiet (fail)
                go_wp2_with (at_builtin; go_must (refine wpList_pushH rfl (.tmp 108) (.tmp 113) rfl w7.heap.size _ _ rfl (ownH_drewN HO.out _) x wr.heap.size rfl rfl hgl HWr.out.size ?_); intro v1 w3 hown1 hg1 hat1; have HO1 := Lib.hid hown1; have HG1 := Lib.hid hg1; clear hown1 hg1 hat1)
                go_roundw
                case rel => exact ⟨k + 1, by omega, by rw [HE1.out], by go_num, by rw [HE2.out]; exact HO1, Lib.hid ((below_drewN HWr.out _).grown HG1.out HWr.out.size (fun g hg => (ownH_at HO.out g hg).1))⟩
                case measure => first | omega | (simp [intOf]; omega)
              cases d1 : (x.kind == a.kind)
              · go_wp2_with (fail)
                go_quiet (fail)
                go_wp2_with (at_builtin; go_must (refine wpList_pushH rfl (.tmp 108) (.tmp 113) rfl w7.heap.size _ _ rfl (ownH_drewN HO.out _) x wr.heap.size rfl rfl hgl HWr.out.size ?_); intro v1 w3 hown1 hg1 hat1; have HO1 := Lib.hid hown1; have HG1 := Lib.hid hg1; clear hown1 hg1 hat1)
                go_roundw
                case rel => exact ⟨k + 1, by omega, by rw [HE1.out], by go_num, by rw [HE2.out]; exact HO1, Lib.hid ((below_drewN HWr.out _).grown HG1.out HWr.out.size (fun g hg => (ownH_at HO.out g hg).1))⟩
                case measure => first | omega | (simp [intOf]; omega)
              cases d2 : (x.spk == a.spk)
              · go_wp2_with (fail)
                go_quiet (fail)
                go_wp2_with (at_builtin; go_must (refine wpList_pushH rfl (.tmp 108) (.tmp 113) rfl w7.heap.size _ _ rfl (ownH_drewN HO.out _) x wr.heap.size rfl rfl hgl HWr.out.size ?_); intro v1 w3 hown1 hg1 hat1; have HO1 := Lib.hid hown1; have HG1 := Lib.hid hg1; clear hown1 hg1 hat1)
                go_roundw
                case rel => exact ⟨k + 1, by omega, by rw [HE1.out], by go_num, by rw [HE2.out]; exact HO1, Lib.hid ((below_drewN HWr.out _).grown HG1.out HWr.out.size (fun g hg => (ownH_at HO.out g hg).1))⟩
                case measure => first | omega | (simp [intOf]; omega)
              cases d3 : (x.fst == a.fst)
              · go_wp2_with (fail)
                go_quiet (fail)
                go_wp2_with (at_builtin; go_must (refine wpList_pushH rfl (.tmp 108) (.tmp 113) rfl w7.heap.size _ _ rfl (ownH_drewN HO.out _) x wr.heap.size rfl rfl hgl HWr.out.size ?_); intro v1 w3 hown1 hg1 hat1; have HO1 := Lib.hid hown1; have HG1 := Lib.hid hg1; clear hown1 hg1 hat1)
                go_roundw
                case rel => exact ⟨k + 1, by omega, by rw [HE1.out], by go_num, by rw [HE2.out]; exact HO1, Lib.hid ((below_drewN HWr.out _).grown HG1.out HWr.out.size (fun g hg => (ownH_at HO.out g hg).1))⟩
                case measure => first | omega | (simp [intOf]; omega)
              cases d4 : (x.lst == a.lst)
              · go_wp2_with (fail)
                go_quiet (fail)
                go_wp2_with (at_builtin; go_must (refine wpList_pushH rfl (.tmp 108) (.tmp 113) rfl w7.heap.size _ _ rfl (ownH_drewN HO.out _) x wr.heap.size rfl rfl hgl HWr.out.size ?_); intro v1 w3 hown1 hg1 hat1; have HO1 := Lib.hid hown1; have HG1 := Lib.hid hg1; clear hown1 hg1 hat1)
                go_roundw
                case rel => exact ⟨k + 1, by omega, by rw [HE1.out], by go_num, by rw [HE2.out]; exact HO1, Lib.hid ((below_drewN HWr.out _).grown HG1.out HWr.out.size (fun g hg => (ownH_at HO.out g hg).1))⟩
                case measure => first | omega | (simp [intOf]; omega)
              cases d5 : (x.lang == a.lang)
              · go_wp2_with (fail)
                go_quiet (fail)
                go_wp2_with (at_builtin; go_must (refine wpList_pushH rfl (.tmp 108) (.tmp 113) rfl w7.heap.size _ _ rfl (ownH_drewN HO.out _) x wr.heap.size rfl rfl hgl HWr.out.size ?_); intro v1 w3 hown1 hg1 hat1; have HO1 := Lib.hid hown1; have HG1 := Lib.hid hg1; clear hown1 hg1 hat1)
                go_roundw
                case rel => exact ⟨k + 1, by omega, by rw [HE1.out], by go_num, by rw [HE2.out]; exact HO1, Lib.hid ((below_drewN HWr.out _).grown HG1.out HWr.out.size (fun g hg => (ownH_at HO.out g hg).1))⟩
                case measure => first | omega | (simp [intOf]; omega)
              cases d6 : (x.frm == a.frm)
              · go_wp2_with (fail)
                go_quiet (fail)
                go_wp2_with (at_builtin; go_must (refine wpList_pushH rfl (.tmp 108) (.tmp 113) rfl w7.heap.size _ _ rfl (ownH_drewN HO.out _) x wr.heap.size rfl rfl hgl HWr.out.size ?_); intro v1 w3 hown1 hg1 hat1; have HO1 := Lib.hid hown1; have HG1 := Lib.hid hg1; clear hown1 hg1 hat1)
                go_roundw
                case rel => exact ⟨k + 1, by omega, by rw [HE1.out], by go_num, by rw [HE2.out]; exact HO1, Lib.hid ((below_drewN HWr.out _).grown HG1.out HWr.out.size (fun g hg => (ownH_at HO.out g hg).1))⟩
                case measure => first | omega | (simp [intOf]; omega)
              cases d7 : (x.unt == a.unt)
              · go_wp2_with (fail)
                go_quiet (fail)
                go_wp2_with (at_builtin; go_must (refine wpList_pushH rfl (.tmp 108) (.tmp 113) rfl w7.heap.size _ _ rfl (ownH_drewN HO.out _) x wr.heap.size rfl rfl hgl HWr.out.size ?_); intro v1 w3 hown1 hg1 hat1; have HO1 := Lib.hid hown1; have HG1 := Lib.hid hg1; clear hown1 hg1 hat1)
                go_roundw
                case rel => exact ⟨k + 1, by omega, by rw [HE1.out], by go_num, by rw [HE2.out]; exact HO1, Lib.hid ((below_drewN HWr.out _).grown HG1.out HWr.out.size (fun g hg => (ownH_at HO.out g hg).1))⟩
                case measure => first | omega | (simp [intOf]; omega)
              cases d8 : (x.known == a.known)
              · go_wp2_with (fail)
                go_quiet (fail)
                go_wp2_with (at_builtin; go_must (refine wpList_pushH rfl (.tmp 108) (.tmp 113) rfl w7.heap.size _ _ rfl (ownH_drewN HO.out _) x wr.heap.size rfl rfl hgl HWr.out.size ?_); intro v1 w3 hown1 hg1 hat1; have HO1 := Lib.hid hown1; have HG1 := Lib.hid hg1; clear hown1 hg1 hat1)
                go_roundw
                case rel => exact ⟨k + 1, by omega, by rw [HE1.out], by go_num, by rw [HE2.out]; exact HO1, Lib.hid ((below_drewN HWr.out _).grown HG1.out HWr.out.size (fun g hg => (ownH_at HO.out g hg).1))⟩
                case measure => first | omega | (simp [intOf]; omega)
              cases d9 : (x.ms == a.ms)
              · go_wp2_with (fail)
                go_quiet (fail)
                go_wp2_with (at_builtin; go_must (refine wpList_pushH rfl (.tmp 108) (.tmp 113) rfl w7.heap.size _ _ rfl (ownH_drewN HO.out _) x wr.heap.size rfl rfl hgl HWr.out.size ?_); intro v1 w3 hown1 hg1 hat1; have HO1 := Lib.hid hown1; have HG1 := Lib.hid hg1; clear hown1 hg1 hat1)
                go_roundw
                case rel => exact ⟨k + 1, by omega, by rw [HE1.out], by go_num, by rw [HE2.out]; exact HO1, Lib.hid ((below_drewN HWr.out _).grown HG1.out HWr.out.size (fun g hg => (ownH_at HO.out g hg).1))⟩
                case measure => first | omega | (simp [intOf]; omega)
              exact absurd (by cases x; cases a; simp at d0 d1 d2 d3 d4 d5 d6 d7 d8 d9; simp [*]) hxa.out
          · have hTk : ys.take k = ys := List.take_of_length_le (by omega)
            rw [hTk] at HO ⊢
            clear hTk
            obtain ⟨m0, hm0⟩ : ∃ m, metN ys a = m := ⟨_, rfl⟩
            rw [HG5.out] at HO
            rw [hm0]
            have HM := Lib.hid (hm0.symm.trans HG6.out)
            have HRest := Lib.hid HO.out.hs
            have HAw := Lib.hid (HA7.out.upb HWr.out)
            clear HO hm0
            go_wp2_with (fail)
            refine (same_any _ _ os os wr HRest.out (HO7.out.upb HWr.out) HLO.out HLO.out).mono ?_
            rintro e _ ⟨rfl, n1, rfl⟩
            have hd1 : decide (os = os) = true := by simp
            have q0 := HAw.out.c0
            have q1 := HAw.out.c1
            have q2 := HAw.out.c2
            have q3 := HAw.out.c3
            have q4 := HAw.out.c4
            have q5 := HAw.out.c5
            have q6 := HAw.out.c6
            have q7 := HAw.out.c7
            have q8 := HAw.out.c8
            have q9 := HAw.out.c9
            have HWx := Lib.hid (below_drewN HWr.out n1)
            by_cases hkt : a.known ≤ t
            · have hd2 : decide (a.known ≤ t) = true := decide_eq_true hkt
              obtain rfl : m0 = 1 := by rw [HM.out, if_pos hkt]
              clear hkt
              go_wp2_with (fail)
              go_meet
              exact HWx
            · have hd2 : decide (a.known ≤ t) = false := decide_eq_false hkt
              obtain rfl : m0 = 0 := by rw [HM.out, if_neg hkt]
              clear hkt
              go_wp2_with (fail)
              go_meet
              exact HWx
      case rest =>
        have HW8 := Lib.hid (HW7.out.up hcut.out)
        have HA8 := Lib.hid (HA7.out.upb hcut.out)
        have HT8 := Lib.hid (HT7.out.upb hcut.out)
        have H8 := Lib.hid (H7.out.upb hcut.out)
        clear HW7 HA7 HT7 H7 hcut HO7 HN7 HR4
        have q0 := HT8.out.c0
        have q1 := HT8.out.c1
        have q2 := HT8.out.c2
        have q3 := HT8.out.c3
        have q4 := HT8.out.c4
        have q5 := HT8.out.c5
        have q6 := HT8.out.c6
        have q7 := HT8.out.c7
        have q8 := HT8.out.c8
        have q9 := HT8.out.c9
        go_wp2_with (fail)
        obtain ⟨e1, he1⟩ : ∃ e, Hh.addE xs b = e := ⟨_, rfl⟩
        replace he1 := Lib.hid he1
        refine (Add_is (x := b) he1.out rfl H8.out hxl).mono ?_
        rintro e w9 ⟨v5, rfl, o1, bq⟩
        have HW9 := Lib.hid (HW8.out.up bq)
        have HA9 := Lib.hid (HA8.out.upb bq)
        have HT9 := Lib.hid (HT8.out.upb bq)
        have HY9 := Lib.hid o1.hs
        clear HW8 HA8 HT8 H8 bq o1 q0 q1 q2 q3 q4 q5 q6 q7 q8 q9
        have q0 := HT9.out.c0
        have q1 := HT9.out.c1
        have q2 := HT9.out.c2
        have q3 := HT9.out.c3
        have q4 := HT9.out.c4
        have q5 := HT9.out.c5
        have q6 := HT9.out.c6
        have q7 := HT9.out.c7
        have q8 := HT9.out.c8
        have q9 := HT9.out.c9
        go_wp2_with (fail)
        obtain ⟨e2, he2⟩ : ∃ e, Hh.addE l b = e := ⟨_, rfl⟩
        replace he2 := Lib.hid he2
        refine (Add_is (x := b) he2.out rfl (HV.out.upb HW9.out) hl).mono ?_
        rintro e w10 ⟨v6, rfl, o1, bq⟩
        have HW10 := Lib.hid (HW9.out.up bq)
        have HA10 := Lib.hid (HA9.out.upb bq)
        have HT10 := Lib.hid (HT9.out.upb bq)
        have HY10 := Lib.hid (HY9.out.upb bq)
        have HZ10 := Lib.hid o1.hs
        clear HW9 HA9 HT9 HY9 bq o1 q0 q1 q2 q3 q4 q5 q6 q7 q8 q9
        by_cases h1 : e1 = 0
        rotate_left
        · have hd1 : (e1 == 0) = false := by simpa using h1
          have hor := HF8.out (by rw [he1.out]; exact h1)
          rw [he2.out] at hor
          have q0 := HT10.out.c0
          have q1 := HT10.out.c1
          have q2 := HT10.out.c2
          have q3 := HT10.out.c3
          have q4 := HT10.out.c4
          have q5 := HT10.out.c5
          have q6 := HT10.out.c6
          have q7 := HT10.out.c7
          have q8 := HT10.out.c8
          have q9 := HT10.out.c9
          have p0 := HA10.out.c0
          have p1 := HA10.out.c1
          have p2 := HA10.out.c2
          have p3 := HA10.out.c3
          have p4 := HA10.out.c4
          have p5 := HA10.out.c5
          have p6 := HA10.out.c6
          have p7 := HA10.out.c7
          have p8 := HA10.out.c8
          have p9 := HA10.out.c9
          by_cases h2 : e2 = 0
          · have hno : (a.no == b.no) = true := by
              rcases hor with h | h
              · exact absurd h2 h
              · simpa using h
            subst h2
            clear h1 hor
            go_wp2_with (fail)
            go_ret
            exact ⟨rfl, HW10.out⟩
          · have hd2 : (e2 == 0) = false := by simpa using h2
            have hd3 : (e2 != 0) = true := by simpa using h2
            clear h1 hor
            go_wp2_with (fail)
            all_goals first | (exfalso; simp_all; done) | go_ret
            exact ⟨rfl, HW10.out⟩
        subst h1
        obtain ⟨k1, k2, k3⟩ := HF7.out he1.out
        obtain rfl : e2 = 0 := he2.out.symm.trans k1
        have eL : Hh.addL l b = Hh.ins l b := by unfold Hh.addL; rw [if_pos k1]
        have eX : Hh.addL xs b = Hh.ins xs b := by unfold Hh.addL; rw [if_pos he1.out]
        have eZ : Hh.addL (Hh.ins l b) a = Hh.ins xs b := by unfold Hh.addL; rw [if_pos k2, k3]
        have hzl : (Hh.ins l b).length ≤ 9223372036854775807 := by rw [len_ins]; have := HL30.out; omega
        have hyl : (Hh.ins xs b).length ≤ 9223372036854775807 := by rw [len_ins]; have := HLE.out; omega
        rw [eL] at HZ10
        rw [eX] at HY10
        replace k2 := Lib.hid k2
        replace eZ := Lib.hid eZ
        clear k1 k3 eL eX
        have q0 := HA10.out.c0
        have q1 := HA10.out.c1
        have q2 := HA10.out.c2
        have q3 := HA10.out.c3
        have q4 := HA10.out.c4
        have q5 := HA10.out.c5
        have q6 := HA10.out.c6
        have q7 := HA10.out.c7
        have q8 := HA10.out.c8
        have q9 := HA10.out.c9
        go_wp2_with (fail)
        refine (Add_is (x := a) k2.out eZ.out HZ10.out hzl).mono ?_
        rintro e w11 ⟨v7, rfl, o1, bq⟩
        have HW11 := Lib.hid (HW10.out.up bq)
        have HY11 := Lib.hid (HY10.out.upb bq)
        have HZ11 := Lib.hid o1.hs
        clear HW10 HA10 HT10 HY10 HZ10 bq o1 q0 q1 q2 q3 q4 q5 q6 q7 q8 q9
        go_wp2_with (fail)
        refine (same_any _ _ (Hh.ins xs b) (Hh.ins xs b) w11 HY11.out HZ11.out hyl hyl).mono ?_
        rintro e _ ⟨rfl, n1, rfl⟩
        have hd1 : decide (Hh.ins xs b = Hh.ins xs b) = true := by simp
        rw [hd1]
        go_wp2_with (fail)
        go_ret
        exact ⟨rfl, below_drewN HW11.out n1⟩
end Go.Proofs.Ytninnpcggeofmaa
