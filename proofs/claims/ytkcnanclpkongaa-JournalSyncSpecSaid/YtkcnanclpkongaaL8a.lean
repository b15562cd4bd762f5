/- Walk of the closure of JournalSteps: records that are added one by one. -/
import Derived.Test.YtkcnanclpkongaaL7
import Derived.Test.YtkcnanclpkongaaCS
import Derived.Test.YtkcnanclpkongaaJP11
namespace Go.Proofs.Ytkcnanclpkongaa
open Go.RowKit
set_option linter.unusedVariables false
set_option linter.unusedSimpArgs false
set_option maxRecDepth 20000

/-- the row of records, if there are any, does not lie in this block -/
def NR (B : Nat) (v : Value) (l : List By) : Prop := l ≠ [] → ∀ b off k c, v = .slice (some ⟨b, off, none⟩) k c → b ≠ B
theorem nr_of_bs {W : World} {A : Option Addr} {c n B : Nat} {rs : List By} (h : IsBs W (.slice A n c) rs) (hB : W.heap.size ≤ B) : NR B (.slice A n c) rs := fun hne b off k c2 e => by
  injection e with e
  subst e
  obtain ⟨A', c', vs, e1, hc, hl, hr, hi⟩ := h
  injection e1 with e1
  subst e1
  obtain ⟨b', o', e2, hb, _⟩ := hr (by intro h0; apply hne; apply List.eq_nil_of_length_eq_zero; rw [← hl, h0]; rfl)
  injection e2 with e2
  injection e2 with e2
  omega
theorem nr_of_nj {B W k c : Nat} {A : Option Addr} {m s : Value} {l : List By} (h : NJ W (.agg #[.slice A k c, m, s])) (hB : B < W) : NR B (.slice A k c) l := fun _ b off k2 c2 e => by
  injection e with e1
  subst e1
  have := h b off k c m s rfl
  omega
theorem nr_of_sec {B n k k' c c' : Nat} {A A' : Option Addr} {m s m' s' : Value} {l : List By} (h : SecJ n (.agg #[.slice A k c, m, s]) (.agg #[.slice A' k' c', m', s'])) (hB : B < n) (hr : NR B (.slice A k c) l) : NR B (.slice A' k' c') l := by
  obtain ⟨sv, m1, s1, sv', m1', s1', e1, e2, h3⟩ := h
  injection e1 with e1
  injection e1 with e1
  injection e1 with e1 _
  injection e2 with e2
  injection e2 with e2
  injection e2 with e2 _
  subst e1 e2
  rcases h3 with h3 | h3
  · injection h3 with h3 h4 h5
    subst h3 h4 h5
    exact hr
  · intro _ b off k2 c2 e
    have := h3 b off k2 c2 e
    omega
theorem IsBs.offE {W W' : World} {v : Value} {rs : List By} (h : IsBs W v rs) {B : Nat} (hnb : NR B v rs) {A n c m s} (hC : Cells W B 29 [.slice A n c, .int .i64 m, .int .i64 s]) (hg : W.grownBy W' (some B)) : IsBs W' v rs := by
  by_cases hr : rs = []
  · subst hr
    obtain ⟨A', c', vs, e1, hc, hl, _, hi⟩ := h
    obtain rfl : vs = [] := List.eq_nil_of_length_eq_zero hl
    exact ⟨A', c', [], e1, hc, rfl, fun h0 => absurd rfl h0, fun i h => by simp at h⟩
  · exact h.offJ (hnb hr) hC hg
theorem isJ_bs {W : World} {A : Option Addr} {n c : Nat} {m s m2 s2 : Int} {rs : List By} (h : IsJ W (.agg #[.slice A n c, .int .i64 m, .int .i64 s]) ⟨rs, m2, s2⟩) : IsBs W (.slice A n c) rs := by
  obtain ⟨sv, e, h1⟩ := h
  injection e with e
  injection e with e
  injection e with e1 e2
  rw [e1]
  exact h1
theorem j1_out {fn : Func} {B i : Nat} {W : World} {tmps : Array Value} {A n c m s} (hres : fn.results = #[.cell i 29]) (t4 : tmps.getD i undef = .pointer (some ⟨B, 0, none⟩))
    (h : Cells W B 29 [.slice A n c, .int .i64 m, .int .i64 s]) : (results fn tmps).run Try.prog W = .ok (.agg #[.slice A n c, .int .i64 m, .int .i64 s]) W := by
  have t4' : tmps[i]?.getD undef = .pointer (some ⟨B, 0, none⟩) := by rw [← t4]; simp
  have h0 := h.cell (k := 0) rfl
  have h1 := h.cell (k := 1) rfl
  have h2 := h.cell (k := 2) rfl
  simp [results, hres, go_sem, t4', h0, h1, h2]
set_option maxHeartbeats 4000000 in
set_option maxRecDepth 100000 in
theorem Add_any {u : Value} {A : Option Addr} {c : Nat} {s : Int} {js rs : List By} {w : World} (hv : IsJ w (.agg #[.slice A js.length c, .int .i64 40, .int .i64 s]) ⟨js, 40, s⟩) (hu : IsBs w u rs) (hl : rs.length ≤ 9223372036854775807) (hle : ∀ k (h : k < rs.length), rs[k].length ≤ 140737488351232) (hs : 0 ≤ s ∧ s ≤ js.length) (hus : Jn.used js ≤ 40) :
    Calls Try.prog 28 #[.agg #[.slice A js.length c, .int .i64 40, .int .i64 s], u] w fun e w' => ∃ A' c', e = .returned (.agg #[.slice A' (Jn.addN 40 js rs).length c', .int .i64 40, .int .i64 s]) ∧ IsJ w' (.agg #[.slice A' (Jn.addN 40 js rs).length c', .int .i64 40, .int .i64 s]) ⟨Jn.addN 40 js rs, 40, s⟩ ∧ Below w.heap.size w w' ∧
      ∀ B, B < w.heap.size → NR B (.slice A js.length c) js → NR B (.slice A' (Jn.addN 40 js rs).length c') (Jn.addN 40 js rs) := by
  obtain ⟨Ar, cr, _, rfl, _⟩ := id hu
  have UW := Lib.hid hu
  have HS := Lib.hid hs
  have HLE := Lib.hid hle
  have HJ0 := Lib.hid (isJ_bs hv)
  have HN2 := Lib.hid (nr_of_bs (isJ_bs hv) (show w.heap.size ≤ w.heap.size + 1 by omega))
  have HN1 := Lib.hid (nr_of_bs (isJ_bs hv) (Nat.le_refl _))
  have HU0 := Lib.hid hus
  have HW := Lib.hid (Bl.mk (Below.refl w.heap.size w))
  clear hu hle hv hs hus
  go_enter Try.func28, Try.ntmps28
  go_upto_region 1 with (fail)
  replace HW := Lib.hid (HW.out.upb (al1 (w) (.cells #[.slice A js.length c, .int .i64 40, .int .i64 s] 29)))
  replace HJ0 := Lib.hid (HJ0.out.upb (al1 (w) (.cells #[.slice A js.length c, .int .i64 40, .int .i64 s] 29)))
  have Z2 := Lib.hid (Cells.new (w) 29 [.slice A js.length c, .int .i64 40, .int .i64 s])
  replace HW := Lib.hid (HW.out.upb (al1 ((w).alloc (.cells #[.slice A js.length c, .int .i64 40, .int .i64 s] 29)) (.cells #[.slice none 0 0, .int .i64 0, .int .i64 0] 29)))
  replace HJ0 := Lib.hid (HJ0.out.upb (al1 ((w).alloc (.cells #[.slice A js.length c, .int .i64 40, .int .i64 s] 29)) (.cells #[.slice none 0 0, .int .i64 0, .int .i64 0] 29)))
  replace Z2 := Lib.hid (Z2.out.upb (al1 ((w).alloc (.cells #[.slice A js.length c, .int .i64 40, .int .i64 s] 29)) (.cells #[.slice none 0 0, .int .i64 0, .int .i64 0] 29)))
  have Z4 := Lib.hid (show Cells (((w).alloc (.cells #[.slice A js.length c, .int .i64 40, .int .i64 s] 29)).alloc (.cells #[.slice none 0 0, .int .i64 0, .int .i64 0] 29)) (w.heap.size + 1) 29 [.slice none 0 0, .int .i64 0, .int .i64 0] from by have h := Cells.new ((w).alloc (.cells #[.slice A js.length c, .int .i64 40, .int .i64 s] 29)) 29 [.slice none 0 0, .int .i64 0, .int .i64 0]; simpa only [World.size_alloc] using h)
  generalize ((w).alloc (.cells #[.slice A js.length c, .int .i64 40, .int .i64 s] 29)).alloc (.cells #[.slice none 0 0, .int .i64 0, .int .i64 0] 29) = w0 at *
  go_wp2_with (fail)
  go_loopw [11] (fun s11 wi => ∃ (k : Nat) (jq : List By) (A1 : Option Addr) (c1 : Nat), s11 = .int .i64 k ∧ k ≤ rs.length ∧ Hid (Jn.addN 40 js (rs.take k) = jq) ∧ Hid (Cells wi w.heap.size 29 [.slice A1 jq.length c1, .int .i64 40, .int .i64 s]) ∧ Hid (Cells wi (w.heap.size + 1) 29 [.slice none 0 0, .int .i64 0, .int .i64 0]) ∧ Hid (IsBs wi (.slice A1 jq.length c1) jq) ∧ Hid (NR (w.heap.size + 1) (.slice A1 jq.length c1) jq) ∧ Hid (NR w.heap.size (.slice A1 jq.length c1) jq) ∧ Hid (Jn.used jq ≤ 40) ∧ Hid (s ≤ jq.length) ∧ Hid (Bl w wi) ∧ Hid (∀ B, B < w.heap.size → NR B (.slice A js.length c) js → NR B (.slice A1 jq.length c1) jq)) (fun s11 _ => rs.length - (intOf s11).toNat)
  case atStart => exact ⟨0, js, A, c, rfl, Nat.zero_le _, Lib.hid rfl, Z2, Z4, HJ0, HN2, HN1, HU0, Lib.hid HS.out.2, HW, Lib.hid (fun _ _ h => h)⟩
  case round =>
    clear Z2 Z4 HJ0 HN2 HN1 HU0 HW
    obtain ⟨k, jq, A1, c1, rfl, hk, HQ, Z2, Z4, HJ, HN2, HN1, HU, HSQ, HW, HNB⟩ := hrel
    have z2l := Z2.out.lt
    have z20 := Z2.out.cell (k := 0) rfl
    have z21 := Z2.out.cell (k := 1) rfl
    have z22 := Z2.out.cell (k := 2) rfl
    by_cases hlt : k < rs.length
    case neg =>
      have hd : decide ((k : Int) < (rs.length : Int)) = false := decide_eq_false (by omega)
      have hd2 : decide (k < rs.length) = false := decide_eq_false hlt
      have z4l := Z4.out.lt
      have z40 := Z4.out.cell (k := 0) rfl
      have z41 := Z4.out.cell (k := 1) rfl
      have z42 := Z4.out.cell (k := 2) rfl
      have f40 := Z4.out.frozen 0
      have f41 := Z4.out.frozen 1
      have f42 := Z4.out.frozen 2
      have HQ2 := Lib.hid (show Jn.addN 40 js rs = jq from by have := HQ.out; rwa [List.take_of_length_le (by omega)] at this)
      go_wp2_with (fail)
      rw [HQ2.out]
      refine bodyPost_ret (j1_out rfl rfl (Z4.out.set3 (.slice A1 jq.length c1) (.int .i64 40) (.int .i64 s))) rfl ?_
      exact ⟨_, _, rfl, isJ_mk (HJ.out.offE HN2.out Z4.out (grown_set3 _ _ _ _ _)), below_set3 HW.out.b (by omega) _ _ _, HNB.out⟩
    case pos =>
    have hd : decide ((k : Int) < (rs.length : Int)) = true := decide_eq_true (by omega)
    have hd2 : decide (k < rs.length) = true := decide_eq_true hlt
    obtain ⟨b2, o2, A15, c15, hA7, hbb2, hc1, hb1⟩ := bs_at (UW.out.upb HW.out.b) hlt
    subst hA7
    have hbl := HLE.out k hlt
    have HTK := Lib.hid (Jn.addN_take (n := 40) (js := js) hlt)
    obtain ⟨b, hbq⟩ : ∃ b, rs[k] = b := ⟨_, rfl⟩
    rw [hbq] at hc1 hb1 hbl HTK
    have HBI := Lib.hid hb1
    have HBL := Lib.hid hbl
    have HT2 := Lib.hid (show Jn.addN 40 js (rs.take (k + 1)) = Jn.add1 40 jq b from by rw [HTK.out, HQ.out])
    have HOK := Lib.hid (show Jn.OkJ ⟨jq, 40, s⟩ from ⟨by show (1 : Int) ≤ 40; decide, by show (40 : Int) ≤ 4096; decide, HS.out.1, HSQ.out, by have := HU.out; simp only; omega⟩)
    have HSM := Lib.hid (Jn.sm_used (rs := jq) (by have := HU.out; omega))
    have HJJ := Lib.hid (show IsJ wr (.agg #[.slice A1 jq.length c1, .int .i64 40, .int .i64 s]) ⟨jq, 40, s⟩ from isJ_mk HJ.out)
    clear hb1 hbl hbq
    by_cases hfit : (Jn.nsec b.length : Int) ≤ 40 - Jn.used jq
    case neg =>
      have HE := Lib.hid (show Jn.appE ⟨jq, 40, s⟩ b = 2 from by unfold Jn.appE; rw [if_pos HOK.out, if_neg hfit])
      have HR := Lib.hid (show Jn.appJ ⟨jq, 40, s⟩ b = j0 from by unfold Jn.appJ; rw [if_pos HOK.out, if_neg hfit])
      have HT3 := Lib.hid (show Jn.addN 40 js (rs.take (k + 1)) = jq from by rw [HT2.out]; unfold Jn.add1; rw [if_neg (by omega)])
      clear hfit
      go_wp2_with (fail)
      refine (JAppendL_is (n := 0) (m := 0) (s := 0) HJJ.out HSM.out HOK.out HBI.out HBL.out HE.out HR.out rfl rfl rfl).mono ?_
      rintro e wy ⟨A16, c16, rfl, -, hb, -⟩
      clear z2l z20 z21 z22 hc1
      have HBy := Lib.hid hb
      clear hb
      go_wp2_with (fail)
      have h2 := HBy.out.up (al1 wy (.cells #[.slice A16 0 c16, .int .i64 0, .int .i64 0] 29))
      exact ⟨⟨k + 1, jq, A1, c1, rfl, hlt, HT3, Lib.hid (Z2.out.upb h2), Lib.hid (Z4.out.upb h2), Lib.hid (HJ.out.upb h2), HN2, HN1, HU, HSQ, Lib.hid (HW.out.upb h2), HNB⟩, m_less hlt⟩
    case pos =>
    have HE := Lib.hid (show Jn.appE ⟨jq, 40, s⟩ b = 0 from by unfold Jn.appE; rw [if_pos HOK.out, if_pos hfit])
    have HR0 := Lib.hid (show Jn.appJ ⟨jq, 40, s⟩ b = ⟨jq ++ [b], 40, s⟩ from by unfold Jn.appJ; rw [if_pos HOK.out, if_pos hfit])
    have HU1 := Lib.hid (show Jn.used (jq ++ [b]) ≤ 40 from by rw [Jn.used_append]; simp only [Jn.used]; omega)
    have HT3 := Lib.hid (show Jn.addN 40 js (rs.take (k + 1)) = jq ++ [b] from by rw [HT2.out]; unfold Jn.add1; rw [if_pos (by omega)])
    have HS1 := Lib.hid (show s ≤ ((jq ++ [b]).length : Int) from by have := HSQ.out; rw [List.length_append]; omega)
    obtain ⟨jt, hjt⟩ : ∃ j, jq ++ [b] = j := ⟨_, rfl⟩
    have HR := Lib.hid (show Jn.appJ ⟨jq, 40, s⟩ b = ⟨jt, 40, s⟩ from hjt ▸ HR0.out)
    have HU2 := Lib.hid (show Jn.used jt ≤ 40 from hjt ▸ HU1.out)
    have HT4 := Lib.hid (show Jn.addN 40 js (rs.take (k + 1)) = jt from hjt ▸ HT3.out)
    have HS2 := Lib.hid (show s ≤ (jt.length : Int) from hjt ▸ HS1.out)
    clear hfit hjt HR0 HU1 HT3 HS1
    go_wp2_with (fail)
    refine (JAppendL_is (n := jt.length) (m := 40) (s := s) HJJ.out HSM.out HOK.out HBI.out HBL.out HE.out HR.out rfl rfl rfl).mono ?_
    rintro e wy ⟨A16, c16, rfl, hj, hb, hnj⟩
    have HLW := Lib.hid z2l
    clear z20 z21 z22 hc1 z2l
    have HBy := Lib.hid hb
    have HJ2 := Lib.hid (isJ_bs hj)
    have HNJ := Lib.hid hnj
    have ZL2 := Lib.hid (Z2.out.upb hb)
    have ZL4 := Lib.hid (Z4.out.upb hb)
    clear hb hj hnj
    have zc0 := ZL2.out.cell (k := 0) rfl
    have zc1 := ZL2.out.cell (k := 1) rfl
    have zc2 := ZL2.out.cell (k := 2) rfl
    have zf0 := ZL2.out.frozen 0
    have zf1 := ZL2.out.frozen 1
    have zf2 := ZL2.out.frozen 2
    have zl := ZL2.out.lt
    go_wp2_with (fail)
    have hg3 := grown_set3 wy w.heap.size (.slice A16 jt.length c16) (.int .i64 40) (.int .i64 s)
    have ha3 := al1 (set3 wy w.heap.size (.slice A16 jt.length c16) (.int .i64 40) (.int .i64 s)) (.cells #[.slice A16 jt.length c16, .int .i64 40, .int .i64 s] 29)
    have h4l := Z4.out.lt
    exact ⟨⟨k + 1, jt, A16, c16, rfl, hlt, HT4, Lib.hid ((ZL2.out.set3 _ _ _).upb ha3), Lib.hid ((grownK ZL4.out hg3 (by omega)).upb ha3), Lib.hid ((HJ2.out.offE (nr_of_nj HNJ.out HLW.out) ZL2.out hg3).upb ha3), Lib.hid (nr_of_nj HNJ.out h4l), Lib.hid (nr_of_nj HNJ.out HLW.out), HU2, HS2, Lib.hid (Bl.mk ((below_set3 (HW.out.upb HBy.out).b (Nat.le_refl _) _ _ _).up ha3)), Lib.hid (fun B hB _ => nr_of_nj HNJ.out (by have := HLW.out; omega))⟩, m_less hlt⟩
end Go.Proofs.Ytkcnanclpkongaa
