/- Walk of the program's Sync where the sectors do not fit. -/
import Derived.Test.YtkcnanclpkongaaJ22
namespace Go.Proofs.Ytkcnanclpkongaa
open Go.RowKit
set_option linter.unusedVariables false
set_option linter.unusedSimpArgs false
set_option maxRecDepth 20000


set_option maxHeartbeats 16000000 in
set_option maxRecDepth 100000 in
theorem Sync_wide {v u : Value} {j : Jl} {d : Dk} {w : World} (hv : IsJ w v j) (hs : j.rs.length ≤ 5864062014634 ∧ ∀ k (h : k < j.rs.length), j.rs[k].length ≤ 140737488351232) (hnj : ¬ Jn.OkJ j) (hu : IsD w u d) :
    Calls Try.prog 21 #[v, u] w fun e w' => ∃ x y, e = .returned (.tuple #[x, y, .int .i64 (Jn.syncEX j d)]) ∧ IsJ w' x (Jn.syncJX j d) ∧ IsD w' y (Jn.syncDX j d) ∧ Below w.heap.size w w' ∧ SecJ w.heap.size v x ∧ Sec w.heap.size u y := by
  obtain ⟨A, c, rfl, hb⟩ := hv.open_
  obtain ⟨A1, c1, A2, c2, rfl, h1, h2⟩ := hu.open_
  obtain ⟨rs, many, syn⟩ := j
  obtain ⟨ss, ps, left, st⟩ := d
  simp only at hv hu hb h1 h2 hs ⊢
  have HNJ := Lib.hid hnj
  have HSL := Lib.hid (show rs.length ≤ 9223372036854775807 from by have := hs.1; omega)
  clear hnj
  obtain ⟨W0, hW0⟩ : ∃ W, sbW w [.slice A rs.length c, .int .i64 many, .int .i64 syn] [.slice A1 ss.length c1, .slice A2 ps.length c2, .int .i64 left, .bool st] = W := ⟨_, rfl⟩
  have HW0 := Lib.hid (show Below w.heap.size w W0 from by rw [← hW0]; exact below_sbW _ _ _)
  have HB0 := Lib.hid (show SB W0 w.heap.size [.slice A rs.length c, .int .i64 many, .int .i64 syn] [.slice A1 ss.length c1, .slice A2 ps.length c2, .int .i64 left, .bool st] from by rw [← hW0]; exact SB.new _ _ _)
  have HV := Lib.hid (hv.upb HW0.out)
  have HU := Lib.hid (hu.upb HW0.out)
  have HVW := Lib.hid hv
  have HUW := Lib.hid hu
  have HS := Lib.hid hs
  obtain ⟨k, hk⟩ : ∃ k, Jn.chkI ⟨rs, many, syn⟩ = k := ⟨_, rfl⟩
  have HK := Lib.hid hk
  obtain ⟨k2, hk2⟩ : ∃ k, Dv.chk ⟨ss, ps, left, st⟩ = k := ⟨_, rfl⟩
  have HK2 := Lib.hid hk2
  obtain ⟨k3, hk3⟩ : ∃ k, Jn.openE ⟨ss, ps, left, st⟩ = k := ⟨_, rfl⟩
  have HK3 := Lib.hid hk3
  obtain ⟨e0, he⟩ : ∃ r, Jn.syncEX ⟨rs, many, syn⟩ ⟨ss, ps, left, st⟩ = r := ⟨_, rfl⟩
  obtain ⟨x0, hx⟩ : ∃ r, Jn.syncJX ⟨rs, many, syn⟩ ⟨ss, ps, left, st⟩ = r := ⟨_, rfl⟩
  obtain ⟨y0', hy⟩ : ∃ r, Jn.syncDX ⟨rs, many, syn⟩ ⟨ss, ps, left, st⟩ = r := ⟨_, rfl⟩
  have HE := Lib.hid he
  have HX := Lib.hid hx
  have HY := Lib.hid hy
  rw [he, hx, hy]
  have HWE := Lib.hid (show (((w.alloc (.cells #[.slice A rs.length c, .int .i64 many, .int .i64 syn] 29)).alloc (.cells #[.slice A1 ss.length c1, .slice A2 ps.length c2, .int .i64 left, .bool st] 25)).alloc (.cells #[.slice none 0 0, .int .i64 0, .int .i64 0] 29)).alloc (.cells #[.slice none 0 0, .slice none 0 0, .int .i64 0, .bool false] 25) = W0 from hW0)
  clear hv hs hb hk hk2 hk3 he hx hy hW0 hu h1 h2
  go_enter Try.func21, Try.ntmps21
  go_upto_region 1 with (fail)
  simp only [HWE.out]
  clear HWE
  have lq0 := HB0.out.l.cell (k := 0) rfl
  have lq1 := HB0.out.l.cell (k := 1) rfl
  have lq2 := HB0.out.l.cell (k := 2) rfl
  have lf0 := HB0.out.l.frozen 0
  have lf1 := HB0.out.l.frozen 1
  have lf2 := HB0.out.l.frozen 2
  have ll := HB0.out.l.lt
  have dq0 := HB0.out.d.cell (k := 0) rfl
  have dq1 := HB0.out.d.cell (k := 1) rfl
  have dq2 := HB0.out.d.cell (k := 2) rfl
  have dq3 := HB0.out.d.cell (k := 3) rfl
  have df0 := HB0.out.d.frozen 0
  have df1 := HB0.out.d.frozen 1
  have df2 := HB0.out.d.frozen 2
  have df3 := HB0.out.d.frozen 3
  have dl := HB0.out.d.lt
  go_wp2_with (fail)
  refine (JCheckI_is HV.out HSL.out HK.out).mono ?_
  rintro e w1 ⟨rfl, hb1⟩
  have HW1 := Lib.hid (HW0.out.up hb1)
  have HB1 := Lib.hid (HB0.out.upb hb1)
  have HV1 := Lib.hid (HV.out.upb hb1)
  have HU1 := Lib.hid (HU.out.upb hb1)
  clear lq0 lq1 lq2 lf0 lf1 lf2 ll dq0 dq1 dq2 dq3 df0 df1 df2 df3 dl
  clear hb1 HV HU HW0 HB0
  have lq0 := HB1.out.l.cell (k := 0) rfl
  have lq1 := HB1.out.l.cell (k := 1) rfl
  have lq2 := HB1.out.l.cell (k := 2) rfl
  have lf0 := HB1.out.l.frozen 0
  have lf1 := HB1.out.l.frozen 1
  have lf2 := HB1.out.l.frozen 2
  have ll := HB1.out.l.lt
  have dq0 := HB1.out.d.cell (k := 0) rfl
  have dq1 := HB1.out.d.cell (k := 1) rfl
  have dq2 := HB1.out.d.cell (k := 2) rfl
  have dq3 := HB1.out.d.cell (k := 3) rfl
  have df0 := HB1.out.d.frozen 0
  have df1 := HB1.out.d.frozen 1
  have df2 := HB1.out.d.frozen 2
  have df3 := HB1.out.d.frozen 3
  have dl := HB1.out.d.lt
  have xq0 := HB1.out.x.cell (k := 0) rfl
  have xq1 := HB1.out.x.cell (k := 1) rfl
  have xq2 := HB1.out.x.cell (k := 2) rfl
  have xf0 := HB1.out.x.frozen 0
  have xf1 := HB1.out.x.frozen 1
  have xf2 := HB1.out.x.frozen 2
  have xl := HB1.out.x.lt
  have yq0 := HB1.out.y.cell (k := 0) rfl
  have yq1 := HB1.out.y.cell (k := 1) rfl
  have yq2 := HB1.out.y.cell (k := 2) rfl
  have yq3 := HB1.out.y.cell (k := 3) rfl
  have yf0 := HB1.out.y.frozen 0
  have yf1 := HB1.out.y.frozen 1
  have yf2 := HB1.out.y.frozen 2
  have yf3 := HB1.out.y.frozen 3
  have yl := HB1.out.y.lt
  by_cases hok : Jn.OkI ⟨rs, many, syn⟩
  case neg =>
    obtain rfl : k = 1 := by rw [← HK.out]; unfold Jn.chkI; rw [if_neg hok]
    obtain rfl : e0 = 1 := by rw [← HE.out]; unfold Jn.syncEX; rw [if_neg hok]
    obtain rfl : x0 = j0 := by rw [← HX.out]; unfold Jn.syncJX; rw [if_neg (fun h => hok h.okj)]
    obtain rfl : y0' = d0 := by rw [← HY.out]; unfold Jn.syncDX; rw [if_neg (fun h => hok h.okj)]
    clear hok
    go_wp2_with (fail)
    refine bodyPost_ret (jd_out rfl rfl rfl rfl ((HB1.out.x.set3 (.slice none 0 0) (.int .i64 0) (.int .i64 0)).grownSame (grown_set4 _ _ _ _ _ _) (by omega)) ((HB1.out.y.grownSame (grown_set3 _ (w.heap.size + 2) (.slice none 0 0) (.int .i64 0) (.int .i64 0)) (by omega)).set4 (.slice none 0 0) (.slice none 0 0) (.int .i64 0) (.bool false))) rfl ?_
    exact ⟨_, _, rfl, IsJ.zero, IsD.zero, below_set4 (below_set3 HW1.out (by omega) _ _ _) (by omega) _ _ _ _, secJ_nil, sec_nil⟩
  case pos =>
  obtain rfl : k = 0 := by rw [← HK.out]; unfold Jn.chkI; rw [if_pos hok]
  have HOK := Lib.hid hok
  clear hok
  go_wp2_with (fail)
  refine (Check_is HU1.out HK2.out).mono ?_
  rintro e w2 ⟨rfl, hb2⟩
  have HW2 := Lib.hid (HW1.out.up hb2)
  have HB2 := Lib.hid (HB1.out.upb hb2)
  have HV2 := Lib.hid (HV1.out.upb hb2)
  have HU2 := Lib.hid (HU1.out.upb hb2)
  clear lq0 lq1 lq2 lf0 lf1 lf2 ll dq0 dq1 dq2 dq3 df0 df1 df2 df3 dl xq0 xq1 xq2 xf0 xf1 xf2 xl yq0 yq1 yq2 yq3 yf0 yf1 yf2 yf3 yl
  clear hb2 HV1 HU1 HW1 HB1
  have lq0 := HB2.out.l.cell (k := 0) rfl
  have lq1 := HB2.out.l.cell (k := 1) rfl
  have lq2 := HB2.out.l.cell (k := 2) rfl
  have lf0 := HB2.out.l.frozen 0
  have lf1 := HB2.out.l.frozen 1
  have lf2 := HB2.out.l.frozen 2
  have ll := HB2.out.l.lt
  have dq0 := HB2.out.d.cell (k := 0) rfl
  have dq1 := HB2.out.d.cell (k := 1) rfl
  have dq2 := HB2.out.d.cell (k := 2) rfl
  have dq3 := HB2.out.d.cell (k := 3) rfl
  have df0 := HB2.out.d.frozen 0
  have df1 := HB2.out.d.frozen 1
  have df2 := HB2.out.d.frozen 2
  have df3 := HB2.out.d.frozen 3
  have dl := HB2.out.d.lt
  have xq0 := HB2.out.x.cell (k := 0) rfl
  have xq1 := HB2.out.x.cell (k := 1) rfl
  have xq2 := HB2.out.x.cell (k := 2) rfl
  have xf0 := HB2.out.x.frozen 0
  have xf1 := HB2.out.x.frozen 1
  have xf2 := HB2.out.x.frozen 2
  have xl := HB2.out.x.lt
  have yq0 := HB2.out.y.cell (k := 0) rfl
  have yq1 := HB2.out.y.cell (k := 1) rfl
  have yq2 := HB2.out.y.cell (k := 2) rfl
  have yq3 := HB2.out.y.cell (k := 3) rfl
  have yf0 := HB2.out.y.frozen 0
  have yf1 := HB2.out.y.frozen 1
  have yf2 := HB2.out.y.frozen 2
  have yf3 := HB2.out.y.frozen 3
  have yl := HB2.out.y.lt
  by_cases hokd : Dv.Ok ⟨ss, ps, left, st⟩
  case neg =>
    obtain rfl : k2 = 40 := by rw [← HK2.out]; unfold Dv.chk; rw [if_neg hokd]
    obtain rfl : e0 = 40 := by rw [← HE.out]; unfold Jn.syncEX; rw [if_pos HOK.out, if_neg hokd]
    obtain rfl : x0 = j0 := by rw [← HX.out]; unfold Jn.syncJX; rw [if_neg (fun h => hokd h.okd)]
    obtain rfl : y0' = d0 := by rw [← HY.out]; unfold Jn.syncDX; rw [if_neg (fun h => hokd h.okd)]
    clear hokd
    go_wp2_with (fail)
    refine bodyPost_ret (jd_out rfl rfl rfl rfl ((HB2.out.x.set3 (.slice none 0 0) (.int .i64 0) (.int .i64 0)).grownSame (grown_set4 _ _ _ _ _ _) (by omega)) ((HB2.out.y.grownSame (grown_set3 _ (w.heap.size + 2) (.slice none 0 0) (.int .i64 0) (.int .i64 0)) (by omega)).set4 (.slice none 0 0) (.slice none 0 0) (.int .i64 0) (.bool false))) rfl ?_
    exact ⟨_, _, rfl, IsJ.zero, IsD.zero, below_set4 (below_set3 HW2.out (by omega) _ _ _) (by omega) _ _ _ _, secJ_nil, sec_nil⟩
  case pos =>
  obtain rfl : k2 = 0 := by rw [← HK2.out]; unfold Dv.chk; rw [if_pos hokd]
  have HOKD := Lib.hid hokd
  clear hokd
  by_cases hbad : st = false ∧ many ≠ ss.length
  case pos =>
    obtain ⟨hst, hm⟩ := hbad
    subst hst
    have t1 : (many != (ss.length : Int)) = true := by rw [bne_iff_ne]; exact hm
    obtain rfl : e0 = 1 := by rw [← HE.out]; unfold Jn.syncEX; rw [if_pos HOK.out, if_pos HOKD.out, if_neg (by simp), if_neg (fun h => hm h.1)]
    obtain rfl : x0 = j0 := by rw [← HX.out]; unfold Jn.syncJX; rw [if_neg (fun h => hm h.many)]
    obtain rfl : y0' = d0 := by rw [← HY.out]; unfold Jn.syncDX; rw [if_neg (fun h => hm h.many)]
    clear hm
    go_wp2_with (fail)
    refine bodyPost_ret (jd_out rfl rfl rfl rfl ((HB2.out.x.set3 (.slice none 0 0) (.int .i64 0) (.int .i64 0)).grownSame (grown_set4 _ _ _ _ _ _) (by omega)) ((HB2.out.y.grownSame (grown_set3 _ (w.heap.size + 2) (.slice none 0 0) (.int .i64 0) (.int .i64 0)) (by omega)).set4 (.slice none 0 0) (.slice none 0 0) (.int .i64 0) (.bool false))) rfl ?_
    exact ⟨_, _, rfl, IsJ.zero, IsD.zero, below_set4 (below_set3 HW2.out (by omega) _ _ _) (by omega) _ _ _ _, secJ_nil, sec_nil⟩
  case neg =>
  have HBAD := Lib.hid hbad
  clear hbad
  have HCALL := Lib.hid (Open_any HU2.out)
  obtain ⟨nj, hnj⟩ : ∃ x, Jn.openJ ⟨ss, ps, left, st⟩ = x := ⟨_, rfl⟩
  have HNJ := Lib.hid hnj
  rw [hnj, HK3.out] at HCALL
  clear hnj
  obtain ⟨t0, ht0⟩ : ∃ t, (many != (ss.length : Int)) = t := ⟨_, rfl⟩
  have HT0 := Lib.hid ht0
  cases st
  case true =>
    obtain rfl : k3 = 40 := by rw [← HK3.out]; unfold Jn.openE; rw [if_pos HOKD.out, if_pos rfl]
    cases t0
    all_goals
      go_wp2_with (fail)
      refine HCALL.out.mono ?_
      rintro e w3 ⟨x9, rfl, hj9, hb3, -⟩
      have HW3 := Lib.hid (HW2.out.up hb3)
      have HB3 := Lib.hid (HB2.out.upb hb3)
      obtain ⟨A9, c9, rfl, -⟩ := hj9.open_
      clear lq0 lq1 lq2 lf0 lf1 lf2 ll dq0 dq1 dq2 dq3 df0 df1 df2 df3 dl xq0 xq1 xq2 xf0 xf1 xf2 xl yq0 yq1 yq2 yq3 yf0 yf1 yf2 yf3 yl
      clear hb3 hj9
      have lq0 := HB3.out.l.cell (k := 0) rfl
      have lq1 := HB3.out.l.cell (k := 1) rfl
      have lq2 := HB3.out.l.cell (k := 2) rfl
      have lf0 := HB3.out.l.frozen 0
      have lf1 := HB3.out.l.frozen 1
      have lf2 := HB3.out.l.frozen 2
      have ll := HB3.out.l.lt
      have dq0 := HB3.out.d.cell (k := 0) rfl
      have dq1 := HB3.out.d.cell (k := 1) rfl
      have dq2 := HB3.out.d.cell (k := 2) rfl
      have dq3 := HB3.out.d.cell (k := 3) rfl
      have df0 := HB3.out.d.frozen 0
      have df1 := HB3.out.d.frozen 1
      have df2 := HB3.out.d.frozen 2
      have df3 := HB3.out.d.frozen 3
      have dl := HB3.out.d.lt
      have xq0 := HB3.out.x.cell (k := 0) rfl
      have xq1 := HB3.out.x.cell (k := 1) rfl
      have xq2 := HB3.out.x.cell (k := 2) rfl
      have xf0 := HB3.out.x.frozen 0
      have xf1 := HB3.out.x.frozen 1
      have xf2 := HB3.out.x.frozen 2
      have xl := HB3.out.x.lt
      have yq0 := HB3.out.y.cell (k := 0) rfl
      have yq1 := HB3.out.y.cell (k := 1) rfl
      have yq2 := HB3.out.y.cell (k := 2) rfl
      have yq3 := HB3.out.y.cell (k := 3) rfl
      have yf0 := HB3.out.y.frozen 0
      have yf1 := HB3.out.y.frozen 1
      have yf2 := HB3.out.y.frozen 2
      have yf3 := HB3.out.y.frozen 3
      have yl := HB3.out.y.lt
      obtain rfl : e0 = 40 := by rw [← HE.out]; unfold Jn.syncEX; rw [if_pos HOK.out, if_pos HOKD.out, if_pos rfl]
      obtain rfl : x0 = j0 := by rw [← HX.out]; unfold Jn.syncJX; rw [if_neg (fun h => by cases h.st)]
      obtain rfl : y0' = d0 := by rw [← HY.out]; unfold Jn.syncDX; rw [if_neg (fun h => by cases h.st)]
      go_wp2_with (fail)
      refine bodyPost_ret (jd_out rfl rfl rfl rfl (((HB3.out.x.set3 (.slice none 0 0) (.int .i64 0) (.int .i64 0)).grownSame (grown_set4 _ _ _ _ _ _) (by omega)).upb (al1 _ (.cells #[.slice A9 nj.rs.length c9, .int .i64 nj.many, .int .i64 nj.syn] 29))) (((HB3.out.y.grownSame (grown_set3 _ (w.heap.size + 2) (.slice none 0 0) (.int .i64 0) (.int .i64 0)) (by omega)).set4 (.slice none 0 0) (.slice none 0 0) (.int .i64 0) (.bool false)).upb (al1 _ (.cells #[.slice A9 nj.rs.length c9, .int .i64 nj.many, .int .i64 nj.syn] 29)))) rfl ?_
      exact ⟨_, _, rfl, IsJ.zero, IsD.zero, (below_set4 (below_set3 HW3.out (by omega) _ _ _) (by omega) _ _ _ _).up (al1 _ _), secJ_nil, sec_nil⟩
  case false =>
  obtain rfl : t0 = false := by
    rw [← HT0.out, bne_eq_false_iff_eq]
    by_cases h : many = ss.length
    · exact h
    · exact absurd ⟨rfl, h⟩ HBAD.out
  by_cases hps : ps.length = 0
  case neg =>
    obtain rfl : k3 = 1 := by rw [← HK3.out]; unfold Jn.openE; rw [if_pos HOKD.out, if_neg (fun h => by cases h), if_neg hps]
    go_wp2_with (fail)
    refine HCALL.out.mono ?_
    rintro e w3 ⟨x9, rfl, hj9, hb3, -⟩
    have HW3 := Lib.hid (HW2.out.up hb3)
    have HB3 := Lib.hid (HB2.out.upb hb3)
    obtain ⟨A9, c9, rfl, -⟩ := hj9.open_
    clear lq0 lq1 lq2 lf0 lf1 lf2 ll dq0 dq1 dq2 dq3 df0 df1 df2 df3 dl xq0 xq1 xq2 xf0 xf1 xf2 xl yq0 yq1 yq2 yq3 yf0 yf1 yf2 yf3 yl
    clear hb3 hj9
    have lq0 := HB3.out.l.cell (k := 0) rfl
    have lq1 := HB3.out.l.cell (k := 1) rfl
    have lq2 := HB3.out.l.cell (k := 2) rfl
    have lf0 := HB3.out.l.frozen 0
    have lf1 := HB3.out.l.frozen 1
    have lf2 := HB3.out.l.frozen 2
    have ll := HB3.out.l.lt
    have dq0 := HB3.out.d.cell (k := 0) rfl
    have dq1 := HB3.out.d.cell (k := 1) rfl
    have dq2 := HB3.out.d.cell (k := 2) rfl
    have dq3 := HB3.out.d.cell (k := 3) rfl
    have df0 := HB3.out.d.frozen 0
    have df1 := HB3.out.d.frozen 1
    have df2 := HB3.out.d.frozen 2
    have df3 := HB3.out.d.frozen 3
    have dl := HB3.out.d.lt
    have xq0 := HB3.out.x.cell (k := 0) rfl
    have xq1 := HB3.out.x.cell (k := 1) rfl
    have xq2 := HB3.out.x.cell (k := 2) rfl
    have xf0 := HB3.out.x.frozen 0
    have xf1 := HB3.out.x.frozen 1
    have xf2 := HB3.out.x.frozen 2
    have xl := HB3.out.x.lt
    have yq0 := HB3.out.y.cell (k := 0) rfl
    have yq1 := HB3.out.y.cell (k := 1) rfl
    have yq2 := HB3.out.y.cell (k := 2) rfl
    have yq3 := HB3.out.y.cell (k := 3) rfl
    have yf0 := HB3.out.y.frozen 0
    have yf1 := HB3.out.y.frozen 1
    have yf2 := HB3.out.y.frozen 2
    have yf3 := HB3.out.y.frozen 3
    have yl := HB3.out.y.lt
    obtain rfl : e0 = 1 := by rw [← HE.out]; unfold Jn.syncEX; rw [if_pos HOK.out, if_pos HOKD.out, if_neg (by simp), if_neg (fun h => hps h.2)]
    obtain rfl : x0 = j0 := by rw [← HX.out]; unfold Jn.syncJX; rw [if_neg (fun h => hps h.ps)]
    obtain rfl : y0' = d0 := by rw [← HY.out]; unfold Jn.syncDX; rw [if_neg (fun h => hps h.ps)]
    clear hps
    go_wp2_with (fail)
    refine bodyPost_ret (jd_out rfl rfl rfl rfl (((HB3.out.x.set3 (.slice none 0 0) (.int .i64 0) (.int .i64 0)).grownSame (grown_set4 _ _ _ _ _ _) (by omega)).upb (al1 _ (.cells #[.slice A9 nj.rs.length c9, .int .i64 nj.many, .int .i64 nj.syn] 29))) (((HB3.out.y.grownSame (grown_set3 _ (w.heap.size + 2) (.slice none 0 0) (.int .i64 0) (.int .i64 0)) (by omega)).set4 (.slice none 0 0) (.slice none 0 0) (.int .i64 0) (.bool false)).upb (al1 _ (.cells #[.slice A9 nj.rs.length c9, .int .i64 nj.many, .int .i64 nj.syn] 29)))) rfl ?_
    exact ⟨_, _, rfl, IsJ.zero, IsD.zero, (below_set4 (below_set3 HW3.out (by omega) _ _ _) (by omega) _ _ _ _).up (al1 _ _), secJ_nil, sec_nil⟩
  case pos =>
  obtain rfl : k3 = 0 := by rw [← HK3.out]; unfold Jn.openE; rw [if_pos HOKD.out, if_neg (fun h => by cases h), if_pos hps]
  obtain rfl : nj = ⟨Jn.Records ss, ss.length, (Jn.Records ss).length⟩ := by rw [← HNJ.out]; unfold Jn.openJ; rw [if_pos ⟨HOKD.out, rfl, hps⟩]
  have HMANY := Lib.hid (show many = ss.length from by have h := HT0.out; rwa [bne_eq_false_iff_eq] at h)
  have HPS := Lib.hid hps
  clear hps
  go_wp2_with (fail)
  refine HCALL.out.mono ?_
  rintro e w3 ⟨x9, rfl, hj9, hb3, -⟩
  have HW3 := Lib.hid (HW2.out.up hb3)
  have HB3 := Lib.hid (HB2.out.upb hb3)
  have HV3 := Lib.hid (HV2.out.upb hb3)
  have HU3 := Lib.hid (HU2.out.upb hb3)
  obtain ⟨A9, c9, rfl, h9⟩ := hj9.open_
  have H9 := Lib.hid h9
  clear lq0 lq1 lq2 lf0 lf1 lf2 ll dq0 dq1 dq2 dq3 df0 df1 df2 df3 dl xq0 xq1 xq2 xf0 xf1 xf2 xl yq0 yq1 yq2 yq3 yf0 yf1 yf2 yf3 yl
  clear hb3 hj9 h9 HW2 HB2 HV2 HU2 HCALL
  have lq0 := HB3.out.l.cell (k := 0) rfl
  have lq1 := HB3.out.l.cell (k := 1) rfl
  have lq2 := HB3.out.l.cell (k := 2) rfl
  have lf0 := HB3.out.l.frozen 0
  have lf1 := HB3.out.l.frozen 1
  have lf2 := HB3.out.l.frozen 2
  have ll := HB3.out.l.lt
  have dq0 := HB3.out.d.cell (k := 0) rfl
  have dq1 := HB3.out.d.cell (k := 1) rfl
  have dq2 := HB3.out.d.cell (k := 2) rfl
  have dq3 := HB3.out.d.cell (k := 3) rfl
  have df0 := HB3.out.d.frozen 0
  have df1 := HB3.out.d.frozen 1
  have df2 := HB3.out.d.frozen 2
  have df3 := HB3.out.d.frozen 3
  have dl := HB3.out.d.lt
  have xq0 := HB3.out.x.cell (k := 0) rfl
  have xq1 := HB3.out.x.cell (k := 1) rfl
  have xq2 := HB3.out.x.cell (k := 2) rfl
  have xf0 := HB3.out.x.frozen 0
  have xf1 := HB3.out.x.frozen 1
  have xf2 := HB3.out.x.frozen 2
  have xl := HB3.out.x.lt
  have yq0 := HB3.out.y.cell (k := 0) rfl
  have yq1 := HB3.out.y.cell (k := 1) rfl
  have yq2 := HB3.out.y.cell (k := 2) rfl
  have yq3 := HB3.out.y.cell (k := 3) rfl
  have yf0 := HB3.out.y.frozen 0
  have yf1 := HB3.out.y.frozen 1
  have yf2 := HB3.out.y.frozen 2
  have yf3 := HB3.out.y.frozen 3
  have yl := HB3.out.y.lt
  go_upto_region 12 with (fail)
  obtain ⟨X0, hX0⟩ : ∃ X, w3.alloc (.cells #[.slice A9 (Jn.Records ss).length c9, .int .i64 ss.length, .int .i64 (Jn.Records ss).length] 29) = X := ⟨_, rfl⟩
  obtain ⟨b9, hb9⟩ : ∃ b, w3.heap.size = b := ⟨_, rfl⟩
  have HB4 := Lib.hid (show SB X0 w.heap.size _ _ from by rw [← hX0]; exact HB3.out.upb (al1 _ _))
  have HW4 := Lib.hid (show Below w.heap.size w X0 from by rw [← hX0]; exact HW3.out.up (al1 _ _))
  have HC9 := Lib.hid (show Cells X0 b9 29 [.slice A9 (Jn.Records ss).length c9, .int .i64 ss.length, .int .i64 (Jn.Records ss).length] from by rw [← hX0, ← hb9]; exact Cells.new w3 29 [_, _, _])
  have HR9 := Lib.hid (show IsBs X0 (.slice A9 (Jn.Records ss).length c9) (Jn.Records ss) from by rw [← hX0]; exact H9.out.upb (al1 _ _))
  have HV4 := Lib.hid (show IsJ X0 _ _ from by rw [← hX0]; exact HV3.out.upb (al1 _ _))
  have HU4 := Lib.hid (show IsD X0 _ _ from by rw [← hX0]; exact HU3.out.upb (al1 _ _))
  have HL9 := Lib.hid (show w.heap.size + 3 < b9 from by rw [← hb9]; exact HB3.out.y.lt)
  simp only [hX0, hb9]
  clear lq0 lq1 lq2 lf0 lf1 lf2 ll dq0 dq1 dq2 dq3 df0 df1 df2 df3 dl xq0 xq1 xq2 xf0 xf1 xf2 xl yq0 yq1 yq2 yq3 yf0 yf1 yf2 yf3 yl
  clear hX0 hb9 HB3 HW3 H9 HV3 HU3
  have lq0 := HB4.out.l.cell (k := 0) rfl
  have lq1 := HB4.out.l.cell (k := 1) rfl
  have lq2 := HB4.out.l.cell (k := 2) rfl
  have lf0 := HB4.out.l.frozen 0
  have lf1 := HB4.out.l.frozen 1
  have lf2 := HB4.out.l.frozen 2
  have ll := HB4.out.l.lt
  have dq0 := HB4.out.d.cell (k := 0) rfl
  have dq1 := HB4.out.d.cell (k := 1) rfl
  have dq2 := HB4.out.d.cell (k := 2) rfl
  have dq3 := HB4.out.d.cell (k := 3) rfl
  have df0 := HB4.out.d.frozen 0
  have df1 := HB4.out.d.frozen 1
  have df2 := HB4.out.d.frozen 2
  have df3 := HB4.out.d.frozen 3
  have dl := HB4.out.d.lt
  have xq0 := HB4.out.x.cell (k := 0) rfl
  have xq1 := HB4.out.x.cell (k := 1) rfl
  have xq2 := HB4.out.x.cell (k := 2) rfl
  have xf0 := HB4.out.x.frozen 0
  have xf1 := HB4.out.x.frozen 1
  have xf2 := HB4.out.x.frozen 2
  have xl := HB4.out.x.lt
  have yq0 := HB4.out.y.cell (k := 0) rfl
  have yq1 := HB4.out.y.cell (k := 1) rfl
  have yq2 := HB4.out.y.cell (k := 2) rfl
  have yq3 := HB4.out.y.cell (k := 3) rfl
  have yf0 := HB4.out.y.frozen 0
  have yf1 := HB4.out.y.frozen 1
  have yf2 := HB4.out.y.frozen 2
  have yf3 := HB4.out.y.frozen 3
  have yl := HB4.out.y.lt
  have H128 := Lib.hid (s128_ok HOKD.out)
  have hss := H128.out.1
  have HSS := Lib.hid (show IsBs X0 (.slice A1 ss.length c1) ss from by
    obtain ⟨sv, pv, e, h1, _⟩ := HU4.out
    injection e with e
    injection e with e
    injection e with e _
    rw [e]; exact h1)
  go_wp2_with (fail)
  go_loopw [10, 59] (fun s10 s59 wr => ∃ (n g : Nat), s10 = .int .u64 g ∧ s59 = .int .i64 n ∧ n ≤ ss.length ∧ g ≤ 4294967296 ∧ Hid (g = (ss.take n).foldl Jn.gm1 0 + 1) ∧ Hid (Below X0.heap.size X0 wr)) (fun _ s59 _ => ss.length - (intOf s59).toNat)
  case atStart => exact ⟨0, 1, rfl, rfl, Nat.zero_le _, by omega, Lib.hid rfl, Lib.hid (Below.refl _ _)⟩
  case round =>
    clear lq0 lq1 lq2 lf0 lf1 lf2 ll dq0 dq1 dq2 dq3 df0 df1 df2 df3 dl xq0 xq1 xq2 xf0 xf1 xf2 xl yq0 yq1 yq2 yq3 yf0 yf1 yf2 yf3 yl
    obtain ⟨n, g, rfl, rfl, hn, hg4, HG, HB⟩ := hrel
    have hn4 : (n : Int) ≤ 4096 := by omega
    by_cases hlt : n < ss.length
    case pos =>
      have hd : decide ((n : Int) < (ss.length : Int)) = true := decide_eq_true (by omega)
      have hd2 : decide (n < ss.length) = true := decide_eq_true hlt
      obtain ⟨b1, o1, A7, c7, hA7, hbb1, hc1, hb1⟩ := bs_at HSS.out hlt
      subst hA7
      have h128 := H128.out.at hlt
      have HTK := Lib.hid (List.take_succ_eq_append_getElem hlt)
      obtain ⟨s, hsl⟩ : ∃ s, ss[n] = s := ⟨_, rfl⟩
      rw [hsl] at hc1 hb1 h128 HTK
      obtain ⟨b, off, cc, e8, hbw0, hS0⟩ := sc_of hb1 h128
      rw [h128] at hc1 e8
      injection e8 with e8 e9 e10
      subst e8 e10
      have hc1w := ((HB.out.cell (p := ⟨b1, o1 + n, none⟩) (cell_lt hc1)).trans hc1)
      have HSC := Lib.hid (hS0.up HB.out)
      have hc128 := hS0.cap
      obtain ⟨ga, hga⟩ : ∃ x, Jn.gen s = x := ⟨_, rfl⟩
      obtain ⟨gt, hgt⟩ : ∃ x, Jn.gnT s = x := ⟨_, rfl⟩
      have hga4 : ga < 4294967296 := by rw [← hga]; exact hS0.num_lt.1
      have hgt4 : gt < 4294967296 := by rw [← hgt]; exact hS0.num_lt.2.1
      have HGA := Lib.hid hga
      have HGT := Lib.hid hgt
      have M1 := Lib.hid (show Jn.num (s.take 4) = ga from hga)
      have L1 := Lib.hid (show (s.take 4).length ≤ 4 by rw [List.length_take]; omega)
      have M2 := Lib.hid (show Jn.num (s.drop 124) = gt from hgt)
      have L2 := Lib.hid (show (s.drop 124).length ≤ 4 by rw [List.length_drop]; omega)
      have s1 : IntKind.u64.wrap ((ga : Int) + 1) = ga + 1 := IntWalk.u64_in _ (by omega)
      have s2 : IntKind.u64.wrap ((gt : Int) + 1) = gt + 1 := IntWalk.u64_in _ (by omega)
      clear hga hgt hS0 hb1 hc1 h128 hsl
      go_wp2_with (fail)
      go_quiet ((first | (go_at_call 41; first | with_reducible exact (get_q HSC.out.n1 L1.out M1.out) | with_reducible exact (get_q HSC.out.n2 L2.out M2.out))))
      go_wp2_with (fail)
      go_roundw
      case rel => exact ⟨n + 1, max g (max (ga + 1) (gt + 1)), congrArg (Value.int .u64) (max3 g ga gt), by go_num, by omega, by omega, Lib.hid (gm_step HG.out HTK.out HGA.out HGT.out), Lib.hid (below_drewN HB.out nq)⟩
      case measure => simp [intOf]; omega
    case neg =>
    have hd : decide ((n : Int) < (ss.length : Int)) = false := decide_eq_false (by omega)
    have hd2 : decide (n < ss.length) = false := decide_eq_false hlt
    have HGN := Lib.hid (show g = Jn.gnext ss from by have h := HG.out; rw [List.take_of_length_le (by omega)] at h; exact h)
    clear HG
    have HB5 := Lib.hid (HB4.out.upb HB.out)
    have HC5 := Lib.hid (HC9.out.upb HB.out)
    have HR5 := Lib.hid (HR9.out.upb HB.out)
    have HV5 := Lib.hid (HV4.out.upb HB.out)
    have HU5 := Lib.hid (HU4.out.upb HB.out)
    have HW5 := Lib.hid (HW4.out.up HB.out)
    clear HB4 HC9 HR9 HV4 HU4 HW4 HSS HB
    have lq0 := HB5.out.l.cell (k := 0) rfl
    have lq1 := HB5.out.l.cell (k := 1) rfl
    have lq2 := HB5.out.l.cell (k := 2) rfl
    have lf0 := HB5.out.l.frozen 0
    have lf1 := HB5.out.l.frozen 1
    have lf2 := HB5.out.l.frozen 2
    have ll := HB5.out.l.lt
    have dq0 := HB5.out.d.cell (k := 0) rfl
    have dq1 := HB5.out.d.cell (k := 1) rfl
    have dq2 := HB5.out.d.cell (k := 2) rfl
    have dq3 := HB5.out.d.cell (k := 3) rfl
    have df0 := HB5.out.d.frozen 0
    have df1 := HB5.out.d.frozen 1
    have df2 := HB5.out.d.frozen 2
    have df3 := HB5.out.d.frozen 3
    have dl := HB5.out.d.lt
    have xq0 := HB5.out.x.cell (k := 0) rfl
    have xq1 := HB5.out.x.cell (k := 1) rfl
    have xq2 := HB5.out.x.cell (k := 2) rfl
    have xf0 := HB5.out.x.frozen 0
    have xf1 := HB5.out.x.frozen 1
    have xf2 := HB5.out.x.frozen 2
    have xl := HB5.out.x.lt
    have yq0 := HB5.out.y.cell (k := 0) rfl
    have yq1 := HB5.out.y.cell (k := 1) rfl
    have yq2 := HB5.out.y.cell (k := 2) rfl
    have yq3 := HB5.out.y.cell (k := 3) rfl
    have yf0 := HB5.out.y.frozen 0
    have yf1 := HB5.out.y.frozen 1
    have yf2 := HB5.out.y.frozen 2
    have yf3 := HB5.out.y.frozen 3
    have yl := HB5.out.y.lt
    have n0 := HC5.out.cell (k := 0) rfl
    obtain ⟨sy, hsy⟩ : ∃ k : Nat, syn = k := ⟨syn.toNat, by have := HOK.out.2.2.1; simp only at this; omega⟩
    subst hsy
    have hsl : sy ≤ rs.length := by have := HOK.out.2.2.2.1; simp only at this; omega
    obtain ⟨hl1, hl2, hl3, vs, hl4, hl5, hl6⟩ := bs_of (show IsBs wr (.slice A rs.length c) rs from by
      obtain ⟨sv, e, h1⟩ := HV5.out
      injection e with e
      injection e with e
      injection e with e _
      rw [e]; exact h1)
    have HBS := Lib.hid (show IsBs wr (.slice A rs.length c) rs from by
      obtain ⟨sv, e, h1⟩ := HV5.out
      injection e with e
      injection e with e
      injection e with e _
      rw [e]; exact h1)
    have HTK := Lib.hid (show IsBs wr (.slice A sy c) (rs.take sy) from bs_take HBS.out hsl (by omega))
    have HRC := Lib.hid (show (Jn.Records ss).length ≤ 1000000 from by have := recs_count H128.out; omega)
    have HNIL := Lib.hid hl3
    have hlc := hl2
    have hrl : rs.length ≤ 5864062014634 := HS.out.1
    clear hl1 hl2 hl3 hl4 hl5 hl6 vs
    obtain ⟨q, hq⟩ : ∃ r, decide (Jn.Records ss = rs.take sy) = r := ⟨_, rfl⟩
    have HQ := Lib.hid hq
    clear hq
    cases A with
    | none =>
      obtain rfl : rs = [] := List.eq_nil_of_length_eq_zero (HNIL.out rfl)
      obtain rfl : sy = 0 := by simpa using hsl
      exact absurd (show Jn.OkJ ⟨[], many, ((0 : Nat) : Int)⟩ from ⟨HOK.out.1, HOK.out.2.1, HOK.out.2.2.1, HOK.out.2.2.2.1, by have h := HOK.out.1; simp only at h; show ((0 : Nat) : Int) ≤ many; omega⟩) HNJ.out
    | some ad =>
    cases q with
    | false =>
      go_wp2_with (fail)
      go_quiet ((first | (go_at_call 42; with_reducible exact (equal_q HR5.out HTK.out HRC.out HQ.out))))
      have hne : ¬ Jn.Records ss = rs.take sy := of_decide_eq_false HQ.out
      obtain rfl : e0 = 50 := by rw [← HE.out]; unfold Jn.syncEX; rw [if_pos HOK.out, if_pos HOKD.out, if_neg (by simp), if_pos ⟨HMANY.out, HPS.out⟩, if_neg (fun h => hne h.1)]
      obtain rfl : x0 = j0 := by rw [← HX.out]; unfold Jn.syncJX; rw [if_neg (fun h => hne h.recs)]
      obtain rfl : y0' = d0 := by rw [← HY.out]; unfold Jn.syncDX; rw [if_neg (fun h => hne h.recs)]
      clear hne
      go_wp2_with (fail)
      refine bodyPost_ret (jd_out rfl rfl rfl rfl (((HB5.out.drewN nq).x.set3 (.slice none 0 0) (.int .i64 0) (.int .i64 0)).grownSame (grown_set4 _ _ _ _ _ _) (by omega)) (((HB5.out.drewN nq).y.grownSame (grown_set3 _ (w.heap.size + 2) (.slice none 0 0) (.int .i64 0) (.int .i64 0)) (by omega)).set4 (.slice none 0 0) (.slice none 0 0) (.int .i64 0) (.bool false))) rfl ?_
      exact ⟨_, _, rfl, IsJ.zero, IsD.zero, below_set4 (below_set3 (below_drewN HW5.out nq) (by omega) _ _ _) (by omega) _ _ _ _, secJ_nil, sec_nil⟩
    | true =>
    have heq : Jn.Records ss = rs.take sy := of_decide_eq_true HQ.out
    have HEQ := Lib.hid heq
    clear heq
    by_cases hg32 : g = 4294967296
    case pos =>
      subst hg32
      go_wp2_with (fail)
      go_quiet ((first | (go_at_call 42; with_reducible exact (equal_q HR5.out HTK.out HRC.out HQ.out))))
      have hne : ¬ Jn.gnext ss < 4294967296 := by have h := HGN.out; omega
      obtain rfl : e0 = 50 := by rw [← HE.out]; unfold Jn.syncEX; rw [if_pos HOK.out, if_pos HOKD.out, if_neg (by simp), if_pos ⟨HMANY.out, HPS.out⟩, if_neg (fun h => hne h.2)]
      obtain rfl : x0 = j0 := by rw [← HX.out]; unfold Jn.syncJX; rw [if_neg (fun h => hne h.g32)]
      obtain rfl : y0' = d0 := by rw [← HY.out]; unfold Jn.syncDX; rw [if_neg (fun h => hne h.g32)]
      clear hne
      go_wp2_with (fail)
      refine bodyPost_ret (jd_out rfl rfl rfl rfl (((HB5.out.drewN nq).x.set3 (.slice none 0 0) (.int .i64 0) (.int .i64 0)).grownSame (grown_set4 _ _ _ _ _ _) (by omega)) (((HB5.out.drewN nq).y.grownSame (grown_set3 _ (w.heap.size + 2) (.slice none 0 0) (.int .i64 0) (.int .i64 0)) (by omega)).set4 (.slice none 0 0) (.slice none 0 0) (.int .i64 0) (.bool false))) rfl ?_
      exact ⟨_, _, rfl, IsJ.zero, IsD.zero, below_set4 (below_set3 (below_drewN HW5.out nq) (by omega) _ _ _) (by omega) _ _ _ _, secJ_nil, sec_nil⟩
    case neg =>
    have hgl : g < 4294967296 := by omega
    have hsh : (g : Int) / 2 ^ 32 = 0 := by omega
    have hsh2 : (g : Int) / 4294967296 = 0 := by omega
    have HACC := Lib.hid (show Jn.AccI ⟨rs, many, (sy : Int)⟩ (⟨ss, ps, left, false⟩ : Dk) from ⟨HOK.out, HOKD.out, rfl, HMANY.out, HPS.out, HEQ.out, by have h := HGN.out; show Jn.gnext ss < _; omega⟩)
    clear hg32
    by_cases hall : sy = rs.length
    case pos =>
      have hu1 := used_records (ss := ss) H128.out.2
      rw [HEQ.out, hall, List.take_length] at hu1
      refine absurd (show Jn.OkJ ⟨rs, many, (sy : Int)⟩ from ⟨HOK.out.1, HOK.out.2.1, HOK.out.2.2.1, HOK.out.2.2.2.1, ?_⟩) HNJ.out
      have h := HMANY.out
      simp only
      omega
    case neg =>
    have ht : ((sy : Int) == (rs.length : Int)) = false := by rw [beq_eq_false_iff_ne]; omega
    have ht2 : (sy == rs.length) = false := by rw [beq_eq_false_iff_ne]; exact hall
    have HALL := Lib.hid hall
    clear hall
    have hlts : sy < rs.length := by have := HALL.out; omega
    obtain ⟨b0, o0, A7, c7, hA7, hbb0, -, -⟩ := bs_at HBS.out hlts
    injection hA7 with hA7
    subst hA7
    have HRU := Lib.hid (show Jn.used (rs.take sy) ≤ ss.length from by rw [← HEQ.out]; exact used_records H128.out.2)
    have HSM := Lib.hid (show Jn.Sm (rs.take sy) from Jn.sm_used (by have := HRU.out; have := H128.out.1; omega))
    go_wp2_with (fail)
    go_quiet ((first | (go_at_call 42; with_reducible exact (equal_q HR5.out HTK.out HRC.out HQ.out))))
    go_wp2_with (fail)
    refine (used_any (show IsBs (wr.drewN nq) (.slice (some ⟨b0, o0, none⟩) sy c) (rs.take sy) from HTK.out) HSM.out).mono ?_
    rintro e wx ⟨rfl, rfl⟩
    obtain ⟨a0, ha0⟩ : ∃ x, Jn.used (rs.take sy) = x := ⟨_, rfl⟩
    have HA0 := Lib.hid ha0
    rw [ha0]
    clear ha0
    go_wp2_with (fail)
    obtain ⟨rl, hrl⟩ : ∃ r, rs.length - sy = r := ⟨_, rfl⟩
    obtain ⟨rest, hrest⟩ : ∃ r, rs.drop sy = r := ⟨_, rfl⟩
    have HREST := Lib.hid hrest
    have hrl4 : rl ≤ 5864062014634 := by omega
    have HRL := Lib.hid (show rest.length = rl from by rw [← hrest, List.length_drop]; exact hrl)
    have HBW := Lib.hid (show IsBs w (.slice (some ⟨b0, o0, none⟩) rs.length c) rs from by
      obtain ⟨sv, e, h1⟩ := HVW.out
      injection e with e
      injection e with e
      injection e with e _
      rw [e]; exact h1)
    have HBR := Lib.hid (show IsBs w (.slice (some ⟨b0, o0 + sy, none⟩) rl (c - sy)) rest from by rw [← hrest]; exact bs_drop HBW.out hsl (by omega) (by omega))
    have HA4 := Lib.hid (show a0 ≤ ss.length from by rw [← HA0.out]; exact HRU.out)
    have HOV := Lib.hid (show ss.length < a0 + Jn.used rest from by
      refine Nat.lt_of_not_le fun hle => HNJ.out ⟨HOK.out.1, HOK.out.2.1, HOK.out.2.2.1, HOK.out.2.2.2.1, ?_⟩
      have h1 : Jn.used rs = a0 + Jn.used rest := by rw [← HA0.out, ← hrest, ← Jn.used_append, List.take_append_drop]
      have h2 := HMANY.out
      simp only at h2 ⊢
      omega)
    have hps0 : ps = [] := List.eq_nil_of_length_eq_zero HPS.out
    subst hps0
    have HWX0 := Lib.hid (show Jn.wrtX ⟨rs, many, (sy : Int)⟩ ⟨ss, [], left, false⟩ = d0 from by
      unfold Jn.wrtX
      have h : ¬ Jn.used (rs.take sy) + Jn.used (rs.drop sy) ≤ ss.length := by rw [HA0.out, HREST.out]; have := HOV.out; omega
      exact if_neg h)
    have HLR := Lib.hid (show ∀ k (h : k < rest.length), rest[k].length ≤ 140737488351232 from fun k hk => by
      have h := HS.out.2 (sy + k) (by have := HRL.out; omega)
      simp only [← hrest, List.getElem_drop]; exact h)
    have HG0 := Lib.hid (show 0 < g from by have h := HGN.out; rw [h]; exact Nat.succ_pos _)
    have HWR0 := Lib.hid (show WR w (wr.drewN nq) (.agg #[.slice A1 ss.length c1, .slice A2 0 c2, .int .i64 left, .bool false]) [.slice (some ⟨b0, o0, none⟩) rs.length c, .int .i64 many, .int .i64 sy] (Jn.wkD ss left g a0 rest 0 0) A1 ss.length c1 A2 0 c2 left false from by
      have e : Jn.wkD ss left g a0 rest 0 0 = ⟨ss, [], left, false⟩ := by unfold Jn.wkD; rw [Jn.wkS_zero]; rfl
      rw [e]
      have hbe := below_drewN HW5.out nq
      exact ⟨HB5.out.drewN nq, HUW.out.upb hbe, fun B h _ => nb_new HUW.out h, sec_same, hbe⟩)
    simp only [hrl, List.length_nil]
    obtain ⟨X5, hX5⟩ : ∃ X, wr.drewN nq = X := ⟨_, rfl⟩
    have HWX := Lib.hid (below_drewN HW5.out nq)
    rw [hX5] at HWR0 HWX
    simp only [hX5]
    clear hX5 hrl hrest HB5 HC5 HR5 HV5 HU5 HW5 HQ HTK HBS n0
    go_loopw [6, 13, 110] (fun s6 s13 s110 wr => ∃ (i u n2 : Nat) (A3 : Option Addr) (c3 : Nat) (A4 : Option Addr) (c4 : Nat), s6 = .int .i64 0 ∧ s13 = .int .i64 ((a0 + u : Nat) : Int) ∧ s110 = .int .i64 i ∧ i ≤ rl ∧ Hid (u = Jn.used (rest.take i)) ∧ Hid (a0 + u ≤ ss.length) ∧ Hid (WR w wr (.agg #[.slice A1 ss.length c1, .slice A2 0 c2, .int .i64 left, .bool false]) [.slice (some ⟨b0, o0, none⟩) rs.length c, .int .i64 many, .int .i64 sy] (Jn.wkD ss left g a0 rest i 0) A3 ss.length c3 A4 n2 c4 left false)) (fun _ _ s110 _ => rl - (intOf s110).toNat)
    case atStart => exact ⟨0, 0, 0, A1, c1, A2, c2, rfl, by go_num, rfl, Nat.zero_le _, Lib.hid rfl, HA4, HWR0⟩
    case round =>
      clear HWR0
      obtain ⟨i, us, n2, A3, c3, A4, c4, rfl, rfl, rfl, hi, HUU, HFI, HWR⟩ := hrel
      have hi4 : (i : Int) ≤ 5864062014634 := by omega
      by_cases hlt : i < rl
      case neg =>
        have h1 := HFI.out
        rw [HUU.out, List.take_of_length_le (by have := HRL.out; omega)] at h1
        have h2 := HOV.out
        omega
      case pos =>
      have hd : decide ((i : Int) < (rl : Int)) = true := decide_eq_true (by omega)
      have hd2 : decide (i < rl) = true := decide_eq_true hlt
      have hlt2 : i < rest.length := by have := HRL.out; omega
      obtain ⟨b1, o1, A15, c15, hA7, hbb1, hc1, hb1⟩ := bs_at HBR.out hlt2
      injection hA7 with hA7
      injection hA7 with e1 e2
      subst e1 e2
      have hbl := HLR.out i hlt2
      have HRI := Lib.hid (Eq.refl rest[i])
      obtain ⟨b, hb⟩ : ∃ b, rest[i] = b := ⟨_, rfl⟩
      have HB := Lib.hid hb
      rw [hb] at hc1 hb1 hbl
      obtain ⟨m, hm⟩ : ∃ m, Jn.nsec b.length = m := ⟨_, rfl⟩
      have HM := Lib.hid hm
      have hss4 := H128.out.1
      have hm13 : m ≤ 1300000000000 := by rw [← hm]; unfold Jn.nsec; omega
      have hm1 : 1 ≤ m := by rw [← hm]; exact Jn.nsec_pos _
      have hc1w := (HWR.out.b.cell (p := ⟨b0, o0 + sy + i, none⟩) (cell_lt hc1)).trans hc1
      have HBY := Lib.hid hb1
      have HBL := Lib.hid hbl
      clear hc1 hb1 hm hbl hss4
      go_wp2_with (fail)
      refine (sectorsI_any (HBY.out.upb HWR.out.b)).mono ?_
      rintro e wx ⟨rfl, rfl⟩
      rw [Jn.nsI_eq HBL.out, HM.out]
      clear hc1w
      go_wp2_with (fail)
      go_loopw [6, 13, 15, 16, 17] (fun s6 s13 s15 s16 s17 wr => ∃ (jx nn n15 kv n2 : Nat) (A15 : Option Addr) (c15 : Nat) (A3 : Option Addr) (c3 : Nat) (A4 : Option Addr) (c4 : Nat), s6 = .int .i64 0 ∧ s13 = .int .i64 ((a0 + us + jx : Nat) : Int) ∧ s15 = .slice A15 n15 c15 ∧ s16 = .int .u8 kv ∧ s17 = .int .i64 nn ∧ jx + nn = m ∧ Hid (a0 + us + jx ≤ ss.length) ∧ Hid (kv = if jx = 0 then 1 else 0) ∧ Hid (IsBytes w (.slice A15 n15 c15) (b.drop (112 * jx))) ∧ Hid (WR w wr (.agg #[.slice A1 ss.length c1, .slice A2 0 c2, .int .i64 left, .bool false]) [.slice (some ⟨b0, o0, none⟩) rs.length c, .int .i64 many, .int .i64 sy] (Jn.wkD ss left g a0 rest i jx) A3 ss.length c3 A4 n2 c4 left false)) (fun _ _ _ _ s17 _ => (intOf s17).toNat)
      case atStart => exact ⟨0, m, b.length, 1, n2, A15, c15, A3, c3, A4, c4, rfl, rfl, rfl, rfl, rfl, by omega, HFI, Lib.hid rfl, Lib.hid (by rw [Nat.mul_zero, List.drop_zero]; exact HBY.out), HWR⟩
      case round =>
        clear HWR HBY HFI
        obtain ⟨jx, nn, n15, kv, n2, A15, c15, A3, c3, A4, c4, rfl, rfl, rfl, rfl, rfl, hjn, HFJ, HKV, HBY, HWR⟩ := hrel
        have hj4 : (jx : Int) ≤ 1300000000000 := by omega
        have hn4 : (nn : Int) ≤ 1300000000000 := by omega
        have hat : a0 + us + jx ≤ 4096 := by have := HFJ.out; have := H128.out.1; omega
        have hat2 : ((a0 + us + jx : Nat) : Int) ≤ 4096 := by omega
        by_cases hnn : nn = 0
        case pos =>
          subst hnn
          go_wp2_with (fail)
          have hjm : jx = m := by omega
          have HWN := Lib.hid (show WR w _ (.agg #[.slice A1 ss.length c1, .slice A2 0 c2, .int .i64 left, .bool false]) [.slice (some ⟨b0, o0, none⟩) rs.length c, .int .i64 many, .int .i64 sy] (Jn.wkD ss left g a0 rest (i + 1) 0) A3 ss.length c3 A4 n2 c4 left false from by
            have h := HWR.out
            rw [hjm, ← HM.out, ← HB.out, Jn.wkD_done hlt2] at h
            exact h)
          go_roundw
          case rel =>
            refine ⟨i + 1, us + m, n2, A3, c3, A4, c4, rfl, ?_, ?_, by omega, Lib.hid ?_, Lib.hid (by have := HFJ.out; omega), HWN⟩
            · refine congrArg (Value.int .i64) ?_
              omega
            · refine congrArg (Value.int .i64) ?_
              omega
            · rw [Jn.used_take hlt2, ← HUU.out, HB.out, HM.out]
          case measure => simp [intOf]; omega
        case neg =>
        have hd3 : decide ((0 : Int) < (nn : Int)) = true := decide_eq_true (by omega)
        have hd4 : decide (0 < nn) = true := decide_eq_true (by omega)
        have hjm : jx < m := by omega
        obtain ⟨hbl1, hbl2⟩ := bytes_len HBY.out
        rw [List.length_drop] at hbl1 hbl2
        have HN15 := Lib.hid hbl1
        have hc15 : n15 ≤ c15 := by omega
        have hn15 : n15 ≤ 140737488351232 := by have := HBL.out; omega
        have HJM := Lib.hid hjm
        have HJN := Lib.hid hjn
        clear hbl1 hbl2 hjm hjn
        cases A15 with
        | none =>
          have hbn := bytes_none HBY.out
          have hbn2 : b.length - 112 * jx = 0 := by rw [← List.length_drop, hbn]; rfl
          obtain rfl : n15 = 0 := by have := HN15.out; omega
          have hj0 : jx = 0 := by
            rcases Nat.eq_zero_or_pos jx with h | h
            · exact h
            · refine absurd ?_ (Jn.piece_pos (b := b) (j := jx) (by rw [HM.out]; exact HJM.out) (by omega))
              unfold Jn.pieceJ; rw [hbn]; rfl
          obtain rfl : nn = 1 := by
            have h1 := HM.out
            have h2 := HJN.out
            unfold Jn.nsec at h1
            omega
          clear hbn hbn2 hj0
          have hor : bits .or .u8 (kv : Int) 2 = ((kv + 2 : Nat) : Int) := by have := HKV.out; split at this <;> subst this <;> first | rfl | decide
          have h11 : ((1 : Int) == 1) = true := rfl
          by_cases hfit : a0 + us + jx < ss.length
          case pos =>
            have hwk := Jn.wk_write2 (a0 := a0) HOKD.out hgl hlt2 (j := jx) (by rw [HB.out, HM.out]; exact HJM.out) (by rw [← HUU.out]; omega)
            rw [HB.out, ← HUU.out] at hwk
            have HWE := Lib.hid hwk.1
            have HWN := Lib.hid hwk.2
            have HFT := Lib.hid (show a0 + us + (jx + 1) ≤ ss.length by omega)
            clear hwk hfit
            go_upto_region 33 with (fail)
            have HSd := Lib.hid (show Below wr.heap.size wr wr.drew from below_drewN (Below.refl _ _) 1)
            have HPC := Lib.hid (show IsBytes w (.slice none 0 c15) (Jn.pieceJ b jx) from by unfold Jn.pieceJ; rw [List.take_of_length_le (by rw [List.length_drop]; have := HN15.out; omega)]; exact HBY.out)
            have HKN := Lib.hid (kind_num (jx := jx) (m := m) HKV.out (kv + 2) (by have := HJN.out; have := HJM.out; split <;> omega))
            have HPL := Lib.hid (Jn.piece_le b jx)
            refine wp_region_noPanic ?_
            refine wp_region_U 13 (fun X => Below wr.heap.size wr X) (by kernel_rfl) ?_
            refine wpAnyU_takeD (i := 0) (v := .agg #[.slice A3 ss.length c3, .slice A4 n2 c4, .int .i64 left, .bool false]) 128 rfl rfl (by kernel_rfl) (by kernel_rfl) (by kernel_rfl) (by kernel_rfl) (by kernel_rfl) (by kernel_rfl) (fun _ _ _ h => h) (.inl ⟨rfl, fun X hX => ?_⟩) HSd.out ?_
            · have hz := (HWR.out.sb.upb hX).d; have z0 := hz.cell (k := 0) rfl; have z1 := hz.cell (k := 1) rfl; have z2 := hz.cell (k := 2) rfl; have z3 := hz.cell (k := 3) rfl; go_simp
            refine wpAnyU_takeD (i := 1) (v := .int .i64 ((a0 + us + jx : Nat) : Int)) 129 rfl rfl (by kernel_rfl) (by kernel_rfl) (by kernel_rfl) (by kernel_rfl) (by kernel_rfl) (by kernel_rfl) (fun _ _ _ h => h) (.inl ⟨rfl, fun X hX => ?_⟩) HSd.out ?_
            · go_simp
            refine wpAnyU_takeD (i := 2) (v := .int .u64 g) 130 rfl rfl (by kernel_rfl) (by kernel_rfl) (by kernel_rfl) (by kernel_rfl) (by kernel_rfl) (by kernel_rfl) (fun _ _ _ h => h) (.inl ⟨rfl, fun X hX => ?_⟩) HSd.out ?_
            · go_simp
            refine wpAnyU_takeD (i := 3) (v := .int .i64 ((a0 + us + jx : Nat) : Int)) 131 rfl rfl (by kernel_rfl) (by kernel_rfl) (by kernel_rfl) (by kernel_rfl) (by kernel_rfl) (by kernel_rfl) (fun _ _ _ h => h) (.inl ⟨rfl, fun X hX => ?_⟩) HSd.out ?_
            · go_simp
            refine wpAnyU_takeD (i := 4) (v := .int .u8 ((kv : Int) + 2)) 132 rfl rfl (by kernel_rfl) (by kernel_rfl) (by kernel_rfl) (by kernel_rfl) (by kernel_rfl) (by kernel_rfl) (fun _ _ _ h => h) (.inl ⟨rfl, fun X hX => ?_⟩) HSd.out ?_
            · go_simp
            refine wpAnyU_takeD (i := 5) (v := .slice none 0 c15) 133 rfl rfl (by kernel_rfl) (by kernel_rfl) (by kernel_rfl) (by kernel_rfl) (by kernel_rfl) (by kernel_rfl) (fun _ _ _ h => h) (.inl ⟨rfl, fun X hX => ?_⟩) HSd.out ?_
            · go_simp
            refine wpAnyU_takeD (i := 6) (v := .int .i64 (0 : Nat)) 134 rfl rfl (by kernel_rfl) (by kernel_rfl) (by kernel_rfl) (by kernel_rfl) (by kernel_rfl) (by kernel_rfl) (fun _ _ _ h => h) (.inl ⟨rfl, fun X hX => ?_⟩) HSd.out ?_
            · go_simp
            refine wpAnyU_takeD (i := 7) (v := .slice none 0 c15) 135 rfl rfl (by kernel_rfl) (by kernel_rfl) (by kernel_rfl) (by kernel_rfl) (by kernel_rfl) (by kernel_rfl) (fun _ _ _ h => h) (.inl ⟨rfl, fun X hX => ?_⟩) HSd.out ?_
            · go_simp
            refine wpAnyU_call (i := 8) 136 (by kernel_rfl) rfl rfl (by simp [Region.wanted, yielded, Act.put]) (.func 44) #[.tmp 130, .tmp 131, .tmp 132, .tmp 135] _ rfl 44 #[] rfl #[.int .u64 g, .int .i64 ((a0 + us + jx : Nat) : Int), .int .u8 ((kv : Int) + 2), .slice none 0 c15] (by simp [Act.eval, Act.put]) (enters_of Try.func44 (by kernel_rfl) rfl) (encode_q (s := Jn.secJ g (a0 + us) b jx) (HPC.out.upb (HWR.out.b.up HSd.out)) HPL.out hgl (by omega) HKN.out (by rw [← HM.out]; rfl)) ?_
            rintro e X ⟨As, cs, rfl, hs, hb⟩
            have HB8 := Lib.hid (HSd.out.up hb)
            have HSE := Lib.hid hs
            clear hs hb
            refine ⟨_, rfl, HB8.out, ?_⟩
            refine wpAnyU_call (i := 9) 137 (by kernel_rfl) rfl rfl (by simp [Region.wanted, yielded, Act.put]) (.func 26) #[.tmp 128, .tmp 129, .tmp 136] _ rfl 26 #[] rfl #[.agg #[.slice A3 ss.length c3, .slice A4 n2 c4, .int .i64 left, .bool false], .int .i64 ((a0 + us + jx : Nat) : Int), .slice As 128 cs] (by simp [Act.eval, Act.put]) (enters_of Try.func26 (by kernel_rfl) rfl) (Write_is (HWR.out.d.upb HB8.out) HSE.out HWE.out HWN.out) ?_
            rintro e Y ⟨A5, c5, A6, c6, rfl, hd, hb, hsec⟩
            have HB9 := Lib.hid (HB8.out.up hb)
            have HWS := Lib.hid (HWR.out.store (n1' := ss.length) (left' := left) (st' := false) HB9.out (show IsD Y (.agg #[.slice A5 ss.length c5, .slice A6 (Jn.wkD ss left g a0 rest i (jx + 1)).ps.length c6, .int .i64 left, .bool false]) (Jn.wkD ss left g a0 rest i (jx + 1)) from hd) (hsec.mono HB8.out.size))
            clear hd hb hsec
            refine ⟨.tuple #[.agg #[.slice A5 ss.length c5, .slice A6 (Jn.wkD ss left g a0 rest i (jx + 1)).ps.length c6, .int .i64 left, .bool false], .int .i64 0], rfl, HB9.out, ?_⟩
            refine wpAnyU_take0D (i := 10) (v := .tuple #[.agg #[.slice A5 ss.length c5, .slice A6 (Jn.wkD ss left g a0 rest i (jx + 1)).ps.length c6, .int .i64 left, .bool false], .int .i64 0]) 127 rfl rfl (by kernel_rfl) (by kernel_rfl) (by kernel_rfl) (by kernel_rfl) (fun _ _ _ h => h) (.inl ⟨rfl, fun X hX => by go_simp⟩) (fun _ => HB9.out) ?_
            refine wpAnyU_take0D (i := 11) (v := .agg #[.slice A5 ss.length c5, .slice A6 (Jn.wkD ss left g a0 rest i (jx + 1)).ps.length c6, .int .i64 left, .bool false]) 138 rfl rfl (by kernel_rfl) (by kernel_rfl) (by kernel_rfl) (by kernel_rfl) (fun _ _ _ h => h) (.inl ⟨rfl, fun X hX => by go_simp⟩) (fun _ => HB9.out) ?_
            refine wpAnyU_take0D (i := 12) (v := .int .i64 0) 139 rfl rfl (by kernel_rfl) (by kernel_rfl) (by kernel_rfl) (by kernel_rfl) (fun _ _ _ h => h) (.inl ⟨rfl, fun X hX => by go_simp⟩) (fun _ => HB9.out) ?_
            have hz := (HWR.out.sb.upb HB9.out).d
            have z0 := hz.cell (k := 0) rfl
            have f0 := hz.frozen 0
            have z1 := hz.cell (k := 1) rfl
            have f1 := hz.frozen 1
            have z2 := hz.cell (k := 2) rfl
            have f2 := hz.frozen 2
            have z3 := hz.cell (k := 3) rfl
            have f3 := hz.frozen 3
            have zl := hz.lt
            clear hz
            refine wpAnyU_one (i := 13) (by kernel_rfl) rfl (fun K hK => ?_)
            go_simp
            refine hK.out _ _ (fun h => absurd h (by decide)) (fun _ => ?_)
            clear hK K
            refine wpAnyU_one (i := 14) (by kernel_rfl) rfl (fun K hK => ?_)
            go_simp
            refine hK.out _ _ (fun h => absurd h (by decide)) (fun _ => ?_)
            clear hK K
            refine wpAnyU_done (by kernel_rfl) (NoPanic.normal ?_) _
            clear z0 f0 z1 f1 z2 f2 z3 f3 zl
            go_wp2_with (fail)
            go_roundw
            case rel => exact ⟨jx + 1, 0, 0, 0, _, _, _, A5, c5, A6, c6, rfl, congrArg (Value.int .i64) (by omega), rfl, rfl, rfl, HJN.out, HFT, Lib.hid (by simp), Lib.hid (by rw [List.drop_of_length_le (by have h1 := HN15.out; omega)]; exact bytes_nil), HWS⟩
            case measure => simp [intOf]
          case neg =>
            have hbd : ¬ (Dv.Run (Jn.wkD ss left g a0 rest i jx) ∧ Dv.Has (Jn.wkD ss left g a0 rest i jx) ((a0 + us + jx : Nat) : Int)) := fun hh => by
              have h1 := hh.2.2
              change ((a0 + us + jx : Nat) : Int) < (ss.length : Int) at h1
              omega
            have HWE := Lib.hid (Jn.wr_bad (s := Jn.secJ g (a0 + us) b jx) hbd).2
            have HWN := Lib.hid (Jn.wr_bad (s := Jn.secJ g (a0 + us) b jx) hbd).1
            clear hbd hfit
            go_upto_region 33 with (fail)
            have HSd := Lib.hid (show Below wr.heap.size wr wr.drew from below_drewN (Below.refl _ _) 1)
            have HPC := Lib.hid (show IsBytes w (.slice none 0 c15) (Jn.pieceJ b jx) from by unfold Jn.pieceJ; rw [List.take_of_length_le (by rw [List.length_drop]; have := HN15.out; omega)]; exact HBY.out)
            have HKN := Lib.hid (kind_num (jx := jx) (m := m) HKV.out (kv + 2) (by have := HJN.out; have := HJM.out; split <;> omega))
            have HPL := Lib.hid (Jn.piece_le b jx)
            refine wp_region_noPanic ?_
            refine wp_region_U 13 (fun X => Below wr.heap.size wr X) (by kernel_rfl) ?_
            refine wpAnyU_takeD (i := 0) (v := .agg #[.slice A3 ss.length c3, .slice A4 n2 c4, .int .i64 left, .bool false]) 128 rfl rfl (by kernel_rfl) (by kernel_rfl) (by kernel_rfl) (by kernel_rfl) (by kernel_rfl) (by kernel_rfl) (fun _ _ _ h => h) (.inl ⟨rfl, fun X hX => ?_⟩) HSd.out ?_
            · have hz := (HWR.out.sb.upb hX).d; have z0 := hz.cell (k := 0) rfl; have z1 := hz.cell (k := 1) rfl; have z2 := hz.cell (k := 2) rfl; have z3 := hz.cell (k := 3) rfl; go_simp
            refine wpAnyU_takeD (i := 1) (v := .int .i64 ((a0 + us + jx : Nat) : Int)) 129 rfl rfl (by kernel_rfl) (by kernel_rfl) (by kernel_rfl) (by kernel_rfl) (by kernel_rfl) (by kernel_rfl) (fun _ _ _ h => h) (.inl ⟨rfl, fun X hX => ?_⟩) HSd.out ?_
            · go_simp
            refine wpAnyU_takeD (i := 2) (v := .int .u64 g) 130 rfl rfl (by kernel_rfl) (by kernel_rfl) (by kernel_rfl) (by kernel_rfl) (by kernel_rfl) (by kernel_rfl) (fun _ _ _ h => h) (.inl ⟨rfl, fun X hX => ?_⟩) HSd.out ?_
            · go_simp
            refine wpAnyU_takeD (i := 3) (v := .int .i64 ((a0 + us + jx : Nat) : Int)) 131 rfl rfl (by kernel_rfl) (by kernel_rfl) (by kernel_rfl) (by kernel_rfl) (by kernel_rfl) (by kernel_rfl) (fun _ _ _ h => h) (.inl ⟨rfl, fun X hX => ?_⟩) HSd.out ?_
            · go_simp
            refine wpAnyU_takeD (i := 4) (v := .int .u8 ((kv : Int) + 2)) 132 rfl rfl (by kernel_rfl) (by kernel_rfl) (by kernel_rfl) (by kernel_rfl) (by kernel_rfl) (by kernel_rfl) (fun _ _ _ h => h) (.inl ⟨rfl, fun X hX => ?_⟩) HSd.out ?_
            · go_simp
            refine wpAnyU_takeD (i := 5) (v := .slice none 0 c15) 133 rfl rfl (by kernel_rfl) (by kernel_rfl) (by kernel_rfl) (by kernel_rfl) (by kernel_rfl) (by kernel_rfl) (fun _ _ _ h => h) (.inl ⟨rfl, fun X hX => ?_⟩) HSd.out ?_
            · go_simp
            refine wpAnyU_takeD (i := 6) (v := .int .i64 (0 : Nat)) 134 rfl rfl (by kernel_rfl) (by kernel_rfl) (by kernel_rfl) (by kernel_rfl) (by kernel_rfl) (by kernel_rfl) (fun _ _ _ h => h) (.inl ⟨rfl, fun X hX => ?_⟩) HSd.out ?_
            · go_simp
            refine wpAnyU_takeD (i := 7) (v := .slice none 0 c15) 135 rfl rfl (by kernel_rfl) (by kernel_rfl) (by kernel_rfl) (by kernel_rfl) (by kernel_rfl) (by kernel_rfl) (fun _ _ _ h => h) (.inl ⟨rfl, fun X hX => ?_⟩) HSd.out ?_
            · go_simp
            refine wpAnyU_call (i := 8) 136 (by kernel_rfl) rfl rfl (by simp [Region.wanted, yielded, Act.put]) (.func 44) #[.tmp 130, .tmp 131, .tmp 132, .tmp 135] _ rfl 44 #[] rfl #[.int .u64 g, .int .i64 ((a0 + us + jx : Nat) : Int), .int .u8 ((kv : Int) + 2), .slice none 0 c15] (by simp [Act.eval, Act.put]) (enters_of Try.func44 (by kernel_rfl) rfl) (encode_q (s := Jn.secJ g (a0 + us) b jx) (HPC.out.upb (HWR.out.b.up HSd.out)) HPL.out hgl (by omega) HKN.out (by rw [← HM.out]; rfl)) ?_
            rintro e X ⟨As, cs, rfl, hs, hb⟩
            have HB8 := Lib.hid (HSd.out.up hb)
            have HSE := Lib.hid hs
            clear hs hb
            refine ⟨_, rfl, HB8.out, ?_⟩
            refine wpAnyU_call (i := 9) 137 (by kernel_rfl) rfl rfl (by simp [Region.wanted, yielded, Act.put]) (.func 26) #[.tmp 128, .tmp 129, .tmp 136] _ rfl 26 #[] rfl #[.agg #[.slice A3 ss.length c3, .slice A4 n2 c4, .int .i64 left, .bool false], .int .i64 ((a0 + us + jx : Nat) : Int), .slice As 128 cs] (by simp [Act.eval, Act.put]) (enters_of Try.func26 (by kernel_rfl) rfl) (Write_is (HWR.out.d.upb HB8.out) HSE.out HWE.out HWN.out) ?_
            rintro e Y ⟨A5, c5, A6, c6, rfl, hd, hb, hsec⟩
            have HB9 := Lib.hid (HB8.out.up hb)
            have HWS := Lib.hid (HWR.out.store (n1' := 0) (left' := 0) (st' := false) HB9.out (show IsD Y (.agg #[.slice A5 0 c5, .slice A6 0 c6, .int .i64 0, .bool false]) d0 from hd) (hsec.mono HB8.out.size))
            clear hd hb hsec
            refine ⟨.tuple #[.agg #[.slice A5 0 c5, .slice A6 0 c6, .int .i64 0, .bool false], .int .i64 40], rfl, HB9.out, ?_⟩
            refine wpAnyU_take0D (i := 10) (v := .tuple #[.agg #[.slice A5 0 c5, .slice A6 0 c6, .int .i64 0, .bool false], .int .i64 40]) 127 rfl rfl (by kernel_rfl) (by kernel_rfl) (by kernel_rfl) (by kernel_rfl) (fun _ _ _ h => h) (.inl ⟨rfl, fun X hX => by go_simp⟩) (fun _ => HB9.out) ?_
            refine wpAnyU_take0D (i := 11) (v := .agg #[.slice A5 0 c5, .slice A6 0 c6, .int .i64 0, .bool false]) 138 rfl rfl (by kernel_rfl) (by kernel_rfl) (by kernel_rfl) (by kernel_rfl) (fun _ _ _ h => h) (.inl ⟨rfl, fun X hX => by go_simp⟩) (fun _ => HB9.out) ?_
            refine wpAnyU_take0D (i := 12) (v := .int .i64 40) 139 rfl rfl (by kernel_rfl) (by kernel_rfl) (by kernel_rfl) (by kernel_rfl) (fun _ _ _ h => h) (.inl ⟨rfl, fun X hX => by go_simp⟩) (fun _ => HB9.out) ?_
            have hz := (HWR.out.sb.upb HB9.out).d
            have z0 := hz.cell (k := 0) rfl
            have f0 := hz.frozen 0
            have z1 := hz.cell (k := 1) rfl
            have f1 := hz.frozen 1
            have z2 := hz.cell (k := 2) rfl
            have f2 := hz.frozen 2
            have z3 := hz.cell (k := 3) rfl
            have f3 := hz.frozen 3
            have zl := hz.lt
            clear hz
            refine wpAnyU_one (i := 13) (by kernel_rfl) rfl (fun K hK => ?_)
            go_simp
            refine hK.out _ _ (fun h => absurd h (by decide)) (fun _ => ?_)
            clear hK K
            refine wpAnyU_one (i := 14) (by kernel_rfl) rfl (fun K hK => ?_)
            go_simp
            refine hK.out _ _ (fun h => absurd h (by decide)) (fun _ => ?_)
            clear hK K
            refine wpAnyU_done (by kernel_rfl) (NoPanic.normal ?_) _
            clear z0 f0 z1 f1 z2 f2 z3 f3 zl
            obtain ⟨Yf, hYf⟩ : ∃ y, set4 Y (w.heap.size + 1) (.slice A5 0 c5) (.slice A6 0 c6) (.int .i64 0) (.bool false) = y := ⟨_, rfl⟩
            have hY2 := hYf
            rw [hYf] at HWS
            unfold set4 at hY2
            rw [hY2]
            clear hYf hY2
            have HSF := Lib.hid HWS.out.sb
            have HBF := Lib.hid HWS.out.b
            have lq0 := HSF.out.l.cell (k := 0) rfl
            have lq1 := HSF.out.l.cell (k := 1) rfl
            have lq2 := HSF.out.l.cell (k := 2) rfl
            have lf0 := HSF.out.l.frozen 0
            have lf1 := HSF.out.l.frozen 1
            have lf2 := HSF.out.l.frozen 2
            have ll := HSF.out.l.lt
            have dq0 := HSF.out.d.cell (k := 0) rfl
            have dq1 := HSF.out.d.cell (k := 1) rfl
            have dq2 := HSF.out.d.cell (k := 2) rfl
            have dq3 := HSF.out.d.cell (k := 3) rfl
            have df0 := HSF.out.d.frozen 0
            have df1 := HSF.out.d.frozen 1
            have df2 := HSF.out.d.frozen 2
            have df3 := HSF.out.d.frozen 3
            have dl := HSF.out.d.lt
            have xq0 := HSF.out.x.cell (k := 0) rfl
            have xq1 := HSF.out.x.cell (k := 1) rfl
            have xq2 := HSF.out.x.cell (k := 2) rfl
            have xf0 := HSF.out.x.frozen 0
            have xf1 := HSF.out.x.frozen 1
            have xf2 := HSF.out.x.frozen 2
            have xl := HSF.out.x.lt
            have yq0 := HSF.out.y.cell (k := 0) rfl
            have yq1 := HSF.out.y.cell (k := 1) rfl
            have yq2 := HSF.out.y.cell (k := 2) rfl
            have yq3 := HSF.out.y.cell (k := 3) rfl
            have yf0 := HSF.out.y.frozen 0
            have yf1 := HSF.out.y.frozen 1
            have yf2 := HSF.out.y.frozen 2
            have yf3 := HSF.out.y.frozen 3
            have yl := HSF.out.y.lt
            have hsne : ¬ (sy : Int) = (rs.length : Int) := by have := HALL.out; omega
            obtain rfl : e0 = 40 := by rw [← HE.out, HACC.out.err, if_neg hsne, HWX0.out]; unfold Dv.syE; exact if_neg Jn.not_run0
            obtain rfl : x0 = j0 := by rw [← HX.out]; unfold Jn.syncJX; rw [if_pos HACC.out, if_neg hsne, HWX0.out, if_neg (by unfold Dv.syE; rw [if_neg Jn.not_run0]; decide)]
            obtain rfl : y0' = d0 := by rw [← HY.out]; unfold Jn.syncDX; rw [if_pos HACC.out, if_neg hsne, HWX0.out]; unfold Dv.sy; exact if_neg Jn.not_run0
            clear hsne
            go_wp2_with (fail)
            refine bodyPost_ret (jd_out rfl rfl rfl rfl ((HSF.out.x.set3 (.slice none 0 0) (.int .i64 0) (.int .i64 0)).grownSame (grown_set4 _ _ _ _ _ _) (by omega)) ((HSF.out.y.grownSame (grown_set3 _ (w.heap.size + 2) (.slice none 0 0) (.int .i64 0) (.int .i64 0)) (by omega)).set4 (.slice none 0 0) (.slice none 0 0) (.int .i64 0) (.bool false))) rfl ?_
            exact ⟨_, _, rfl, IsJ.zero, IsD.zero, below_set4 (below_set3 HBF.out (by omega) _ _ _) (by omega) _ _ _ _, secJ_nil, sec_nil⟩
        | some ad =>
        by_cases hlast : nn = 1
        case pos =>
          subst hlast
          have hn112 : n15 ≤ 112 := by
            have h1 := HN15.out
            have h2 := HM.out
            have h3 := HJN.out
            unfold Jn.nsec at h2
            omega
          have hmi1 : ¬ ((112 : Int) < (n15 : Int)) := by omega
          have hor : bits .or .u8 (kv : Int) 2 = ((kv + 2 : Nat) : Int) := by have := HKV.out; split at this <;> subst this <;> first | rfl | decide
          have h11 : ((1 : Int) == 1) = true := rfl
          by_cases hfit : a0 + us + jx < ss.length
          case pos =>
            have hwk := Jn.wk_write2 (a0 := a0) HOKD.out hgl hlt2 (j := jx) (by rw [HB.out, HM.out]; exact HJM.out) (by rw [← HUU.out]; omega)
            rw [HB.out, ← HUU.out] at hwk
            have HWE := Lib.hid hwk.1
            have HWN := Lib.hid hwk.2
            have HFT := Lib.hid (show a0 + us + (jx + 1) ≤ ss.length by omega)
            clear hwk hfit
            go_upto_region 33 with (fail)
            have HSd := Lib.hid (show Below wr.heap.size wr wr.drew from below_drewN (Below.refl _ _) 1)
            have HPC := Lib.hid (show IsBytes w (.slice (some ad) n15 c15) (Jn.pieceJ b jx) from by unfold Jn.pieceJ; rw [List.take_of_length_le (by rw [List.length_drop]; have := HN15.out; omega)]; exact HBY.out)
            have HKN := Lib.hid (kind_num (jx := jx) (m := m) HKV.out (kv + 2) (by have := HJN.out; have := HJM.out; split <;> omega))
            have HPL := Lib.hid (Jn.piece_le b jx)
            refine wp_region_noPanic ?_
            refine wp_region_U 13 (fun X => Below wr.heap.size wr X) (by kernel_rfl) ?_
            refine wpAnyU_takeD (i := 0) (v := .agg #[.slice A3 ss.length c3, .slice A4 n2 c4, .int .i64 left, .bool false]) 128 rfl rfl (by kernel_rfl) (by kernel_rfl) (by kernel_rfl) (by kernel_rfl) (by kernel_rfl) (by kernel_rfl) (fun _ _ _ h => h) (.inl ⟨rfl, fun X hX => ?_⟩) HSd.out ?_
            · have hz := (HWR.out.sb.upb hX).d; have z0 := hz.cell (k := 0) rfl; have z1 := hz.cell (k := 1) rfl; have z2 := hz.cell (k := 2) rfl; have z3 := hz.cell (k := 3) rfl; go_simp
            refine wpAnyU_takeD (i := 1) (v := .int .i64 ((a0 + us + jx : Nat) : Int)) 129 rfl rfl (by kernel_rfl) (by kernel_rfl) (by kernel_rfl) (by kernel_rfl) (by kernel_rfl) (by kernel_rfl) (fun _ _ _ h => h) (.inl ⟨rfl, fun X hX => ?_⟩) HSd.out ?_
            · go_simp
            refine wpAnyU_takeD (i := 2) (v := .int .u64 g) 130 rfl rfl (by kernel_rfl) (by kernel_rfl) (by kernel_rfl) (by kernel_rfl) (by kernel_rfl) (by kernel_rfl) (fun _ _ _ h => h) (.inl ⟨rfl, fun X hX => ?_⟩) HSd.out ?_
            · go_simp
            refine wpAnyU_takeD (i := 3) (v := .int .i64 ((a0 + us + jx : Nat) : Int)) 131 rfl rfl (by kernel_rfl) (by kernel_rfl) (by kernel_rfl) (by kernel_rfl) (by kernel_rfl) (by kernel_rfl) (fun _ _ _ h => h) (.inl ⟨rfl, fun X hX => ?_⟩) HSd.out ?_
            · go_simp
            refine wpAnyU_takeD (i := 4) (v := .int .u8 ((kv : Int) + 2)) 132 rfl rfl (by kernel_rfl) (by kernel_rfl) (by kernel_rfl) (by kernel_rfl) (by kernel_rfl) (by kernel_rfl) (fun _ _ _ h => h) (.inl ⟨rfl, fun X hX => ?_⟩) HSd.out ?_
            · go_simp
            refine wpAnyU_takeD (i := 5) (v := .slice (some ad) n15 c15) 133 rfl rfl (by kernel_rfl) (by kernel_rfl) (by kernel_rfl) (by kernel_rfl) (by kernel_rfl) (by kernel_rfl) (fun _ _ _ h => h) (.inl ⟨rfl, fun X hX => ?_⟩) HSd.out ?_
            · go_simp
            refine wpAnyU_takeD (i := 6) (v := .int .i64 (n15 : Nat)) 134 rfl rfl (by kernel_rfl) (by kernel_rfl) (by kernel_rfl) (by kernel_rfl) (by kernel_rfl) (by kernel_rfl) (fun _ _ _ h => h) (.inl ⟨rfl, fun X hX => ?_⟩) HSd.out ?_
            · go_simp
            refine wpAnyU_takeD (i := 7) (v := .slice (some ad) n15 c15) 135 rfl rfl (by kernel_rfl) (by kernel_rfl) (by kernel_rfl) (by kernel_rfl) (by kernel_rfl) (by kernel_rfl) (fun _ _ _ h => h) (.inl ⟨rfl, fun X hX => ?_⟩) HSd.out ?_
            · go_simp
            refine wpAnyU_call (i := 8) 136 (by kernel_rfl) rfl rfl (by simp [Region.wanted, yielded, Act.put]) (.func 44) #[.tmp 130, .tmp 131, .tmp 132, .tmp 135] _ rfl 44 #[] rfl #[.int .u64 g, .int .i64 ((a0 + us + jx : Nat) : Int), .int .u8 ((kv : Int) + 2), .slice (some ad) n15 c15] (by simp [Act.eval, Act.put]) (enters_of Try.func44 (by kernel_rfl) rfl) (encode_q (s := Jn.secJ g (a0 + us) b jx) (HPC.out.upb (HWR.out.b.up HSd.out)) HPL.out hgl (by omega) HKN.out (by rw [← HM.out]; rfl)) ?_
            rintro e X ⟨As, cs, rfl, hs, hb⟩
            have HB8 := Lib.hid (HSd.out.up hb)
            have HSE := Lib.hid hs
            clear hs hb
            refine ⟨_, rfl, HB8.out, ?_⟩
            refine wpAnyU_call (i := 9) 137 (by kernel_rfl) rfl rfl (by simp [Region.wanted, yielded, Act.put]) (.func 26) #[.tmp 128, .tmp 129, .tmp 136] _ rfl 26 #[] rfl #[.agg #[.slice A3 ss.length c3, .slice A4 n2 c4, .int .i64 left, .bool false], .int .i64 ((a0 + us + jx : Nat) : Int), .slice As 128 cs] (by simp [Act.eval, Act.put]) (enters_of Try.func26 (by kernel_rfl) rfl) (Write_is (HWR.out.d.upb HB8.out) HSE.out HWE.out HWN.out) ?_
            rintro e Y ⟨A5, c5, A6, c6, rfl, hd, hb, hsec⟩
            have HB9 := Lib.hid (HB8.out.up hb)
            have HWS := Lib.hid (HWR.out.store (n1' := ss.length) (left' := left) (st' := false) HB9.out (show IsD Y (.agg #[.slice A5 ss.length c5, .slice A6 (Jn.wkD ss left g a0 rest i (jx + 1)).ps.length c6, .int .i64 left, .bool false]) (Jn.wkD ss left g a0 rest i (jx + 1)) from hd) (hsec.mono HB8.out.size))
            clear hd hb hsec
            refine ⟨.tuple #[.agg #[.slice A5 ss.length c5, .slice A6 (Jn.wkD ss left g a0 rest i (jx + 1)).ps.length c6, .int .i64 left, .bool false], .int .i64 0], rfl, HB9.out, ?_⟩
            refine wpAnyU_take0D (i := 10) (v := .tuple #[.agg #[.slice A5 ss.length c5, .slice A6 (Jn.wkD ss left g a0 rest i (jx + 1)).ps.length c6, .int .i64 left, .bool false], .int .i64 0]) 127 rfl rfl (by kernel_rfl) (by kernel_rfl) (by kernel_rfl) (by kernel_rfl) (fun _ _ _ h => h) (.inl ⟨rfl, fun X hX => by go_simp⟩) (fun _ => HB9.out) ?_
            refine wpAnyU_take0D (i := 11) (v := .agg #[.slice A5 ss.length c5, .slice A6 (Jn.wkD ss left g a0 rest i (jx + 1)).ps.length c6, .int .i64 left, .bool false]) 138 rfl rfl (by kernel_rfl) (by kernel_rfl) (by kernel_rfl) (by kernel_rfl) (fun _ _ _ h => h) (.inl ⟨rfl, fun X hX => by go_simp⟩) (fun _ => HB9.out) ?_
            refine wpAnyU_take0D (i := 12) (v := .int .i64 0) 139 rfl rfl (by kernel_rfl) (by kernel_rfl) (by kernel_rfl) (by kernel_rfl) (fun _ _ _ h => h) (.inl ⟨rfl, fun X hX => by go_simp⟩) (fun _ => HB9.out) ?_
            have hz := (HWR.out.sb.upb HB9.out).d
            have z0 := hz.cell (k := 0) rfl
            have f0 := hz.frozen 0
            have z1 := hz.cell (k := 1) rfl
            have f1 := hz.frozen 1
            have z2 := hz.cell (k := 2) rfl
            have f2 := hz.frozen 2
            have z3 := hz.cell (k := 3) rfl
            have f3 := hz.frozen 3
            have zl := hz.lt
            clear hz
            refine wpAnyU_one (i := 13) (by kernel_rfl) rfl (fun K hK => ?_)
            go_simp
            refine hK.out _ _ (fun h => absurd h (by decide)) (fun _ => ?_)
            clear hK K
            refine wpAnyU_one (i := 14) (by kernel_rfl) rfl (fun K hK => ?_)
            go_simp
            refine hK.out _ _ (fun h => absurd h (by decide)) (fun _ => ?_)
            clear hK K
            refine wpAnyU_done (by kernel_rfl) (NoPanic.normal ?_) _
            clear z0 f0 z1 f1 z2 f2 z3 f3 zl
            go_wp2_with (fail)
            go_roundw
            case rel => exact ⟨jx + 1, 0, 0, 0, _, _, _, A5, c5, A6, c6, rfl, congrArg (Value.int .i64) (by omega), rfl, rfl, rfl, HJN.out, HFT, Lib.hid (by simp), Lib.hid (by rw [List.drop_of_length_le (by have h1 := HN15.out; omega)]; exact bytes_nil), HWS⟩
            case measure => simp [intOf]
          case neg =>
            have hbd : ¬ (Dv.Run (Jn.wkD ss left g a0 rest i jx) ∧ Dv.Has (Jn.wkD ss left g a0 rest i jx) ((a0 + us + jx : Nat) : Int)) := fun hh => by
              have h1 := hh.2.2
              change ((a0 + us + jx : Nat) : Int) < (ss.length : Int) at h1
              omega
            have HWE := Lib.hid (Jn.wr_bad (s := Jn.secJ g (a0 + us) b jx) hbd).2
            have HWN := Lib.hid (Jn.wr_bad (s := Jn.secJ g (a0 + us) b jx) hbd).1
            clear hbd hfit
            go_upto_region 33 with (fail)
            have HSd := Lib.hid (show Below wr.heap.size wr wr.drew from below_drewN (Below.refl _ _) 1)
            have HPC := Lib.hid (show IsBytes w (.slice (some ad) n15 c15) (Jn.pieceJ b jx) from by unfold Jn.pieceJ; rw [List.take_of_length_le (by rw [List.length_drop]; have := HN15.out; omega)]; exact HBY.out)
            have HKN := Lib.hid (kind_num (jx := jx) (m := m) HKV.out (kv + 2) (by have := HJN.out; have := HJM.out; split <;> omega))
            have HPL := Lib.hid (Jn.piece_le b jx)
            refine wp_region_noPanic ?_
            refine wp_region_U 13 (fun X => Below wr.heap.size wr X) (by kernel_rfl) ?_
            refine wpAnyU_takeD (i := 0) (v := .agg #[.slice A3 ss.length c3, .slice A4 n2 c4, .int .i64 left, .bool false]) 128 rfl rfl (by kernel_rfl) (by kernel_rfl) (by kernel_rfl) (by kernel_rfl) (by kernel_rfl) (by kernel_rfl) (fun _ _ _ h => h) (.inl ⟨rfl, fun X hX => ?_⟩) HSd.out ?_
            · have hz := (HWR.out.sb.upb hX).d; have z0 := hz.cell (k := 0) rfl; have z1 := hz.cell (k := 1) rfl; have z2 := hz.cell (k := 2) rfl; have z3 := hz.cell (k := 3) rfl; go_simp
            refine wpAnyU_takeD (i := 1) (v := .int .i64 ((a0 + us + jx : Nat) : Int)) 129 rfl rfl (by kernel_rfl) (by kernel_rfl) (by kernel_rfl) (by kernel_rfl) (by kernel_rfl) (by kernel_rfl) (fun _ _ _ h => h) (.inl ⟨rfl, fun X hX => ?_⟩) HSd.out ?_
            · go_simp
            refine wpAnyU_takeD (i := 2) (v := .int .u64 g) 130 rfl rfl (by kernel_rfl) (by kernel_rfl) (by kernel_rfl) (by kernel_rfl) (by kernel_rfl) (by kernel_rfl) (fun _ _ _ h => h) (.inl ⟨rfl, fun X hX => ?_⟩) HSd.out ?_
            · go_simp
            refine wpAnyU_takeD (i := 3) (v := .int .i64 ((a0 + us + jx : Nat) : Int)) 131 rfl rfl (by kernel_rfl) (by kernel_rfl) (by kernel_rfl) (by kernel_rfl) (by kernel_rfl) (by kernel_rfl) (fun _ _ _ h => h) (.inl ⟨rfl, fun X hX => ?_⟩) HSd.out ?_
            · go_simp
            refine wpAnyU_takeD (i := 4) (v := .int .u8 ((kv : Int) + 2)) 132 rfl rfl (by kernel_rfl) (by kernel_rfl) (by kernel_rfl) (by kernel_rfl) (by kernel_rfl) (by kernel_rfl) (fun _ _ _ h => h) (.inl ⟨rfl, fun X hX => ?_⟩) HSd.out ?_
            · go_simp
            refine wpAnyU_takeD (i := 5) (v := .slice (some ad) n15 c15) 133 rfl rfl (by kernel_rfl) (by kernel_rfl) (by kernel_rfl) (by kernel_rfl) (by kernel_rfl) (by kernel_rfl) (fun _ _ _ h => h) (.inl ⟨rfl, fun X hX => ?_⟩) HSd.out ?_
            · go_simp
            refine wpAnyU_takeD (i := 6) (v := .int .i64 (n15 : Nat)) 134 rfl rfl (by kernel_rfl) (by kernel_rfl) (by kernel_rfl) (by kernel_rfl) (by kernel_rfl) (by kernel_rfl) (fun _ _ _ h => h) (.inl ⟨rfl, fun X hX => ?_⟩) HSd.out ?_
            · go_simp
            refine wpAnyU_takeD (i := 7) (v := .slice (some ad) n15 c15) 135 rfl rfl (by kernel_rfl) (by kernel_rfl) (by kernel_rfl) (by kernel_rfl) (by kernel_rfl) (by kernel_rfl) (fun _ _ _ h => h) (.inl ⟨rfl, fun X hX => ?_⟩) HSd.out ?_
            · go_simp
            refine wpAnyU_call (i := 8) 136 (by kernel_rfl) rfl rfl (by simp [Region.wanted, yielded, Act.put]) (.func 44) #[.tmp 130, .tmp 131, .tmp 132, .tmp 135] _ rfl 44 #[] rfl #[.int .u64 g, .int .i64 ((a0 + us + jx : Nat) : Int), .int .u8 ((kv : Int) + 2), .slice (some ad) n15 c15] (by simp [Act.eval, Act.put]) (enters_of Try.func44 (by kernel_rfl) rfl) (encode_q (s := Jn.secJ g (a0 + us) b jx) (HPC.out.upb (HWR.out.b.up HSd.out)) HPL.out hgl (by omega) HKN.out (by rw [← HM.out]; rfl)) ?_
            rintro e X ⟨As, cs, rfl, hs, hb⟩
            have HB8 := Lib.hid (HSd.out.up hb)
            have HSE := Lib.hid hs
            clear hs hb
            refine ⟨_, rfl, HB8.out, ?_⟩
            refine wpAnyU_call (i := 9) 137 (by kernel_rfl) rfl rfl (by simp [Region.wanted, yielded, Act.put]) (.func 26) #[.tmp 128, .tmp 129, .tmp 136] _ rfl 26 #[] rfl #[.agg #[.slice A3 ss.length c3, .slice A4 n2 c4, .int .i64 left, .bool false], .int .i64 ((a0 + us + jx : Nat) : Int), .slice As 128 cs] (by simp [Act.eval, Act.put]) (enters_of Try.func26 (by kernel_rfl) rfl) (Write_is (HWR.out.d.upb HB8.out) HSE.out HWE.out HWN.out) ?_
            rintro e Y ⟨A5, c5, A6, c6, rfl, hd, hb, hsec⟩
            have HB9 := Lib.hid (HB8.out.up hb)
            have HWS := Lib.hid (HWR.out.store (n1' := 0) (left' := 0) (st' := false) HB9.out (show IsD Y (.agg #[.slice A5 0 c5, .slice A6 0 c6, .int .i64 0, .bool false]) d0 from hd) (hsec.mono HB8.out.size))
            clear hd hb hsec
            refine ⟨.tuple #[.agg #[.slice A5 0 c5, .slice A6 0 c6, .int .i64 0, .bool false], .int .i64 40], rfl, HB9.out, ?_⟩
            refine wpAnyU_take0D (i := 10) (v := .tuple #[.agg #[.slice A5 0 c5, .slice A6 0 c6, .int .i64 0, .bool false], .int .i64 40]) 127 rfl rfl (by kernel_rfl) (by kernel_rfl) (by kernel_rfl) (by kernel_rfl) (fun _ _ _ h => h) (.inl ⟨rfl, fun X hX => by go_simp⟩) (fun _ => HB9.out) ?_
            refine wpAnyU_take0D (i := 11) (v := .agg #[.slice A5 0 c5, .slice A6 0 c6, .int .i64 0, .bool false]) 138 rfl rfl (by kernel_rfl) (by kernel_rfl) (by kernel_rfl) (by kernel_rfl) (fun _ _ _ h => h) (.inl ⟨rfl, fun X hX => by go_simp⟩) (fun _ => HB9.out) ?_
            refine wpAnyU_take0D (i := 12) (v := .int .i64 40) 139 rfl rfl (by kernel_rfl) (by kernel_rfl) (by kernel_rfl) (by kernel_rfl) (fun _ _ _ h => h) (.inl ⟨rfl, fun X hX => by go_simp⟩) (fun _ => HB9.out) ?_
            have hz := (HWR.out.sb.upb HB9.out).d
            have z0 := hz.cell (k := 0) rfl
            have f0 := hz.frozen 0
            have z1 := hz.cell (k := 1) rfl
            have f1 := hz.frozen 1
            have z2 := hz.cell (k := 2) rfl
            have f2 := hz.frozen 2
            have z3 := hz.cell (k := 3) rfl
            have f3 := hz.frozen 3
            have zl := hz.lt
            clear hz
            refine wpAnyU_one (i := 13) (by kernel_rfl) rfl (fun K hK => ?_)
            go_simp
            refine hK.out _ _ (fun h => absurd h (by decide)) (fun _ => ?_)
            clear hK K
            refine wpAnyU_one (i := 14) (by kernel_rfl) rfl (fun K hK => ?_)
            go_simp
            refine hK.out _ _ (fun h => absurd h (by decide)) (fun _ => ?_)
            clear hK K
            refine wpAnyU_done (by kernel_rfl) (NoPanic.normal ?_) _
            clear z0 f0 z1 f1 z2 f2 z3 f3 zl
            obtain ⟨Yf, hYf⟩ : ∃ y, set4 Y (w.heap.size + 1) (.slice A5 0 c5) (.slice A6 0 c6) (.int .i64 0) (.bool false) = y := ⟨_, rfl⟩
            have hY2 := hYf
            rw [hYf] at HWS
            unfold set4 at hY2
            rw [hY2]
            clear hYf hY2
            have HSF := Lib.hid HWS.out.sb
            have HBF := Lib.hid HWS.out.b
            have lq0 := HSF.out.l.cell (k := 0) rfl
            have lq1 := HSF.out.l.cell (k := 1) rfl
            have lq2 := HSF.out.l.cell (k := 2) rfl
            have lf0 := HSF.out.l.frozen 0
            have lf1 := HSF.out.l.frozen 1
            have lf2 := HSF.out.l.frozen 2
            have ll := HSF.out.l.lt
            have dq0 := HSF.out.d.cell (k := 0) rfl
            have dq1 := HSF.out.d.cell (k := 1) rfl
            have dq2 := HSF.out.d.cell (k := 2) rfl
            have dq3 := HSF.out.d.cell (k := 3) rfl
            have df0 := HSF.out.d.frozen 0
            have df1 := HSF.out.d.frozen 1
            have df2 := HSF.out.d.frozen 2
            have df3 := HSF.out.d.frozen 3
            have dl := HSF.out.d.lt
            have xq0 := HSF.out.x.cell (k := 0) rfl
            have xq1 := HSF.out.x.cell (k := 1) rfl
            have xq2 := HSF.out.x.cell (k := 2) rfl
            have xf0 := HSF.out.x.frozen 0
            have xf1 := HSF.out.x.frozen 1
            have xf2 := HSF.out.x.frozen 2
            have xl := HSF.out.x.lt
            have yq0 := HSF.out.y.cell (k := 0) rfl
            have yq1 := HSF.out.y.cell (k := 1) rfl
            have yq2 := HSF.out.y.cell (k := 2) rfl
            have yq3 := HSF.out.y.cell (k := 3) rfl
            have yf0 := HSF.out.y.frozen 0
            have yf1 := HSF.out.y.frozen 1
            have yf2 := HSF.out.y.frozen 2
            have yf3 := HSF.out.y.frozen 3
            have yl := HSF.out.y.lt
            have hsne : ¬ (sy : Int) = (rs.length : Int) := by have := HALL.out; omega
            obtain rfl : e0 = 40 := by rw [← HE.out, HACC.out.err, if_neg hsne, HWX0.out]; unfold Dv.syE; exact if_neg Jn.not_run0
            obtain rfl : x0 = j0 := by rw [← HX.out]; unfold Jn.syncJX; rw [if_pos HACC.out, if_neg hsne, HWX0.out, if_neg (by unfold Dv.syE; rw [if_neg Jn.not_run0]; decide)]
            obtain rfl : y0' = d0 := by rw [← HY.out]; unfold Jn.syncDX; rw [if_pos HACC.out, if_neg hsne, HWX0.out]; unfold Dv.sy; exact if_neg Jn.not_run0
            clear hsne
            go_wp2_with (fail)
            refine bodyPost_ret (jd_out rfl rfl rfl rfl ((HSF.out.x.set3 (.slice none 0 0) (.int .i64 0) (.int .i64 0)).grownSame (grown_set4 _ _ _ _ _ _) (by omega)) ((HSF.out.y.grownSame (grown_set3 _ (w.heap.size + 2) (.slice none 0 0) (.int .i64 0) (.int .i64 0)) (by omega)).set4 (.slice none 0 0) (.slice none 0 0) (.int .i64 0) (.bool false))) rfl ?_
            exact ⟨_, _, rfl, IsJ.zero, IsD.zero, below_set4 (below_set3 HBF.out (by omega) _ _ _) (by omega) _ _ _ _, secJ_nil, sec_nil⟩
        case neg =>
          have hn113 : 113 ≤ n15 := by
            have h1 := HN15.out
            have h2 := HM.out
            have h3 := HJN.out
            unfold Jn.nsec at h2
            omega
          obtain ⟨b2, off2, had⟩ := bytes_ad HBY.out (by intro h0; have := congrArg List.length h0; rw [List.length_drop] at this; have := HN15.out; simp at *; omega)
          subst had
          have hmi1 : (112 : Int) < (n15 : Int) := by omega
          have hc112 : ¬ c15 = 112 := by omega
          have hlc1 : ¬ ((c15 : Int) < 112) := by omega
          have hlc2 : 112 ≤ c15 := by omega
          have h11 : ((nn : Int) == 1) = false := by rw [beq_eq_false_iff_ne]; omega
          have h12 : (nn == 1) = false := by rw [beq_eq_false_iff_ne]; exact hlast
          by_cases hfit : a0 + us + jx < ss.length
          case pos =>
            have hwk := Jn.wk_write2 (a0 := a0) HOKD.out hgl hlt2 (j := jx) (by rw [HB.out, HM.out]; exact HJM.out) (by rw [← HUU.out]; omega)
            rw [HB.out, ← HUU.out] at hwk
            have HWE := Lib.hid hwk.1
            have HWN := Lib.hid hwk.2
            have HFT := Lib.hid (show a0 + us + (jx + 1) ≤ ss.length by omega)
            clear hwk hfit
            go_upto_region 33 with (fail)
            have HSd := Lib.hid (show Below wr.heap.size wr wr.drew from below_drewN (Below.refl _ _) 1)
            have HPC := Lib.hid (show IsBytes w (.slice (some ⟨b2, off2, none⟩) 112 c15) (Jn.pieceJ b jx) from by exact bytes_takeN HBY.out (by rw [List.length_drop]; have := HN15.out; omega) (by omega))
            have HKN := Lib.hid (kind_num (jx := jx) (m := m) HKV.out (kv) (by have := HJN.out; have := HJM.out; split <;> omega))
            have HPL := Lib.hid (Jn.piece_le b jx)
            refine wp_region_noPanic ?_
            refine wp_region_U 13 (fun X => Below wr.heap.size wr X) (by kernel_rfl) ?_
            refine wpAnyU_takeD (i := 0) (v := .agg #[.slice A3 ss.length c3, .slice A4 n2 c4, .int .i64 left, .bool false]) 128 rfl rfl (by kernel_rfl) (by kernel_rfl) (by kernel_rfl) (by kernel_rfl) (by kernel_rfl) (by kernel_rfl) (fun _ _ _ h => h) (.inl ⟨rfl, fun X hX => ?_⟩) HSd.out ?_
            · have hz := (HWR.out.sb.upb hX).d; have z0 := hz.cell (k := 0) rfl; have z1 := hz.cell (k := 1) rfl; have z2 := hz.cell (k := 2) rfl; have z3 := hz.cell (k := 3) rfl; go_simp
            refine wpAnyU_takeD (i := 1) (v := .int .i64 ((a0 + us + jx : Nat) : Int)) 129 rfl rfl (by kernel_rfl) (by kernel_rfl) (by kernel_rfl) (by kernel_rfl) (by kernel_rfl) (by kernel_rfl) (fun _ _ _ h => h) (.inl ⟨rfl, fun X hX => ?_⟩) HSd.out ?_
            · go_simp
            refine wpAnyU_takeD (i := 2) (v := .int .u64 g) 130 rfl rfl (by kernel_rfl) (by kernel_rfl) (by kernel_rfl) (by kernel_rfl) (by kernel_rfl) (by kernel_rfl) (fun _ _ _ h => h) (.inl ⟨rfl, fun X hX => ?_⟩) HSd.out ?_
            · go_simp
            refine wpAnyU_takeD (i := 3) (v := .int .i64 ((a0 + us + jx : Nat) : Int)) 131 rfl rfl (by kernel_rfl) (by kernel_rfl) (by kernel_rfl) (by kernel_rfl) (by kernel_rfl) (by kernel_rfl) (fun _ _ _ h => h) (.inl ⟨rfl, fun X hX => ?_⟩) HSd.out ?_
            · go_simp
            refine wpAnyU_takeD (i := 4) (v := .int .u8 (kv : Int)) 132 rfl rfl (by kernel_rfl) (by kernel_rfl) (by kernel_rfl) (by kernel_rfl) (by kernel_rfl) (by kernel_rfl) (fun _ _ _ h => h) (.inl ⟨rfl, fun X hX => ?_⟩) HSd.out ?_
            · go_simp
            refine wpAnyU_takeD (i := 5) (v := .slice (some ⟨b2, off2, none⟩) n15 c15) 133 rfl rfl (by kernel_rfl) (by kernel_rfl) (by kernel_rfl) (by kernel_rfl) (by kernel_rfl) (by kernel_rfl) (fun _ _ _ h => h) (.inl ⟨rfl, fun X hX => ?_⟩) HSd.out ?_
            · go_simp
            refine wpAnyU_takeD (i := 6) (v := .int .i64 (112 : Nat)) 134 rfl rfl (by kernel_rfl) (by kernel_rfl) (by kernel_rfl) (by kernel_rfl) (by kernel_rfl) (by kernel_rfl) (fun _ _ _ h => h) (.inl ⟨rfl, fun X hX => ?_⟩) HSd.out ?_
            · go_simp
            refine wpAnyU_takeD (i := 7) (v := .slice (some ⟨b2, off2, none⟩) 112 c15) 135 rfl rfl (by kernel_rfl) (by kernel_rfl) (by kernel_rfl) (by kernel_rfl) (by kernel_rfl) (by kernel_rfl) (fun _ _ _ h => h) (.inl ⟨rfl, fun X hX => ?_⟩) HSd.out ?_
            · go_simp
            refine wpAnyU_call (i := 8) 136 (by kernel_rfl) rfl rfl (by simp [Region.wanted, yielded, Act.put]) (.func 44) #[.tmp 130, .tmp 131, .tmp 132, .tmp 135] _ rfl 44 #[] rfl #[.int .u64 g, .int .i64 ((a0 + us + jx : Nat) : Int), .int .u8 (kv : Int), .slice (some ⟨b2, off2, none⟩) 112 c15] (by simp [Act.eval, Act.put]) (enters_of Try.func44 (by kernel_rfl) rfl) (encode_q (s := Jn.secJ g (a0 + us) b jx) (HPC.out.upb (HWR.out.b.up HSd.out)) HPL.out hgl (by omega) HKN.out (by rw [← HM.out]; rfl)) ?_
            rintro e X ⟨As, cs, rfl, hs, hb⟩
            have HB8 := Lib.hid (HSd.out.up hb)
            have HSE := Lib.hid hs
            clear hs hb
            refine ⟨_, rfl, HB8.out, ?_⟩
            refine wpAnyU_call (i := 9) 137 (by kernel_rfl) rfl rfl (by simp [Region.wanted, yielded, Act.put]) (.func 26) #[.tmp 128, .tmp 129, .tmp 136] _ rfl 26 #[] rfl #[.agg #[.slice A3 ss.length c3, .slice A4 n2 c4, .int .i64 left, .bool false], .int .i64 ((a0 + us + jx : Nat) : Int), .slice As 128 cs] (by simp [Act.eval, Act.put]) (enters_of Try.func26 (by kernel_rfl) rfl) (Write_is (HWR.out.d.upb HB8.out) HSE.out HWE.out HWN.out) ?_
            rintro e Y ⟨A5, c5, A6, c6, rfl, hd, hb, hsec⟩
            have HB9 := Lib.hid (HB8.out.up hb)
            have HWS := Lib.hid (HWR.out.store (n1' := ss.length) (left' := left) (st' := false) HB9.out (show IsD Y (.agg #[.slice A5 ss.length c5, .slice A6 (Jn.wkD ss left g a0 rest i (jx + 1)).ps.length c6, .int .i64 left, .bool false]) (Jn.wkD ss left g a0 rest i (jx + 1)) from hd) (hsec.mono HB8.out.size))
            clear hd hb hsec
            refine ⟨.tuple #[.agg #[.slice A5 ss.length c5, .slice A6 (Jn.wkD ss left g a0 rest i (jx + 1)).ps.length c6, .int .i64 left, .bool false], .int .i64 0], rfl, HB9.out, ?_⟩
            refine wpAnyU_take0D (i := 10) (v := .tuple #[.agg #[.slice A5 ss.length c5, .slice A6 (Jn.wkD ss left g a0 rest i (jx + 1)).ps.length c6, .int .i64 left, .bool false], .int .i64 0]) 127 rfl rfl (by kernel_rfl) (by kernel_rfl) (by kernel_rfl) (by kernel_rfl) (fun _ _ _ h => h) (.inl ⟨rfl, fun X hX => by go_simp⟩) (fun _ => HB9.out) ?_
            refine wpAnyU_take0D (i := 11) (v := .agg #[.slice A5 ss.length c5, .slice A6 (Jn.wkD ss left g a0 rest i (jx + 1)).ps.length c6, .int .i64 left, .bool false]) 138 rfl rfl (by kernel_rfl) (by kernel_rfl) (by kernel_rfl) (by kernel_rfl) (fun _ _ _ h => h) (.inl ⟨rfl, fun X hX => by go_simp⟩) (fun _ => HB9.out) ?_
            refine wpAnyU_take0D (i := 12) (v := .int .i64 0) 139 rfl rfl (by kernel_rfl) (by kernel_rfl) (by kernel_rfl) (by kernel_rfl) (fun _ _ _ h => h) (.inl ⟨rfl, fun X hX => by go_simp⟩) (fun _ => HB9.out) ?_
            have hz := (HWR.out.sb.upb HB9.out).d
            have z0 := hz.cell (k := 0) rfl
            have f0 := hz.frozen 0
            have z1 := hz.cell (k := 1) rfl
            have f1 := hz.frozen 1
            have z2 := hz.cell (k := 2) rfl
            have f2 := hz.frozen 2
            have z3 := hz.cell (k := 3) rfl
            have f3 := hz.frozen 3
            have zl := hz.lt
            clear hz
            refine wpAnyU_one (i := 13) (by kernel_rfl) rfl (fun K hK => ?_)
            go_simp
            refine hK.out _ _ (fun h => absurd h (by decide)) (fun _ => ?_)
            clear hK K
            refine wpAnyU_one (i := 14) (by kernel_rfl) rfl (fun K hK => ?_)
            go_simp
            refine hK.out _ _ (fun h => absurd h (by decide)) (fun _ => ?_)
            clear hK K
            refine wpAnyU_done (by kernel_rfl) (NoPanic.normal ?_) _
            clear z0 f0 z1 f1 z2 f2 z3 f3 zl
            go_wp2_with (fail)
            go_roundw
            case rel => exact ⟨jx + 1, nn - 1, n15 - 112, 0, _, _, _, A5, c5, A6, c6, rfl, congrArg (Value.int .i64) (by omega), rfl, rfl, congrArg (Value.int .i64) (by omega), by have := HJN.out; omega, HFT, Lib.hid (by simp), Lib.hid (by have h := bytes_dropN (k := 112) (m := n15 - 112) (c' := c15 - 112) HBY.out (by rw [List.length_drop]; have := HN15.out; omega) (by rw [List.length_drop]; have := HN15.out; omega) (by omega); rwa [List.drop_drop, show 112 * jx + 112 = 112 * (jx + 1) by omega] at h), HWS⟩
            case measure => simp [intOf]; omega
          case neg =>
            have hbd : ¬ (Dv.Run (Jn.wkD ss left g a0 rest i jx) ∧ Dv.Has (Jn.wkD ss left g a0 rest i jx) ((a0 + us + jx : Nat) : Int)) := fun hh => by
              have h1 := hh.2.2
              change ((a0 + us + jx : Nat) : Int) < (ss.length : Int) at h1
              omega
            have HWE := Lib.hid (Jn.wr_bad (s := Jn.secJ g (a0 + us) b jx) hbd).2
            have HWN := Lib.hid (Jn.wr_bad (s := Jn.secJ g (a0 + us) b jx) hbd).1
            clear hbd hfit
            go_upto_region 33 with (fail)
            have HSd := Lib.hid (show Below wr.heap.size wr wr.drew from below_drewN (Below.refl _ _) 1)
            have HPC := Lib.hid (show IsBytes w (.slice (some ⟨b2, off2, none⟩) 112 c15) (Jn.pieceJ b jx) from by exact bytes_takeN HBY.out (by rw [List.length_drop]; have := HN15.out; omega) (by omega))
            have HKN := Lib.hid (kind_num (jx := jx) (m := m) HKV.out (kv) (by have := HJN.out; have := HJM.out; split <;> omega))
            have HPL := Lib.hid (Jn.piece_le b jx)
            refine wp_region_noPanic ?_
            refine wp_region_U 13 (fun X => Below wr.heap.size wr X) (by kernel_rfl) ?_
            refine wpAnyU_takeD (i := 0) (v := .agg #[.slice A3 ss.length c3, .slice A4 n2 c4, .int .i64 left, .bool false]) 128 rfl rfl (by kernel_rfl) (by kernel_rfl) (by kernel_rfl) (by kernel_rfl) (by kernel_rfl) (by kernel_rfl) (fun _ _ _ h => h) (.inl ⟨rfl, fun X hX => ?_⟩) HSd.out ?_
            · have hz := (HWR.out.sb.upb hX).d; have z0 := hz.cell (k := 0) rfl; have z1 := hz.cell (k := 1) rfl; have z2 := hz.cell (k := 2) rfl; have z3 := hz.cell (k := 3) rfl; go_simp
            refine wpAnyU_takeD (i := 1) (v := .int .i64 ((a0 + us + jx : Nat) : Int)) 129 rfl rfl (by kernel_rfl) (by kernel_rfl) (by kernel_rfl) (by kernel_rfl) (by kernel_rfl) (by kernel_rfl) (fun _ _ _ h => h) (.inl ⟨rfl, fun X hX => ?_⟩) HSd.out ?_
            · go_simp
            refine wpAnyU_takeD (i := 2) (v := .int .u64 g) 130 rfl rfl (by kernel_rfl) (by kernel_rfl) (by kernel_rfl) (by kernel_rfl) (by kernel_rfl) (by kernel_rfl) (fun _ _ _ h => h) (.inl ⟨rfl, fun X hX => ?_⟩) HSd.out ?_
            · go_simp
            refine wpAnyU_takeD (i := 3) (v := .int .i64 ((a0 + us + jx : Nat) : Int)) 131 rfl rfl (by kernel_rfl) (by kernel_rfl) (by kernel_rfl) (by kernel_rfl) (by kernel_rfl) (by kernel_rfl) (fun _ _ _ h => h) (.inl ⟨rfl, fun X hX => ?_⟩) HSd.out ?_
            · go_simp
            refine wpAnyU_takeD (i := 4) (v := .int .u8 (kv : Int)) 132 rfl rfl (by kernel_rfl) (by kernel_rfl) (by kernel_rfl) (by kernel_rfl) (by kernel_rfl) (by kernel_rfl) (fun _ _ _ h => h) (.inl ⟨rfl, fun X hX => ?_⟩) HSd.out ?_
            · go_simp
            refine wpAnyU_takeD (i := 5) (v := .slice (some ⟨b2, off2, none⟩) n15 c15) 133 rfl rfl (by kernel_rfl) (by kernel_rfl) (by kernel_rfl) (by kernel_rfl) (by kernel_rfl) (by kernel_rfl) (fun _ _ _ h => h) (.inl ⟨rfl, fun X hX => ?_⟩) HSd.out ?_
            · go_simp
            refine wpAnyU_takeD (i := 6) (v := .int .i64 (112 : Nat)) 134 rfl rfl (by kernel_rfl) (by kernel_rfl) (by kernel_rfl) (by kernel_rfl) (by kernel_rfl) (by kernel_rfl) (fun _ _ _ h => h) (.inl ⟨rfl, fun X hX => ?_⟩) HSd.out ?_
            · go_simp
            refine wpAnyU_takeD (i := 7) (v := .slice (some ⟨b2, off2, none⟩) 112 c15) 135 rfl rfl (by kernel_rfl) (by kernel_rfl) (by kernel_rfl) (by kernel_rfl) (by kernel_rfl) (by kernel_rfl) (fun _ _ _ h => h) (.inl ⟨rfl, fun X hX => ?_⟩) HSd.out ?_
            · go_simp
            refine wpAnyU_call (i := 8) 136 (by kernel_rfl) rfl rfl (by simp [Region.wanted, yielded, Act.put]) (.func 44) #[.tmp 130, .tmp 131, .tmp 132, .tmp 135] _ rfl 44 #[] rfl #[.int .u64 g, .int .i64 ((a0 + us + jx : Nat) : Int), .int .u8 (kv : Int), .slice (some ⟨b2, off2, none⟩) 112 c15] (by simp [Act.eval, Act.put]) (enters_of Try.func44 (by kernel_rfl) rfl) (encode_q (s := Jn.secJ g (a0 + us) b jx) (HPC.out.upb (HWR.out.b.up HSd.out)) HPL.out hgl (by omega) HKN.out (by rw [← HM.out]; rfl)) ?_
            rintro e X ⟨As, cs, rfl, hs, hb⟩
            have HB8 := Lib.hid (HSd.out.up hb)
            have HSE := Lib.hid hs
            clear hs hb
            refine ⟨_, rfl, HB8.out, ?_⟩
            refine wpAnyU_call (i := 9) 137 (by kernel_rfl) rfl rfl (by simp [Region.wanted, yielded, Act.put]) (.func 26) #[.tmp 128, .tmp 129, .tmp 136] _ rfl 26 #[] rfl #[.agg #[.slice A3 ss.length c3, .slice A4 n2 c4, .int .i64 left, .bool false], .int .i64 ((a0 + us + jx : Nat) : Int), .slice As 128 cs] (by simp [Act.eval, Act.put]) (enters_of Try.func26 (by kernel_rfl) rfl) (Write_is (HWR.out.d.upb HB8.out) HSE.out HWE.out HWN.out) ?_
            rintro e Y ⟨A5, c5, A6, c6, rfl, hd, hb, hsec⟩
            have HB9 := Lib.hid (HB8.out.up hb)
            have HWS := Lib.hid (HWR.out.store (n1' := 0) (left' := 0) (st' := false) HB9.out (show IsD Y (.agg #[.slice A5 0 c5, .slice A6 0 c6, .int .i64 0, .bool false]) d0 from hd) (hsec.mono HB8.out.size))
            clear hd hb hsec
            refine ⟨.tuple #[.agg #[.slice A5 0 c5, .slice A6 0 c6, .int .i64 0, .bool false], .int .i64 40], rfl, HB9.out, ?_⟩
            refine wpAnyU_take0D (i := 10) (v := .tuple #[.agg #[.slice A5 0 c5, .slice A6 0 c6, .int .i64 0, .bool false], .int .i64 40]) 127 rfl rfl (by kernel_rfl) (by kernel_rfl) (by kernel_rfl) (by kernel_rfl) (fun _ _ _ h => h) (.inl ⟨rfl, fun X hX => by go_simp⟩) (fun _ => HB9.out) ?_
            refine wpAnyU_take0D (i := 11) (v := .agg #[.slice A5 0 c5, .slice A6 0 c6, .int .i64 0, .bool false]) 138 rfl rfl (by kernel_rfl) (by kernel_rfl) (by kernel_rfl) (by kernel_rfl) (fun _ _ _ h => h) (.inl ⟨rfl, fun X hX => by go_simp⟩) (fun _ => HB9.out) ?_
            refine wpAnyU_take0D (i := 12) (v := .int .i64 40) 139 rfl rfl (by kernel_rfl) (by kernel_rfl) (by kernel_rfl) (by kernel_rfl) (fun _ _ _ h => h) (.inl ⟨rfl, fun X hX => by go_simp⟩) (fun _ => HB9.out) ?_
            have hz := (HWR.out.sb.upb HB9.out).d
            have z0 := hz.cell (k := 0) rfl
            have f0 := hz.frozen 0
            have z1 := hz.cell (k := 1) rfl
            have f1 := hz.frozen 1
            have z2 := hz.cell (k := 2) rfl
            have f2 := hz.frozen 2
            have z3 := hz.cell (k := 3) rfl
            have f3 := hz.frozen 3
            have zl := hz.lt
            clear hz
            refine wpAnyU_one (i := 13) (by kernel_rfl) rfl (fun K hK => ?_)
            go_simp
            refine hK.out _ _ (fun h => absurd h (by decide)) (fun _ => ?_)
            clear hK K
            refine wpAnyU_one (i := 14) (by kernel_rfl) rfl (fun K hK => ?_)
            go_simp
            refine hK.out _ _ (fun h => absurd h (by decide)) (fun _ => ?_)
            clear hK K
            refine wpAnyU_done (by kernel_rfl) (NoPanic.normal ?_) _
            clear z0 f0 z1 f1 z2 f2 z3 f3 zl
            obtain ⟨Yf, hYf⟩ : ∃ y, set4 Y (w.heap.size + 1) (.slice A5 0 c5) (.slice A6 0 c6) (.int .i64 0) (.bool false) = y := ⟨_, rfl⟩
            have hY2 := hYf
            rw [hYf] at HWS
            unfold set4 at hY2
            rw [hY2]
            clear hYf hY2
            have HSF := Lib.hid HWS.out.sb
            have HBF := Lib.hid HWS.out.b
            have lq0 := HSF.out.l.cell (k := 0) rfl
            have lq1 := HSF.out.l.cell (k := 1) rfl
            have lq2 := HSF.out.l.cell (k := 2) rfl
            have lf0 := HSF.out.l.frozen 0
            have lf1 := HSF.out.l.frozen 1
            have lf2 := HSF.out.l.frozen 2
            have ll := HSF.out.l.lt
            have dq0 := HSF.out.d.cell (k := 0) rfl
            have dq1 := HSF.out.d.cell (k := 1) rfl
            have dq2 := HSF.out.d.cell (k := 2) rfl
            have dq3 := HSF.out.d.cell (k := 3) rfl
            have df0 := HSF.out.d.frozen 0
            have df1 := HSF.out.d.frozen 1
            have df2 := HSF.out.d.frozen 2
            have df3 := HSF.out.d.frozen 3
            have dl := HSF.out.d.lt
            have xq0 := HSF.out.x.cell (k := 0) rfl
            have xq1 := HSF.out.x.cell (k := 1) rfl
            have xq2 := HSF.out.x.cell (k := 2) rfl
            have xf0 := HSF.out.x.frozen 0
            have xf1 := HSF.out.x.frozen 1
            have xf2 := HSF.out.x.frozen 2
            have xl := HSF.out.x.lt
            have yq0 := HSF.out.y.cell (k := 0) rfl
            have yq1 := HSF.out.y.cell (k := 1) rfl
            have yq2 := HSF.out.y.cell (k := 2) rfl
            have yq3 := HSF.out.y.cell (k := 3) rfl
            have yf0 := HSF.out.y.frozen 0
            have yf1 := HSF.out.y.frozen 1
            have yf2 := HSF.out.y.frozen 2
            have yf3 := HSF.out.y.frozen 3
            have yl := HSF.out.y.lt
            have hsne : ¬ (sy : Int) = (rs.length : Int) := by have := HALL.out; omega
            obtain rfl : e0 = 40 := by rw [← HE.out, HACC.out.err, if_neg hsne, HWX0.out]; unfold Dv.syE; exact if_neg Jn.not_run0
            obtain rfl : x0 = j0 := by rw [← HX.out]; unfold Jn.syncJX; rw [if_pos HACC.out, if_neg hsne, HWX0.out, if_neg (by unfold Dv.syE; rw [if_neg Jn.not_run0]; decide)]
            obtain rfl : y0' = d0 := by rw [← HY.out]; unfold Jn.syncDX; rw [if_pos HACC.out, if_neg hsne, HWX0.out]; unfold Dv.sy; exact if_neg Jn.not_run0
            clear hsne
            go_wp2_with (fail)
            refine bodyPost_ret (jd_out rfl rfl rfl rfl ((HSF.out.x.set3 (.slice none 0 0) (.int .i64 0) (.int .i64 0)).grownSame (grown_set4 _ _ _ _ _ _) (by omega)) ((HSF.out.y.grownSame (grown_set3 _ (w.heap.size + 2) (.slice none 0 0) (.int .i64 0) (.int .i64 0)) (by omega)).set4 (.slice none 0 0) (.slice none 0 0) (.int .i64 0) (.bool false))) rfl ?_
            exact ⟨_, _, rfl, IsJ.zero, IsD.zero, below_set4 (below_set3 HBF.out (by omega) _ _ _) (by omega) _ _ _ _, secJ_nil, sec_nil⟩
end Go.Proofs.Ytkcnanclpkongaa
