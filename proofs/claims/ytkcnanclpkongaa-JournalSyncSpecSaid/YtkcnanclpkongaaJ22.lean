/- Walk of the reference's Sync, records of any size. -/
import Derived.Test.YtkcnanclpkongaaJ22a
import Derived.Test.YtkcnanclpkongaaJP12
import Derived.Deep.CutRange
namespace Go.Proofs.Ytkcnanclpkongaa
open Go.RowKit
set_option linter.unusedVariables false
set_option linter.unusedSimpArgs false
set_option maxRecDepth 20000

theorem SB.fin {w X : World} {ls dl : List Value} (h : SB X w.heap.size ls dl) {dk : Dk} {A1 : Option Addr} {n1 c1 : Nat} {A2 : Option Addr} {n2 c2 : Nat} {left : Int} {st : Bool} (hd : IsD X (.agg #[.slice A1 n1 c1, .slice A2 n2 c2, .int .i64 left, .bool st]) dk)
    (hnb : ∀ B, w.heap.size ≤ B → B < w.heap.size + 4 → NB B (.agg #[.slice A1 n1 c1, .slice A2 n2 c2, .int .i64 left, .bool st]) dk) (hp : dk.ps.length = 0) (hb : Below w.heap.size w X) (a b e : Value) :
    Cells (set4 (set3 X (w.heap.size + 2) a b e) (w.heap.size + 3) (.slice A1 n1 c1) (.slice A2 n2 c2) (.int .i64 left) (.bool st)).drew (w.heap.size + 2) 29 [a, b, e] ∧
    Cells (set4 (set3 X (w.heap.size + 2) a b e) (w.heap.size + 3) (.slice A1 n1 c1) (.slice A2 n2 c2) (.int .i64 left) (.bool st)).drew (w.heap.size + 3) 25 [.slice A1 n1 c1, .slice A2 n2 c2, .int .i64 left, .bool st] ∧
    IsD (set4 (set3 X (w.heap.size + 2) a b e) (w.heap.size + 3) (.slice A1 n1 c1) (.slice A2 n2 c2) (.int .i64 left) (.bool st)).drew (.agg #[.slice A1 n1 c1, .slice A2 n2 c2, .int .i64 left, .bool st]) dk ∧
    Below w.heap.size w (set4 (set3 X (w.heap.size + 2) a b e) (w.heap.size + 3) (.slice A1 n1 c1) (.slice A2 n2 c2) (.int .i64 left) (.bool st)).drew := by
  have hg3 := grown_set3 X (w.heap.size + 2) a b e
  have hg4 := grown_set4 (set3 X (w.heap.size + 2) a b e) (w.heap.size + 3) (.slice A1 n1 c1) (.slice A2 n2 c2) (.int .i64 left) (.bool st)
  have hy := h.y.grownSame hg3 (by omega)
  have h1 := (h.x.set3 a b e).grownSame hg4 (by omega)
  have h2 := hy.set4 (.slice A1 n1 c1) (.slice A2 n2 c2) (.int .i64 left) (.bool st)
  have h3 := (hd.boxJ hp (hnb _ (by omega) (by omega)) h.x hg3).box (hnb _ (by omega) (by omega)) hy hg4
  have h4 := below_set4 (below_set3 hb (show w.heap.size ≤ w.heap.size + 2 by omega) a b e) (show w.heap.size ≤ w.heap.size + 3 by omega) (.slice A1 n1 c1) (.slice A2 n2 c2) (.int .i64 left) (.bool st)
  exact ⟨h1.drew1, h2.drew1, h3.drew1, below_drew1 h4⟩
theorem SB.lset {X : World} {B : Nat} {a b e : Value} {dl : List Value} (h : SB X B [a, b, e] dl) (v : Int) : SB (X.setCell ⟨B, 2, none⟩ (.int .i64 v)) B [a, b, .int .i64 v] dl := by
  have hg := grown_set X B 2 (.int .i64 v)
  exact ⟨h.l.set (k := 2) _, h.d.grownSame hg (by omega), h.x.grownSame hg (by omega), h.y.grownSame hg (by omega)⟩
theorem used_records {ss : List By} (h128 : ∀ s ∈ ss, s.length = 128) : Jn.used (Jn.Records ss) ≤ ss.length := by
  obtain ⟨f', last', h1, h2, h3, h4, h5⟩ := Jn.recs_pre (l := ss) (l' := ss) rfl h128 (G := Jn.gmax ss) (fun s hs => (Jn.gmax_ge hs).1) (Jn.Records ss) [] (ss.length + 1) 0 0 (by rw [List.append_nil]; rfl) (Nat.zero_le _) (by omega) (Nat.zero_le _) (fun i hi => rfl)
  omega
set_option maxHeartbeats 16000000 in
set_option maxRecDepth 100000 in
theorem refSync_walk {v u : Value} {j : Jl} {d : Dk} {w : World} (hv : IsJ w v j) (hs : j.rs.length ≤ 5864062014634 ∧ ∀ k (h : k < j.rs.length), j.rs[k].length ≤ 140737488351232) (hu : IsD w u d) :
    Calls Try.prog 22 #[v, u] w fun e w' => ∃ x y, e = .returned (.tuple #[x, y, .int .i64 (Jn.syncEX j d)]) ∧ IsJ w' x (Jn.syncJX j d) ∧ IsD w' y (Jn.syncDX j d) ∧ Below w.heap.size w w' := by
  obtain ⟨A, c, rfl, hb⟩ := hv.open_
  obtain ⟨A1, c1, A2, c2, rfl, h1, h2⟩ := hu.open_
  obtain ⟨rs, many, syn⟩ := j
  obtain ⟨ss, ps, left, st⟩ := d
  simp only at hv hu hb h1 h2 hs ⊢
  obtain ⟨W0, hW0⟩ : ∃ W, sbW w [.slice A rs.length c, .int .i64 many, .int .i64 syn] [.slice A1 ss.length c1, .slice A2 ps.length c2, .int .i64 left, .bool st] = W := ⟨_, rfl⟩
  have HW0 := Lib.hid (show Below w.heap.size w W0 from by rw [← hW0]; exact below_sbW _ _ _)
  have HB0 := Lib.hid (show SB W0 w.heap.size [.slice A rs.length c, .int .i64 many, .int .i64 syn] [.slice A1 ss.length c1, .slice A2 ps.length c2, .int .i64 left, .bool st] from by rw [← hW0]; exact SB.new _ _ _)
  have HV := Lib.hid (hv.upb HW0.out)
  have HU := Lib.hid (hu.upb HW0.out)
  have HVW := Lib.hid hv
  have HUW := Lib.hid hu
  have HS := Lib.hid hs
  obtain ⟨k, hk⟩ : ∃ k, Jn.chkI ⟨rs, many, syn⟩ = k := ⟨_, rfl⟩
  have HK := Lib.hid hk
  obtain ⟨k2, hk2⟩ : ∃ k, Dv.chk ⟨ss, ps, left, st⟩ = k := ⟨_, rfl⟩
  have HK2 := Lib.hid hk2
  obtain ⟨e0, he⟩ : ∃ r, Jn.syncEX ⟨rs, many, syn⟩ ⟨ss, ps, left, st⟩ = r := ⟨_, rfl⟩
  obtain ⟨x0, hx⟩ : ∃ r, Jn.syncJX ⟨rs, many, syn⟩ ⟨ss, ps, left, st⟩ = r := ⟨_, rfl⟩
  obtain ⟨y0', hy⟩ : ∃ r, Jn.syncDX ⟨rs, many, syn⟩ ⟨ss, ps, left, st⟩ = r := ⟨_, rfl⟩
  have HE := Lib.hid he
  have HX := Lib.hid hx
  have HY := Lib.hid hy
  rw [he, hx, hy]
  have HWE := Lib.hid (show (((w.alloc (.cells #[.slice A rs.length c, .int .i64 many, .int .i64 syn] 29)).alloc (.cells #[.slice A1 ss.length c1, .slice A2 ps.length c2, .int .i64 left, .bool st] 25)).alloc (.cells #[.slice none 0 0, .int .i64 0, .int .i64 0] 29)).alloc (.cells #[.slice none 0 0, .slice none 0 0, .int .i64 0, .bool false] 25) = W0 from hW0)
  have HSL := Lib.hid (show rs.length ≤ 9223372036854775807 from by have := hs.1; omega)
  clear hv hs hb hk hk2 he hx hy hW0 hu h1 h2
  go_enter Try.func22, Try.ntmps22
  go_upto_region 1 with (fail)
  simp only [HWE.out]
  clear HWE
  have lq0 := HB0.out.l.cell (k := 0) rfl
  have lq1 := HB0.out.l.cell (k := 1) rfl
  have lq2 := HB0.out.l.cell (k := 2) rfl
  have lf0 := HB0.out.l.frozen 0
  have lf1 := HB0.out.l.frozen 1
  have lf2 := HB0.out.l.frozen 2
  have ll := HB0.out.l.lt
  have dq0 := HB0.out.d.cell (k := 0) rfl
  have dq1 := HB0.out.d.cell (k := 1) rfl
  have dq2 := HB0.out.d.cell (k := 2) rfl
  have dq3 := HB0.out.d.cell (k := 3) rfl
  have df0 := HB0.out.d.frozen 0
  have df1 := HB0.out.d.frozen 1
  have df2 := HB0.out.d.frozen 2
  have df3 := HB0.out.d.frozen 3
  have dl := HB0.out.d.lt
  go_wp2_with (fail)
  refine (JrefCheckI_is HV.out HSL.out HK.out).mono ?_
  rintro e w1 ⟨rfl, hb1⟩
  have HW1 := Lib.hid (HW0.out.up hb1)
  have HB1 := Lib.hid (HB0.out.upb hb1)
  have HV1 := Lib.hid (HV.out.upb hb1)
  have HU1 := Lib.hid (HU.out.upb hb1)
  clear lq0 lq1 lq2 lf0 lf1 lf2 ll dq0 dq1 dq2 dq3 df0 df1 df2 df3 dl
  clear hb1 HV HU HW0 HB0
  have lq0 := HB1.out.l.cell (k := 0) rfl
  have lq1 := HB1.out.l.cell (k := 1) rfl
  have lq2 := HB1.out.l.cell (k := 2) rfl
  have lf0 := HB1.out.l.frozen 0
  have lf1 := HB1.out.l.frozen 1
  have lf2 := HB1.out.l.frozen 2
  have ll := HB1.out.l.lt
  have dq0 := HB1.out.d.cell (k := 0) rfl
  have dq1 := HB1.out.d.cell (k := 1) rfl
  have dq2 := HB1.out.d.cell (k := 2) rfl
  have dq3 := HB1.out.d.cell (k := 3) rfl
  have df0 := HB1.out.d.frozen 0
  have df1 := HB1.out.d.frozen 1
  have df2 := HB1.out.d.frozen 2
  have df3 := HB1.out.d.frozen 3
  have dl := HB1.out.d.lt
  have xq0 := HB1.out.x.cell (k := 0) rfl
  have xq1 := HB1.out.x.cell (k := 1) rfl
  have xq2 := HB1.out.x.cell (k := 2) rfl
  have xf0 := HB1.out.x.frozen 0
  have xf1 := HB1.out.x.frozen 1
  have xf2 := HB1.out.x.frozen 2
  have xl := HB1.out.x.lt
  have yq0 := HB1.out.y.cell (k := 0) rfl
  have yq1 := HB1.out.y.cell (k := 1) rfl
  have yq2 := HB1.out.y.cell (k := 2) rfl
  have yq3 := HB1.out.y.cell (k := 3) rfl
  have yf0 := HB1.out.y.frozen 0
  have yf1 := HB1.out.y.frozen 1
  have yf2 := HB1.out.y.frozen 2
  have yf3 := HB1.out.y.frozen 3
  have yl := HB1.out.y.lt
  by_cases hok : Jn.OkI ⟨rs, many, syn⟩
  case neg =>
    obtain rfl : k = 1 := by rw [← HK.out]; unfold Jn.chkI; rw [if_neg hok]
    obtain rfl : e0 = 1 := by rw [← HE.out]; unfold Jn.syncEX; rw [if_neg hok]
    obtain rfl : x0 = j0 := by rw [← HX.out]; unfold Jn.syncJX; rw [if_neg (fun h => hok h.okj)]
    obtain rfl : y0' = d0 := by rw [← HY.out]; unfold Jn.syncDX; rw [if_neg (fun h => hok h.okj)]
    clear hok
    go_wp2_with (fail)
    refine bodyPost_ret (jd_out rfl rfl rfl rfl ((HB1.out.x.set3 (.slice none 0 0) (.int .i64 0) (.int .i64 0)).grownSame (grown_set4 _ _ _ _ _ _) (by omega)) ((HB1.out.y.grownSame (grown_set3 _ (w.heap.size + 2) (.slice none 0 0) (.int .i64 0) (.int .i64 0)) (by omega)).set4 (.slice none 0 0) (.slice none 0 0) (.int .i64 0) (.bool false))) rfl ?_
    exact ⟨_, _, rfl, IsJ.zero, IsD.zero, below_set4 (below_set3 HW1.out (by omega) _ _ _) (by omega) _ _ _ _⟩
  case pos =>
  obtain rfl : k = 0 := by rw [← HK.out]; unfold Jn.chkI; rw [if_pos hok]
  have HOK := Lib.hid hok
  clear hok
  go_wp2_with (fail)
  refine (refCheck_is HU1.out HK2.out).mono ?_
  rintro e w2 ⟨rfl, hb2⟩
  have HW2 := Lib.hid (HW1.out.up hb2)
  have HB2 := Lib.hid (HB1.out.upb hb2)
  have HV2 := Lib.hid (HV1.out.upb hb2)
  have HU2 := Lib.hid (HU1.out.upb hb2)
  clear lq0 lq1 lq2 lf0 lf1 lf2 ll dq0 dq1 dq2 dq3 df0 df1 df2 df3 dl xq0 xq1 xq2 xf0 xf1 xf2 xl yq0 yq1 yq2 yq3 yf0 yf1 yf2 yf3 yl
  clear hb2 HV1 HU1 HW1 HB1
  have lq0 := HB2.out.l.cell (k := 0) rfl
  have lq1 := HB2.out.l.cell (k := 1) rfl
  have lq2 := HB2.out.l.cell (k := 2) rfl
  have lf0 := HB2.out.l.frozen 0
  have lf1 := HB2.out.l.frozen 1
  have lf2 := HB2.out.l.frozen 2
  have ll := HB2.out.l.lt
  have dq0 := HB2.out.d.cell (k := 0) rfl
  have dq1 := HB2.out.d.cell (k := 1) rfl
  have dq2 := HB2.out.d.cell (k := 2) rfl
  have dq3 := HB2.out.d.cell (k := 3) rfl
  have df0 := HB2.out.d.frozen 0
  have df1 := HB2.out.d.frozen 1
  have df2 := HB2.out.d.frozen 2
  have df3 := HB2.out.d.frozen 3
  have dl := HB2.out.d.lt
  have xq0 := HB2.out.x.cell (k := 0) rfl
  have xq1 := HB2.out.x.cell (k := 1) rfl
  have xq2 := HB2.out.x.cell (k := 2) rfl
  have xf0 := HB2.out.x.frozen 0
  have xf1 := HB2.out.x.frozen 1
  have xf2 := HB2.out.x.frozen 2
  have xl := HB2.out.x.lt
  have yq0 := HB2.out.y.cell (k := 0) rfl
  have yq1 := HB2.out.y.cell (k := 1) rfl
  have yq2 := HB2.out.y.cell (k := 2) rfl
  have yq3 := HB2.out.y.cell (k := 3) rfl
  have yf0 := HB2.out.y.frozen 0
  have yf1 := HB2.out.y.frozen 1
  have yf2 := HB2.out.y.frozen 2
  have yf3 := HB2.out.y.frozen 3
  have yl := HB2.out.y.lt
  by_cases hokd : Dv.Ok ⟨ss, ps, left, st⟩
  case neg =>
    obtain rfl : k2 = 40 := by rw [← HK2.out]; unfold Dv.chk; rw [if_neg hokd]
    obtain rfl : e0 = 40 := by rw [← HE.out]; unfold Jn.syncEX; rw [if_pos HOK.out, if_neg hokd]
    obtain rfl : x0 = j0 := by rw [← HX.out]; unfold Jn.syncJX; rw [if_neg (fun h => hokd h.okd)]
    obtain rfl : y0' = d0 := by rw [← HY.out]; unfold Jn.syncDX; rw [if_neg (fun h => hokd h.okd)]
    clear hokd
    go_wp2_with (fail)
    refine bodyPost_ret (jd_out rfl rfl rfl rfl ((HB2.out.x.set3 (.slice none 0 0) (.int .i64 0) (.int .i64 0)).grownSame (grown_set4 _ _ _ _ _ _) (by omega)) ((HB2.out.y.grownSame (grown_set3 _ (w.heap.size + 2) (.slice none 0 0) (.int .i64 0) (.int .i64 0)) (by omega)).set4 (.slice none 0 0) (.slice none 0 0) (.int .i64 0) (.bool false))) rfl ?_
    exact ⟨_, _, rfl, IsJ.zero, IsD.zero, below_set4 (below_set3 HW2.out (by omega) _ _ _) (by omega) _ _ _ _⟩
  case pos =>
  obtain rfl : k2 = 0 := by rw [← HK2.out]; unfold Dv.chk; rw [if_pos hokd]
  have HOKD := Lib.hid hokd
  clear hokd
  cases st
  case true =>
    obtain rfl : e0 = 40 := by rw [← HE.out]; unfold Jn.syncEX; rw [if_pos HOK.out, if_pos HOKD.out, if_pos rfl]
    obtain rfl : x0 = j0 := by rw [← HX.out]; unfold Jn.syncJX; rw [if_neg (fun h => by cases h.st)]
    obtain rfl : y0' = d0 := by rw [← HY.out]; unfold Jn.syncDX; rw [if_neg (fun h => by cases h.st)]
    clear HK
    go_wp2_with (fail)
    refine bodyPost_ret (jd_out rfl rfl rfl rfl ((HB2.out.x.set3 (.slice none 0 0) (.int .i64 0) (.int .i64 0)).grownSame (grown_set4 _ _ _ _ _ _) (by omega)) ((HB2.out.y.grownSame (grown_set3 _ (w.heap.size + 2) (.slice none 0 0) (.int .i64 0) (.int .i64 0)) (by omega)).set4 (.slice none 0 0) (.slice none 0 0) (.int .i64 0) (.bool false))) rfl ?_
    exact ⟨_, _, rfl, IsJ.zero, IsD.zero, below_set4 (below_set3 HW2.out (by omega) _ _ _) (by omega) _ _ _ _⟩
  case false =>
  by_cases hm : many = ss.length
  case neg =>
    have t1 : (many != (ss.length : Int)) = true := by rw [bne_iff_ne]; exact hm
    have HM := Lib.hid hm
    obtain rfl : e0 = 1 := by rw [← HE.out]; unfold Jn.syncEX; rw [if_pos HOK.out, if_pos HOKD.out, if_neg (by simp), if_neg (fun h => hm h.1)]
    obtain rfl : x0 = j0 := by rw [← HX.out]; unfold Jn.syncJX; rw [if_neg (fun h => hm h.many)]
    obtain rfl : y0' = d0 := by rw [← HY.out]; unfold Jn.syncDX; rw [if_neg (fun h => hm h.many)]
    clear hm
    go_wp2_with (fail)
    refine bodyPost_ret (jd_out rfl rfl rfl rfl ((HB2.out.x.set3 (.slice none 0 0) (.int .i64 0) (.int .i64 0)).grownSame (grown_set4 _ _ _ _ _ _) (by omega)) ((HB2.out.y.grownSame (grown_set3 _ (w.heap.size + 2) (.slice none 0 0) (.int .i64 0) (.int .i64 0)) (by omega)).set4 (.slice none 0 0) (.slice none 0 0) (.int .i64 0) (.bool false))) rfl ?_
    exact ⟨_, _, rfl, IsJ.zero, IsD.zero, below_set4 (below_set3 HW2.out (by omega) _ _ _) (by omega) _ _ _ _⟩
  case pos =>
  have t1 : (many != (ss.length : Int)) = false := by rw [bne_eq_false_iff_eq]; exact hm
  have HMANY := Lib.hid hm
  clear hm
  by_cases hps : ps.length = 0
  case neg =>
    have t2 : decide ((ps.length : Int) > 0) = true := decide_eq_true (by omega)
    have t3 : decide (0 < ps.length) = true := decide_eq_true (by omega)
    have t4 : 0 < ps.length := by omega
    obtain rfl : e0 = 1 := by rw [← HE.out]; unfold Jn.syncEX; rw [if_pos HOK.out, if_pos HOKD.out, if_neg (by simp), if_neg (fun h => hps h.2)]
    obtain rfl : x0 = j0 := by rw [← HX.out]; unfold Jn.syncJX; rw [if_neg (fun h => hps h.ps)]
    obtain rfl : y0' = d0 := by rw [← HY.out]; unfold Jn.syncDX; rw [if_neg (fun h => hps h.ps)]
    clear hps
    go_wp2_with (fail)
    refine bodyPost_ret (jd_out rfl rfl rfl rfl ((HB2.out.x.set3 (.slice none 0 0) (.int .i64 0) (.int .i64 0)).grownSame (grown_set4 _ _ _ _ _ _) (by omega)) ((HB2.out.y.grownSame (grown_set3 _ (w.heap.size + 2) (.slice none 0 0) (.int .i64 0) (.int .i64 0)) (by omega)).set4 (.slice none 0 0) (.slice none 0 0) (.int .i64 0) (.bool false))) rfl ?_
    exact ⟨_, _, rfl, IsJ.zero, IsD.zero, below_set4 (below_set3 HW2.out (by omega) _ _ _) (by omega) _ _ _ _⟩
  case pos =>
  have hps0 : ps = [] := List.eq_nil_of_length_eq_zero hps
  subst hps0
  clear hps
  have H128 := Lib.hid (s128_ok HOKD.out)
  have hss := H128.out.1
  have HSS := Lib.hid (show IsBs w2 (.slice A1 ss.length c1) ss from by
    obtain ⟨sv, pv, e, h1, _⟩ := HU2.out
    injection e with e
    injection e with e
    injection e with e _
    rw [e]; exact h1)
  go_wp2_with (fail)
  refine (refgen_any HSS.out H128.out).mono ?_
  rintro e w3 ⟨rfl, hb3⟩
  have HW3 := Lib.hid (HW2.out.up hb3)
  have HB3 := Lib.hid (HB2.out.upb hb3)
  have HV3 := Lib.hid (HV2.out.upb hb3)
  have HU3 := Lib.hid (HU2.out.upb hb3)
  have HSS3 := Lib.hid (HSS.out.upb hb3)
  clear lq0 lq1 lq2 lf0 lf1 lf2 ll dq0 dq1 dq2 dq3 df0 df1 df2 df3 dl xq0 xq1 xq2 xf0 xf1 xf2 xl yq0 yq1 yq2 yq3 yf0 yf1 yf2 yf3 yl
  clear hb3 HV2 HU2 HW2 HB2 HSS t1
  obtain ⟨g, hg⟩ : ∃ g, Jn.gnext ss = g := ⟨_, rfl⟩
  have HGN := Lib.hid hg
  rw [hg]
  clear hg
  obtain ⟨sy, hsy⟩ : ∃ k : Nat, syn = k := ⟨syn.toNat, by have := HOK.out.2.2.1; simp only at this; omega⟩
  subst hsy
  have hsl : sy ≤ rs.length := by have := HOK.out.2.2.2.1; simp only at this; omega
  have HSLE := Lib.hid hsl
  have HBS := Lib.hid (show IsBs w3 (.slice A rs.length c) rs from by
    obtain ⟨sv, e, h1⟩ := HV3.out
    injection e with e
    injection e with e
    injection e with e _
    rw [e]; exact h1)
  obtain ⟨hl1, hl2, hl3, vs, hl4, hl5, hl6⟩ := bs_of HBS.out
  have HA := Lib.hid (show A = none → sy = 0 from fun h => by have := hl3 h; omega)
  have HSC := Lib.hid (show sy ≤ c from by omega)
  have HTK := Lib.hid (show IsBs w3 (.slice A sy c) (rs.take sy) from bs_take HBS.out hsl (by omega))
  have HRC := Lib.hid (show (Jn.Records ss).length ≤ 1000000 from by have := recs_count H128.out; omega)
  clear hl1 hl2 hl3 hl4 hl5 hl6 vs hsl
  go_upto_region 12 with (fail)
  by_cases hq : Jn.Records ss = rs.take sy
  case neg =>
    refine rsync_reg12F rfl rfl rfl rfl HB3.out.l HB3.out.d HSS3.out H128.out HTK.out HSC.out HA.out HRC.out (decide_eq_false hq) (fun X v55 hb => ?_)
    have HWX := Lib.hid (HW3.out.up hb)
    have HBX := Lib.hid (HB3.out.upb hb)
    clear hb
    go_simp
    have lq0 := HBX.out.l.cell (k := 0) rfl
    have lq1 := HBX.out.l.cell (k := 1) rfl
    have lq2 := HBX.out.l.cell (k := 2) rfl
    have lf0 := HBX.out.l.frozen 0
    have lf1 := HBX.out.l.frozen 1
    have lf2 := HBX.out.l.frozen 2
    have ll := HBX.out.l.lt
    have dq0 := HBX.out.d.cell (k := 0) rfl
    have dq1 := HBX.out.d.cell (k := 1) rfl
    have dq2 := HBX.out.d.cell (k := 2) rfl
    have dq3 := HBX.out.d.cell (k := 3) rfl
    have df0 := HBX.out.d.frozen 0
    have df1 := HBX.out.d.frozen 1
    have df2 := HBX.out.d.frozen 2
    have df3 := HBX.out.d.frozen 3
    have dl := HBX.out.d.lt
    have xq0 := HBX.out.x.cell (k := 0) rfl
    have xq1 := HBX.out.x.cell (k := 1) rfl
    have xq2 := HBX.out.x.cell (k := 2) rfl
    have xf0 := HBX.out.x.frozen 0
    have xf1 := HBX.out.x.frozen 1
    have xf2 := HBX.out.x.frozen 2
    have xl := HBX.out.x.lt
    have yq0 := HBX.out.y.cell (k := 0) rfl
    have yq1 := HBX.out.y.cell (k := 1) rfl
    have yq2 := HBX.out.y.cell (k := 2) rfl
    have yq3 := HBX.out.y.cell (k := 3) rfl
    have yf0 := HBX.out.y.frozen 0
    have yf1 := HBX.out.y.frozen 1
    have yf2 := HBX.out.y.frozen 2
    have yf3 := HBX.out.y.frozen 3
    have yl := HBX.out.y.lt
    obtain rfl : e0 = 50 := by rw [← HE.out]; unfold Jn.syncEX; rw [if_pos HOK.out, if_pos HOKD.out, if_neg (by simp), if_pos ⟨HMANY.out, rfl⟩, if_neg (fun h => hq h.1)]
    obtain rfl : x0 = j0 := by rw [← HX.out]; unfold Jn.syncJX; rw [if_neg (fun h => hq h.recs)]
    obtain rfl : y0' = d0 := by rw [← HY.out]; unfold Jn.syncDX; rw [if_neg (fun h => hq h.recs)]
    clear hq
    go_wp2_with (fail)
    refine bodyPost_ret (jd_out rfl rfl rfl rfl ((HBX.out.x.set3 (.slice none 0 0) (.int .i64 0) (.int .i64 0)).grownSame (grown_set4 _ _ _ _ _ _) (by omega)) ((HBX.out.y.grownSame (grown_set3 _ (w.heap.size + 2) (.slice none 0 0) (.int .i64 0) (.int .i64 0)) (by omega)).set4 (.slice none 0 0) (.slice none 0 0) (.int .i64 0) (.bool false))) rfl ?_
    exact ⟨_, _, rfl, IsJ.zero, IsD.zero, below_set4 (below_set3 HWX.out (by omega) _ _ _) (by omega) _ _ _ _⟩
  case pos =>
  by_cases hg32 : 4294967295 < (g : Int)
  case pos =>
    refine rsync_reg12T (r := true) rfl rfl rfl rfl HB3.out.l HB3.out.d HSS3.out H128.out HTK.out HSC.out HA.out HRC.out (decide_eq_true hq) (decide_eq_true hg32) (fun X v55 hb => ?_)
    have HWX := Lib.hid (HW3.out.up hb)
    have HBX := Lib.hid (HB3.out.upb hb)
    have hne : ¬ Jn.gnext ss < 4294967296 := by have h := HGN.out; omega
    clear hb
    go_simp
    have lq0 := HBX.out.l.cell (k := 0) rfl
    have lq1 := HBX.out.l.cell (k := 1) rfl
    have lq2 := HBX.out.l.cell (k := 2) rfl
    have lf0 := HBX.out.l.frozen 0
    have lf1 := HBX.out.l.frozen 1
    have lf2 := HBX.out.l.frozen 2
    have ll := HBX.out.l.lt
    have dq0 := HBX.out.d.cell (k := 0) rfl
    have dq1 := HBX.out.d.cell (k := 1) rfl
    have dq2 := HBX.out.d.cell (k := 2) rfl
    have dq3 := HBX.out.d.cell (k := 3) rfl
    have df0 := HBX.out.d.frozen 0
    have df1 := HBX.out.d.frozen 1
    have df2 := HBX.out.d.frozen 2
    have df3 := HBX.out.d.frozen 3
    have dl := HBX.out.d.lt
    have xq0 := HBX.out.x.cell (k := 0) rfl
    have xq1 := HBX.out.x.cell (k := 1) rfl
    have xq2 := HBX.out.x.cell (k := 2) rfl
    have xf0 := HBX.out.x.frozen 0
    have xf1 := HBX.out.x.frozen 1
    have xf2 := HBX.out.x.frozen 2
    have xl := HBX.out.x.lt
    have yq0 := HBX.out.y.cell (k := 0) rfl
    have yq1 := HBX.out.y.cell (k := 1) rfl
    have yq2 := HBX.out.y.cell (k := 2) rfl
    have yq3 := HBX.out.y.cell (k := 3) rfl
    have yf0 := HBX.out.y.frozen 0
    have yf1 := HBX.out.y.frozen 1
    have yf2 := HBX.out.y.frozen 2
    have yf3 := HBX.out.y.frozen 3
    have yl := HBX.out.y.lt
    obtain rfl : e0 = 50 := by rw [← HE.out]; unfold Jn.syncEX; rw [if_pos HOK.out, if_pos HOKD.out, if_neg (by simp), if_pos ⟨HMANY.out, rfl⟩, if_neg (fun h => hne h.2)]
    obtain rfl : x0 = j0 := by rw [← HX.out]; unfold Jn.syncJX; rw [if_neg (fun h => hne h.g32)]
    obtain rfl : y0' = d0 := by rw [← HY.out]; unfold Jn.syncDX; rw [if_neg (fun h => hne h.g32)]
    clear hq hg32 hne
    go_wp2_with (fail)
    refine bodyPost_ret (jd_out rfl rfl rfl rfl ((HBX.out.x.set3 (.slice none 0 0) (.int .i64 0) (.int .i64 0)).grownSame (grown_set4 _ _ _ _ _ _) (by omega)) ((HBX.out.y.grownSame (grown_set3 _ (w.heap.size + 2) (.slice none 0 0) (.int .i64 0) (.int .i64 0)) (by omega)).set4 (.slice none 0 0) (.slice none 0 0) (.int .i64 0) (.bool false))) rfl ?_
    exact ⟨_, _, rfl, IsJ.zero, IsD.zero, below_set4 (below_set3 HWX.out (by omega) _ _ _) (by omega) _ _ _ _⟩
  case neg =>
  refine rsync_reg12T (r := false) rfl rfl rfl rfl HB3.out.l HB3.out.d HSS3.out H128.out HTK.out HSC.out HA.out HRC.out (decide_eq_true hq) (decide_eq_false hg32) (fun X v55 hb => ?_)
  have HWX := Lib.hid (HW3.out.up hb)
  have HBX := Lib.hid (HB3.out.upb hb)
  have HTX := Lib.hid (HTK.out.upb hb)
  have HACC := Lib.hid (show Jn.AccI ⟨rs, many, (sy : Int)⟩ ⟨ss, [], left, false⟩ from ⟨HOK.out, HOKD.out, rfl, HMANY.out, rfl, hq, by have h := HGN.out; show Jn.gnext ss < _; omega⟩)
  have hgl : g < 4294967296 := by omega
  have HRQ := Lib.hid hq
  clear hb hq hg32 HB3 HW3 HTK HSS3 HV3 HU3 HBS
  have HWR0 := Lib.hid (show WR w X (.agg #[.slice A1 ss.length c1, .slice A2 0 c2, .int .i64 left, .bool false]) [.slice A rs.length c, .int .i64 many, .int .i64 (sy : Int)] ⟨ss, [], left, false⟩ A1 ss.length c1 A2 0 c2 left false from
    ⟨HBX.out, HUW.out.upb HWX.out, fun B h _ => nb_new HUW.out h, sec_same, HWX.out⟩)
  go_simp
  have lq0 := HBX.out.l.cell (k := 0) rfl
  have lq1 := HBX.out.l.cell (k := 1) rfl
  have lq2 := HBX.out.l.cell (k := 2) rfl
  have lf0 := HBX.out.l.frozen 0
  have lf1 := HBX.out.l.frozen 1
  have lf2 := HBX.out.l.frozen 2
  have ll := HBX.out.l.lt
  have dq0 := HBX.out.d.cell (k := 0) rfl
  have dq1 := HBX.out.d.cell (k := 1) rfl
  have dq2 := HBX.out.d.cell (k := 2) rfl
  have dq3 := HBX.out.d.cell (k := 3) rfl
  have df0 := HBX.out.d.frozen 0
  have df1 := HBX.out.d.frozen 1
  have df2 := HBX.out.d.frozen 2
  have df3 := HBX.out.d.frozen 3
  have dl := HBX.out.d.lt
  have xq0 := HBX.out.x.cell (k := 0) rfl
  have xq1 := HBX.out.x.cell (k := 1) rfl
  have xq2 := HBX.out.x.cell (k := 2) rfl
  have xf0 := HBX.out.x.frozen 0
  have xf1 := HBX.out.x.frozen 1
  have xf2 := HBX.out.x.frozen 2
  have xl := HBX.out.x.lt
  have yq0 := HBX.out.y.cell (k := 0) rfl
  have yq1 := HBX.out.y.cell (k := 1) rfl
  have yq2 := HBX.out.y.cell (k := 2) rfl
  have yq3 := HBX.out.y.cell (k := 3) rfl
  have yf0 := HBX.out.y.frozen 0
  have yf1 := HBX.out.y.frozen 1
  have yf2 := HBX.out.y.frozen 2
  have yf3 := HBX.out.y.frozen 3
  have yl := HBX.out.y.lt
  by_cases hall : sy = rs.length
  case pos =>
    have ht : ((sy : Int) == (rs.length : Int)) = true := by rw [beq_iff_eq]; omega
    have ht2 : (sy == rs.length) = true := by rw [beq_iff_eq]; exact hall
    have hw0 : (((sy : Nat) : Int) = (rs.length : Int)) := by omega
    have HW1 := Lib.hid hw0
    clear hall hw0
    go_wp2_with (fail)
    obtain rfl : e0 = 0 := by rw [← HE.out, HACC.out.err]; exact if_pos HW1.out
    obtain rfl : x0 = ⟨rs, many, (sy : Int)⟩ := by rw [← HX.out]; unfold Jn.syncJX; rw [if_pos HACC.out, if_pos HW1.out]
    obtain rfl : y0' = ⟨ss, [], left, false⟩ := by rw [← HY.out]; unfold Jn.syncDX; rw [if_pos HACC.out, if_pos HW1.out]
    go_region
    go_wp2_with (fail)
    have hf := HWR0.out.fin rfl (.slice A rs.length c) (.int .i64 many) (.int .i64 (sy : Int))
    refine bodyPost_ret (jd_out rfl rfl rfl rfl hf.1 hf.2.1) rfl ?_
    exact ⟨_, _, rfl, HVW.out.upb hf.2.2.2, hf.2.2.1, hf.2.2.2⟩
  case neg =>
  have ht : ((sy : Int) == (rs.length : Int)) = false := by rw [beq_eq_false_iff_ne]; omega
  have ht2 : (sy == rs.length) = false := by rw [beq_eq_false_iff_ne]; exact hall
  have HALL := Lib.hid hall
  clear hall
  have hlts : sy < rs.length := by have := HALL.out; have := HSLE.out; omega
  have HBW := Lib.hid (show IsBs w (.slice A rs.length c) rs from by
    obtain ⟨sv, e, h1⟩ := HVW.out
    injection e with e
    injection e with e
    injection e with e _
    rw [e]; exact h1)
  obtain ⟨b0, o0, A7, c7, hA7, hbb0, -, -⟩ := bs_at HBW.out hlts
  subst hA7
  have hsc := HSC.out
  have hsc2 : (sy : Int) ≤ (c : Int) := by omega
  have hss4 := H128.out.1
  have HRU := Lib.hid (show Jn.used (rs.take sy) ≤ ss.length from by rw [← HRQ.out]; exact used_records H128.out.2)
  have HSMT := Lib.hid (Jn.sm_used (rs := rs.take sy) (by have := HRU.out; omega))
  go_wp2_with (fail)
  refine (refUsed_any HTX.out HSMT.out).mono ?_
  rintro e wx ⟨rfl, rfl⟩
  obtain ⟨a0, ha0⟩ : ∃ x, Jn.used (rs.take sy) = x := ⟨_, rfl⟩
  have HA0 := Lib.hid ha0
  rw [ha0]
  have ha4 : a0 ≤ ss.length := by rw [← ha0]; exact HRU.out
  have HA4 := Lib.hid ha4
  clear ha0 ht ht2 hsc hsc2
  obtain ⟨rest, hrest⟩ : ∃ r, rs.drop sy = r := ⟨_, rfl⟩
  have HREST := Lib.hid hrest
  have HRL := Lib.hid (show rest.length = rs.length - sy from by rw [← hrest, List.length_drop])
  have HRI := Lib.hid (show ∀ i (h : i < rest.length) (h' : sy + i < rs.length), rest[i] = rs[sy + i] from fun i h h' => by simp only [← hrest, List.getElem_drop])
  have hrs13 : rs.length ≤ 5864062014634 := HS.out.1
  have HR13 := Lib.hid hrs13
  clear hrest hlts ha4 hss4
  go_wp2_with (fail)
  go_loopw [10, 11] (fun s10 s11 wr => ∃ (x i us : Nat) (q : Int) (dq : Dk) (A3 : Option Addr) (c3 : Nat) (A4 : Option Addr) (c4 : Nat), s10 = .int .i64 q ∧ s11 = .int .i64 x ∧ x ≤ rs.length ∧ Hid (x = sy + i) ∧ Hid (us = Jn.used (rest.take i)) ∧ Hid (q = wrap64 ((a0 + us : Nat) : Int)) ∧ Hid (dq = Jn.dqA ss left g a0 rest i 0) ∧ Hid (WR w wr (.agg #[.slice A1 ss.length c1, .slice A2 0 c2, .int .i64 left, .bool false]) [.slice (some ⟨b0, o0, none⟩) rs.length c, .int .i64 many, .int .i64 (sy : Int)] dq A3 dq.ss.length c3 A4 dq.ps.length c4 dq.left dq.st)) (fun _ s11 _ => rs.length - (intOf s11).toNat)
  case atStart => exact ⟨sy, 0, 0, (a0 : Int), ⟨ss, [], left, false⟩, A1, c1, A2, c2, rfl, rfl, HSLE.out, Lib.hid rfl, Lib.hid rfl, Lib.hid (by rw [IntWalk.wrap64_in _ (by have := HA4.out; have := H128.out.1; omega)]; rfl), Lib.hid (Jn.dq_start HA4.out).symm, HWR0⟩
  case round =>
    clear lq0 lq1 lq2 lf0 lf1 lf2 ll dq0 dq1 dq2 dq3 df0 df1 df2 df3 dl xq0 xq1 xq2 xf0 xf1 xf2 xl yq0 yq1 yq2 yq3 yf0 yf1 yf2 yf3 yl
    clear HWR0 HBX HWX HTX
    obtain ⟨x, i, us, q, dq, A3, c3, A4, c4, rfl, rfl, hx, HXI, HUU, HQ, HDQ, HWR⟩ := hrel
    have lq0 := HWR.out.sb.l.cell (k := 0) rfl
    have lq1 := HWR.out.sb.l.cell (k := 1) rfl
    have lq2 := HWR.out.sb.l.cell (k := 2) rfl
    have lf0 := HWR.out.sb.l.frozen 0
    have lf1 := HWR.out.sb.l.frozen 1
    have lf2 := HWR.out.sb.l.frozen 2
    have ll := HWR.out.sb.l.lt
    have dq0 := HWR.out.sb.d.cell (k := 0) rfl
    have dq1 := HWR.out.sb.d.cell (k := 1) rfl
    have dq2 := HWR.out.sb.d.cell (k := 2) rfl
    have dq3 := HWR.out.sb.d.cell (k := 3) rfl
    have df0 := HWR.out.sb.d.frozen 0
    have df1 := HWR.out.sb.d.frozen 1
    have df2 := HWR.out.sb.d.frozen 2
    have df3 := HWR.out.sb.d.frozen 3
    have dl := HWR.out.sb.d.lt
    have xq0 := HWR.out.sb.x.cell (k := 0) rfl
    have xq1 := HWR.out.sb.x.cell (k := 1) rfl
    have xq2 := HWR.out.sb.x.cell (k := 2) rfl
    have xf0 := HWR.out.sb.x.frozen 0
    have xf1 := HWR.out.sb.x.frozen 1
    have xf2 := HWR.out.sb.x.frozen 2
    have xl := HWR.out.sb.x.lt
    have yq0 := HWR.out.sb.y.cell (k := 0) rfl
    have yq1 := HWR.out.sb.y.cell (k := 1) rfl
    have yq2 := HWR.out.sb.y.cell (k := 2) rfl
    have yq3 := HWR.out.sb.y.cell (k := 3) rfl
    have yf0 := HWR.out.sb.y.frozen 0
    have yf1 := HWR.out.sb.y.frozen 1
    have yf2 := HWR.out.sb.y.frozen 2
    have yf3 := HWR.out.sb.y.frozen 3
    have yl := HWR.out.sb.y.lt
    by_cases hlt : x < rs.length
    case neg =>
      have hd : decide ((x : Int) < (rs.length : Int)) = false := decide_eq_false (by omega)
      have hd2 : decide (x < rs.length) = false := decide_eq_false hlt
      have HDK := Lib.hid (show Jn.wrtX ⟨rs, many, (sy : Int)⟩ ⟨ss, [], left, false⟩ = dq from by
        rw [HDQ.out, Jn.dq_end (by have := HXI.out; have := HRL.out; omega)]
        unfold Jn.wrtX
        show (if Jn.used (rs.take sy) + Jn.used (rs.drop sy) ≤ ss.length then (⟨ss, Jn.wrs (Jn.used (rs.take sy)) (Jn.encG (Jn.gnext ss) (Jn.used (rs.take sy)) (rs.drop sy)), left, false⟩ : Dk) else d0) = _
        rw [HA0.out, HGN.out, HREST.out])
      obtain ⟨es, hes⟩ : ∃ x, Dv.syE dq = x := ⟨_, rfl⟩
      obtain ⟨ds, hds⟩ : ∃ x, Dv.sy dq = x := ⟨_, rfl⟩
      have HES := Lib.hid hes
      have HDS := Lib.hid hds
      have hes2 : es = 40 ∨ es = 0 := by
        rw [← hes]; unfold Dv.syE
        split
        · split
          · exact .inl rfl
          · exact .inr rfl
        · exact .inl rfl
      have HP0 := Lib.hid (show ds.ps.length = 0 from by
        rw [← hds]; unfold Dv.sy
        split
        · split <;> rfl
        · rfl)
      have hsne : ¬ (sy : Int) = (rs.length : Int) := by have := HALL.out; omega
      have HNE := Lib.hid hsne
      clear hes hds hsne
      go_wp2_with (fail)
      refine (refSyncS_is HWR.out.d HES.out HDS.out).mono ?_
      rintro e wz ⟨A5, c5, A6, c6, rfl, hd, hb, hsec⟩
      have HSZ := Lib.hid (HWR.out.sb.upb hb)
      have HDZ := Lib.hid hd
      have HNB := Lib.hid (show ∀ B, w.heap.size ≤ B → B < w.heap.size + 4 → NB B (.agg #[.slice A5 ds.ss.length c5, .slice A6 ds.ps.length c6, .int .i64 ds.left, .bool ds.st]) ds from fun B h1 h2 => nb_sec HWR.out.d hd hsec (HWR.out.nb B h1 h2) (by have := HWR.out.sb.y.lt; omega))
      have HBZ := Lib.hid (HWR.out.b.up hb)
      clear hd hb hsec HWR
      clear lq0 lq1 lq2 lf0 lf1 lf2 ll dq0 dq1 dq2 dq3 df0 df1 df2 df3 dl xq0 xq1 xq2 xf0 xf1 xf2 xl yq0 yq1 yq2 yq3 yf0 yf1 yf2 yf3 yl
      go_upto_region 29 with (fail)
      have hal := al1 wz (.cells #[.slice A5 ds.ss.length c5, .slice A6 ds.ps.length c6, .int .i64 ds.left, .bool ds.st] 25)
      have HZQ := Lib.hid (Cells.new wz 25 [.slice A5 ds.ss.length c5, .slice A6 ds.ps.length c6, .int .i64 ds.left, .bool ds.st])
      have HQL := Lib.hid (show w.heap.size + 3 < wz.heap.size from HSZ.out.y.lt)
      replace HSZ := Lib.hid (HSZ.out.upb hal)
      replace HDZ := Lib.hid (HDZ.out.upb hal)
      replace HBZ := Lib.hid (HBZ.out.up hal)
      clear hal
      obtain ⟨bq, hbq⟩ : ∃ b, wz.heap.size = b := ⟨_, rfl⟩
      rw [hbq] at HZQ HQL
      simp only [hbq]
      clear hbq
      generalize wz.alloc (.cells #[.slice A5 ds.ss.length c5, .slice A6 ds.ps.length c6, .int .i64 ds.left, .bool ds.st] 25) = wt at *
      have lq0 := HSZ.out.l.cell (k := 0) rfl
      have lq1 := HSZ.out.l.cell (k := 1) rfl
      have lq2 := HSZ.out.l.cell (k := 2) rfl
      have lf0 := HSZ.out.l.frozen 0
      have lf1 := HSZ.out.l.frozen 1
      have lf2 := HSZ.out.l.frozen 2
      have ll := HSZ.out.l.lt
      have dq0 := HSZ.out.d.cell (k := 0) rfl
      have dq1 := HSZ.out.d.cell (k := 1) rfl
      have dq2 := HSZ.out.d.cell (k := 2) rfl
      have dq3 := HSZ.out.d.cell (k := 3) rfl
      have df0 := HSZ.out.d.frozen 0
      have df1 := HSZ.out.d.frozen 1
      have df2 := HSZ.out.d.frozen 2
      have df3 := HSZ.out.d.frozen 3
      have dl := HSZ.out.d.lt
      have xq0 := HSZ.out.x.cell (k := 0) rfl
      have xq1 := HSZ.out.x.cell (k := 1) rfl
      have xq2 := HSZ.out.x.cell (k := 2) rfl
      have xf0 := HSZ.out.x.frozen 0
      have xf1 := HSZ.out.x.frozen 1
      have xf2 := HSZ.out.x.frozen 2
      have xl := HSZ.out.x.lt
      have yq0 := HSZ.out.y.cell (k := 0) rfl
      have yq1 := HSZ.out.y.cell (k := 1) rfl
      have yq2 := HSZ.out.y.cell (k := 2) rfl
      have yq3 := HSZ.out.y.cell (k := 3) rfl
      have yf0 := HSZ.out.y.frozen 0
      have yf1 := HSZ.out.y.frozen 1
      have yf2 := HSZ.out.y.frozen 2
      have yf3 := HSZ.out.y.frozen 3
      have yl := HSZ.out.y.lt
      have Zq0 := HZQ.out.cell (k := 0) rfl
      have Zq1 := HZQ.out.cell (k := 1) rfl
      have Zq2 := HZQ.out.cell (k := 2) rfl
      have Zq3 := HZQ.out.cell (k := 3) rfl
      have Zql := HZQ.out.lt
      have hbq3 := HQL.out
      rcases hes2 with rfl | rfl
      case inl =>
        obtain rfl : e0 = 40 := by rw [← HE.out, HACC.out.err, if_neg HNE.out, HDK.out, HES.out]
        obtain rfl : x0 = j0 := by rw [← HX.out]; unfold Jn.syncJX; rw [if_pos HACC.out, if_neg HNE.out, HDK.out, HES.out, if_neg (by decide)]
        obtain rfl : y0' = ds := by rw [← HY.out]; unfold Jn.syncDX; rw [if_pos HACC.out, if_neg HNE.out, HDK.out, HDS.out]
        go_wp2_with (fail)
        go_region
        go_wp2_with (fail)
        have hf := HSZ.out.fin HDZ.out HNB.out HP0.out HBZ.out (.slice none 0 0) (.int .i64 0) (.int .i64 0)
        refine bodyPost_ret (jd_out rfl rfl rfl rfl hf.1 hf.2.1) rfl ?_
        exact ⟨_, _, rfl, IsJ.zero, hf.2.2.1, hf.2.2.2⟩
      case inr =>
        obtain rfl : e0 = 0 := by rw [← HE.out, HACC.out.err, if_neg HNE.out, HDK.out, HES.out]
        obtain rfl : x0 = ⟨rs, many, (rs.length : Int)⟩ := by rw [← HX.out]; unfold Jn.syncJX; rw [if_pos HACC.out, if_neg HNE.out, HDK.out, HES.out, if_pos rfl]
        obtain rfl : y0' = ds := by rw [← HY.out]; unfold Jn.syncDX; rw [if_pos HACC.out, if_neg HNE.out, HDK.out, HDS.out]
        go_wp2_with (fail)
        go_region
        go_wp2_with (fail)
        have hg := grown_set wt w.heap.size 2 (.int .i64 (rs.length : Int))
        have hf := (HSZ.out.lset (rs.length : Int)).fin (HDZ.out.boxJ HP0.out (HNB.out _ (Nat.le_refl _) (by omega)) HSZ.out.l hg) HNB.out HP0.out (HBZ.out.setCell (p := ⟨w.heap.size, 2, none⟩) (Nat.le_refl _) _) (.slice (some ⟨b0, o0, none⟩) rs.length c) (.int .i64 many) (.int .i64 (rs.length : Int))
        refine bodyPost_ret (jd_out rfl rfl rfl rfl hf.1 hf.2.1) rfl ?_
        exact ⟨_, _, rfl, isJ_mk (HBW.out.upb hf.2.2.2), hf.2.2.1, hf.2.2.2⟩
    case pos =>
    have hd : decide ((x : Int) < (rs.length : Int)) = true := decide_eq_true (by omega)
    have hd2 : decide (x < rs.length) = true := decide_eq_true hlt
    obtain ⟨b1, o1, A15, c15, hA7, hbb1, hc1, hb1⟩ := bs_at HBW.out hlt
    injection hA7 with hA7
    injection hA7 with e1 e2
    subst e1 e2
    have hlt2 : i < rest.length := by have h1 := HXI.out; have h2 := HRL.out; omega
    have hbl := HS.out.2 x hlt
    have HRB := Lib.hid (show rest[i] = rs[x] from by have h := HRI.out i hlt2 (by rw [← HXI.out]; exact hlt); rw [h]; congr 1; exact HXI.out.symm)
    obtain ⟨b, hb⟩ : ∃ b, rs[x] = b := ⟨_, rfl⟩
    rw [hb] at hc1 hb1 hbl HRB
    have HLT := Lib.hid hlt2
    have HBY := Lib.hid hb1
    have HBL := Lib.hid hbl
    have hc1w := (HWR.out.b.cell (p := ⟨b0, o0 + x, none⟩) (cell_lt hc1)).trans hc1
    have HXL := Lib.hid hlt
    obtain ⟨m, hm⟩ : ∃ m, Jn.nsec b.length = m := ⟨_, rfl⟩
    have HM := Lib.hid hm
    have hm13 : m ≤ 1300000000000 := by rw [← hm]; unfold Jn.nsec; omega
    clear hb hb1 hc1
    go_wp2_with (fail)
    refine (refSectorsI_any (n := b.length)).mono ?_
    rintro e wx ⟨rfl, rfl⟩
    rw [Jn.nsI_eq HBL.out, hm]
    clear lq0 lq1 lq2 lf0 lf1 lf2 ll dq0 dq1 dq2 dq3 df0 df1 df2 df3 dl xq0 xq1 xq2 xf0 xf1 xf2 xl yq0 yq1 yq2 yq3 yf0 yf1 yf2 yf3 yl
    clear hc1w hm hbl
    go_wp2_with (fail)
    go_loopw [10, 14] (fun s10 s14 wr => ∃ (jx : Nat) (q : Int) (dq : Dk) (A3 : Option Addr) (c3 : Nat) (A4 : Option Addr) (c4 : Nat), s10 = .int .i64 q ∧ s14 = .int .i64 jx ∧ jx ≤ m ∧ Hid (q = wrap64 ((a0 + us + jx : Nat) : Int)) ∧ Hid (dq = Jn.dqA ss left g a0 rest i jx) ∧ Hid (WR w wr (.agg #[.slice A1 ss.length c1, .slice A2 0 c2, .int .i64 left, .bool false]) [.slice (some ⟨b0, o0, none⟩) rs.length c, .int .i64 many, .int .i64 (sy : Int)] dq A3 dq.ss.length c3 A4 dq.ps.length c4 dq.left dq.st)) (fun _ s14 _ => m - (intOf s14).toNat)
    case atStart => exact ⟨0, q, dq, A3, c3, A4, c4, rfl, rfl, Nat.zero_le _, HQ, HDQ, HWR⟩
    case round =>
      clear HWR HQ HDQ
      obtain ⟨jx, q, dq, A3, c3, A4, c4, rfl, rfl, hj, HQ, HDQ, HWR⟩ := hrel
      by_cases hjm : jx < m
      case neg =>
        have hd3 : decide ((jx : Int) < (m : Int)) = false := decide_eq_false (by omega)
        have hd4 : decide (jx < m) = false := decide_eq_false hjm
        have HJM := Lib.hid (show jx = m by omega)
        go_wp2_with (fail)
        refine ⟨⟨x + 1, i + 1, us + m, q, dq, A3, c3, A4, c4, rfl, rfl, HXL.out, Lib.hid (by have := HXI.out; omega), Lib.hid ?_, Lib.hid ?_, Lib.hid ?_, HWR⟩, m_less HXL.out⟩
        · rw [Jn.used_take HLT.out, ← HUU.out, HRB.out, HM.out]
        · have h := HQ.out; rw [HJM.out, Nat.add_assoc] at h; exact h
        · have h := HDQ.out
          have e := Jn.dq_done (ss := ss) (left := left) (g := g) (a0 := a0) HLT.out
          rw [HRB.out, HM.out] at e
          rw [HJM.out, e] at h
          exact h
      case pos =>
      have hd3 : decide ((jx : Int) < (m : Int)) = true := decide_eq_true (by omega)
      have hd4 : decide (jx < m) = true := decide_eq_true hjm
      have hjm2 := hjm
      have hpa := Jn.piece_at (b := b) (j := jx) (by rw [HM.out]; exact hjm)
      have HJX := Lib.hid hjm
      go_upto_region 25 with (fail)
      go_cut [15] from 105 to 114 (fun s15 wc => Hid (IsBytes w s15 (Jn.pieceJ b jx)) ∧ wc = wr)
      case first =>
        have hbl2 := (bytes_len HBY.out).2
        by_cases hb0 : b = []
        case pos =>
          obtain rfl : jx = 0 := by have h1 := HM.out; rw [hb0] at h1; simp [Jn.nsec] at h1; omega
          subst hb0
          cases A15 with
          | none =>
            go_wp2_with (fail)
            go_meet
            case rel => exact ⟨Lib.hid (by unfold Jn.pieceJ; exact bytes_nil), rfl⟩
          | some ad =>
            go_wp2_with (fail)
            go_meet
            case rel => exact ⟨Lib.hid (by unfold Jn.pieceJ; exact bytes_nil), rfl⟩
        case neg =>
          cases A15 with
          | none => exact absurd (bytes_none HBY.out) hb0
          | some ad =>
          obtain ⟨bb, oo, rfl⟩ := bytes_ad HBY.out hb0
          have hbl3 : (b.length : Int) ≤ (c15 : Int) := by omega
          have hpos : 0 < b.length := List.length_pos_iff.2 hb0
          have hlt3 : 112 * jx < b.length := by have h1 := HM.out; have h2 := HJX.out; unfold Jn.nsec at h1; omega
          by_cases hlast : (jx + 1) * 112 < b.length
          case pos =>
            have hl1 : ((jx : Int) + 1) * 112 < (b.length : Int) := by omega
            have hl2 : ¬ (b.length : Int) < ((jx : Int) + 1) * 112 := by omega
            have hl3 : ((jx : Int) + 1) * 112 ≤ (c15 : Int) := by omega
            have hl4 : (jx : Int) * 112 ≤ ((jx : Int) + 1) * 112 := by omega
            have hne : ¬ c15 = jx * 112 := by omega
            go_wp2_with (fail)
            go_meet
            case rel =>
              refine ⟨Lib.hid ?_, rfl⟩
              have h := bytes_sub HBY.out (i := jx * 112) (j := (jx + 1) * 112) (n := (jx + 1) * 112 - jx * 112) (c := c15 - jx * 112) (by omega) (by omega) rfl (by omega)
              rwa [show (b.take ((jx + 1) * 112)).drop (jx * 112) = Jn.pieceJ b jx from by unfold Jn.pieceJ; rw [List.drop_take, Nat.mul_comm jx 112]; congr 1; omega] at h
          case neg =>
            have hl1 : ¬ ((jx : Int) + 1) * 112 < (b.length : Int) := by omega
            have hl2 : (b.length : Int) ≤ ((jx : Int) + 1) * 112 := by omega
            have hl4 : (jx : Int) * 112 ≤ (b.length : Int) := by omega
            have hne : ¬ c15 = jx * 112 := by omega
            go_wp2_with (fail)
            go_meet
            case rel =>
              refine ⟨Lib.hid ?_, rfl⟩
              have h := bytes_sub HBY.out (i := jx * 112) (j := b.length) (n := b.length - jx * 112) (c := c15 - jx * 112) (by omega) (by omega) rfl (by omega)
              rwa [show (b.take b.length).drop (jx * 112) = Jn.pieceJ b jx from by unfold Jn.pieceJ; rw [List.take_length, Nat.mul_comm jx 112, List.take_of_length_le (by rw [List.length_drop]; have h1 := hl2; omega)]] at h
      case rest =>
      obtain ⟨HPB, rfl⟩ := hcut
      go_upto_region 26 with (fail)
      obtain ⟨n, hn1, hn2⟩ : ∃ n : Nat, IntKind.u64.wrap q = (n : Int) ∧ n < 18446744073709551616 := by
        have h1 : 0 ≤ IntKind.u64.wrap q ∧ IntKind.u64.wrap q < 18446744073709551616 := by rw [IntKind.wrap_u64]; omega
        exact ⟨(IntKind.u64.wrap q).toNat, by omega, by omega⟩
      obtain ⟨dr, hdr⟩ : ∃ x, Jn.dqA ss left g a0 rest i (jx + 1) = x := ⟨_, rfl⟩
      have hwr : Dv.wr dq q (Jn.sec g n (UInt8.ofNat ((if decide (jx = 0) = true then 1 else 0) + (if decide (jx + 1 = m) = true then 2 else 0))) (Jn.pieceJ b jx)) = dr := by
        rw [HDQ.out, ← hdr]
        have hrb := HRB.out
        refine (Jn.dq_step HOKD.out hgl HLT.out (j := jx) (by rw [hrb, HM.out]; exact HJX.out) (by rw [HQ.out, HUU.out]) (fun hlt => ?_)).1
        rw [hrb, ← HUU.out]
        rw [← HUU.out] at hlt
        have hq2 : q = ((a0 + us + jx : Nat) : Int) := by rw [HQ.out, IntWalk.wrap64_in _ (by have := H128.out.1; omega)]
        have hnn : n = a0 + us + jx := by
          have h1 := hn1
          rw [hq2, IntWalk.u64_in _ (by have := H128.out.1; omega)] at h1
          omega
        rw [hnn, Jn.kind_of HJX.out]
        unfold Jn.secJ
        rw [HM.out]
      have HDR := Lib.hid hdr
      refine rsync_reg26 (b1 := decide (jx = 0)) (b2 := decide (jx + 1 = m)) rfl rfl rfl rfl rfl rfl rfl HWR.out.sb.d HWR.out.d (HPB.out.upb HWR.out.b) (Jn.piece_le b jx) (by omega) hn1 hn2 (IntWalk.i64_in _ (by omega)) (by
        by_cases h : jx = 0
        · subst h; rfl
        · rw [decide_eq_false h, beq_eq_false_iff_ne]; omega) (by
        by_cases h : jx + 1 = m
        · rw [decide_eq_true h, beq_iff_eq]; omega
        · rw [decide_eq_false h, beq_eq_false_iff_ne]; omega) rfl hwr (fun X A5 A6 c5 c6 v127 hb hd hsec => ?_)
      have HWS := Lib.hid (HWR.out.store hb hd hsec)
      clear hb hd hsec hwr hdr HWR
      generalize set4 X (w.heap.size + 1) (.slice A5 dr.ss.length c5) (.slice A6 dr.ps.length c6) (.int .i64 dr.left) (.bool dr.st) = Y at HWS ⊢
      go_simp
      go_wp2_with (fail)
      refine ⟨⟨jx + 1, wrap64 (q + 1), dr, A5, c5, A6, c6, rfl, rfl, HJX.out, Lib.hid ?_, Lib.hid HDR.out.symm, HWS⟩, m_less HJX.out⟩
      rw [HQ.out, wrap64_step]
      congr 1
end Go.Proofs.Ytkcnanclpkongaa
