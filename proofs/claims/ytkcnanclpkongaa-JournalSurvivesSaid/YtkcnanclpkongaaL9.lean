/- Walk of JournalSurvives. -/
import Derived.Test.YtkcnanclpkongaaL7
import Derived.Test.YtkcnanclpkongaaCS
import Derived.Test.YtkcnanclpkongaaJP10
import Derived.Deep.CutRange
namespace Go.Proofs.Ytkcnanclpkongaa
open Go.RowKit
set_option linter.unusedVariables false
set_option linter.unusedSimpArgs false
set_option maxRecDepth 20000

/-- the row of a slice does not lie in this block -/
def NR (B : Nat) (v : Value) : Prop := ∀ b off k c, v = .slice (some ⟨b, off, none⟩) k c → b ≠ B
theorem nr_nil {B n c : Nat} : NR B (.slice none n c) := fun b off k c e => by injection e with e; cases e
theorem nr_of_nj {B W k c : Nat} {A : Option Addr} {m s : Value} (h : NJ W (.agg #[.slice A k c, m, s])) (hB : B < W) {k' c' : Nat} : NR B (.slice A k' c') := fun b off k2 c2 e => by
  injection e with e1
  subst e1
  have := h b off k c m s rfl
  omega
theorem nj_mono {m n : Nat} {v : Value} (h : NJ n v) (hm : m ≤ n) : NJ m v := fun b off k c x y e => Nat.le_trans hm (h b off k c x y e)
theorem isJ_bs {W : World} {A : Option Addr} {n c : Nat} {m s m2 s2 : Int} {rs : List By} (h : IsJ W (.agg #[.slice A n c, .int .i64 m, .int .i64 s]) ⟨rs, m2, s2⟩) : IsBs W (.slice A n c) rs := by
  obtain ⟨sv, e, h1⟩ := h
  injection e with e
  injection e with e
  injection e with e1 e2
  rw [e1]
  exact h1
set_option maxHeartbeats 16000000 in
set_option maxRecDepth 100000 in
theorem JournalSurvives_any {u : Value} {sc : Int} {cs : List Cr} {w : World} (hu : IsCs w u cs) (hcs : ∀ p ∈ cs, (0 ≤ p.left ∧ p.left ≤ 255) ∧ p.recs.length ≤ 5864062014634 ∧ ∀ k (hk : k < p.recs.length), p.recs[k].length ≤ 140737488351232) (hl : cs.length ≤ 9223372036854775807) (hsc : 0 ≤ sc ∧ sc ≤ 255) :
    Calls Try.prog 9 #[.int .u8 sc, u] w fun e w' => e = .returned (.bool true) ∧ Below w.heap.size w w' := by
  obtain ⟨Ar, cr, _, rfl, _⟩ := id hu
  have HCS := Lib.hid hcs
  have UW := Lib.hid hu
  have HW := Lib.hid (Bl.mk (Below.refl w.heap.size w))
  clear hu hcs
  go_enter Try.func9, Try.ntmps9
  go_wp2_with (fail)
  refine (sane_any _).mono ?_
  rintro e w1 ⟨rfl, hb⟩
  replace HW := Lib.hid (HW.out.upb hb)
  clear hb
  by_cases hc8 : 8 < cs.length
  case pos =>
    have t0 : decide ((cs.length : Int) > 8) = true := decide_eq_true (by omega)
    go_wp2_with (fail)
    go_ret
    exact ⟨rfl, HW.out.b⟩
  case neg =>
  have t0 : decide ((cs.length : Int) > 8) = false := decide_eq_false (by omega)
  have HC8 := Lib.hid (show cs.length ≤ 8 by omega)
  clear hc8
  obtain ⟨q, hq, hql⟩ : ∃ q : Nat, sc.tmod 30 = (q : Int) ∧ q < 30 := by
    have h1 : sc.tmod 30 = sc % 30 := Int.tmod_eq_emod_of_nonneg hsc.1
    exact ⟨(sc % 30).toNat, by rw [h1]; omega, by omega⟩
  have hq2 : IntKind.u8.wrap (q : Int) = (q : Int) := IntWalk.u8_in _ (by omega)
  have HQ := Lib.hid hql
  go_wp2_with (fail)
  clear t0 hq hq2 hsc
  have hN := Jn.nw_eq (n := q + 1) (by omega) (by omega)
  have E1 := Lib.hid (show Dv.nwE ((q : Int) + 1) = 0 from hN.2)
  obtain ⟨ss0, hss0⟩ : ∃ s, List.replicate (q + 1) Dv.zs = s := ⟨_, rfl⟩
  have SV0 := Lib.hid (show Jn.Sv (q + 1) 0 ss0 [] from hss0 ▸ Jn.sv_new (by omega) (by omega))
  have E2 := Lib.hid (show Dv.nw ((q : Int) + 1) = ⟨ss0, [], -1, false⟩ from hss0 ▸ hN.1)
  clear hN hss0
  refine (New_is (n := (q : Int) + 1) E1.out E2.out).mono ?_
  rintro e w2 ⟨A, c, A2, c2, rfl, hd, hb⟩
  replace HW := Lib.hid (HW.out.upb hb)
  clear hb
  have F5 := Lib.hid hd
  clear hd
  simp only [List.length_nil] at F5 ⊢
  go_upto_region 6 with (fail)
  obtain ⟨Db, hDb⟩ : ∃ b, w2.heap.size = b := ⟨_, rfl⟩
  have NB5 := Lib.hid (nb_new F5.out (Nat.le_of_eq hDb))
  have HD0 := Lib.hid (show w.heap.size ≤ Db by have := HW.out.b.size; omega)
  replace HW := Lib.hid (HW.out.upb (al1 (w2) (.cells #[.slice A ss0.length c, .slice A2 0 c2, .int .i64 (-1), .bool false] 25)))
  replace F5 := Lib.hid (F5.out.upb (al1 (w2) (.cells #[.slice A ss0.length c, .slice A2 0 c2, .int .i64 (-1), .bool false] 25)))
  have Z5 := Lib.hid (Cells.new (w2) 25 [.slice A ss0.length c, .slice A2 0 c2, .int .i64 (-1), .bool false])
  rw [hDb] at Z5
  simp only [hDb]
  clear hDb
  generalize (w2).alloc (.cells #[.slice A ss0.length c, .slice A2 0 c2, .int .i64 (-1), .bool false] 25) = w0 at *
  have Z5l := Z5.out.lt
  have Z5c0 := Z5.out.cell (k := 0) rfl
  have Z5c1 := Z5.out.cell (k := 1) rfl
  have Z5c2 := Z5.out.cell (k := 2) rfl
  have Z5c3 := Z5.out.cell (k := 3) rfl
  go_wp2_with (fail)
  go_loopw [7, 40] (fun s7 s40 wr => ∃ (i : Nat) (A7 : Option Addr) (c7 : Nat) (ks ss : List By) (A : Option Addr) (c : Nat) (A2 : Option Addr) (c2 : Nat), s7 = .slice A7 ks.length c7 ∧ s40 = .int .i64 i ∧ i ≤ cs.length ∧ Hid (Jn.Sv (q + 1) i ss ks) ∧ Hid (Cells wr Db 25 [.slice A ss.length c, .slice A2 0 c2, .int .i64 (-1), .bool false]) ∧ Hid (IsD wr (.agg #[.slice A ss.length c, .slice A2 0 c2, .int .i64 (-1), .bool false]) ⟨ss, [], -1, false⟩) ∧ Hid (NB Db (.agg #[.slice A ss.length c, .slice A2 0 c2, .int .i64 (-1), .bool false]) ⟨ss, [], -1, false⟩) ∧ Hid (IsBs wr (.slice A7 ks.length c7) ks) ∧ Hid (NR Db (.slice A7 ks.length c7)) ∧ Hid (Bl w wr)) (fun _ s40 _ => cs.length - (intOf s40).toNat)
  case atStart => exact ⟨0, none, 0, [], ss0, A, c, A2, c2, rfl, rfl, Nat.zero_le _, SV0, Z5, F5, NB5, Lib.hid IsBs.nil, Lib.hid nr_nil, HW⟩
  case round =>
  clear Z5l Z5c0 Z5c1 Z5c2 Z5c3
  clear Z5 F5 NB5 HW SV0 E1 E2
  obtain ⟨i, A7, c7, ks, ss, A, c, A2, c2, rfl, rfl, hi, SV, Z5, F5, NB5, K7, NR7, HW⟩ := hrel
  by_cases hlt : i < cs.length
  case neg =>
    have hd : decide ((i : Int) < (cs.length : Int)) = false := decide_eq_false (by omega)
    have hd2 : decide (i < cs.length) = false := decide_eq_false hlt
    have O1 := Lib.hid SV.out.open_.1
    have O2 := Lib.hid SV.out.open_.2
    have HKN := Lib.hid (show ks.length ≤ 1000000 from by have h1 := Jn.used_ge ks; have h2 := SV.out.us; have := HQ.out; omega)
    have Z5l := Z5.out.lt
    have Z5c0 := Z5.out.cell (k := 0) rfl
    have Z5c1 := Z5.out.cell (k := 1) rfl
    have Z5c2 := Z5.out.cell (k := 2) rfl
    have Z5c3 := Z5.out.cell (k := 3) rfl
    go_wp2_with (fail)
    refine (Open_is (n := ks.length) (m := (q : Int) + 1) (s := ks.length) F5.out O1.out O2.out rfl rfl rfl).mono ?_
    rintro e w41 ⟨A21, c21, rfl, hj, hb, -⟩
    replace Z5 := Lib.hid (Z5.out.upb hb)
    replace F5 := Lib.hid (F5.out.upb hb)
    replace K7 := Lib.hid (K7.out.upb hb)
    replace HW := Lib.hid (HW.out.upb hb)
    clear hb
    clear Z5l Z5c0 Z5c1 Z5c2 Z5c3
    have L21 := Lib.hid (isJ_bs hj)
    clear hj
    go_upto_region 45 with (fail)
    replace Z5 := Lib.hid (Z5.out.upb (al1 (w41) (.cells #[.slice A21 ks.length c21, .int .i64 ((q : Int) + 1), .int .i64 ks.length] 29)))
    replace F5 := Lib.hid (F5.out.upb (al1 (w41) (.cells #[.slice A21 ks.length c21, .int .i64 ((q : Int) + 1), .int .i64 ks.length] 29)))
    replace K7 := Lib.hid (K7.out.upb (al1 (w41) (.cells #[.slice A21 ks.length c21, .int .i64 ((q : Int) + 1), .int .i64 ks.length] 29)))
    replace HW := Lib.hid (HW.out.upb (al1 (w41) (.cells #[.slice A21 ks.length c21, .int .i64 ((q : Int) + 1), .int .i64 ks.length] 29)))
    replace L21 := Lib.hid (L21.out.upb (al1 (w41) (.cells #[.slice A21 ks.length c21, .int .i64 ((q : Int) + 1), .int .i64 ks.length] 29)))
    have Z21 := Lib.hid (Cells.new (w41) 29 [.slice A21 ks.length c21, .int .i64 ((q : Int) + 1), .int .i64 ks.length])
    have Z21l := Z21.out.lt
    have Z21c0 := Z21.out.cell (k := 0) rfl
    have Z21c1 := Z21.out.cell (k := 1) rfl
    have Z21c2 := Z21.out.cell (k := 2) rfl
    try go_wp2_with (fail)
    refine (recs_b L21.out K7.out HKN.out (decide_eq_true rfl)).mono ?_
    rintro e w49 ⟨rfl, hb⟩
    have HW9 := Lib.hid (HW.out.upb hb)
    clear hb
    clear Z21l Z21c0 Z21c1 Z21c2
    go_wp2_with (fail)
    go_ret
    exact ⟨rfl, HW9.out.b⟩
  case pos =>
  have hd : decide ((i : Int) < (cs.length : Int)) = true := decide_eq_true (by omega)
  have hd2 : decide (i < cs.length) = true := decide_eq_true hlt
  obtain ⟨b1, o1, Ac, cc, hA1, hbb1, hx0, hx1, hx2, hxr⟩ := cs_at UW.out hlt
  subst hA1
  obtain ⟨hp1, hp2, hp3⟩ := HCS.out _ (List.getElem_mem hlt)
  obtain ⟨⟨recs, st, lf⟩, hpq⟩ : ∃ p, cs[i] = p := ⟨_, rfl⟩
  rw [hpq] at hx0 hx1 hx2 hxr hp1 hp2 hp3
  simp only at hx0 hx1 hx2 hxr hp1 hp2 hp3
  have hy0 := (HW.out.b.cell (p := ⟨b1, o1 + i * 3, none⟩) (cell_lt hx0)).trans hx0
  have hy1 := (HW.out.b.cell (p := ⟨b1, o1 + i * 3 + 1, none⟩) (cell_lt hx1)).trans hx1
  have hy2 := (HW.out.b.cell (p := ⟨b1, o1 + i * 3 + 2, none⟩) (cell_lt hx2)).trans hx2
  have UR := Lib.hid (hxr.upb HW.out.b)
  have HP1 := Lib.hid hp1
  have HP2 := Lib.hid (show recs.length ≤ 9223372036854775807 by omega)
  have HP3 := Lib.hid hp3
  have HI := Lib.hid hlt
  clear hx0 hx1 hx2 hxr hpq hp1 hp3
  go_upto_region 12 with (fail)
  clear hd hd2 hy0 hy1 hy2
  obtain ⟨Xb, hXb⟩ : ∃ b, wr.heap.size = b := ⟨_, rfl⟩
  have HDX := Lib.hid (show Db < Xb by have := Z5.out.lt; omega)
  replace Z5 := Lib.hid (Z5.out.upb (al1 (wr) (.cells #[.slice Ac recs.length cc, .bool st, .int .u8 lf] 55)))
  replace F5 := Lib.hid (F5.out.upb (al1 (wr) (.cells #[.slice Ac recs.length cc, .bool st, .int .u8 lf] 55)))
  replace K7 := Lib.hid (K7.out.upb (al1 (wr) (.cells #[.slice Ac recs.length cc, .bool st, .int .u8 lf] 55)))
  replace HW := Lib.hid (HW.out.upb (al1 (wr) (.cells #[.slice Ac recs.length cc, .bool st, .int .u8 lf] 55)))
  replace UR := Lib.hid (UR.out.upb (al1 (wr) (.cells #[.slice Ac recs.length cc, .bool st, .int .u8 lf] 55)))
  have X9 := Lib.hid (Cells.new (wr) 55 [.slice Ac recs.length cc, .bool st, .int .u8 lf])
  rw [hXb] at X9
  simp only [hXb]
  clear hXb
  generalize (wr).alloc (.cells #[.slice Ac recs.length cc, .bool st, .int .u8 lf] 55) = wx at *
  have Z5l := Z5.out.lt
  have Z5c0 := Z5.out.cell (k := 0) rfl
  have Z5c1 := Z5.out.cell (k := 1) rfl
  have Z5c2 := Z5.out.cell (k := 2) rfl
  have Z5c3 := Z5.out.cell (k := 3) rfl
  have X9l := X9.out.lt
  have X9c0 := X9.out.cell (k := 0) rfl
  have X9c1 := X9.out.cell (k := 1) rfl
  have X9c2 := X9.out.cell (k := 2) rfl
  go_wp2_with (fail)
  refine (few_any F5.out UR.out HP2.out (by show ss.length ≤ _; rw [SV.out.len]; have := HQ.out; omega) (Nat.zero_le _)).mono ?_
  rintro e w2 ⟨rfl, hb⟩
  replace Z5 := Lib.hid (Z5.out.upb hb)
  replace F5 := Lib.hid (F5.out.upb hb)
  replace K7 := Lib.hid (K7.out.upb hb)
  replace HW := Lib.hid (HW.out.upb hb)
  replace UR := Lib.hid (UR.out.upb hb)
  replace X9 := Lib.hid (X9.out.upb hb)
  clear hb
  clear Z5l Z5c0 Z5c1 Z5c2 Z5c3 X9l X9c0 X9c1 X9c2
  obtain ⟨fb, hfb⟩ : ∃ b, Jn.fewB ⟨ss, [], -1, false⟩ recs = b := ⟨_, rfl⟩
  rw [hfb]
  clear hfb
  cases fb
  case false =>
    go_wp2_with (fail)
    go_ret
    exact ⟨rfl, HW.out.b⟩
  case true =>
  have O1 := Lib.hid SV.out.open_.1
  have O2 := Lib.hid SV.out.open_.2
  have HKN := Lib.hid (show ks.length ≤ 1000000 from by have h1 := Jn.used_ge ks; have h2 := SV.out.us; have := HQ.out; omega)
  have Z5l := Z5.out.lt
  have Z5c0 := Z5.out.cell (k := 0) rfl
  have Z5c1 := Z5.out.cell (k := 1) rfl
  have Z5c2 := Z5.out.cell (k := 2) rfl
  have Z5c3 := Z5.out.cell (k := 3) rfl
  have X9l := X9.out.lt
  have X9c0 := X9.out.cell (k := 0) rfl
  have X9c1 := X9.out.cell (k := 1) rfl
  have X9c2 := X9.out.cell (k := 2) rfl
  go_wp2_with (fail)
  have HXW := Lib.hid X9.out.lt
  refine (Open_is (n := ks.length) (m := (q : Int) + 1) (s := ks.length) F5.out O1.out O2.out rfl rfl rfl).mono ?_
  rintro e w3 ⟨A10, c10, rfl, hj, hb, hnj⟩
  replace Z5 := Lib.hid (Z5.out.upb hb)
  replace F5 := Lib.hid (F5.out.upb hb)
  replace K7 := Lib.hid (K7.out.upb hb)
  replace HW := Lib.hid (HW.out.upb hb)
  replace UR := Lib.hid (UR.out.upb hb)
  replace X9 := Lib.hid (X9.out.upb hb)
  clear hb
  clear Z5l Z5c0 Z5c1 Z5c2 Z5c3 X9l X9c0 X9c1 X9c2
  have NL := Lib.hid (nj_mono hnj (Nat.le_of_lt HXW.out))
  have L0 := Lib.hid hj
  clear hj hnj HXW
  have Z5l := Z5.out.lt
  have Z5c0 := Z5.out.cell (k := 0) rfl
  have Z5c1 := Z5.out.cell (k := 1) rfl
  have Z5c2 := Z5.out.cell (k := 2) rfl
  have Z5c3 := Z5.out.cell (k := 3) rfl
  have X9l := X9.out.lt
  have X9c0 := X9.out.cell (k := 0) rfl
  have X9c1 := X9.out.cell (k := 1) rfl
  have X9c2 := X9.out.cell (k := 2) rfl
  go_upto_region 15 with (fail)
  clear Z5l Z5c0 Z5c1 Z5c2 Z5c3 X9l X9c0 X9c1 X9c2
  obtain ⟨Lb, hLb⟩ : ∃ b, w3.heap.size = b := ⟨_, rfl⟩
  have HLB := Lib.hid hLb
  have HBO := Lib.hid (Bl.mk (Below.refl w3.heap.size w3))
  have HXL := Lib.hid (show Xb < Lb by have := X9.out.lt; omega)
  have Z5o := Z5
  have F5o := F5
  have K7o := K7
  have HWo := HW
  have URo := UR
  have X9o := X9
  replace Z5 := Lib.hid (Z5.out.upb (al1 (w3) (.cells #[.slice A10 ks.length c10, .int .i64 ((q : Int) + 1), .int .i64 ks.length] 29)))
  replace F5 := Lib.hid (F5.out.upb (al1 (w3) (.cells #[.slice A10 ks.length c10, .int .i64 ((q : Int) + 1), .int .i64 ks.length] 29)))
  replace K7 := Lib.hid (K7.out.upb (al1 (w3) (.cells #[.slice A10 ks.length c10, .int .i64 ((q : Int) + 1), .int .i64 ks.length] 29)))
  replace HW := Lib.hid (HW.out.upb (al1 (w3) (.cells #[.slice A10 ks.length c10, .int .i64 ((q : Int) + 1), .int .i64 ks.length] 29)))
  replace UR := Lib.hid (UR.out.upb (al1 (w3) (.cells #[.slice A10 ks.length c10, .int .i64 ((q : Int) + 1), .int .i64 ks.length] 29)))
  replace X9 := Lib.hid (X9.out.upb (al1 (w3) (.cells #[.slice A10 ks.length c10, .int .i64 ((q : Int) + 1), .int .i64 ks.length] 29)))
  replace L0 := Lib.hid (L0.out.upb (al1 (w3) (.cells #[.slice A10 ks.length c10, .int .i64 ((q : Int) + 1), .int .i64 ks.length] 29)))
  replace HBO := Lib.hid (HBO.out.upb (al1 (w3) (.cells #[.slice A10 ks.length c10, .int .i64 ((q : Int) + 1), .int .i64 ks.length] 29)))
  have Z10 := Lib.hid (Cells.new (w3) 29 [.slice A10 ks.length c10, .int .i64 ((q : Int) + 1), .int .i64 ks.length])
  rw [hLb] at Z10
  simp only [hLb]
  clear hLb
  generalize (w3).alloc (.cells #[.slice A10 ks.length c10, .int .i64 ((q : Int) + 1), .int .i64 ks.length] 29) = wp at *
  have L0b := Lib.hid (isJ_bs L0.out)
  have Z5l := Z5.out.lt
  have Z5c0 := Z5.out.cell (k := 0) rfl
  have Z5c1 := Z5.out.cell (k := 1) rfl
  have Z5c2 := Z5.out.cell (k := 2) rfl
  have Z5c3 := Z5.out.cell (k := 3) rfl
  have X9l := X9.out.lt
  have X9c0 := X9.out.cell (k := 0) rfl
  have X9c1 := X9.out.cell (k := 1) rfl
  have X9c2 := X9.out.cell (k := 2) rfl
  have Z10l := Z10.out.lt
  have Z10c0 := Z10.out.cell (k := 0) rfl
  have Z10c1 := Z10.out.cell (k := 1) rfl
  have Z10c2 := Z10.out.cell (k := 2) rfl
  try go_wp2_with (fail)
  refine (recs_b L0b.out K7.out HKN.out (decide_eq_true rfl)).mono ?_
  rintro e w5 ⟨rfl, hb⟩
  replace Z5 := Lib.hid (Z5.out.upb hb)
  replace F5 := Lib.hid (F5.out.upb hb)
  replace K7 := Lib.hid (K7.out.upb hb)
  replace HW := Lib.hid (HW.out.upb hb)
  replace UR := Lib.hid (UR.out.upb hb)
  replace X9 := Lib.hid (X9.out.upb hb)
  replace L0 := Lib.hid (L0.out.upb hb)
  replace HBO := Lib.hid (HBO.out.upb hb)
  replace Z10 := Lib.hid (Z10.out.upb hb)
  replace L0b := Lib.hid (L0b.out.upb hb)
  clear hb
  clear Z5l Z5c0 Z5c1 Z5c2 Z5c3 X9l X9c0 X9c1 X9c2 Z10l Z10c0 Z10c1 Z10c2
  clear L0b
  have X9l := X9.out.lt
  have X9c0 := X9.out.cell (k := 0) rfl
  have X9c1 := X9.out.cell (k := 1) rfl
  have X9c2 := X9.out.cell (k := 2) rfl
  go_wp2_with (fail)
  go_loopw [74] (fun s74 wi => ∃ (k : Nat) (js ws : List By) (A10 : Option Addr) (c10 : Nat), s74 = .int .i64 k ∧ k ≤ recs.length ∧ Hid (js = ks ++ ws) ∧ Hid (Cells wi Lb 29 [.slice A10 js.length c10, .int .i64 ((q : Int) + 1), .int .i64 ks.length]) ∧ Hid (IsJ wi (.agg #[.slice A10 js.length c10, .int .i64 ((q : Int) + 1), .int .i64 ks.length]) ⟨js, ((q + 1 : Nat) : Int), ks.length⟩) ∧ Hid (NJ Xb (.agg #[.slice A10 js.length c10, .int .i64 ((q : Int) + 1), .int .i64 ks.length])) ∧ Hid (Jn.used js ≤ q + 1) ∧ Hid (Bl w3 wi)) (fun s74 _ => recs.length - (intOf s74).toNat)
  case atStart => exact ⟨0, ks, [], A10, c10, rfl, Nat.zero_le _, Lib.hid (List.append_nil ks).symm, Z10, L0, NL, Lib.hid SV.out.us, HBO⟩
  case round =>
    clear Z10 L0 NL HBO Z5 F5 K7 HW UR X9
    obtain ⟨k, js, ws, A10, c10, rfl, hk, HJS, ZL, HJ, NL, HU, HBO⟩ := hrel
    by_cases hlt2 : k < recs.length
    case neg =>
      have hd : decide ((k : Int) < (recs.length : Int)) = false := decide_eq_false (by omega)
      have hd2 : decide (k < recs.length) = false := decide_eq_false hlt2
      have Z5 := Lib.hid (Z5o.out.upb HBO.out.b)
      have F5 := Lib.hid (F5o.out.upb HBO.out.b)
      have HW := Lib.hid (HWo.out.upb HBO.out.b)
      have X9 := Lib.hid (X9o.out.upb HBO.out.b)
      clear Z5o F5o HWo X9o URo K7o HBO
      have hlen : decide ((js.length : Int) < (ks.length : Int)) = false := decide_eq_false (by rw [HJS.out, List.length_append]; omega)
      have hlen2 : decide (js.length < ks.length) = false := decide_eq_false (by rw [HJS.out, List.length_append]; omega)
      have Z5l := Z5.out.lt
      have Z5c0 := Z5.out.cell (k := 0) rfl
      have Z5c1 := Z5.out.cell (k := 1) rfl
      have Z5c2 := Z5.out.cell (k := 2) rfl
      have Z5c3 := Z5.out.cell (k := 3) rfl
      have X9l := X9.out.lt
      have X9c0 := X9.out.cell (k := 0) rfl
      have X9c1 := X9.out.cell (k := 1) rfl
      have X9c2 := X9.out.cell (k := 2) rfl
      have ZLl := ZL.out.lt
      have ZLc0 := ZL.out.cell (k := 0) rfl
      have ZLc1 := ZL.out.cell (k := 1) rfl
      have ZLc2 := ZL.out.cell (k := 2) rfl
      go_upto_if 95 with (fail)
      clear hlen hlen2 hd hd2
      go_cut [7] from 96 to 181 (fun s7 wc => s7 = .slice A7 ks.length c7 ∧ ∃ (left : Int) (A : Option Addr) (c : Nat) (A2 : Option Addr) (c2 : Nat), Hid (-1 ≤ left ∧ left ≤ 65536 ∧ (0 ≤ left → st = true)) ∧ Hid (Cells wc Db 25 [.slice A ss.length c, .slice A2 0 c2, .int .i64 (left), .bool false]) ∧ Hid (IsD wc (.agg #[.slice A ss.length c, .slice A2 0 c2, .int .i64 (left), .bool false]) ⟨ss, [], left, false⟩) ∧ Hid (NB Db (.agg #[.slice A ss.length c, .slice A2 0 c2, .int .i64 (left), .bool false]) ⟨ss, [], left, false⟩) ∧ Hid (Cells wc Lb 29 [.slice A10 js.length c10, .int .i64 ((q : Int) + 1), .int .i64 ks.length]) ∧ Hid (IsJ wc (.agg #[.slice A10 js.length c10, .int .i64 ((q : Int) + 1), .int .i64 ks.length]) ⟨js, ((q + 1 : Nat) : Int), ks.length⟩) ∧ Hid (Cells wc Xb 55 [.slice Ac recs.length cc, .bool st, .int .u8 lf]) ∧ Hid (Bl w wc))
      case first =>
        cases st
        case false =>
          go_wp2_with (fail)
          go_meet
          case rel => exact ⟨rfl, -1, A, c, A2, c2, Lib.hid ⟨by decide, by decide, fun h => absurd h (by decide)⟩, Z5, F5, NB5, ZL, HJ, X9, HW⟩
        case true =>
        obtain ⟨l, hl1, hl2⟩ : ∃ l : Nat, lf.tmod 40 = (l : Int) ∧ l < 40 := by
          have h0 := HP1.out
          have h1 : lf.tmod 40 = lf % 40 := Int.tmod_eq_emod_of_nonneg h0.1
          exact ⟨(lf % 40).toNat, by rw [h1]; omega, by omega⟩
        have hl3 : IntKind.u8.wrap (l : Int) = (l : Int) := IntWalk.u8_in _ (by omega)
        have hst := SV.out.stop (l := (l : Int)) (by omega) (by omega)
        have T1 := Lib.hid hst.1
        have T2 := Lib.hid hst.2
        have HL4 := Lib.hid hl2
        clear hst
        go_wp2_with (fail)
        clear hl1 hl2 hl3
        have HDB := Lib.hid Z5.out.lt
        refine (Stop_is (a := (l : Int)) F5.out T1.out T2.out).mono ?_
        rintro e w11 ⟨A28, c28, A29, c29, rfl, hd, hb, hsec⟩
        replace Z5 := Lib.hid (Z5.out.upb hb)
        replace F5 := Lib.hid (F5.out.upb hb)
        replace HW := Lib.hid (HW.out.upb hb)
        replace X9 := Lib.hid (X9.out.upb hb)
        replace ZL := Lib.hid (ZL.out.upb hb)
        replace HJ := Lib.hid (HJ.out.upb hb)
        clear hb
        clear Z5l Z5c0 Z5c1 Z5c2 Z5c3 X9l X9c0 X9c1 X9c2 ZLl ZLc0 ZLc1 ZLc2
        simp only [List.length_nil] at hd ⊢
        have HDD := Lib.hid hd
        have HSEC := Lib.hid hsec
        clear hd hsec
        have Z5l := Z5.out.lt
        have Z5c0 := Z5.out.cell (k := 0) rfl
        have Z5c1 := Z5.out.cell (k := 1) rfl
        have Z5c2 := Z5.out.cell (k := 2) rfl
        have Z5c3 := Z5.out.cell (k := 3) rfl
        have Z5f0 := Z5.out.frozen 0
        have Z5f1 := Z5.out.frozen 1
        have Z5f2 := Z5.out.frozen 2
        have Z5f3 := Z5.out.frozen 3
        go_wp2_with (fail)
        clear Z5l Z5c0 Z5c1 Z5c2 Z5c3 Z5f0 Z5f1 Z5f2 Z5f3
        have hgB := grown_set4 w11 Db (.slice A28 ss.length c28) (.slice A29 0 c29) (.int .i64 (l : Int)) (.bool false)
        go_meet
        case rel =>
          have hne1 : Lb ≠ Db := by have := HDX.out; have := HXL.out; omega
          have hne2 : Xb ≠ Db := by have := HDX.out; omega
          have NBN := nb_sec F5.out HDD.out HSEC.out NB5.out HDB.out
          exact ⟨rfl, (l : Int), A28, c28, A29, c29, Lib.hid ⟨by omega, by have := HL4.out; omega, fun _ => by simp⟩, Lib.hid (Z5.out.set4 _ _ _ _), Lib.hid (HDD.out.box NBN Z5.out hgB), Lib.hid NBN, Lib.hid (grownK ZL.out hgB hne1), Lib.hid (isJ_mk (IsBs.offD (isJ_bs HJ.out) (nr_of_nj NL.out HDX.out) Z5.out hgB)), Lib.hid (grownK X9.out hgB hne2), Lib.hid (HW.out.set4 HD0.out _ _ _ _)⟩
      case rest =>
        clear Z5 F5 NB5 ZL HJ X9 HW
        obtain ⟨rfl, left, A, c, A2, c2, HLF, Z5, F5, NB5, ZL, HJ, X9, HW⟩ := hcut
        have HSM := Lib.hid (Jn.sm_used (rs := js) (by have := HU.out; have := HQ.out; omega))
        have hsv := Jn.surv (ws := ws) SV.out (by rw [← HJS.out]; exact HU.out) (by have := HI.out; have := HC8.out; omega) HLF.out.1 HLF.out.2.1
        rw [← HJS.out] at hsv
        have HJL := Lib.hid (show ks.length ≤ js.length from by rw [HJS.out, List.length_append]; omega)
        have HJN := Lib.hid (show js.length ≤ 1000000 from by have h1 := Jn.used_ge js; have h2 := HU.out; have := HQ.out; omega)
        clear SV
        rcases hsv with ⟨ss', left', s1, s2, s3, sv2⟩ | ⟨hl0, ss', k', s1, s2, s3, hk1, hk2, sv2⟩
        case inl =>
          have S1 := Lib.hid s1
          have S2 := Lib.hid s2
          have S3 := Lib.hid s3
          have SV2 := Lib.hid sv2
          clear s1 s2 s3 sv2
          have Z5l := Z5.out.lt
          have Z5c0 := Z5.out.cell (k := 0) rfl
          have Z5c1 := Z5.out.cell (k := 1) rfl
          have Z5c2 := Z5.out.cell (k := 2) rfl
          have Z5c3 := Z5.out.cell (k := 3) rfl
          have ZLl := ZL.out.lt
          have ZLc0 := ZL.out.cell (k := 0) rfl
          have ZLc1 := ZL.out.cell (k := 1) rfl
          have ZLc2 := ZL.out.cell (k := 2) rfl
          go_wp2_with (fail)
          have HDB := Lib.hid Z5.out.lt
          refine (JSync_is (n := js.length) (m := (q : Int) + 1) (s := js.length) HJ.out HSM.out F5.out S1.out S2.out S3.out rfl rfl rfl).mono ?_
          rintro e w21 ⟨A30, c30, A31, c31, A32, c32, rfl, hj, hd, hb, -, hsec⟩
          replace Z5 := Lib.hid (Z5.out.upb hb)
          replace F5 := Lib.hid (F5.out.upb hb)
          replace ZL := Lib.hid (ZL.out.upb hb)
          replace HJ := Lib.hid (HJ.out.upb hb)
          replace X9 := Lib.hid (X9.out.upb hb)
          replace HW := Lib.hid (HW.out.upb hb)
          clear hb
          clear Z5l Z5c0 Z5c1 Z5c2 Z5c3 ZLl ZLc0 ZLc1 ZLc2
          simp only [List.length_nil] at hd ⊢
          have NBY := Lib.hid (nb_sec F5.out hd hsec NB5.out HDB.out)
          have HY := Lib.hid hd
          have HJ16 := Lib.hid hj
          clear hd hsec hj HDB
          go_upto_region 31 with (fail)
          replace Z5 := Lib.hid (Z5.out.upb (al1 (w21) (.cells #[.slice A30 js.length c30, .int .i64 ((q : Int) + 1), .int .i64 js.length] 29)))
          replace F5 := Lib.hid (F5.out.upb (al1 (w21) (.cells #[.slice A30 js.length c30, .int .i64 ((q : Int) + 1), .int .i64 js.length] 29)))
          replace ZL := Lib.hid (ZL.out.upb (al1 (w21) (.cells #[.slice A30 js.length c30, .int .i64 ((q : Int) + 1), .int .i64 js.length] 29)))
          replace HJ := Lib.hid (HJ.out.upb (al1 (w21) (.cells #[.slice A30 js.length c30, .int .i64 ((q : Int) + 1), .int .i64 js.length] 29)))
          replace X9 := Lib.hid (X9.out.upb (al1 (w21) (.cells #[.slice A30 js.length c30, .int .i64 ((q : Int) + 1), .int .i64 js.length] 29)))
          replace HW := Lib.hid (HW.out.upb (al1 (w21) (.cells #[.slice A30 js.length c30, .int .i64 ((q : Int) + 1), .int .i64 js.length] 29)))
          replace HY := Lib.hid (HY.out.upb (al1 (w21) (.cells #[.slice A30 js.length c30, .int .i64 ((q : Int) + 1), .int .i64 js.length] 29)))
          replace HJ16 := Lib.hid (HJ16.out.upb (al1 (w21) (.cells #[.slice A30 js.length c30, .int .i64 ((q : Int) + 1), .int .i64 js.length] 29)))
          have Z16 := Lib.hid (Cells.new (w21) 29 [.slice A30 js.length c30, .int .i64 ((q : Int) + 1), .int .i64 js.length])
          replace Z5 := Lib.hid (Z5.out.upb (al1 ((w21).alloc (.cells #[.slice A30 js.length c30, .int .i64 ((q : Int) + 1), .int .i64 js.length] 29)) (.cells #[.slice A31 ss'.length c31, .slice A32 0 c32, .int .i64 left', .bool false] 25)))
          replace F5 := Lib.hid (F5.out.upb (al1 ((w21).alloc (.cells #[.slice A30 js.length c30, .int .i64 ((q : Int) + 1), .int .i64 js.length] 29)) (.cells #[.slice A31 ss'.length c31, .slice A32 0 c32, .int .i64 left', .bool false] 25)))
          replace ZL := Lib.hid (ZL.out.upb (al1 ((w21).alloc (.cells #[.slice A30 js.length c30, .int .i64 ((q : Int) + 1), .int .i64 js.length] 29)) (.cells #[.slice A31 ss'.length c31, .slice A32 0 c32, .int .i64 left', .bool false] 25)))
          replace HJ := Lib.hid (HJ.out.upb (al1 ((w21).alloc (.cells #[.slice A30 js.length c30, .int .i64 ((q : Int) + 1), .int .i64 js.length] 29)) (.cells #[.slice A31 ss'.length c31, .slice A32 0 c32, .int .i64 left', .bool false] 25)))
          replace X9 := Lib.hid (X9.out.upb (al1 ((w21).alloc (.cells #[.slice A30 js.length c30, .int .i64 ((q : Int) + 1), .int .i64 js.length] 29)) (.cells #[.slice A31 ss'.length c31, .slice A32 0 c32, .int .i64 left', .bool false] 25)))
          replace HW := Lib.hid (HW.out.upb (al1 ((w21).alloc (.cells #[.slice A30 js.length c30, .int .i64 ((q : Int) + 1), .int .i64 js.length] 29)) (.cells #[.slice A31 ss'.length c31, .slice A32 0 c32, .int .i64 left', .bool false] 25)))
          replace HY := Lib.hid (HY.out.upb (al1 ((w21).alloc (.cells #[.slice A30 js.length c30, .int .i64 ((q : Int) + 1), .int .i64 js.length] 29)) (.cells #[.slice A31 ss'.length c31, .slice A32 0 c32, .int .i64 left', .bool false] 25)))
          replace HJ16 := Lib.hid (HJ16.out.upb (al1 ((w21).alloc (.cells #[.slice A30 js.length c30, .int .i64 ((q : Int) + 1), .int .i64 js.length] 29)) (.cells #[.slice A31 ss'.length c31, .slice A32 0 c32, .int .i64 left', .bool false] 25)))
          replace Z16 := Lib.hid (Z16.out.upb (al1 ((w21).alloc (.cells #[.slice A30 js.length c30, .int .i64 ((q : Int) + 1), .int .i64 js.length] 29)) (.cells #[.slice A31 ss'.length c31, .slice A32 0 c32, .int .i64 left', .bool false] 25)))
          have Z17 := Lib.hid (show Cells (((w21).alloc (.cells #[.slice A30 js.length c30, .int .i64 ((q : Int) + 1), .int .i64 js.length] 29)).alloc (.cells #[.slice A31 ss'.length c31, .slice A32 0 c32, .int .i64 left', .bool false] 25)) (w21.heap.size + 1) 25 [.slice A31 ss'.length c31, .slice A32 0 c32, .int .i64 left', .bool false] from by have h := Cells.new ((w21).alloc (.cells #[.slice A30 js.length c30, .int .i64 ((q : Int) + 1), .int .i64 js.length] 29)) 25 [.slice A31 ss'.length c31, .slice A32 0 c32, .int .i64 left', .bool false]; simpa only [World.size_alloc] using h)
          generalize ((w21).alloc (.cells #[.slice A30 js.length c30, .int .i64 ((q : Int) + 1), .int .i64 js.length] 29)).alloc (.cells #[.slice A31 ss'.length c31, .slice A32 0 c32, .int .i64 left', .bool false] 25) = wn at *
          have L16 := Lib.hid (isJ_bs HJ16.out)
          have L10 := Lib.hid (isJ_bs HJ.out)
          clear HJ16 F5
          have Z16l := Z16.out.lt
          have Z16c0 := Z16.out.cell (k := 0) rfl
          have Z16c1 := Z16.out.cell (k := 1) rfl
          have Z16c2 := Z16.out.cell (k := 2) rfl
          have ZLl := ZL.out.lt
          have ZLc0 := ZL.out.cell (k := 0) rfl
          have ZLc1 := ZL.out.cell (k := 1) rfl
          have ZLc2 := ZL.out.cell (k := 2) rfl
          have Z17l := Z17.out.lt
          have Z17c0 := Z17.out.cell (k := 0) rfl
          have Z17c1 := Z17.out.cell (k := 1) rfl
          have Z17c2 := Z17.out.cell (k := 2) rfl
          have Z17c3 := Z17.out.cell (k := 3) rfl
          go_upto_region 34 with (fail)
          try go_wp2_with (fail)
          refine (recs_b L16.out L10.out HJN.out (decide_eq_true rfl)).mono ?_
          rintro e w22 ⟨rfl, hb⟩
          replace Z5 := Lib.hid (Z5.out.upb hb)
          replace ZL := Lib.hid (ZL.out.upb hb)
          replace HJ := Lib.hid (HJ.out.upb hb)
          replace X9 := Lib.hid (X9.out.upb hb)
          replace HW := Lib.hid (HW.out.upb hb)
          replace HY := Lib.hid (HY.out.upb hb)
          replace Z16 := Lib.hid (Z16.out.upb hb)
          replace Z17 := Lib.hid (Z17.out.upb hb)
          replace L10 := Lib.hid (L10.out.upb hb)
          clear hb
          clear Z16l Z16c0 Z16c1 Z16c2 ZLl ZLc0 ZLc1 ZLc2 Z17l Z17c0 Z17c1 Z17c2 Z17c3
          have NR10 := Lib.hid (show NR Db (.slice A10 js.length c10) from nr_of_nj NL.out HDX.out)
          have ZLl := ZL.out.lt
          have ZLc0 := ZL.out.cell (k := 0) rfl
          have ZLc1 := ZL.out.cell (k := 1) rfl
          have ZLc2 := ZL.out.cell (k := 2) rfl
          have Z17l := Z17.out.lt
          have Z17c0 := Z17.out.cell (k := 0) rfl
          have Z17c1 := Z17.out.cell (k := 1) rfl
          have Z17c2 := Z17.out.cell (k := 2) rfl
          have Z17c3 := Z17.out.cell (k := 3) rfl
          go_upto_region 42 with (fail)
          clear ZLl ZLc0 ZLc1 ZLc2 Z17l Z17c0 Z17c1 Z17c2 Z17c3
          have Z17l := Z17.out.lt
          have Z17c0 := Z17.out.cell (k := 0) rfl
          have Z17c1 := Z17.out.cell (k := 1) rfl
          have Z17c2 := Z17.out.cell (k := 2) rfl
          have Z17c3 := Z17.out.cell (k := 3) rfl
          try go_wp2_with (fail)
          have HDB := Lib.hid Z5.out.lt
          refine (Restart_is (r := ⟨ss', [], -1, false⟩) HY.out rfl).mono ?_
          rintro e w23 ⟨A50, c50, A51, c51, rfl, hd, hb, hsec⟩
          replace Z5 := Lib.hid (Z5.out.upb hb)
          replace ZL := Lib.hid (ZL.out.upb hb)
          replace HJ := Lib.hid (HJ.out.upb hb)
          replace X9 := Lib.hid (X9.out.upb hb)
          replace HW := Lib.hid (HW.out.upb hb)
          replace HY := Lib.hid (HY.out.upb hb)
          replace Z16 := Lib.hid (Z16.out.upb hb)
          replace Z17 := Lib.hid (Z17.out.upb hb)
          replace L10 := Lib.hid (L10.out.upb hb)
          clear hb
          clear Z17l Z17c0 Z17c1 Z17c2 Z17c3
          simp only [List.length_nil] at hd ⊢
          have HDD := Lib.hid hd
          have HSEC := Lib.hid hsec
          clear hd hsec
          have Z5l := Z5.out.lt
          have Z5c0 := Z5.out.cell (k := 0) rfl
          have Z5c1 := Z5.out.cell (k := 1) rfl
          have Z5c2 := Z5.out.cell (k := 2) rfl
          have Z5c3 := Z5.out.cell (k := 3) rfl
          have Z5f0 := Z5.out.frozen 0
          have Z5f1 := Z5.out.frozen 1
          have Z5f2 := Z5.out.frozen 2
          have Z5f3 := Z5.out.frozen 3
          go_wp2_with (fail)
          clear Z5l Z5c0 Z5c1 Z5c2 Z5c3 Z5f0 Z5f1 Z5f2 Z5f3
          have hgB := grown_set4 w23 Db (.slice A50 ss'.length c50) (.slice A51 0 c51) (.int .i64 (-1)) (.bool false)
          have NBN := nb_sec HY.out HDD.out HSEC.out NBY.out HDB.out
          have Z5' := Lib.hid (Z5.out.set4 (.slice A50 ss'.length c50) (.slice A51 0 c51) (.int .i64 (-1)) (.bool false))
          have F5' := Lib.hid (HDD.out.box NBN Z5.out hgB)
          have K5' := Lib.hid (IsBs.offD L10.out NR10.out Z5.out hgB)
          have HW' := Lib.hid (HW.out.set4 HD0.out (.slice A50 ss'.length c50) (.slice A51 0 c51) (.int .i64 (-1)) (.bool false))
          have NB' := Lib.hid NBN
          unfold set4 at Z5' F5' K5' HW'
          clear hgB NBN Z5 HDD HW HY HSEC NBY
          go_roundw
          case rel => exact ⟨i + 1, A10, c10, js, ss', A50, c50, A51, c51, rfl, by go_num, HI.out, SV2, Z5', F5', NB', K5', NR10, HW'⟩
          case measure => first | exact m_less HI.out | omega | (simp [intOf]; done) | (simp [intOf]; omega)
        case inr =>
          have hst : st = true := HLF.out.2.2 hl0
          subst hst
          obtain ⟨kt, hkt⟩ : ∃ x, js.take k' = x := ⟨_, rfl⟩
          have hkl : kt.length = k' := by rw [← hkt, List.length_take]; omega
          rw [hkt] at sv2
          have S1 := Lib.hid s1
          have S2 := Lib.hid s2
          have S3 := Lib.hid s3
          have SV2 := Lib.hid sv2
          have HK1 := Lib.hid (show ks.length ≤ kt.length by omega)
          have HK2 := Lib.hid (show kt.length < js.length by omega)
          have HKT := Lib.hid (show js.take kt.length = kt by rw [hkl]; exact hkt)
          have O1 := Lib.hid SV2.out.open_.1
          have O2 := Lib.hid SV2.out.open_.2
          clear s1 s2 s3 sv2 hkt hkl hk1 hk2 hl0
          have Z5l := Z5.out.lt
          have Z5c0 := Z5.out.cell (k := 0) rfl
          have Z5c1 := Z5.out.cell (k := 1) rfl
          have Z5c2 := Z5.out.cell (k := 2) rfl
          have Z5c3 := Z5.out.cell (k := 3) rfl
          have ZLl := ZL.out.lt
          have ZLc0 := ZL.out.cell (k := 0) rfl
          have ZLc1 := ZL.out.cell (k := 1) rfl
          have ZLc2 := ZL.out.cell (k := 2) rfl
          go_wp2_with (fail)
          have HDB := Lib.hid Z5.out.lt
          refine (JSync_is (n := 0) (m := 0) (s := 0) HJ.out HSM.out F5.out S1.out S2.out S3.out rfl rfl rfl).mono ?_
          rintro e w31 ⟨A30, c30, A31, c31, A32, c32, rfl, hj, hd, hb, -, hsec⟩
          replace Z5 := Lib.hid (Z5.out.upb hb)
          replace F5 := Lib.hid (F5.out.upb hb)
          replace ZL := Lib.hid (ZL.out.upb hb)
          replace HJ := Lib.hid (HJ.out.upb hb)
          replace X9 := Lib.hid (X9.out.upb hb)
          replace HW := Lib.hid (HW.out.upb hb)
          clear hb
          clear Z5l Z5c0 Z5c1 Z5c2 Z5c3 ZLl ZLc0 ZLc1 ZLc2
          simp only [List.length_nil] at hd ⊢
          have NBY := Lib.hid (nb_sec F5.out hd hsec NB5.out HDB.out)
          have HY := Lib.hid hd
          have HJ16 := Lib.hid hj
          clear hd hsec hj HDB
          go_upto_region 31 with (fail)
          replace Z5 := Lib.hid (Z5.out.upb (al1 (w31) (.cells #[.slice A30 0 c30, .int .i64 0, .int .i64 0] 29)))
          replace F5 := Lib.hid (F5.out.upb (al1 (w31) (.cells #[.slice A30 0 c30, .int .i64 0, .int .i64 0] 29)))
          replace ZL := Lib.hid (ZL.out.upb (al1 (w31) (.cells #[.slice A30 0 c30, .int .i64 0, .int .i64 0] 29)))
          replace HJ := Lib.hid (HJ.out.upb (al1 (w31) (.cells #[.slice A30 0 c30, .int .i64 0, .int .i64 0] 29)))
          replace X9 := Lib.hid (X9.out.upb (al1 (w31) (.cells #[.slice A30 0 c30, .int .i64 0, .int .i64 0] 29)))
          replace HW := Lib.hid (HW.out.upb (al1 (w31) (.cells #[.slice A30 0 c30, .int .i64 0, .int .i64 0] 29)))
          replace HY := Lib.hid (HY.out.upb (al1 (w31) (.cells #[.slice A30 0 c30, .int .i64 0, .int .i64 0] 29)))
          replace HJ16 := Lib.hid (HJ16.out.upb (al1 (w31) (.cells #[.slice A30 0 c30, .int .i64 0, .int .i64 0] 29)))
          have Z16 := Lib.hid (Cells.new (w31) 29 [.slice A30 0 c30, .int .i64 0, .int .i64 0])
          replace Z5 := Lib.hid (Z5.out.upb (al1 ((w31).alloc (.cells #[.slice A30 0 c30, .int .i64 0, .int .i64 0] 29)) (.cells #[.slice A31 ss'.length c31, .slice A32 0 c32, .int .i64 0, .bool true] 25)))
          replace F5 := Lib.hid (F5.out.upb (al1 ((w31).alloc (.cells #[.slice A30 0 c30, .int .i64 0, .int .i64 0] 29)) (.cells #[.slice A31 ss'.length c31, .slice A32 0 c32, .int .i64 0, .bool true] 25)))
          replace ZL := Lib.hid (ZL.out.upb (al1 ((w31).alloc (.cells #[.slice A30 0 c30, .int .i64 0, .int .i64 0] 29)) (.cells #[.slice A31 ss'.length c31, .slice A32 0 c32, .int .i64 0, .bool true] 25)))
          replace HJ := Lib.hid (HJ.out.upb (al1 ((w31).alloc (.cells #[.slice A30 0 c30, .int .i64 0, .int .i64 0] 29)) (.cells #[.slice A31 ss'.length c31, .slice A32 0 c32, .int .i64 0, .bool true] 25)))
          replace X9 := Lib.hid (X9.out.upb (al1 ((w31).alloc (.cells #[.slice A30 0 c30, .int .i64 0, .int .i64 0] 29)) (.cells #[.slice A31 ss'.length c31, .slice A32 0 c32, .int .i64 0, .bool true] 25)))
          replace HW := Lib.hid (HW.out.upb (al1 ((w31).alloc (.cells #[.slice A30 0 c30, .int .i64 0, .int .i64 0] 29)) (.cells #[.slice A31 ss'.length c31, .slice A32 0 c32, .int .i64 0, .bool true] 25)))
          replace HY := Lib.hid (HY.out.upb (al1 ((w31).alloc (.cells #[.slice A30 0 c30, .int .i64 0, .int .i64 0] 29)) (.cells #[.slice A31 ss'.length c31, .slice A32 0 c32, .int .i64 0, .bool true] 25)))
          replace HJ16 := Lib.hid (HJ16.out.upb (al1 ((w31).alloc (.cells #[.slice A30 0 c30, .int .i64 0, .int .i64 0] 29)) (.cells #[.slice A31 ss'.length c31, .slice A32 0 c32, .int .i64 0, .bool true] 25)))
          replace Z16 := Lib.hid (Z16.out.upb (al1 ((w31).alloc (.cells #[.slice A30 0 c30, .int .i64 0, .int .i64 0] 29)) (.cells #[.slice A31 ss'.length c31, .slice A32 0 c32, .int .i64 0, .bool true] 25)))
          have Z17 := Lib.hid (show Cells (((w31).alloc (.cells #[.slice A30 0 c30, .int .i64 0, .int .i64 0] 29)).alloc (.cells #[.slice A31 ss'.length c31, .slice A32 0 c32, .int .i64 0, .bool true] 25)) (w31.heap.size + 1) 25 [.slice A31 ss'.length c31, .slice A32 0 c32, .int .i64 0, .bool true] from by have h := Cells.new ((w31).alloc (.cells #[.slice A30 0 c30, .int .i64 0, .int .i64 0] 29)) 25 [.slice A31 ss'.length c31, .slice A32 0 c32, .int .i64 0, .bool true]; simpa only [World.size_alloc] using h)
          generalize ((w31).alloc (.cells #[.slice A30 0 c30, .int .i64 0, .int .i64 0] 29)).alloc (.cells #[.slice A31 ss'.length c31, .slice A32 0 c32, .int .i64 0, .bool true] 25) = wn at *
          have L10 := Lib.hid (isJ_bs HJ.out)
          clear HJ16 F5 Z16
          have Z17l := Z17.out.lt
          have Z17c0 := Z17.out.cell (k := 0) rfl
          have Z17c1 := Z17.out.cell (k := 1) rfl
          have Z17c2 := Z17.out.cell (k := 2) rfl
          have Z17c3 := Z17.out.cell (k := 3) rfl
          go_wp2_with (fail)
          refine (Restart_is (r := ⟨ss', [], -1, false⟩) HY.out rfl).mono ?_
          rintro e w32 ⟨A40, c40, A41, c41, rfl, hd, hb, -⟩
          replace Z5 := Lib.hid (Z5.out.upb hb)
          replace ZL := Lib.hid (ZL.out.upb hb)
          replace HJ := Lib.hid (HJ.out.upb hb)
          replace X9 := Lib.hid (X9.out.upb hb)
          replace HW := Lib.hid (HW.out.upb hb)
          replace HY := Lib.hid (HY.out.upb hb)
          replace Z17 := Lib.hid (Z17.out.upb hb)
          replace L10 := Lib.hid (L10.out.upb hb)
          clear hb
          clear Z17l Z17c0 Z17c1 Z17c2 Z17c3
          simp only [List.length_nil] at hd ⊢
          have HDR := Lib.hid hd
          clear hd
          go_wp2_with (fail)
          have HDB := Lib.hid Z5.out.lt
          refine (Open_is (n := kt.length) (m := (q : Int) + 1) (s := kt.length) HDR.out O1.out O2.out rfl rfl rfl).mono ?_
          rintro e w33 ⟨A42, c42, rfl, hj, hb, hnj⟩
          replace Z5 := Lib.hid (Z5.out.upb hb)
          replace ZL := Lib.hid (ZL.out.upb hb)
          replace HJ := Lib.hid (HJ.out.upb hb)
          replace X9 := Lib.hid (X9.out.upb hb)
          replace HW := Lib.hid (HW.out.upb hb)
          replace HY := Lib.hid (HY.out.upb hb)
          replace Z17 := Lib.hid (Z17.out.upb hb)
          replace L10 := Lib.hid (L10.out.upb hb)
          replace HDR := Lib.hid (HDR.out.upb hb)
          clear hb
          have L42 := Lib.hid (isJ_bs hj)
          have NR42 := Lib.hid (show NR Db (.slice A42 kt.length c42) from nr_of_nj hnj HDB.out)
          clear hj hnj HDB HDR
          go_upto_region 39 with (fail)
          replace Z5 := Lib.hid (Z5.out.upb (al1 (w33) (.cells #[.slice A42 kt.length c42, .int .i64 ((q : Int) + 1), .int .i64 kt.length] 29)))
          replace ZL := Lib.hid (ZL.out.upb (al1 (w33) (.cells #[.slice A42 kt.length c42, .int .i64 ((q : Int) + 1), .int .i64 kt.length] 29)))
          replace HJ := Lib.hid (HJ.out.upb (al1 (w33) (.cells #[.slice A42 kt.length c42, .int .i64 ((q : Int) + 1), .int .i64 kt.length] 29)))
          replace X9 := Lib.hid (X9.out.upb (al1 (w33) (.cells #[.slice A42 kt.length c42, .int .i64 ((q : Int) + 1), .int .i64 kt.length] 29)))
          replace HW := Lib.hid (HW.out.upb (al1 (w33) (.cells #[.slice A42 kt.length c42, .int .i64 ((q : Int) + 1), .int .i64 kt.length] 29)))
          replace HY := Lib.hid (HY.out.upb (al1 (w33) (.cells #[.slice A42 kt.length c42, .int .i64 ((q : Int) + 1), .int .i64 kt.length] 29)))
          replace Z17 := Lib.hid (Z17.out.upb (al1 (w33) (.cells #[.slice A42 kt.length c42, .int .i64 ((q : Int) + 1), .int .i64 kt.length] 29)))
          replace L10 := Lib.hid (L10.out.upb (al1 (w33) (.cells #[.slice A42 kt.length c42, .int .i64 ((q : Int) + 1), .int .i64 kt.length] 29)))
          replace L42 := Lib.hid (L42.out.upb (al1 (w33) (.cells #[.slice A42 kt.length c42, .int .i64 ((q : Int) + 1), .int .i64 kt.length] 29)))
          have Z19 := Lib.hid (Cells.new (w33) 29 [.slice A42 kt.length c42, .int .i64 ((q : Int) + 1), .int .i64 kt.length])
          generalize (w33).alloc (.cells #[.slice A42 kt.length c42, .int .i64 ((q : Int) + 1), .int .i64 kt.length] 29) = wk at *
          have X9l := X9.out.lt
          have X9c0 := X9.out.cell (k := 0) rfl
          have X9c1 := X9.out.cell (k := 1) rfl
          have X9c2 := X9.out.cell (k := 2) rfl
          have ZLl := ZL.out.lt
          have ZLc0 := ZL.out.cell (k := 0) rfl
          have ZLc1 := ZL.out.cell (k := 1) rfl
          have ZLc2 := ZL.out.cell (k := 2) rfl
          have Z19l := Z19.out.lt
          have Z19c0 := Z19.out.cell (k := 0) rfl
          have Z19c1 := Z19.out.cell (k := 1) rfl
          have Z19c2 := Z19.out.cell (k := 2) rfl
          obtain ⟨bx, ox, A8, c8, hA, -, -, -⟩ := bs_at L10.out (k := 0) (by have := HK2.out; omega)
          subst hA
          have hcap : kt.length ≤ c10 := by
            obtain ⟨A', c', vs, e, h, _⟩ := L10.out
            injection e with _ e0 e
            have h1 := HK2.out
            omega
          have HTK := Lib.hid (show IsBs _ (.slice (some ⟨bx, ox, none⟩) kt.length c10) kt from by
            have h := bs_take (k := kt.length) (c' := c10) L10.out (Nat.le_of_lt HK2.out) hcap
            rwa [HKT.out] at h)
          have HRL := Lib.hid (show kt.length ≤ 1000000 by have := HK2.out; have := HJN.out; omega)
          have hg1 : decide ((kt.length : Int) < (ks.length : Int)) = false := decide_eq_false (by have := HK1.out; omega)
          have hg2 : decide ((kt.length : Int) > (js.length : Int)) = false := decide_eq_false (by have := HK2.out; omega)
          have hg3 : decide ((js.length : Int) < (kt.length : Int)) = false := decide_eq_false (by have := HK2.out; omega)
          have hg4 : decide (kt.length < ks.length) = false := decide_eq_false (by have := HK1.out; omega)
          have hg5 : decide (js.length < kt.length) = false := decide_eq_false (by have := HK2.out; omega)
          have hg6 : decide (kt.length > js.length) = false := decide_eq_false (by have := HK2.out; omega)
          have hcc : (kt.length : Int) ≤ (c10 : Int) := by omega
          have q0 := BW.cell X9c1
          have q1 := BW.cell ZLc0
          have q2 := BW.cell Z19c0
          refine wp_region_kept (by kernel_rfl) ?_
          repeat (go_big_quiet_step (first | (go_at_call 24; exact BW.call (recs_b (L42.out.upb (BW.h _)) (HTK.out.upb (BW.h _)) HRL.out (decide_eq_true rfl)) (fun _ _ h => h)) | fail))
          rintro _ ⟨nq, rfl⟩
          have hb := nq.h
          clear q0 q1 q2 hg1 hg2 hg3 hg4 hg5 hg6 hcc HTK hcap
          clear X9l X9c0 X9c1 X9c2 ZLl ZLc0 ZLc1 ZLc2 Z19l Z19c0 Z19c1 Z19c2
          replace Z5 := Lib.hid (Z5.out.upb hb)
          replace ZL := Lib.hid (ZL.out.upb hb)
          replace HJ := Lib.hid (HJ.out.upb hb)
          replace X9 := Lib.hid (X9.out.upb hb)
          replace HW := Lib.hid (HW.out.upb hb)
          replace HY := Lib.hid (HY.out.upb hb)
          replace Z17 := Lib.hid (Z17.out.upb hb)
          replace L10 := Lib.hid (L10.out.upb hb)
          replace L42 := Lib.hid (L42.out.upb hb)
          replace Z19 := Lib.hid (Z19.out.upb hb)
          clear hb
          generalize nq.x = w37 at *
          have Z19l := Z19.out.lt
          have Z19c0 := Z19.out.cell (k := 0) rfl
          have Z19c1 := Z19.out.cell (k := 1) rfl
          have Z19c2 := Z19.out.cell (k := 2) rfl
          have Z17l := Z17.out.lt
          have Z17c0 := Z17.out.cell (k := 0) rfl
          have Z17c1 := Z17.out.cell (k := 1) rfl
          have Z17c2 := Z17.out.cell (k := 2) rfl
          have Z17c3 := Z17.out.cell (k := 3) rfl
          go_upto_region 42 with (fail)
          clear Z19l Z19c0 Z19c1 Z19c2 Z17l Z17c0 Z17c1 Z17c2 Z17c3
          have Z17l := Z17.out.lt
          have Z17c0 := Z17.out.cell (k := 0) rfl
          have Z17c1 := Z17.out.cell (k := 1) rfl
          have Z17c2 := Z17.out.cell (k := 2) rfl
          have Z17c3 := Z17.out.cell (k := 3) rfl
          try go_wp2_with (fail)
          have HDB := Lib.hid Z5.out.lt
          refine (Restart_is (r := ⟨ss', [], -1, false⟩) HY.out rfl).mono ?_
          rintro e w34 ⟨A50, c50, A51, c51, rfl, hd, hb, hsec⟩
          replace Z5 := Lib.hid (Z5.out.upb hb)
          replace ZL := Lib.hid (ZL.out.upb hb)
          replace HJ := Lib.hid (HJ.out.upb hb)
          replace X9 := Lib.hid (X9.out.upb hb)
          replace HW := Lib.hid (HW.out.upb hb)
          replace HY := Lib.hid (HY.out.upb hb)
          replace Z17 := Lib.hid (Z17.out.upb hb)
          replace L10 := Lib.hid (L10.out.upb hb)
          replace L42 := Lib.hid (L42.out.upb hb)
          replace Z19 := Lib.hid (Z19.out.upb hb)
          clear hb
          clear Z17l Z17c0 Z17c1 Z17c2 Z17c3
          simp only [List.length_nil] at hd ⊢
          have HDD := Lib.hid hd
          have HSEC := Lib.hid hsec
          clear hd hsec
          have Z5l := Z5.out.lt
          have Z5c0 := Z5.out.cell (k := 0) rfl
          have Z5c1 := Z5.out.cell (k := 1) rfl
          have Z5c2 := Z5.out.cell (k := 2) rfl
          have Z5c3 := Z5.out.cell (k := 3) rfl
          have Z5f0 := Z5.out.frozen 0
          have Z5f1 := Z5.out.frozen 1
          have Z5f2 := Z5.out.frozen 2
          have Z5f3 := Z5.out.frozen 3
          go_wp2_with (fail)
          clear Z5l Z5c0 Z5c1 Z5c2 Z5c3 Z5f0 Z5f1 Z5f2 Z5f3
          have hgB := grown_set4 w34 Db (.slice A50 ss'.length c50) (.slice A51 0 c51) (.int .i64 (-1)) (.bool false)
          have NBN := nb_sec HY.out HDD.out HSEC.out NBY.out HDB.out
          have Z5' := Lib.hid (Z5.out.set4 (.slice A50 ss'.length c50) (.slice A51 0 c51) (.int .i64 (-1)) (.bool false))
          have F5' := Lib.hid (HDD.out.box NBN Z5.out hgB)
          have K5' := Lib.hid (IsBs.offD L42.out NR42.out Z5.out hgB)
          have HW' := Lib.hid (HW.out.set4 HD0.out (.slice A50 ss'.length c50) (.slice A51 0 c51) (.int .i64 (-1)) (.bool false))
          have NB' := Lib.hid NBN
          unfold set4 at Z5' F5' K5' HW'
          clear hgB NBN Z5 HDD HW HY HSEC NBY
          go_roundw
          case rel => exact ⟨i + 1, A42, c42, kt, ss', A50, c50, A51, c51, rfl, by go_num, HI.out, SV2, Z5', F5', NB', K5', NR42, HW'⟩
          case measure => first | exact m_less HI.out | omega | (simp [intOf]; done) | (simp [intOf]; omega)
    case pos =>
    have hd : decide ((k : Int) < (recs.length : Int)) = true := decide_eq_true (by omega)
    have hd2 : decide (k < recs.length) = true := decide_eq_true hlt2
    obtain ⟨b2, o2, A15, c15, hA7, hbb2, hc1, hb1⟩ := bs_at (URo.out.upb HBO.out.b) hlt2
    subst hA7
    have hbl := HP3.out k hlt2
    obtain ⟨b, hbq⟩ : ∃ b, recs[k] = b := ⟨_, rfl⟩
    rw [hbq] at hc1 hb1 hbl
    have HBI := Lib.hid hb1
    have HBL := Lib.hid hbl
    have HOK := Lib.hid (show Jn.OkJ ⟨js, ((q + 1 : Nat) : Int), ks.length⟩ from by have h1 := HU.out; rw [HJS.out] at h1 ⊢; exact SV.out.okj h1)
    have HSM := Lib.hid (Jn.sm_used (rs := js) (by have := HU.out; have := HQ.out; omega))
    clear hb1 hbl hbq
    have zll := ZL.out.lt
    have zc0 := ZL.out.cell (k := 0) rfl
    have zc1 := ZL.out.cell (k := 1) rfl
    have zc2 := ZL.out.cell (k := 2) rfl
    by_cases hfit : (Jn.nsec b.length : Int) ≤ ((q + 1 : Nat) : Int) - Jn.used js
    case neg =>
      have HE := Lib.hid (show Jn.appE ⟨js, ((q + 1 : Nat) : Int), ks.length⟩ b = 2 from by unfold Jn.appE; rw [if_pos HOK.out, if_neg hfit])
      have HR := Lib.hid (show Jn.appJ ⟨js, ((q + 1 : Nat) : Int), ks.length⟩ b = j0 from by unfold Jn.appJ; rw [if_pos HOK.out, if_neg hfit])
      clear hfit
      go_wp2_with (fail)
      refine (JAppendL_is (n := 0) (m := 0) (s := 0) HJ.out HSM.out HOK.out HBI.out HBL.out HE.out HR.out rfl rfl rfl).mono ?_
      rintro e wy ⟨A16, c16, rfl, -, hb, -⟩
      clear zc0 zc1 zc2 zll hc1
      have HBy := Lib.hid hb
      clear hb
      go_wp2_with (fail)
      have h2 := HBy.out.up (al1 wy (.cells #[.slice A16 0 c16, .int .i64 0, .int .i64 0] 29))
      exact ⟨⟨k + 1, js, ws, A10, c10, rfl, hlt2, HJS, Lib.hid (ZL.out.upb h2), Lib.hid (HJ.out.upb h2), NL, HU, Lib.hid (HBO.out.upb h2)⟩, m_less hlt2⟩
    case pos =>
    have HE := Lib.hid (show Jn.appE ⟨js, ((q + 1 : Nat) : Int), ks.length⟩ b = 0 from by unfold Jn.appE; rw [if_pos HOK.out, if_pos hfit])
    have HR0 := Lib.hid (show Jn.appJ ⟨js, ((q + 1 : Nat) : Int), ks.length⟩ b = ⟨js ++ [b], ((q + 1 : Nat) : Int), ks.length⟩ from by unfold Jn.appJ; rw [if_pos HOK.out, if_pos hfit])
    have HU1 := Lib.hid (show Jn.used (js ++ [b]) ≤ q + 1 from by rw [Jn.used_append]; simp only [Jn.used]; omega)
    have HJS1 := Lib.hid (show js ++ [b] = ks ++ (ws ++ [b]) from by rw [HJS.out, List.append_assoc])
    obtain ⟨jt, hjt⟩ : ∃ j, js ++ [b] = j := ⟨_, rfl⟩
    have HR := Lib.hid (show Jn.appJ ⟨js, ((q + 1 : Nat) : Int), ks.length⟩ b = ⟨jt, ((q + 1 : Nat) : Int), ks.length⟩ from hjt ▸ HR0.out)
    have HU2 := Lib.hid (show Jn.used jt ≤ q + 1 from hjt ▸ HU1.out)
    have HJS2 := Lib.hid (show jt = ks ++ (ws ++ [b]) from hjt ▸ HJS1.out)
    clear hfit hjt HR0 HU1 HJS1
    go_wp2_with (fail)
    refine (JAppendL_is (n := jt.length) (m := (q : Int) + 1) (s := ks.length) HJ.out HSM.out HOK.out HBI.out HBL.out HE.out HR.out rfl rfl rfl).mono ?_
    rintro e wy ⟨A16, c16, rfl, hj, hb, hnj⟩
    clear zc0 zc1 zc2 zll hc1
    have HBy := Lib.hid hb
    have HJ2 := Lib.hid hj
    have HNJ := Lib.hid hnj
    have ZL2 := Lib.hid (ZL.out.upb hb)
    clear hb hj hnj
    have zc0 := ZL2.out.cell (k := 0) rfl
    have zc1 := ZL2.out.cell (k := 1) rfl
    have zc2 := ZL2.out.cell (k := 2) rfl
    have zf0 := ZL2.out.frozen 0
    have zf1 := ZL2.out.frozen 1
    have zf2 := ZL2.out.frozen 2
    have zl := ZL2.out.lt
    go_wp2_with (fail)
    have hg3 := grown_set3 wy Lb (.slice A16 jt.length c16) (.int .i64 ((q : Int) + 1)) (.int .i64 ks.length)
    have ha3 := al1 (set3 wy Lb (.slice A16 jt.length c16) (.int .i64 ((q : Int) + 1)) (.int .i64 ks.length)) (.cells #[.slice A16 jt.length c16, .int .i64 ((q : Int) + 1), .int .i64 ks.length] 29)
    have hLi := ZL.out.lt
    have hLe := HLB.out
    have hXe := HXL.out
    exact ⟨⟨k + 1, jt, ws ++ [b], A16, c16, rfl, hlt2, HJS2, Lib.hid ((ZL2.out.set3 _ _ _).upb ha3), Lib.hid (isJ_mk ((IsBs.offJ (isJ_bs HJ2.out) (nr_of_nj HNJ.out hLi) ZL2.out hg3).upb ha3)), Lib.hid (nj_mono HNJ.out (by omega)), HU2, Lib.hid (Bl.mk ((below_set3 (HBO.out.upb HBy.out).b (Nat.le_of_eq hLe) _ _ _).up ha3))⟩, m_less hlt2⟩
end Go.Proofs.Ytkcnanclpkongaa
