/- Walks of wanting and Divide. -/
import Derived.Test.YtagbdjdphghflaaW2
import Derived.Test.YtagbdjdphghflaaIter
namespace Go.Proofs.Ytagbdjdphghflaa
open Go.RowKit
attribute [local go_sem] Oper.semAt_some

def protW (bd bn n0 : Nat) : Nat → Prop := fun b => b = bd ∨ b = bn ∨ b < n0

set_option maxHeartbeats 1000000 in
theorem wanting1_iter (bd bn : Nat) (n : Int) (A : Option Addr) (cap : Nat) (xs : List Int) (w0 W : World) (hd : W.cell? ⟨bd, 0, none⟩ = some (.slice A xs.length cap)) (hn : W.cell? ⟨bn, 0, none⟩ = some (.int .i64 n))
    (hr : RowAt w0 A (xs.map (Value.int .i64))) (hb0 : Below w0.heap.size w0 W) (hl : xs.length ≤ 100) :
    Iter Try.prog 31 #[.pointer (some ⟨bd, 0, none⟩), .pointer (some ⟨bn, 0, none⟩)] (fun i : Nat => #[.int .i64 i]) (Pl.want n 0 xs) (protW bd bn w0.heap.size) W := by
  intro l J Jx hJ hJx hY h0
  have HR := Lib.hid hr
  have HN := Lib.hid hn
  have HY := Lib.hid hY
  have HJ := Lib.hid hJ
  have HJx := Lib.hid hJx
  clear hr hn hY hJ hJx
  refine callsIn_of_wp Try.func31 rfl trivial ?_ rfl
  simp only [Try.ntmps31, List.size_toArray, List.length_cons, List.length_nil, Nat.reduceAdd, Nat.reduceSub, Array.replicate_succ, Array.replicate_zero, List.push_toArray, List.append_toArray, List.nil_append, List.cons_append]
  gi_wp2
  gi_loopw [8] (fun i wr => ∃ k : Nat, k ≤ xs.length ∧ i = .int .i64 k ∧ J (Pl.want n 0 (xs.take k)).length wr ∧ RStep W.heap.size (protW bd bn w0.heap.size) W wr) (fun i _ => xs.length - (intOf i).toNat)
  case atStart => exact ⟨0, Nat.zero_le _, rfl, h0, RStep.refl _ _ _⟩
  case round =>
    obtain ⟨k, hk, rfl, hj, hs⟩ := hrel
    by_cases hlt : k < xs.length
    · obtain ⟨b, off, rfl, hbb, hc0⟩ := ints_at HR.out hlt
      have hc := hs.cell (.inr (.inr hbb)) ((hb0.cell (p := ⟨b, off + k, none⟩) hbb).trans hc0)
      have hn := hs.cell (.inr (.inl rfl)) HN.out
      by_cases hw : n < xs[k]
      · obtain ⟨hl1, hw1⟩ := Pl.want_at n xs k hlt hw
        obtain ⟨fn, tmps, assign, body, hy, hR⟩ := HY.out _ hl1 wr hj
        have HRr := Lib.hid hR
        have HT := Lib.hid (Pl.want_take n xs k hlt)
        rw [hw1] at hy
        clear hc0 hR hw1
        gi_wp2
        refine ⟨rfl, HRr.out.mono ?_⟩
        rintro e W3 (⟨rfl, hJ3, hs3⟩ | ⟨rfl, hJx3⟩)
        · gi_wp2
          go_roundw
          case rel => exact ⟨k + 1, by omega, by go_num, by rw [HT.out, if_pos hw]; simpa using hJ3, hs.trans hs3⟩
          case measure => first | omega | (simp [intOf]; omega)
        · gi_wp2
          refine bodyPost_ret (results_none rfl _ _ _) rfl ?_
          exact ⟨⟨_, rfl⟩, .inr ⟨_, hl1, hJx3⟩⟩
      · have HT := Lib.hid (Pl.want_take n xs k hlt)
        gi_wp2
        refine ⟨fun _ h => (by cases h), ?_⟩
        gi_wp2
        go_roundw
        case rel => exact ⟨k + 1, by omega, by go_num, by rw [HT.out, if_neg (by omega)]; simpa using hj, hs⟩
        case measure => first | omega | (simp [intOf]; omega)
    · gi_wp2
      go_end0
      exact ⟨⟨_, rfl⟩, .inl (by rwa [List.take_of_length_le (by omega)] at hj)⟩

set_option maxHeartbeats 400000 in
theorem wanting_any (v : Value) (n : Int) (w : World) (hv : ∃ A l c, v = .slice A l c) :
    Calls Try.prog 22 #[v, .int .i64 n] w fun e w' => e = .returned (.func (.func 31) #[] #[.pointer (some ⟨w.heap.size, 0, none⟩), .pointer (some ⟨w.heap.size + 1, 0, none⟩)]) ∧ (w.alloc (.cells #[v] 22)).alloc (.cells #[.int .i64 n] 3) = w' := by
  obtain ⟨A, l, c, rfl⟩ := hv
  go_enter Try.func22, Try.ntmps22
  go_wp2
  go_ret
  exact ⟨rfl, rfl⟩

def OwnInts (W : World) (base : Nat) (v : Value) (xs : List Int) : Prop := W.ownsRow base 3 1 v xs.length (xs.map (Value.int .i64))

theorem OwnInts.ints {W : World} {base : Nat} {v : Value} {xs : List Int} (h : OwnInts W base v xs) : IsInts W v xs := by
  rcases h.2 with ⟨rfl, h0⟩ | ⟨g, cap, cur, rfl, _, hg, _, _, _, ht⟩
  · have : xs = [] := List.eq_nil_of_length_eq_zero h0
    subst this
    exact IsInts.nil
  · refine ⟨_, cap, rfl, fun _ => ⟨g, 0, rfl, (Array.getElem?_eq_some_iff.1 hg).1, fun i hi => ?_⟩⟩
    have := World.ownsRow.cellAt h i (by simpa using hi)
    rw [Nat.zero_add, this, List.getElem?_eq_getElem hi]
theorem boxed_below {W W' : World} {B : Nat} {t : TypeId} {v : Value} (h : Boxed W B t v) (hb : Below W.heap.size W W') : Boxed W' B t v := (hb.block B h.lt).trans h
theorem own_below {W W' : World} {base : Nat} {v : Value} {xs : List Int} (h : OwnInts W base v xs) (hb : Below W.heap.size W W') : OwnInts W' base v xs := (IStep.of_below (B := 0) hb).owns h

theorem own_snoc {W : World} {base : Nat} {v : Value} {xs : List Int} {m : Int} (h : W.ownsRow base 3 1 v (xs.length + 1) (xs.map (Value.int .i64) ++ [.int .i64 m])) : OwnInts W base v (xs ++ [m]) := by
  unfold OwnInts; simpa using h

theorem info3 : (Try.prog.info? 3).map (fun i => (i.zero, i.size, i.bytes)) = some (some (.int .i64 0), 1, 8) := by kernel_rfl

theorem level_bd (c : Int) (xs : List Int) (hS : Small xs) (hc : 0 ≤ c) : 0 ≤ Pl.level c xs ∧ Pl.level c xs ≤ 1099511627776 ∧ Pl.sumMin (Pl.level c xs) xs ≤ c := by
  have hm := Pl.most_bd xs 0 (by omega) hS.2
  have hz := Pl.sumMin_zero xs (fun x hx => (hS.2 x hx).1)
  have := Pl.lev_spec c xs (Pl.most xs 0).toNat hc (by omega)
  exact ⟨this.1, by have := this.2.1; unfold Pl.level; omega, this.2.2.1⟩

def divideR (c : Int) (xs : List Int) : List Int := if Pl.err c xs = 0 then Pl.divide c xs else []

/-- the end of Divide, behind the loop -/
theorem divide_end {w W : World} {c : Int} {xs ys : List Int} {u : Value} {D : Nat} {fn : Func} (hres : fn.results = #[.cell 4 22, .tmp 5]) (h2 : Boxed W w.heap.size 22 u) (h3 : OwnInts W w.heap.size u ys) (h5 : Below w.heap.size w W) (hD : w.heap.size ≤ D)
    (hK : W.heap[D]? = some (.deferred (some []))) (hfin : divideR c xs = ys) (he : Pl.err c xs = 0) (tmps : Array Value) (t4 : tmps.getD 4 undef = .pointer (some ⟨w.heap.size, 0, none⟩)) (t5 : tmps.getD 5 undef = .int .i64 0) :
    bodyPostM Fence.wide 0 Try.prog fn (fun e w' => (∃ u, e = .returned (.tuple #[u, .int .i64 (Pl.err c xs)]) ∧ IsInts w' u (divideR c xs)) ∧ Below w.heap.size w w') .ret
      { tmps := tmps, defers := [{ target := .collected D, args := #[] }] } (W.setCell ⟨w.heap.size, 0, none⟩ u) := by
  have hb := h2.set u
  have hK' : (W.setCell ⟨w.heap.size, 0, none⟩ u).heap[D]? = some (.deferred (some [])) := (KeepsOthers.setCell W _ u).same D _ hK rfl
  have hs : IStep w.heap.size (W.setCell ⟨w.heap.size, 0, none⟩ u) ((W.setCell ⟨w.heap.size, 0, none⟩ u).putObj D (.deferred none)) := IStep.putObj _ hD hK' rfl
  have hcell := (hs.boxed hb).cell
  refine ⟨by simp, .inl ⟨_, _, rfl, run_takeDeferred hK', ?_⟩⟩
  have hown : OwnInts ((W.setCell ⟨w.heap.size, 0, none⟩ u).putObj D (.deferred none)) w.heap.size u ys :=
    hs.owns (h3.kept (grownBy_setCell' _ _ _) (.inr (fun e => (h2.not_row (by decide) h3) e.symm)))
  refine ⟨.tuple #[u, .int .i64 0], ?_, ⟨u, by rw [he], by rw [hfin]; exact hown.ints⟩, takes_below hD hK' (h5.setCell (Nat.le_refl _) _)⟩
  obtain ⟨A3, l3, cap3, rfl⟩ : ∃ A3 l3 cap3, u = .slice A3 l3 cap3 := by
    rcases h3.2 with ⟨rfl, h0⟩ | ⟨g, cap3, _, rfl, _⟩
    · exact ⟨_, _, _, rfl⟩
    · exact ⟨_, _, _, rfl⟩
  have t4' : tmps[4]?.getD undef = .pointer (some ⟨w.heap.size, 0, none⟩) := by rw [← t4]; simp
  have t5' : tmps[5]?.getD undef = .int .i64 0 := by rw [← t5]; simp
  simp [results, hres, go_sem, t4', t5', hcell]

set_option maxHeartbeats 1000000 in
theorem Divide_any (c : Int) (v : Value) (xs : List Int) (w : World) (hv : IsInts w v xs) (hl : xs.length ≤ 9223372036854775807) :
    Calls Try.prog 10 #[.int .i64 c, v] w fun e w' => (∃ u, e = .returned (.tuple #[u, .int .i64 (Pl.err c xs)]) ∧ IsInts w' u (divideR c xs)) ∧ Below w.heap.size w w' := by
  have HV := Lib.hid hv
  obtain ⟨A, cap, rfl, hr⟩ := hv
  clear hr
  by_cases he : Pl.err c xs = 0
  · have HE := Lib.hid he
    have H0 := err_ok he
    have hc0 := H0.1
    have hc1 := H0.2.1
    have HS := Lib.hid H0.2.2.1
    have h32 := H0.2.2.2
    clear he H0
    obtain ⟨i0, hi, hz0, hz1, hz2⟩ := info_parts info3
    refine (callsIn_wide (n := 0)).1 ?_
    refine callsIn_of_wp_marks Try.func10 rfl trivial ?_ rfl
    simp only [Try.ntmps10, List.size_toArray, List.length_cons, List.length_nil, Nat.reduceAdd, Nat.reduceSub, Array.replicate_succ, Array.replicate_zero, List.push_toArray, List.append_toArray, List.nil_append, List.cons_append]
    gi_wp2_with (fail)
    refine inC (check_any c _ xs _ (HV.out.below ((Below.refl _ w).alloc (Nat.le_refl _) _)) hl) ?_
    rintro e w1 ⟨rfl, hb1⟩
    rw [HE.out]
    have hbx1 : Boxed w1 w.heap.size 22 (.slice none 0 0) := boxed_below (Boxed.new w 22 _) hb1
    have hbw1 : Below w.heap.size w w1 := ((Below.refl _ w).alloc (Nat.le_refl _) _).up hb1
    have HBX := Lib.hid hbx1
    have HBW := Lib.hid hbw1
    clear hb1 hbx1 hbw1
    gi_wp2_with (fail)
    refine inC (level_any c _ xs _ (HV.out.below HBW.out) HS.out hc0) ?_
    rintro e w2 ⟨rfl, hb2⟩
    have HBX2 := Lib.hid (boxed_below HBX.out hb2)
    have HBW2 := Lib.hid (HBW.out.up hb2)
    clear hb2 HBX HBW
    obtain ⟨n, hn⟩ : ∃ n, Pl.level c xs = n := ⟨_, rfl⟩
    rw [hn]
    have HN := Lib.hid hn
    clear hn
    gi_wp2_with (fail)
    gi_loopw [22] (fun i wr => ∃ k : Nat, k ≤ xs.length ∧ i = .int .i64 k ∧ (∃ u, Boxed wr w.heap.size 22 u ∧ OwnInts wr w.heap.size u ((xs.take k).map (min · n))) ∧ Below w.heap.size w wr) (fun i _ => xs.length - (intOf i).toNat)
    case atStart => exact ⟨0, Nat.zero_le _, rfl, ⟨_, HBX2.out, World.ownsRow_nil _ _ _ _⟩, HBW2.out⟩
    case round =>
      obtain ⟨k, hk, rfl, ⟨u, hbx, hown⟩, hbw⟩ := hrel
      by_cases hlt : k < xs.length
      · obtain ⟨A', cap', hA', hr'⟩ := HV.out.below hbw
        cases hA'
        obtain ⟨b, off, rfl, _, hc⟩ := ints_at hr' hlt
        have hcb := hbx.cell
        have hlen : ((xs.take k).map (min · n)).length = k := by simp; omega
        have hst : ∀ m : Int, m = min xs[k] n → (xs.take k).map (min · n) ++ [m] = (xs.take (k + 1)).map (min · n) := by
          rintro m rfl; rw [List.take_succ_eq_append_getElem hlt, List.map_append]; rfl
        have HST := Lib.hid hst
        have HLEN := Lib.hid hlen
        clear hr' hst hlen
        by_cases hmn : xs[k] ≤ n
        · gi_wp2_with (gi_at_builtin; refine wpListIn_append_own _ rfl _ _ 22 rfl w.heap.size 3 i0 (.int .i64 0) 1 8 Try.underlying22 hi hz0 hz1 hz2 rfl (by decide) _ _ _ rfl (World.ownsRow.alloc hown _) ⟨wr.heap.size, 0, none⟩ 1 1 [.int .i64 xs[k]] rfl rfl (cell_one_new _ _ _) (by simp [Value.oneCell']) (by rw [HLEN.out]; unfold maxLen; omega) (by rw [HLEN.out]; omega) (by have := hbw.size; simp; omega) ?_; intro v' wx hown' hgrow _; rw [HLEN.out] at hown'; obtain ⟨g', cap', rfl⟩ := ownsRow_succ hown'; obtain ⟨hv1, hv2, hr2, hk2, hb2⟩ := hbx.appended (by decide) hown hbw.size (Nat.le_refl _) hown' hgrow; have hc1 := hv1.cell; have hf1 := hv1.frozen)
          go_roundw
          case rel => exact ⟨k + 1, by omega, by go_num, ⟨_, hv2, by rw [← HST.out xs[k] (by omega)]; exact own_snoc (by rw [HLEN.out]; exact hr2)⟩, hbw.trans hb2⟩
          case measure => first | omega | (simp [intOf]; omega)
        · gi_wp2_with (gi_at_builtin; refine wpListIn_append_own _ rfl _ _ 22 rfl w.heap.size 3 i0 (.int .i64 0) 1 8 Try.underlying22 hi hz0 hz1 hz2 rfl (by decide) _ _ _ rfl (World.ownsRow.alloc hown _) ⟨wr.heap.size, 0, none⟩ 1 1 [.int .i64 n] rfl rfl (cell_one_new _ _ _) (by simp [Value.oneCell']) (by rw [HLEN.out]; unfold maxLen; omega) (by rw [HLEN.out]; omega) (by have := hbw.size; simp; omega) ?_; intro v' wx hown' hgrow _; rw [HLEN.out] at hown'; obtain ⟨g', cap', rfl⟩ := ownsRow_succ hown'; obtain ⟨hv1, hv2, hr2, hk2, hb2⟩ := hbx.appended (by decide) hown hbw.size (Nat.le_refl _) hown' hgrow; have hc1 := hv1.cell; have hf1 := hv1.frozen)
          go_roundw
          case rel => exact ⟨k + 1, by omega, by go_num, ⟨_, hv2, by rw [← HST.out n (by omega)]; exact own_snoc (by rw [HLEN.out]; exact hr2)⟩, hbw.trans hb2⟩
          case measure => first | omega | (simp [intOf]; omega)
      · have hkx : xs.take k = xs := List.take_of_length_le (by omega)
        rw [hkx] at hown
        clear hkx
        have hlv : 0 ≤ n ∧ n ≤ 1099511627776 ∧ Pl.sumMin n xs ≤ c := by
          rw [← HN.out]; exact level_bd c xs HS.out hc0
        obtain ⟨hn0, hn1, hn2⟩ := hlv
        have hg1 := (Pl.sumMin_bd n xs HS.out.2 hn0).1
        obtain ⟨L, hL⟩ : ∃ L : Nat, c - Pl.sumMin n xs = L := ⟨(c - Pl.sumMin n xs).toNat, by omega⟩
        have HL := Lib.hid hL
        have hLb : (L : Int) ≤ 1099511627776 := by omega
        have Hug := Lib.hid hown.lt
        clear hL
        gi_wp2_with (fail)
        refine inC (given_any _ xs n _ (HV.out.below hbw) HS.out hn0 (by omega)) ?_
        rintro e w3 ⟨rfl, rfl⟩
        gi_wp2_with (fail)
        refine inC (wanting_any _ n _ ⟨_, _, _, rfl⟩) ?_
        rintro e w4 ⟨rfl, rfl⟩
        gi_wp2_with (fail)
        rw [HL.out]
        have hB3 : Below wr.heap.size wr (((wr.alloc (.cells #[.int .i64 L] 3)).alloc (.cells #[.slice A xs.length cap] 22)).alloc (.cells #[.int .i64 n] 3)) :=
          (((Below.refl _ wr).alloc (Nat.le_refl _) _).alloc (by simp) _).alloc (by simp; omega) _
        have hx1 : Boxed (((wr.alloc (.cells #[.int .i64 L] 3)).alloc (.cells #[.slice A xs.length cap] 22)).alloc (.cells #[.int .i64 n] 3)) wr.heap.size 3 (.int .i64 L) :=
          ((Boxed.new wr 3 _).alloc _).alloc _
        have hx2 : Boxed (((wr.alloc (.cells #[.int .i64 L] 3)).alloc (.cells #[.slice A xs.length cap] 22)).alloc (.cells #[.int .i64 n] 3)) (wr.heap.size + 1) 22 (.slice A xs.length cap) := by
          have := (Boxed.new (wr.alloc (.cells #[.int .i64 L] 3)) 22 (.slice A xs.length cap)).alloc (.cells #[.int .i64 n] 3)
          simpa using this
        have hx3 : Boxed (((wr.alloc (.cells #[.int .i64 L] 3)).alloc (.cells #[.slice A xs.length cap] 22)).alloc (.cells #[.int .i64 n] 3)) (wr.heap.size + 1 + 1) 3 (.int .i64 n) := by
          have := Boxed.new ((wr.alloc (.cells #[.int .i64 L] 3)).alloc (.cells #[.slice A xs.length cap] 22)) 3 (.int .i64 n)
          simpa using this
        obtain ⟨wL, hwL⟩ : ∃ wL, (((wr.alloc (.cells #[.int .i64 L] 3)).alloc (.cells #[.slice A xs.length cap] 22)).alloc (.cells #[.int .i64 n] 3)) = wL := ⟨_, rfl⟩
        rw [hwL] at hB3 hx1 hx2 hx3 ⊢
        have hbwL : Below w.heap.size w wL := hbw.up hB3
        have hsz : wr.heap.size + 3 ≤ wL.heap.size := by rw [← hwL]; simp
        clear hwL
        have hbxL := boxed_below hbx hB3
        have hownL := own_below hown hB3
        obtain ⟨A2, cap2, hA2, hr2⟩ := HV.out
        cases hA2
        have HB3 := Lib.hid hB3
        have hww : w.heap.size < wr.heap.size := hbx.lt
        clear hbx hown hB3 hbw
        refine rf_outer (Pl.want n 0 xs) (protW (wr.heap.size + 1) (wr.heap.size + 1 + 1) w.heap.size)
          (fun k W => k ≤ L ∧ Boxed W w.heap.size 22 u ∧ OwnInts W w.heap.size u (Pl.bump ((Pl.want n 0 xs).take k) (xs.map (min · n))) ∧ Boxed W wr.heap.size 3 (.int .i64 ((L : Int) - k)) ∧ Below w.heap.size w W)
          (fun c _ W => c = .exit 2 ∧ Boxed W w.heap.size 22 u ∧ OwnInts W w.heap.size u (Pl.bump ((Pl.want n 0 xs).take L) (xs.map (min · n))) ∧ Below w.heap.size w W)
          (enc := fun i : Nat => #[.int .i64 i]) rfl (enters_of Try.func31 (by kernel_rfl) rfl) (fun _ => rfl) ?hP ?hit ?hI ?hIx ?h0 ?hround ?hdone ?hstop
        case hP => rintro b (rfl | rfl | hb) <;> omega
        case hit =>
          intro W hW
          exact wanting1_iter _ _ n A cap xs w W (boxed_below hx2 hW).cell (boxed_below hx3 hW).cell hr2 (hbwL.up hW) (by omega)
        case hI =>
          rintro k X Y ⟨h1, h2, h3, h4, h5⟩ hs
          exact ⟨h1, hs.boxed h2, hs.owns h3, hs.boxed h4, h5.trans (hs.below hbwL.size h5.size)⟩
        case hIx =>
          rintro c k X Y ⟨h1, h2, h3, h5⟩ hs
          exact ⟨h1, hs.boxed h2, hs.owns h3, h5.trans (hs.below hbwL.size h5.size)⟩
        case h0 => exact ⟨Nat.zero_le _, hbxL, hownL, by simpa using hx1, hbwL⟩
        case hround =>
          rintro l k hk W hl ⟨h1, h2, h3, h4, h5⟩
          have hiw := Pl.want_lt n xs 0 _ (List.getElem_mem hk)
          have HTS := Lib.hid (Pl.bump_take_succ _ k hk (xs.map (min · n)))
          generalize (Pl.want n 0 xs)[k] = i at hiw HTS ⊢
          gi_wp2
          refine ⟨RStep.refl _ _ _, ?_⟩
          rintro W2 hW2 _
          replace h2 := hW2.boxed h2
          replace h3 : OwnInts W2 w.heap.size u _ := hW2.owns h3
          replace h4 := hW2.boxed h4
          replace h5 := h5.trans (hW2.below hbwL.size h5.size)
          have hbd := Pl.bump_bd ((Pl.want n 0 xs).take k) (xs.map (min · n)) 1099511627776 (fun j => by
            by_cases hj : j < xs.length
            · have := HS.out.2 xs[j] (List.getElem_mem hj)
              rw [List.getElem?_eq_getElem (by simpa using hj)]
              simp; omega
            · rw [List.getElem?_eq_none (by simp; omega)]; simp) i
          have hblen := Pl.bump_length ((Pl.want n 0 xs).take k) (xs.map (min · n))
          have htl : ((Pl.want n 0 xs).take k).length ≤ 100 := by
            have := Pl.want_length n xs 0
            rw [List.length_take]; omega
          generalize hqq : Pl.bump ((Pl.want n 0 xs).take k) (xs.map (min · n)) = q at h3 hbd hblen HTS
          have HQQ := Lib.hid hqq
          clear hqq
          have hql : q.length = xs.length := by simpa using hblen
          have hiq : i < q.length := by omega
          obtain ⟨g, cap3, hu⟩ : ∃ g cap3, u = .slice (some ⟨g, 0, none⟩) q.length cap3 := by
            rcases h3.2 with ⟨_, h0⟩ | ⟨g, cap3, _, rfl, _⟩
            · omega
            · exact ⟨g, cap3, rfl⟩
          subst hu
          have hcell := World.ownsRow.cellAt h3 i (by omega)
          have hfro := World.ownsRow.frozenAt h3 i
          have hst := World.ownsRow.stored h3 i (.int .i64 (q[i]?.getD 0 + 1))
          have hgw := h3.lt g rfl
          rw [List.getElem?_map, List.getElem?_eq_getElem hiq] at hcell
          rw [List.getElem?_eq_getElem hiq] at hbd hst HTS
          simp only [Option.map_some, Option.getD_some] at hcell hbd hst HTS
          have hc4 := h2.cell
          have hc9 := h4.cell
          have hf9 := h4.frozen
          have hgr : g < wr.heap.size := (Hug.out g rfl).2
          have hne : wr.heap.size ≠ g := by omega
          have hne2 : w.heap.size ≠ g := fun e => (h2.not_row (by decide) h3) (by rw [e]; rfl)
          have HQ := Lib.hid hql
          have HST := Lib.hid hst
          clear hql hst hblen
          by_cases hz : (L : Int) - k = 0
          · have hzb : ((L : Int) - k == 0) = true := by simpa using hz
            have HZ := Lib.hid hz
            clear hz
            gi_wp2
            obtain rfl : k = L := by have := HZ.out; omega
            exact ⟨RStep.refl _ _ _, rfl, h2, by rw [HQQ.out]; exact h3, h5⟩
          · have hzb : ((L : Int) - k == 0) = false := by simpa using hz
            gi_wp2
            have hb1 : Boxed (W2.setCell ⟨g, i, none⟩ (.int .i64 (q[i] + 1))) wr.heap.size 3 (.int .i64 ((L : Int) - k)) := h4.kept HST.out.2 (by simpa using hne)
            have hb2 : Boxed (W2.setCell ⟨g, i, none⟩ (.int .i64 (q[i] + 1))) w.heap.size 22 _ := h2.kept HST.out.2 (by simpa using hne2)
            refine ⟨(RStep.setCell _ _ _ ?_).trans (RStep.setCell _ _ _ ?_), by omega, hb2.other (by omega) _, ?_, ?_, ?_⟩
            · rintro (h | h | h) <;> simp at h <;> omega
            · rintro (h | h | h) <;> simp at h <;> omega
            · have ho : OwnInts (W2.setCell ⟨g, i, none⟩ (.int .i64 (q[i] + 1))) w.heap.size (.slice (some ⟨g, 0, none⟩) q.length cap3) (Pl.bump ((Pl.want n 0 xs).take (k + 1)) (xs.map (min · n))) := by
                rw [HTS.out]
                have := HST.out.1
                unfold OwnInts
                rw [List.map_set, List.length_set]
                exact this
              exact ho.kept (grownBy_setCell' _ _ _) (.inr (by simp [Value.ownBlock]; omega))
            · have := hb1.set (.int .i64 ((L : Int) - k - 1))
              rw [show (L : Int) - ((k + 1 : Nat) : Int) = (L : Int) - k - 1 by omega]
              exact this
            · exact (h5.setCell (p := ⟨g, i, none⟩) hgw.1 _).setCell (p := ⟨wr.heap.size, 0, none⟩) (by show w.heap.size ≤ wr.heap.size; omega) _
        case hdone =>
          rintro D W hD ⟨h1, h2, h3, h4, h5⟩ hK
          have hfin : divideR c xs = Pl.bump ((Pl.want n 0 xs).take (Pl.want n 0 xs).length) (xs.map (min · n)) := by
            unfold divideR Pl.divide
            rw [if_pos HE.out, HN.out, HL.out, Pl.dv_bump, List.take_of_length_le h1, List.take_length]
          have hc4 := h2.cell
          have hf4 := h2.frozen
          have HFin := Lib.hid (divide_end (fn := Try.f10) rfl h2 h3 h5 (Nat.le_trans hbwL.size hD) hK hfin HE.out)
          clear hfin
          obtain ⟨A3, l3, cap3, hu⟩ : ∃ A3 l3 cap3, u = .slice A3 l3 cap3 := by
            rcases h3.2 with ⟨rfl, h0⟩ | ⟨g, cap3, _, rfl, _⟩
            · exact ⟨_, _, _, rfl⟩
            · exact ⟨_, _, _, rfl⟩
          subst hu
          gi_wp2
          exact HFin.out _ rfl rfl
        case hstop =>
          rintro D c' k W hD hle ⟨rfl, h2, h3, h5⟩ hK
          have hfin : divideR c xs = Pl.bump ((Pl.want n 0 xs).take L) (xs.map (min · n)) := by
            unfold divideR Pl.divide
            rw [if_pos HE.out, HN.out, HL.out, Pl.dv_bump]
          have hc4 := h2.cell
          have hf4 := h2.frozen
          have HFin := Lib.hid (divide_end (fn := Try.f10) rfl h2 h3 h5 (Nat.le_trans hbwL.size hD) hK hfin HE.out)
          clear hfin
          obtain ⟨A3, l3, cap3, hu⟩ : ∃ A3 l3 cap3, u = .slice A3 l3 cap3 := by
            rcases h3.2 with ⟨rfl, h0⟩ | ⟨g, cap3, _, rfl, _⟩
            · exact ⟨_, _, _, rfl⟩
            · exact ⟨_, _, _, rfl⟩
          subst hu
          gi_wp2
          exact HFin.out _ rfl rfl
  · have hne : (Pl.err c xs != 0) = true := by simpa using he
    go_enter Try.func10, Try.ntmps10
    go_wp2_with (fail)
    refine (check_any c _ xs _ (HV.out.below ((Below.refl _ w).alloc (Nat.le_refl _) _)) hl).mono ?_
    rintro e w1 ⟨rfl, hb1⟩
    have hbx1 : Boxed w1 w.heap.size 22 (.slice none 0 0) := boxed_below (Boxed.new w 22 _) hb1
    have hbw1 : Below w.heap.size w w1 := ((Below.refl _ w).alloc (Nat.le_refl _) _).up hb1
    have hcb := hbx1.cell
    have hfb := hbx1.frozen
    go_wp2_with (fail)
    refine bodyPost_ret (v := .tuple #[.slice none 0 0, .int .i64 (Pl.err c xs)]) (by simp [results, Try.results10, go_sem, hcb]) rfl ⟨⟨_, rfl, ?_⟩, hbw1.setCell (Nat.le_refl _) _⟩
    unfold divideR
    rw [if_neg he]
    exact IsInts.nil

end Go.Proofs.Ytagbdjdphghflaa
