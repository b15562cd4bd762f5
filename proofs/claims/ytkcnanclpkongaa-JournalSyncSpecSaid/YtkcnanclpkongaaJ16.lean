/- Walk of the program's Open. -/
import Derived.Test.YtkcnanclpkongaaJ15
import Derived.Test.YtkcnanclpkongaaJD
import Derived.Test.YtkcnanclpkongaaJP4
namespace Go.Proofs.Ytkcnanclpkongaa
open Go.RowKit
set_option linter.unusedVariables false
set_option linter.unusedSimpArgs false
set_option maxRecDepth 20000
attribute [local go_sem] Oper.semAt_some

theorem OwnBytes.offS {W : World} {b1 b2 : Nat} {u v : Value} {b : By} {os : List By} (h : OwnBytes W b1 u b) (hv : OwnSs W b2 v os) : OffB v.ownBlock W u b := by
  obtain ⟨A, c, e, hc, hr, k1, k2⟩ := own_rowAt (show W.ownsRow b1 5 1 u _ _ from h)
  refine ⟨A, c, e, hc, fun hn => ?_⟩
  have hn2 : b.map encB ≠ [] := by simpa using hn
  obtain ⟨g, off, e2, hg, hcc⟩ := hr hn2
  obtain ⟨g', hg'⟩ := k2 hn2
  have e3 := k1 g' hg' hn2
  rw [e3] at e2
  injection e2 with e2
  injection e2 with e4 e5
  subst e4 e5
  refine ⟨g', 0, e3, fun h0 => ?_, hg, fun i hi => by rw [hcc i (by simpa using hi)]; simp⟩
  obtain ⟨vs, _, ho, _⟩ := hv
  rcases ho.2 with ⟨rfl, _⟩ | ⟨g1, cap, cur, rfl, _, hh, _⟩
  · cases h0
  · rcases (show W.ownsRow b1 5 1 u _ _ from h).2 with ⟨rfl, _⟩ | ⟨g2, cap2, cur2, rfl, _, hh2, _⟩
    · cases hg'
    · have e6 : g1 = g' := by simpa [Value.ownBlock] using h0
      have e7 : g2 = g' := by simpa [Value.ownBlock] using hg'
      subst e6
      subst e7
      rw [hh] at hh2
      injection hh2 with hh2
      injection hh2 with _ ht
      exact absurd ht (by decide)
theorem IsBytes.offBoxJ {W W' : World} {v : Value} {bs : By} (h : IsBytes W v bs) {B : Nat} {A n c m s} (hC : Cells W B 29 [.slice A n c, .int .i64 m, .int .i64 s]) :
    ∃ A1 c1, v = .slice A1 bs.length c1 ∧ bs.length ≤ c1 ∧ (bs ≠ [] → ∃ b off, A1 = some ⟨b, off, none⟩ ∧ b ≠ B ∧ b < W.heap.size ∧ ∀ i (h : i < bs.length), W.cell? ⟨b, off + i, none⟩ = some (encB bs[i])) := by
  obtain ⟨A2, c2, e2, hc2, hr2⟩ := h
  refine ⟨A2, c2, e2, hc2, fun hn => ?_⟩
  have hn2 : bs.map encB ≠ [] := by simpa using hn
  obtain ⟨b, off, e3, hb, hcc⟩ := hr2 hn2
  refine ⟨b, off, e3, fun e => ?_, hb, fun i hi => by rw [hcc i (by simpa using hi)]; simp⟩
  subst e
  have h0 := hcc 0 (List.length_pos_iff.2 hn2)
  rw [cell_of_row W b _ _ 29 (0, 0) hC] at h0
  match off with
  | 0 => simp [encB] at h0
  | 1 => simp [encB] at h0
  | 2 => simp [encB] at h0
  | q + 3 => simp at h0
theorem OffB.boxJ {o : Option Nat} {W W' : World} {v : Value} {bs : By} (h : OffB o W v bs) {B : Nat} {A n c m s} (hC : Cells W B 29 [.slice A n c, .int .i64 m, .int .i64 s]) (hg : W.grownBy W' (some B)) : OffB o W' v bs := by
  obtain ⟨A1, c1, e1, hc1, hr1⟩ := h.bytes.offBoxJ (W' := W') hC
  obtain ⟨A', c', e, hc, hr⟩ := h
  refine ⟨A', c', e, hc, fun hn => ?_⟩
  obtain ⟨b, off, ea, hne, hlt, hcc⟩ := hr hn
  obtain ⟨b', off', ea', hne', _⟩ := hr1 hn
  rw [e] at e1
  injection e1 with e1
  rw [e1, ea'] at ea
  injection ea with ea
  injection ea with ea
  subst ea
  exact ⟨b', off, by rw [e1, ea']; simp_all, hne, Nat.lt_of_lt_of_le hlt hg.size, fun i hi => (World.cell?_of_block (hg.block b' hlt (fun e => hne' (by injection e)))).trans (hcc i hi)⟩
theorem OwnSs.boxJ {W W' : World} {base : Nat} {v : Value} {ss : List By} (h : OwnSs W base v ss) {B : Nat} {A n c m s} (hC : Cells W B 29 [.slice A n c, .int .i64 m, .int .i64 s]) (hg : W.grownBy W' (some B)) : OwnSs W' base v ss := by
  obtain ⟨vs, hl, ho, hi⟩ := h
  refine ⟨vs, hl, World.ownsRow.kept ho hg ?_, fun i h h' => (hi i h h').boxJ hC hg⟩
  rcases ho.2 with ⟨rfl, _⟩ | ⟨g, cap, cur, rfl, _, hg2, _⟩
  · exact .inl rfl
  · refine .inr (fun e => ?_)
    have e2 : g = B := by simpa [Value.ownBlock] using e
    subst e2
    rw [show W.heap[g]? = _ from hC] at hg2
    injection hg2 with hg2
    injection hg2 with _ ht
    exact absurd ht (by decide)
theorem OwnSs.notJ {W : World} {base : Nat} {v : Value} {ss : List By} (h : OwnSs W base v ss) {B : Nat} {cs : List Value} (hC : Cells W B 29 cs) : v.ownBlock ≠ some B := by
  obtain ⟨vs, hl, ho, hi⟩ := h
  rcases ho.2 with ⟨rfl, _⟩ | ⟨g, cap, cur, rfl, _, hg2, _⟩
  · intro e; cases e
  · intro e
    have e2 : g = B := by simpa [Value.ownBlock] using e
    subst e2
    rw [show W.heap[g]? = _ from hC] at hg2
    injection hg2 with hg2
    injection hg2 with _ ht
    exact absurd ht (by decide)
theorem OffB.istep {B : Nat} {o : Option Nat} {X Y : World} {v : Value} {bs : By} (h : OffB o X v bs) (hs : IStep B X Y) : OffB o Y v bs := by
  obtain ⟨A, c, e, hc, hr⟩ := h
  refine ⟨A, c, e, hc, fun hn => ?_⟩
  obtain ⟨b, off, ea, hne, hlt, hcc⟩ := hr hn
  exact ⟨b, off, ea, hne, Nat.lt_of_lt_of_le hlt hs.size, fun i hi => hs.cell (hcc i hi)⟩
theorem OwnSs.istep {B : Nat} {base : Nat} {X Y : World} {v : Value} {ss : List By} (h : OwnSs X base v ss) (hs : IStep B X Y) : OwnSs Y base v ss := by
  obtain ⟨vs, hl, ho, hi⟩ := h
  exact ⟨vs, hl, hs.owns ho, fun i h h' => (hi i h h').istep hs⟩
theorem OwnSs.shape {W : World} {base : Nat} {v : Value} {ss : List By} (h : OwnSs W base v ss) : ∃ A c, v = .slice A ss.length c := by
  obtain ⟨A, c, _, e, _⟩ := h.is
  exact ⟨A, c, e⟩
theorem istep_below {w X Y : World} {B n : Nat} (h : Below n w X) (hn : n ≤ w.heap.size) (hs : IStep B X Y) (hB : n ≤ B) : Below n w Y := by
  refine ⟨hs.os.trans h.os, hs.tape.trans h.tape, hs.output.trans h.output, Nat.le_trans h.size hs.size, fun b hlt => ?_⟩
  have h4 : b < X.heap.size := Nat.lt_of_lt_of_le (Nat.lt_of_lt_of_le hlt hn) h.size
  rw [← h.block b hlt, Array.getElem?_eq_getElem h4]
  exact hs.block b _ (Array.getElem?_eq_getElem h4) (.inr (by omega))

theorem recs_count {l : List By} (hs : S128 l) : (Jn.Records l).length ≤ l.length := by
  obtain ⟨f', last', _, _, h3, _, _⟩ := Jn.recs_pre (l := l) (l' := l) rfl hs.2 (G := 4294967296) (fun s h => Nat.le_of_lt (Jn.gen_lt (hs.2 s h))) (Jn.Records l) [] (l.length + 1) 0 0 (by rw [List.append_nil]; rfl) (Nat.zero_le _) (by omega) (Nat.zero_le _) (fun _ _ => rfl)
  have := Jn.used_ge (Jn.Records l)
  omega
theorem istep_marks {lo : Nat} {X Y : World} (o1 : Y.os = X.os) (o2 : Y.tape = X.tape) (o3 : Y.output = X.output) (o4 : Y.heap.size = X.heap.size) (o5 : ∀ b o, X.heap[b]? = some o → (o.isCells = true ∨ b < lo) → Y.heap[b]? = some o) : IStep lo X Y :=
  ⟨o1, o2, o3, by omega, o5⟩
theorem records_is {A : Option Addr} {n c : Nat} {w : World} : Calls Try.prog 32 #[.slice A n c] w fun e w' => e = .returned (.func (.func 60) #[] #[.pointer (some ⟨w.heap.size, 0, none⟩)]) ∧ w' = w.alloc (.cells #[.slice A n c] 22) := by
  go_enter Try.func32, Try.ntmps32
  go_wp2
  go_ret
  exact ⟨rfl, rfl⟩

set_option maxHeartbeats 8000000 in
set_option maxRecDepth 100000 in
theorem Open_any {v : Value} {d : Dk} {w : World} (hv : IsD w v d) :
    Calls Try.prog 12 #[v] w fun e w' => ∃ x, e = .returned (.tuple #[x, .int .i64 (Jn.openE d)]) ∧ IsJ w' x (Jn.openJ d) ∧ Below w.heap.size w w' ∧ NJ w.heap.size x := by
  obtain ⟨A, c, A2, c2, rfl, h1, h2⟩ := hv.open_
  obtain ⟨ss, ps, left, st⟩ := d
  simp only at hv h1 h2 ⊢
  obtain ⟨W0, hW0⟩ : ∃ W, (w.alloc (.cells #[.slice A ss.length c, .slice A2 ps.length c2, .int .i64 left, .bool st] 25)).alloc (.cells #[.slice none 0 0, .int .i64 0, .int .i64 0] 29) = W := ⟨_, rfl⟩
  have HW0 := Lib.hid (show Below w.heap.size w W0 from by rw [← hW0]; exact (al1 w _).up (al1 _ _))
  have HZ := Lib.hid (show Cells W0 w.heap.size 25 [.slice A ss.length c, .slice A2 ps.length c2, .int .i64 left, .bool st] from by rw [← hW0]; exact (Cells.new w 25 [_, _, _, _]).upb (al1 _ _))
  have HY := Lib.hid (show Cells W0 (w.heap.size + 1) 29 [.slice none 0 0, .int .i64 0, .int .i64 0] from by
    rw [← hW0]
    have h := Cells.new (w.alloc (.cells #[.slice A ss.length c, .slice A2 ps.length c2, .int .i64 left, .bool st] 25)) 29 [.slice none 0 0, .int .i64 0, .int .i64 0]
    rw [World.size_alloc] at h
    exact h)
  have HV := Lib.hid (hv.upb HW0.out)
  have HSW := Lib.hid h1
  obtain ⟨k, hk⟩ : ∃ k, Dv.chk ⟨ss, ps, left, st⟩ = k := ⟨_, rfl⟩
  have HK := Lib.hid hk
  obtain ⟨e0, he⟩ : ∃ r, Jn.openE ⟨ss, ps, left, st⟩ = r := ⟨_, rfl⟩
  obtain ⟨x0, hx⟩ : ∃ r, Jn.openJ ⟨ss, ps, left, st⟩ = r := ⟨_, rfl⟩
  have HE := Lib.hid he
  have HX := Lib.hid hx
  rw [he, hx]
  have HWE := Lib.hid hW0
  clear hv h1 h2 hk he hx hW0
  refine (callsIn_wide (n := 0)).1 ?_
  refine callsIn_of_wp_marks Try.func12 rfl trivial ?_ rfl
  simp only [Try.ntmps12, List.size_toArray, List.length_cons, List.length_nil, Nat.reduceAdd, Nat.reduceSub, Array.replicate_succ, Array.replicate_zero, List.push_toArray, List.append_toArray, List.nil_append, List.cons_append]
  gi_wp2_with (fail)
  simp only [HWE.out]
  clear HWE
  refine inC (Check_is HV.out HK.out) ?_
  rintro e w1 ⟨rfl, hb1⟩
  have HW1 := Lib.hid (HW0.out.up hb1)
  replace HZ := Lib.hid (HZ.out.upb hb1)
  replace HY := Lib.hid (HY.out.upb hb1)
  clear hb1 HW0
  have z0 := HZ.out.cell (k := 0) rfl
  have z1 := HZ.out.cell (k := 1) rfl
  have z2 := HZ.out.cell (k := 2) rfl
  have z3 := HZ.out.cell (k := 3) rfl
  have y0 := HY.out.cell (k := 0) rfl
  have y1 := HY.out.cell (k := 1) rfl
  have y2 := HY.out.cell (k := 2) rfl
  have f0 := HY.out.frozen 0
  have f1 := HY.out.frozen 1
  have f2 := HY.out.frozen 2
  have zl := HZ.out.lt
  have yl := HY.out.lt
  by_cases hok : Dv.Ok ⟨ss, ps, left, st⟩
  case neg =>
    obtain rfl : k = 40 := by rw [← HK.out]; unfold Dv.chk; rw [if_neg hok]
    obtain rfl : e0 = 40 := by rw [← HE.out]; unfold Jn.openE; rw [if_neg hok]
    obtain rfl : x0 = j0 := by rw [← HX.out]; unfold Jn.openJ; rw [if_neg (fun h => hok h.1)]
    clear hok
    gi_wp2_with (fail)
    refine ⟨_, jl_out rfl rfl rfl (HY.out.set3 (.slice none 0 0) (.int .i64 0) (.int .i64 0)), ?_⟩
    exact ⟨_, rfl, IsJ.zero, below_set3 HW1.out (by omega) _ _ _, nj_nil⟩
  case pos =>
  obtain rfl : k = 0 := by rw [← HK.out]; unfold Dv.chk; rw [if_pos hok]
  have H128 := Lib.hid (s128_ok hok)
  cases st
  case true =>
    obtain rfl : e0 = 40 := by rw [← HE.out]; unfold Jn.openE; rw [if_pos hok, if_pos rfl]
    obtain rfl : x0 = j0 := by rw [← HX.out]; unfold Jn.openJ; rw [if_neg (fun h => by cases h.2.1)]
    clear hok
    gi_wp2_with (fail)
    refine ⟨_, jl_out rfl rfl rfl (HY.out.set3 (.slice none 0 0) (.int .i64 0) (.int .i64 0)), ?_⟩
    exact ⟨_, rfl, IsJ.zero, below_set3 HW1.out (by omega) _ _ _, nj_nil⟩
  case false =>
  by_cases hps : ps.length = 0
  case neg =>
    obtain rfl : e0 = 1 := by rw [← HE.out]; unfold Jn.openE; rw [if_pos hok, if_neg (fun h => by cases h), if_neg hps]
    obtain rfl : x0 = j0 := by rw [← HX.out]; unfold Jn.openJ; rw [if_neg (fun h => hps h.2.2)]
    have t1 : decide ((0 : Int) < (ps.length : Int)) = true := decide_eq_true (by omega)
    have t2 : decide (0 < ps.length) = true := decide_eq_true (by omega)
    clear hok hps
    gi_wp2_with (fail)
    refine ⟨_, jl_out rfl rfl rfl (HY.out.set3 (.slice none 0 0) (.int .i64 0) (.int .i64 0)), ?_⟩
    exact ⟨_, rfl, IsJ.zero, below_set3 HW1.out (by omega) _ _ _, nj_nil⟩
  case pos =>
  obtain rfl : e0 = 0 := by rw [← HE.out]; unfold Jn.openE; rw [if_pos hok, if_neg (fun h => by cases h), if_pos hps]
  obtain rfl : x0 = ⟨Jn.Records ss, ss.length, (Jn.Records ss).length⟩ := by rw [← HX.out]; unfold Jn.openJ; rw [if_pos ⟨hok, rfl, hps⟩]
  have t1 : decide ((0 : Int) < (ps.length : Int)) = false := decide_eq_false (by omega)
  have t2 : decide (0 < ps.length) = false := decide_eq_false (by omega)
  clear hok hps
  gi_wp2_with (fail)
  refine inC records_is ?_
  rintro e w2 ⟨rfl, hw2⟩
  clear z0 z1 z2 z3 y0 y1 y2 f0 f1 f2 zl yl t1 t2
  obtain ⟨WB, hWB⟩ : ∃ W, w1.setCell ⟨w.heap.size + 1, 1, none⟩ (.int .i64 ss.length) = W := ⟨_, rfl⟩
  have HYB := Lib.hid (show Cells WB (w.heap.size + 1) 29 [.slice none 0 0, .int .i64 ss.length, .int .i64 0] from by rw [← hWB]; exact HY.out.set (k := 1) _)
  have HBB := Lib.hid (show Below w.heap.size w WB from by rw [← hWB]; exact HW1.out.setCell (p := ⟨w.heap.size + 1, 1, none⟩) (by simp) _)
  rw [hWB] at hw2
  simp only [hWB]
  have HTB := Lib.hid (show w2.cell? ⟨WB.heap.size, 0, none⟩ = some (.slice A ss.length c) from by rw [hw2]; exact (Cells.new WB 22 [.slice A ss.length c]).cell (k := 0) rfl)
  have HY2 := Lib.hid (show Cells w2 (w.heap.size + 1) 29 [.slice none 0 0, .int .i64 ss.length, .int .i64 0] from by rw [hw2]; exact HYB.out.upb (al1 _ _))
  have HB2 := Lib.hid (show Below w.heap.size w w2 from by rw [hw2]; exact HBB.out.up (al1 _ _))
  have HLX := Lib.hid (show WB.heap.size < w2.heap.size from by rw [hw2]; simp)
  have HLB := Lib.hid (show w.heap.size + 1 < WB.heap.size from HYB.out.lt)
  obtain ⟨bx, hbx⟩ : ∃ x, WB.heap.size = x := ⟨_, rfl⟩
  rw [hbx] at HTB HLX HLB
  simp only [hbx]
  clear hw2 hWB hbx HY HZ HW1 HYB HBB
  gi_wp2_with (fail)
  refine rf_outerV (Jn.Records ss) (protR bx w.heap.size) (fun k X => ∃ v, Hid (Cells X (w.heap.size + 1) 29 [v, .int .i64 ss.length, .int .i64 0]) ∧ Hid (OwnSs X (bx + 1) v ((Jn.Records ss).take k)) ∧ Hid (Below w.heap.size w X) ∧ Hid (w2.heap.size ≤ X.heap.size)) (fun _ _ _ => False)
    (Rel := RelR w.heap.size) rfl (fun _ _ => rfl) ?hps ?hP ?hit ?hI ?hIx ?h0 ?hround ?hdone ?hstop
  case hps => rintro x xv X ⟨z, u, rfl, _⟩; rfl
  case hP =>
    intro b h
    have h1 := HLX.out
    have h2 := HB2.out.size
    rcases h with h | h <;> omega
  case hit =>
    intro X hX
    exact records_iter bx ss A c w.heap.size w X ((hX.cell (p := ⟨bx, 0, none⟩) HLX.out).trans HTB.out) HSW.out (HB2.out.up hX) H128.out (HB2.out.up hX).size
  case hI =>
    rintro k X Y ⟨v, h1, h2, h3, h4⟩ hs
    exact ⟨v, Lib.hid (hs.block _ _ h1.out (.inl rfl)), Lib.hid (h2.out.istep hs), Lib.hid (istep_below h3.out (Nat.le_refl _) hs HB2.out.size), Lib.hid (Nat.le_trans h4.out hs.size)⟩
  case hIx => rintro c k X Y h hs; exact h
  case h0 => exact ⟨_, HY2, Lib.hid (by rw [List.take_zero]; exact ownS_nil _ _), HB2, Lib.hid (Nat.le_refl _)⟩
  case hround =>
    rintro lr k hk X xv hlr ⟨v, HC, HO, HK, HZ⟩ ⟨z, u, rfl, hob⟩
    have HS := Lib.hid (List.take_succ_eq_append_getElem hk)
    have hcnt := recs_count H128.out
    have hss := H128.out.1
    have hgl : ((Jn.Records ss).take k).length ≤ 1000000 := by have := List.length_take_le k (Jn.Records ss); omega
    have HGL := Lib.hid hgl
    obtain ⟨b, hb⟩ : ∃ b, (Jn.Records ss)[k] = b := ⟨_, rfl⟩
    rw [hb] at hob HS
    obtain ⟨Ab, cb, eb, -⟩ := own_rowAt (show X.ownsRow w.heap.size 5 1 u _ _ from hob)
    subst eb
    have HOB := Lib.hid hob
    clear hob hb hcnt hss hgl
    gi_wp2_with (fail)
    refine ⟨RStep.refl _ _ _, ?_⟩
    rintro X2 hX2 _
    have HC2 := Lib.hid (show Cells X2 (w.heap.size + 1) 29 [v, .int .i64 ss.length, .int .i64 0] from hX2.block _ _ HC.out (.inl rfl))
    have HO2 := Lib.hid (HO.out.istep hX2)
    have HK2 := Lib.hid (istep_below HK.out (Nat.le_refl _) hX2 HB2.out.size)
    have HZ2 := Lib.hid (Nat.le_trans HZ.out hX2.size)
    have HOF := Lib.hid ((show OwnBytes X2 w.heap.size _ b from hX2.owns HOB.out).offS HO2.out)
    have HOW := Lib.hid (one_rowO HOF.out)
    have HNB := Lib.hid (HO2.out.notJ HC2.out)
    obtain ⟨on, hon⟩ : ∃ x, (Jn.Records ss).take k = x := ⟨_, rfl⟩
    rw [hon] at HO2 HS HGL
    have HSZ := Lib.hid (show bx + 1 ≤ X2.heap.size from by have := HLX.out; have := HZ2.out; omega)
    obtain ⟨Av, cv, ev⟩ := HO2.out.shape
    subst ev
    clear hon HC HO HK HZ HOB hX2
    have y0 := HC2.out.cell (k := 0) rfl
    have f0 := HC2.out.frozen 0
    have yl := HC2.out.lt
    gi_wp2_with (gi_at_builtin; go_must (refine wpListIn_app rfl (.tmp 31) (.tmp 33) 22 _ _ rfl rfl rfl (appS_run (base := bx + 1) (ss := on) (ts := [b]) _ (HO2.out.below (al1 X2 _)) (us := [.slice Ab b.length cb]) rfl HOW.out.1 HOW.out.2 (by have := HGL.out; simp; omega) (by have := HSZ.out; simp; omega)) ?_); rintro v6 w6 ⟨ho6, hg6, -⟩; obtain ⟨A6, c6, e6⟩ := ho6.shape; generalize (on ++ [b]).length = n6 at e6; subst e6; have HO6 := Lib.hid ho6; have HG6 := Lib.hid hg6; have HC6 := Lib.hid (show Cells w6 (w.heap.size + 1) 29 [.slice Av on.length cv, .int .i64 ss.length, .int .i64 0] from (hg6.block _ (HC2.out.upb (al1 X2 _)).lt (fun e => HNB.out e.symm)).trans (HC2.out.upb (al1 X2 _))); have y6 := HC6.out.cell (k := 0) rfl; have f6 := HC6.out.frozen 0; have yl6 := HC6.out.lt; clear ho6 hg6)
    have hrow : ∀ j, (Value.slice Av on.length cv).ownBlock = some j → bx + 1 ≤ j := fun j hj => HO2.out.lt' j hj
    refine ⟨((RStep.of_below (al1 X2 _)).trans (RStep.grown HG6.out ?_)).trans (RStep.setCell _ _ _ ?_), _, Lib.hid (HC6.out.set (k := 0) _), Lib.hid ?_, Lib.hid ?_, Lib.hid ?_⟩
    · intro j o hj ho
      have hlow := hrow j hj
      refine ⟨?_, fun h => ?_⟩
      · obtain ⟨vs, hl, ho2, _⟩ := HO2.out.below (al1 X2 (.cells #[.slice Ab b.length cb] 35))
        rcases ho2.2 with ⟨e, _⟩ | ⟨g', cap', cur, e1, e2, e3, _⟩
        · rw [e] at hj; cases hj
        · rw [e1] at hj
          injection hj with hj
          subst hj
          rw [e3] at ho; cases ho; rfl
      · have := HLB.out
        rcases h with h | h <;> omega
    · intro h
      have := HLB.out
      dsimp only at h
      rcases h with h | h <;> omega
    · rw [HS.out]
      exact HO6.out.boxJ HC6.out (grown_set _ _ _ _)
    · exact ((HK2.out.up (al1 X2 _)).grown HG6.out (HK2.out.up (al1 X2 _)).size (fun j hj => by have := hrow j hj; have := HLB.out; omega)).setCell (p := ⟨w.heap.size + 1, 0, none⟩) (by simp) _
    · have := HZ2.out
      have h9 := HG6.out.size
      rw [World.size_alloc] at h9
      simp only [World.size_setCell]
      omega
  case hstop => rintro D c k W _ _ h; exact h.elim
  case hdone =>
    rintro D W hD ⟨v, HC, HO, HK, HZ⟩ hDm
    rw [List.take_length] at HO
    obtain ⟨Av, cv, ev⟩ := HO.out.shape
    subst ev
    have y0 := HC.out.cell (k := 0) rfl
    have y1 := HC.out.cell (k := 1) rfl
    have y2 := HC.out.cell (k := 2) rfl
    have f0 := HC.out.frozen 0
    have f1 := HC.out.frozen 1
    have f2 := HC.out.frozen 2
    have yl := HC.out.lt
    have HG := Lib.hid (grown_trans (grown_set W (w.heap.size + 1) 2 (.int .i64 (Jn.Records ss).length)) (grown_set3 (W.setCell ⟨w.heap.size + 1, 2, none⟩ (.int .i64 (Jn.Records ss).length)) (w.heap.size + 1) (.slice Av (Jn.Records ss).length cv) (.int .i64 ss.length) (.int .i64 (Jn.Records ss).length)))
    have HCF := Lib.hid ((HC.out.set (k := 2) (.int .i64 (Jn.Records ss).length)).set3 (.slice Av (Jn.Records ss).length cv) (.int .i64 ss.length) (.int .i64 (Jn.Records ss).length))
    have hDl := (Array.getElem?_eq_some_iff.1 hDm).1
    have hsz := HB2.out.size
    have hlx := HLX.out
    have hlb := HLB.out
    gi_wp2_with (fail)
    refine leaves_marks _ (set3 (W.setCell ⟨w.heap.size + 1, 2, none⟩ (.int .i64 (Jn.Records ss).length)) (w.heap.size + 1) (.slice Av (Jn.Records ss).length cv) (.int .i64 ss.length) (.int .i64 (Jn.Records ss).length)) (lo := w2.heap.size) ⟨D, rfl, hD, (HG.out.block D hDl (fun e => by injection e with e; omega)).trans hDm, by simp, trivial⟩ ?_
    rintro W' o1 o2 o3 o4 o5
    have hst := istep_marks o1 o2 o3 o4 o5
    have hCF := hst.block _ _ HCF.out (.inl rfl)
    have hOF := ((HO.out.boxJ HC.out HG.out).istep hst).is
    have hBF := istep_below ((HK.out.setCell (p := ⟨w.heap.size + 1, 2, none⟩) (by simp) (.int .i64 (Jn.Records ss).length))) (Nat.le_refl _) (IStep.refl w2.heap.size _) hsz
    refine ⟨_, jl_out rfl rfl rfl hCF, _, rfl, isJ_mk hOF, istep_below (below_set3 hBF (by omega) _ _ _) (Nat.le_refl _) hst hsz, ?_⟩
    intro b off k c m s h
    injection h with h
    injection h with h
    injection h with h _
    have := HO.out.lt' b (by rw [h]; rfl)
    omega
end Go.Proofs.Ytkcnanclpkongaa
