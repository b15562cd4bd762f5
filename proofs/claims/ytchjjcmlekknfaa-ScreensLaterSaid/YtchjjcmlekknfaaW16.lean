/- Walk of Accepts. -/
import Derived.Test.YtchjjcmlekknfaaW15
namespace Go.Proofs.Ytchjjcmlekknfaa
open Go.RowKit
set_option linter.unusedVariables false
set_option linter.unusedSimpArgs false
attribute [local go_sem] Oper.semAt_some

theorem ac_out {n : Nat} {W : World} {tmps : Array Value} {fn : Func} {b : Bool} {x : Int} (hres : fn.results = #[.cell 12 4, .cell 13 25]) (t10 : tmps.getD 12 undef = .pointer (some ⟨n + 1, 0, none⟩)) (t11 : tmps.getD 13 undef = .pointer (some ⟨n + 1 + 1, 0, none⟩))
    (h1 : Boxed W (n + 1) 4 (.bool b)) (h2 : Boxed W (n + 1 + 1) 25 (.int .i64 x)) : (results fn tmps).run Try.prog W = .ok (.tuple #[.bool b, .int .i64 x]) W := by
  have hc1 := h1.cell
  have hc2 := h2.cell
  have t10' : tmps[12]?.getD undef = .pointer (some ⟨n + 1, 0, none⟩) := by rw [← t10]; simp
  have t11' : tmps[13]?.getD undef = .pointer (some ⟨n + 1 + 1, 0, none⟩) := by rw [← t11]; simp
  simp [results, hres, t10', t11', hc1, hc2, go_sem]
def AcP (b : Bool) (x : Int) (w : World) (e : Ending) (w' : World) : Prop := e = .returned (.tuple #[.bool b, .int .i64 x]) ∧ Below w.heap.size w w'
theorem ac_end {w W : World} {tmps : Array Value} {ds : List Deferred} {b : Bool} {x : Int} {b' : Bool} {x' : Int} (t10 : tmps.getD 12 undef = .pointer (some ⟨w.heap.size + 1, 0, none⟩)) (t11 : tmps.getD 13 undef = .pointer (some ⟨w.heap.size + 1 + 1, 0, none⟩))
    (h1 : Boxed W (w.heap.size + 1) 4 (.bool b)) (h2 : Boxed W (w.heap.size + 1 + 1) 25 (.int .i64 x)) (hm : Mk w.heap.size ds W) (hB : Below w.heap.size w W) (hb : b' = b) (hx : x' = x) :
    bodyPostM Fence.wide 0 Try.prog Try.f16 (AcP b' x' w) .ret { tmps := tmps, defers := ds } W := by
  subst hb hx
  refine leaves_marks ds W hm ?_
  rintro W' o1 o2 o3 o4 o5
  refine ⟨_, ac_out rfl t10 t11 (o5 _ _ h1 (.inl rfl)) (o5 _ _ h2 (.inl rfl)), rfl, o1.trans hB.os, o2.trans hB.tape, o3.trans hB.output, by rw [o4]; exact hB.size, fun q hq => ?_⟩
  have h2 : q < W.heap.size := Nat.lt_of_lt_of_le hq hB.size
  rw [o5 q _ (Array.getElem?_eq_getElem h2) (.inr hq), ← Array.getElem?_eq_getElem h2]
  exact hB.block q hq
theorem ac_put {w W : World} {tmps : Array Value} {ds : List Deferred} {b b0 : Bool} {x x0 : Int} {b' : Bool} {x' : Int} (t10 : tmps.getD 12 undef = .pointer (some ⟨w.heap.size + 1, 0, none⟩)) (t11 : tmps.getD 13 undef = .pointer (some ⟨w.heap.size + 1 + 1, 0, none⟩))
    (h1 : Boxed W (w.heap.size + 1) 4 (.bool b0)) (h2 : Boxed W (w.heap.size + 1 + 1) 25 (.int .i64 x0)) (hm : Mk w.heap.size ds W) (hB : Below w.heap.size w W) (hb : b' = b) (hx : x' = x) :
    bodyPostM Fence.wide 0 Try.prog Try.f16 (AcP b' x' w) .ret { tmps := tmps, defers := ds } ((W.setCell ⟨w.heap.size + 1, 0, none⟩ (.bool b)).setCell ⟨w.heap.size + 1 + 1, 0, none⟩ (.int .i64 x)) := by
  refine ac_end t10 t11 (b := b) (x := x) ((h1.set _).other (B' := w.heap.size + 1 + 1) (by omega) _) ((h2.other (B' := w.heap.size + 1) (by omega) _).set _) (hm.keep (fun D hD => ?_)) ((hB.setCell (by dsimp only; omega) _).setCell (by dsimp only; omega) _) hb hx
  have n1 : D ≠ w.heap.size + 1 := fun e => by rw [e, h1] at hD; cases hD
  have n2 : D ≠ w.heap.size + 1 + 1 := fun e => by rw [e, h2] at hD; cases hD
  exact ((Below.heap_setCell (W.setCell ⟨w.heap.size + 1, 0, none⟩ (.bool b)) ⟨w.heap.size + 1 + 1, 0, none⟩ (.int .i64 x) D n2).trans (Below.heap_setCell W ⟨w.heap.size + 1, 0, none⟩ (.bool b) D n1)).trans hD

/-- what Accepts has laid -/
structure Ac (w W : World) (hv : Value) (Bq : Nat) (A : Option Addr) (c : Nat) (q : Sc.Qs) : Prop where
  bel : Below w.heap.size w W
  hb : Boxed W w.heap.size 22 hv
  okb : ∃ b, Boxed W (w.heap.size + 1) 4 (.bool b)
  eb : Boxed W (w.heap.size + 1 + 1) 25 (.int .i64 0)
  qm : QM W Bq A c q
  lt : w.heap.size + 1 + 1 < Bq
theorem Ac.below {w W W' : World} {hv : Value} {Bq : Nat} {A : Option Addr} {c : Nat} {q : Sc.Qs} (h : Ac w W hv Bq A c q) (hb : Below W.heap.size W W') : Ac w W' hv Bq A c q :=
  ⟨h.bel.up hb, boxed_below h.hb hb, by obtain ⟨b, hB⟩ := h.okb; exact ⟨b, boxed_below hB hb⟩, boxed_below h.eb hb, h.qm.upb hb, h.lt⟩
/-- as ahead of the rounds, but for two blocks -/
structure Ex2 (wm W : World) (b6 g : Nat) : Prop where
  os : W.os = wm.os
  tape : W.tape = wm.tape
  output : W.output = wm.output
  size : wm.heap.size ≤ W.heap.size
  block : ∀ b, b < wm.heap.size → b ≠ b6 → b ≠ g → W.heap[b]? = wm.heap[b]?
theorem Ex2.istep {wm W W' : World} {b6 g : Nat} (h : Ex2 wm W b6 g) (hs : IStep wm.heap.size W W') : Ex2 wm W' b6 g :=
  ⟨hs.os.trans h.os, hs.tape.trans h.tape, hs.output.trans h.output, Nat.le_trans h.size hs.size, fun b hb h1 h2 => by
    have hlt : b < W.heap.size := Nat.lt_of_lt_of_le hb h.size
    rw [hs.block b _ (Array.getElem?_eq_getElem hlt) (.inr hb), ← Array.getElem?_eq_getElem hlt]
    exact h.block b hb h1 h2⟩
theorem Ex2.set {wm W : World} {b6 g : Nat} (h : Ex2 wm W b6 g) (b i : Nat) (v : Value) (hb : b = b6 ∨ b = g) : Ex2 wm (W.setCell ⟨b, i, none⟩ v) b6 g :=
  ⟨h.os, h.tape, h.output, by simpa [World.setCell] using h.size, fun q hq h1 h2 => (Below.heap_setCell W ⟨b, i, none⟩ v q (by show q ≠ b; rcases hb with rfl | rfl <;> assumption)).trans (h.block q hq h1 h2)⟩
theorem quiet_0 {P : Program} {f : FuncId} {args : Array Value} {w : World} {n : Nat} {v : Value}
    (h : Calls P f args (w.drewN n) fun e w' => e = .returned v ∧ ∃ k, w' = (w.drewN n).drewN k) : Calls P f args (w.drewN n) fun e w'' => e = .returned v ∧ ∃ m, w'' = w.drewN m :=
  h.mono fun _ _ ⟨he, k, hm⟩ => ⟨he, n + k, by rw [hm, World.drewN_drewN]⟩
theorem inB_min {h : List Int} {x : Int} (hm : MinP h x) (hx : x < 0) : Sc.inB h = false := by
  rw [Bool.eq_false_iff]; intro e
  unfold Sc.inB at e; rw [List.all_eq_true] at e
  have := e x hm.2
  simp at this; omega
theorem inB_max {h : List Int} {x : Int} (hm : MaxP h x) (hx : 4398046511104 < x) : Sc.inB h = false := by
  rw [Bool.eq_false_iff]; intro e
  unfold Sc.inB at e; rw [List.all_eq_true] at e
  have := e x hm.2
  simp at this; omega
theorem inB_at {h : List Int} {x y : Int} (h1 : MinP h x) (hx : ¬ x < 0) (h2 : MaxP h y) (hy : ¬ 4398046511104 < y) : ∀ j, j < h.length → 0 ≤ Sc.at_ h j ∧ Sc.at_ h j ≤ 4398046511104 := by
  intro j hj
  rw [at_get hj]
  have a := h1.1 _ (List.getElem_mem hj)
  have b := h2.1 _ (List.getElem_mem hj)
  omega
theorem acc_inB {q : Sc.Qs} {ends h : List Int} (hh : Sc.inB h = false) : Sc.accB q ends h = false := by unfold Sc.accB; rw [hh]; simp

def mzC (n : Nat) (a : Act) (_ : World) : Nat := match a.tmps.getD 74 undef with
  | .int _ k => n - k.toNat
  | _ => 0
theorem mzC_is {n : Nat} {a : Act} {W : World} {k : Int} (h : a.tmps.getD 74 undef = .int .i64 k) : mzC n a W = n - k.toNat := by
  unfold mzC; rw [h]
set_option maxHeartbeats 8000000 in
set_option maxRecDepth 100000 in
theorem acc_walk (A A2 Ae Ah : Option Addr) (c c2 ce ch : Nat) (r d : List Int) (m f : Int) (ends h : List Int) (w : World) (hv : IsInts w (.slice A r.length c) r) (hu : IsInts w (.slice A2 d.length c2) d) (hz : IsInts w (.slice Ae ends.length ce) ends) (hy : IsInts w (.slice Ah h.length ch) h)
    (hl : r.length ≤ 9223372036854775807) (hl2 : d.length ≤ 9223372036854775807) (hl3 : ends.length ≤ 9223372036854775807) (hl4 : h.length ≤ 9223372036854775807) :
    Calls Try.prog 16 #[.slice A r.length c, .slice A2 d.length c2, .int .i64 m, .int .i64 f, .slice Ae ends.length ce, .slice Ah h.length ch] w (AcP (aB r d m f ends h) (Sc.errQ r d m f) w) := by
  have HV := Lib.hid hv
  have HU := Lib.hid hu
  have HZ := Lib.hid hz
  have HY := Lib.hid hy
  have hzz := zero45
  have HL := Lib.hid (And.intro hl (And.intro hl2 (And.intro hl3 hl4)))
  have HB0 := Lib.hid (((al1 w (.cells #[.slice Ah h.length ch] 22)).up (al1 _ (.cells #[.bool false] 4))).up (al1 _ (.cells #[.int .i64 0] 25)))
  have HX1 := Lib.hid (show Boxed (((w.alloc (.cells #[.slice Ah h.length ch] 22)).alloc (.cells #[.bool false] 4)).alloc (.cells #[.int .i64 0] 25)) w.heap.size 22 (.slice Ah h.length ch) from ((Boxed.new w 22 _).alloc _).alloc _)
  have HX2 := Lib.hid (show Boxed (((w.alloc (.cells #[.slice Ah h.length ch] 22)).alloc (.cells #[.bool false] 4)).alloc (.cells #[.int .i64 0] 25)) (w.heap.size + 1) 4 (.bool false) from by
    have h := (Boxed.new (w.alloc (.cells #[.slice Ah h.length ch] 22)) 4 (.bool false)).alloc (.cells #[.int .i64 0] 25)
    simp only [World.size_alloc] at h
    exact h)
  have HX3 := Lib.hid (show Boxed (((w.alloc (.cells #[.slice Ah h.length ch] 22)).alloc (.cells #[.bool false] 4)).alloc (.cells #[.int .i64 0] 25)) (w.heap.size + 1 + 1) 25 (.int .i64 0) from by
    have h := Boxed.new ((w.alloc (.cells #[.slice Ah h.length ch] 22)).alloc (.cells #[.bool false] 4)) 25 (.int .i64 0)
    simp only [World.size_alloc] at h
    exact h)
  clear hv hu hz hy hl hl2 hl3 hl4
  refine (callsIn_wide (n := 0)).1 ?_
  refine callsIn_of_wp_marks Try.func16 rfl trivial ?_ rfl
  simp only [Try.ntmps16, List.size_toArray, List.length_cons, List.length_nil, Nat.reduceAdd, Nat.reduceSub, Array.replicate_succ, Array.replicate_zero, List.push_toArray, List.append_toArray, List.nil_append, List.cons_append]
  gi_wp2_with (fail)
  refine inC (ask_any A A2 c c2 r d m f _ (HV.out.below HB0.out) (HU.out.below HB0.out) HL.out.1 HL.out.2.1) ?_
  rintro e w1 ⟨cs, rfl, hc1, hc2, hc3, hb⟩
  have HCS := Lib.hid (And.intro hc1 (And.intro hc2 hc3))
  have HB1 := Lib.hid (HB0.out.up hb)
  have HY1 := Lib.hid (boxed_below HX1.out hb)
  have HY2 := Lib.hid (boxed_below HX2.out hb)
  have HY3 := Lib.hid (boxed_below HX3.out hb)
  have HC0 := Lib.hid (Cells.new w1 45 qZ)
  clear hc1 hc2 hc3 hb HB0 HX1 HX2 HX3
  have hlt3 := HY3.out.lt
  have HB2 := Lib.hid (HB1.out.up (al1 w1 (.cells qZ.toArray 45)))
  have HY1' := Lib.hid (HY1.out.alloc (.cells qZ.toArray 45))
  have HY2' := Lib.hid (HY2.out.alloc (.cells qZ.toArray 45))
  have HY3' := Lib.hid (HY3.out.alloc (.cells qZ.toArray 45))
  obtain ⟨e0, he0⟩ : ∃ e, Sc.errQ r d m f = e := ⟨_, rfl⟩
  have HE := Lib.hid he0
  rw [he0]
  clear he0
  by_cases h0 : e0 = 0
  rotate_left
  · have HA := Lib.hid (show aB r d m f ends h = false from if_neg (by rw [HE.out]; exact h0))
    have hb0 : (e0 == 0) = false := by simpa using h0
    clear h0
    gi_wp2_with (refine wideL_store rfl 45 (.tmp 14) (.tmp 28) rfl w1.heap.size rfl qZ cs rfl HC0.out (by rw [HCS.out.1]; exact i45) ((qC_len zer_len).trans HCS.out.1.symm) HCS.out.2.1 ?_; intro W1 hc1 ht1; have HC1 := Lib.hid hc1; have HT1 := Lib.hid ht1; clear hc1 ht1; have HZ1 := Lib.hid (show Boxed W1 w.heap.size 22 _ from (HT1.out.block _ (by omega)).trans HY1'.out); have HZ2 := Lib.hid (show Boxed W1 (w.heap.size + 1) 4 _ from (HT1.out.block _ (by omega)).trans HY2'.out); have HZ3 := Lib.hid (show Boxed W1 (w.heap.size + 1 + 1) 25 _ from (HT1.out.block _ (by omega)).trans HY3'.out); have z1c := HZ1.out.cell; have z2c := HZ2.out.cell; have z2f := HZ2.out.frozen; have z3c := HZ3.out.cell; have z3f := HZ3.out.frozen)
    refine wpIn_wide.2 ?_
    have hHB := Lib.hid (HT1.out.below HB2.out HB1.out.size)
    have z3' := HZ3.out.set (.int .i64 e0)
    have z2' := HZ2.out.other (B' := w.heap.size + 1 + 1) (by omega) (.int .i64 e0)
    have hBB : Below w.heap.size w (W1.setCell ⟨w.heap.size + 1 + 1, 0, none⟩ (.int .i64 e0)) := (turn_cell _ _ _ _).below hHB.out (by omega)
    have HZ3' := Lib.hid z3'
    have HZ2' := Lib.hid z2'
    have HBB := Lib.hid hBB
    clear z3' z2' hBB
    generalize W1.setCell ⟨w.heap.size + 1 + 1, 0, none⟩ (.int .i64 e0) = W2 at *
    have y3c := HZ3'.out.cell
    have y3f := HZ3'.out.frozen
    have y2c := HZ2'.out.cell
    have y2f := HZ2'.out.frozen
    have HP2 := Lib.hid ((HZ2'.out.set (.bool false)).other (B' := w.heap.size + 1 + 1) (by omega) (.int .i64 e0))
    have HP3 := Lib.hid ((HZ3'.out.other (B' := w.heap.size + 1) (by omega) (.bool false)).set (.int .i64 e0))
    have HPB := Lib.hid (show Below w.heap.size w ((W2.setCell ⟨w.heap.size + 1, 0, none⟩ (.bool false)).setCell ⟨w.heap.size + 1 + 1, 0, none⟩ (.int .i64 e0)) from (turn_cell _ _ _ _).below ((turn_cell _ _ _ _).below HBB.out (by omega)) (by omega))
    have HK1 := Lib.hid (show ((W2.setCell ⟨w.heap.size + 1, 0, none⟩ (.bool false)).setCell ⟨w.heap.size + 1 + 1, 0, none⟩ (.int .i64 e0)).drew.cell? ⟨w.heap.size + 1 + 1, 0, none⟩ = some (.int .i64 e0) from HP3.out.cell)
    go_region_held3 (fun X => X.cell? ⟨w.heap.size + 1 + 1, 0, none⟩ = some (.int .i64 e0)) (first | exact y3c | exact HK1.out | go_keep) (fail)
    all_goals
      gi_wp2_with (fail)
      exact ac_end rfl rfl (show Boxed (World.drew _) _ _ _ from HP2.out) (show Boxed (World.drew _) _ _ _ from HP3.out) trivial (below_drewN HPB.out 1) HA.out HE.out
  subst h0
  have HA := Lib.hid (show aB r d m f ends h = Sc.accB (Sc.mkQ r d m f) ends h from if_pos HE.out)
  have HQ := Lib.hid (Sc.ok_of HE.out)
  have HN := Lib.hid (Sc.errQ_zero HE.out)
  have hrn := HN.out.1
  have hm1 := HN.out.2.2.1
  have hm8 := HN.out.2.2.2.1
  have HMM := Lib.hid (show (((Sc.mkQ r d m f).m : Nat) : Int) = m from by show (m.toNat : Int) = m; omega)
  by_cases hhl : h.length = r.length + 1
  rotate_left
  · have HA2 := Lib.hid (show aB r d m f ends h = false by rw [HA.out]; exact acc_no1 hhl)
    have hbl : ((h.length : Int) != (r.length : Int) + 1) = true := by simp; omega
    have hbl2 : ((h.length : Int) == (r.length : Int) + 1) = false := by simp; omega
    clear hhl
    gi_wp2_with (refine wideL_store rfl 45 (.tmp 14) (.tmp 28) rfl w1.heap.size rfl qZ cs rfl HC0.out (by rw [HCS.out.1]; exact i45) ((qC_len zer_len).trans HCS.out.1.symm) HCS.out.2.1 ?_; intro W1 hc1 ht1; have HC1 := Lib.hid hc1; have HT1 := Lib.hid ht1; clear hc1 ht1; have HZ1 := Lib.hid (show Boxed W1 w.heap.size 22 _ from (HT1.out.block _ (by omega)).trans HY1'.out); have HZ2 := Lib.hid (show Boxed W1 (w.heap.size + 1) 4 _ from (HT1.out.block _ (by omega)).trans HY2'.out); have HZ3 := Lib.hid (show Boxed W1 (w.heap.size + 1 + 1) 25 _ from (HT1.out.block _ (by omega)).trans HY3'.out); have z1c := HZ1.out.cell; have z2c := HZ2.out.cell; have z2f := HZ2.out.frozen; have z3c := HZ3.out.cell; have z3f := HZ3.out.frozen)
    refine ⟨trivial, ?_⟩
    gi_wp2_with (fail)
    refine ⟨trivial, ?_⟩
    gi_wp2_with (fail)
    have hBB := HT1.out.below HB2.out HB1.out.size
    have HBB := Lib.hid (show Below w.heap.size w (W1.setCell ⟨w.heap.size + 1 + 1, 0, none⟩ (.int .i64 0)) from (turn_cell _ _ _ _).below hBB (by omega))
    have HX1 := Lib.hid (HZ1.out.other (B' := w.heap.size + 1 + 1) (by omega) (.int .i64 0))
    have HX2 := Lib.hid (HZ2.out.other (B' := w.heap.size + 1 + 1) (by omega) (.int .i64 0))
    have HX3 := Lib.hid (HZ3.out.set (.int .i64 0))
    have HXQ := Lib.hid (show Cells (W1.setCell ⟨w.heap.size + 1 + 1, 0, none⟩ (.int .i64 0)) w1.heap.size 45 cs from HC1.out.turn (turn_cell _ _ _ _) (by omega))
    clear hBB z1c z2c z2f z3c z3f HZ1 HZ2 HZ3 HT1
    generalize W1.setCell ⟨w.heap.size + 1 + 1, 0, none⟩ (.int .i64 0) = W2 at *
    have z1c := HX1.out.cell
    have z2c := HX2.out.cell
    have z2f := HX2.out.frozen
    have z3c := HX3.out.cell
    have z3f := HX3.out.frozen
    exact ac_put rfl rfl HX2.out HX3.out trivial HBB.out HA2.out HE.out
  have hbl : ((h.length : Int) != (r.length : Int) + 1) = false := by simp; omega
  have hbl2 : ((h.length : Int) == (r.length : Int) + 1) = true := by simp; omega
  have HHL := Lib.hid hhl
  have hpos : 0 < h.length := by omega
  have hh65 : h.length ≤ 65 := by omega
  clear hhl
  gi_wp2_with (refine wideL_store rfl 45 (.tmp 14) (.tmp 28) rfl w1.heap.size rfl qZ cs rfl HC0.out (by rw [HCS.out.1]; exact i45) ((qC_len zer_len).trans HCS.out.1.symm) HCS.out.2.1 ?_; intro W1 hc1 ht1; have HC1 := Lib.hid hc1; have HT1 := Lib.hid ht1; clear hc1 ht1; have HZ1 := Lib.hid (show Boxed W1 w.heap.size 22 _ from (HT1.out.block _ (by omega)).trans HY1'.out); have HZ2 := Lib.hid (show Boxed W1 (w.heap.size + 1) 4 _ from (HT1.out.block _ (by omega)).trans HY2'.out); have HZ3 := Lib.hid (show Boxed W1 (w.heap.size + 1 + 1) 25 _ from (HT1.out.block _ (by omega)).trans HY3'.out); have z1c := HZ1.out.cell; have z2c := HZ2.out.cell; have z2f := HZ2.out.frozen; have z3c := HZ3.out.cell; have z3f := HZ3.out.frozen)
  have hBB := HT1.out.below HB2.out HB1.out.size
  have HBB := Lib.hid (show Below w.heap.size w (W1.setCell ⟨w.heap.size + 1 + 1, 0, none⟩ (.int .i64 0)) from (turn_cell _ _ _ _).below hBB (by omega))
  have HX1 := Lib.hid (HZ1.out.other (B' := w.heap.size + 1 + 1) (by omega) (.int .i64 0))
  have HX2 := Lib.hid (HZ2.out.other (B' := w.heap.size + 1 + 1) (by omega) (.int .i64 0))
  have HX3 := Lib.hid (HZ3.out.set (.int .i64 0))
  have HXQ := Lib.hid (show Cells (W1.setCell ⟨w.heap.size + 1 + 1, 0, none⟩ (.int .i64 0)) w1.heap.size 45 cs from HC1.out.turn (turn_cell _ _ _ _) (by omega))
  clear hBB z1c z2c z2f z3c z3f HZ1 HZ2 HZ3 HT1
  generalize W1.setCell ⟨w.heap.size + 1 + 1, 0, none⟩ (.int .i64 0) = W2 at *
  have z1c := HX1.out.cell
  have z2c := HX2.out.cell
  have z2f := HX2.out.frozen
  have z3c := HX3.out.cell
  have z3f := HX3.out.frozen
  refine inC (Min_any _ h _ (HY.out.below HBB.out) HL.out.2.2.2 hpos) ?_
  rintro e w' ⟨x, hx, rfl, rfl⟩
  have HMN := Lib.hid hx
  clear hx
  by_cases hx0 : x < 0
  · have hd : decide (x < 0) = true := decide_eq_true hx0
    have HA2 := Lib.hid (show aB r d m f ends h = false by rw [HA.out]; exact acc_inB (inB_min HMN.out hx0))
    clear hx0
    gi_wp2_with (fail)
    refine ⟨trivial, ?_⟩
    gi_wp2_with (fail)
    exact ac_put rfl rfl HX2.out HX3.out trivial HBB.out HA2.out HE.out
  have hd0 : decide (x < 0) = false := decide_eq_false hx0
  replace hx0 := Lib.hid hx0
  gi_wp2_with (fail)
  refine inC (Max_any _ h _ (HY.out.below HBB.out) HL.out.2.2.2 hpos) ?_
  rintro e w' ⟨y, hy, rfl, rfl⟩
  have HMX := Lib.hid hy
  clear hy
  by_cases hy0 : 4398046511104 < y
  · have hd : decide (4398046511104 < y) = true := decide_eq_true hy0
    have HA2 := Lib.hid (show aB r d m f ends h = false by rw [HA.out]; exact acc_inB (inB_max HMX.out hy0))
    clear hy0
    gi_wp2_with (fail)
    exact ac_put rfl rfl HX2.out HX3.out trivial HBB.out HA2.out HE.out
  have hd1 : decide (4398046511104 < y) = false := decide_eq_false hy0
  have HIN := Lib.hid (inB_at HMN.out (by have := hx0.out; omega) HMX.out hy0)
  obtain ⟨q, hq⟩ : ∃ q, Sc.mkQ r d m f = q := ⟨_, rfl⟩
  have hqr : q.r = r := by rw [← hq]; rfl
  have HQR := Lib.hid hqr
  have HQM := Lib.hid (show QM W2 w1.heap.size A c q from by rw [← hq]; exact ask_qm HE.out HCS.out.2.2 HXQ.out (HV.out.below HBB.out))
  rw [hq] at HA HQ HMM
  clear hq hqr hy0 hbl hbl2 HC0 HC1 HXQ HB2 HY1 HY2 HY3 HY1' HY2' HY3' HMN HMX hx0 HCS
  gi_wp2_with (fail)
  gi_loopw [16, 17, 19, 52] (fun lv av _ iv wr => ∃ (k last : Nat) (at0 : Int), k ≤ ends.length ∧ iv = .int .i64 k ∧ lv = .int .i64 last ∧ av = .int .i64 at0 ∧ last ≤ r.length ∧ 0 ≤ at0 ∧ at0 ≤ 1099511627776 + 2147483648 * (last : Int) ∧ Hid (Sc.grpI m r.length 0 ends = Sc.grpI m r.length last (ends.drop k) ∧ Sc.doneI q 0 0 ends = Sc.doneI q last at0 (ends.drop k)) ∧ ∃ n, wr = W2.drewN n) (fun _ _ _ iv _ => ends.length - (intOf iv).toNat)
  case atStart => exact ⟨0, 0, 0, Nat.zero_le _, rfl, rfl, rfl, Nat.zero_le _, Int.le_refl _, by omega, Lib.hid ⟨rfl, rfl⟩, 0, rfl⟩
  case round =>
    obtain ⟨k, last, at0, hk, rfl, rfl, rfl, hla, ha0, ha1, HI, n0, rfl⟩ := hrel
    by_cases hlt : k < ends.length
    · have hlt2 : (k : Int) < (ends.length : Int) := by omega
      have hel := HL.out.2.2.1
      obtain ⟨be, oe, hAe, hbe, hce⟩ := ints_at (HZ.out.below HBB.out).row hlt
      subst hAe
      have HS := HI.out
      rw [List.drop_eq_getElem_cons hlt] at HS
      obtain ⟨HS1, HS2⟩ := HS
      rw [Sc.grpI] at HS1
      rw [Sc.doneI] at HS2
      generalize ends[k] = x at *
      replace HS1 := Lib.hid HS1
      replace HS2 := Lib.hid HS2
      have hw1 : IntKind.i64.wrap ((last : Int) + 1) = (last : Int) + 1 := by rw [IntKind.wrap_i64]; omega
      have hw2 : IntKind.i64.wrap ((last : Int) + m) = (last : Int) + m := by rw [IntKind.wrap_i64]; omega
      rcases Int.lt_or_le ((last : Int) + m) (r.length : Int) with hmn | hmn
      · have hdm : ¬ (r.length : Int) < (last : Int) + m := by omega
        by_cases hok : (last : Int) < x ∧ x ≤ r.length ∧ x - last ≤ m
        · have hwb : (decide ((last : Int) + 1 ≤ x) && decide (x ≤ (last : Int) + m)) = true := by simp; omega
          obtain ⟨j, rfl⟩ : ∃ j : Nat, x = (j : Int) := ⟨x.toNat, by omega⟩
          have hlj : last < j := by omega
          have hjn : j ≤ r.length := by omega
          have hbl3 := HQ.out.scr_bd (b := at0) hlj (by rw [HQR.out]; exact hjn) ha0 ha1
          have HEN := Lib.hid (fun W (hW : QM W w1.heap.size A c q) => end_any w1.heap.size A c q last j at0 W hW HQ.out hlj (by rw [HQR.out]; exact hjn) ha0 (by omega))
          have HI2 := Lib.hid (show Sc.grpI m r.length 0 ends = Sc.grpI m r.length j (ends.drop (k + 1)) ∧ Sc.doneI q 0 0 ends = Sc.doneI q j (Sc.scr q last j at0) (ends.drop (k + 1)) from ⟨HS1.out.trans (if_neg (by omega)), by
            have h2 := HS2.out
            simp only [Int.toNat_natCast] at h2
            exact h2⟩)
          obtain ⟨sv, hsv⟩ : ∃ s, Sc.scr q last j at0 = s := ⟨_, rfl⟩
          rw [hsv] at hbl3 HEN HI2
          clear hsv HS1 HS2
          replace hok := Lib.hid hok
          gi_wp2_with (fail)
          refine inC (within_is hwb) ?_
          rintro e w' ⟨rfl, rfl⟩
          gi_wp2_with (fail)
          refine inC (HEN.out _ (HQM.out.drewN _)) ?_
          rintro e w' ⟨rfl, n2, rfl⟩
          gi_wp2_with (fail)
          go_roundw
          case rel => exact ⟨k + 1, j, sv, by omega, by go_num, rfl, rfl, hjn, hbl3.1, hbl3.2, HI2, n0 + n2, by first | rfl | rw [World.drewN_drewN]⟩
          case measure => first | omega | (simp [intOf]; omega)
        · have hwb : (decide ((last : Int) + 1 ≤ x) && decide (x ≤ (last : Int) + m)) = false := by
            rw [Bool.eq_false_iff]; intro e; simp at e; exact hok (by omega)
          have HA2 := Lib.hid (show aB r d m f ends h = false by
            rw [HA.out]
            refine acc_no3 ?_
            rw [HMM.out, HQR.out]
            exact HS1.out.trans (if_pos (by omega)))
          have y2c : (W2.drewN n0).cell? _ = _ := z2c
          have y2f : (W2.drewN n0).frozen? _ = _ := z2f
          have y3c : (W2.drewN n0).cell? _ = _ := z3c
          have y3f : (W2.drewN n0).frozen? _ = _ := z3f
          replace hok := Lib.hid hok
          gi_wp2_with (fail)
          refine inC (within_is hwb) ?_
          rintro e w' ⟨rfl, rfl⟩
          gi_wp2_with (fail)
          exact ac_put rfl rfl (show Boxed (W2.drewN n0) _ _ _ from HX2.out) (show Boxed (W2.drewN n0) _ _ _ from HX3.out) trivial (below_drewN HBB.out n0) HA2.out HE.out
      · have hdm : ¬ (last : Int) + m < (r.length : Int) := by omega
        by_cases hok : (last : Int) < x ∧ x ≤ r.length ∧ x - last ≤ m
        · have hwb : (decide ((last : Int) + 1 ≤ x) && decide (x ≤ (r.length : Int))) = true := by simp; omega
          obtain ⟨j, rfl⟩ : ∃ j : Nat, x = (j : Int) := ⟨x.toNat, by omega⟩
          have hlj : last < j := by omega
          have hjn : j ≤ r.length := by omega
          have hbl3 := HQ.out.scr_bd (b := at0) hlj (by rw [HQR.out]; exact hjn) ha0 ha1
          have HEN := Lib.hid (fun W (hW : QM W w1.heap.size A c q) => end_any w1.heap.size A c q last j at0 W hW HQ.out hlj (by rw [HQR.out]; exact hjn) ha0 (by omega))
          have HI2 := Lib.hid (show Sc.grpI m r.length 0 ends = Sc.grpI m r.length j (ends.drop (k + 1)) ∧ Sc.doneI q 0 0 ends = Sc.doneI q j (Sc.scr q last j at0) (ends.drop (k + 1)) from ⟨HS1.out.trans (if_neg (by omega)), by
            have h2 := HS2.out
            simp only [Int.toNat_natCast] at h2
            exact h2⟩)
          obtain ⟨sv, hsv⟩ : ∃ s, Sc.scr q last j at0 = s := ⟨_, rfl⟩
          rw [hsv] at hbl3 HEN HI2
          clear hsv HS1 HS2
          replace hok := Lib.hid hok
          gi_wp2_with (fail)
          refine inC (within_is hwb) ?_
          rintro e w' ⟨rfl, rfl⟩
          gi_wp2_with (fail)
          refine inC (HEN.out _ (HQM.out.drewN _)) ?_
          rintro e w' ⟨rfl, n2, rfl⟩
          gi_wp2_with (fail)
          go_roundw
          case rel => exact ⟨k + 1, j, sv, by omega, by go_num, rfl, rfl, hjn, hbl3.1, hbl3.2, HI2, n0 + n2, by first | rfl | rw [World.drewN_drewN]⟩
          case measure => first | omega | (simp [intOf]; omega)
        · have hwb : (decide ((last : Int) + 1 ≤ x) && decide (x ≤ (r.length : Int))) = false := by
            rw [Bool.eq_false_iff]; intro e; simp at e; exact hok (by omega)
          have HA2 := Lib.hid (show aB r d m f ends h = false by
            rw [HA.out]
            refine acc_no3 ?_
            rw [HMM.out, HQR.out]
            exact HS1.out.trans (if_pos (by omega)))
          have y2c : (W2.drewN n0).cell? _ = _ := z2c
          have y2f : (W2.drewN n0).frozen? _ = _ := z2f
          have y3c : (W2.drewN n0).cell? _ = _ := z3c
          have y3f : (W2.drewN n0).frozen? _ = _ := z3f
          replace hok := Lib.hid hok
          gi_wp2_with (fail)
          refine inC (within_is hwb) ?_
          rintro e w' ⟨rfl, rfl⟩
          gi_wp2_with (fail)
          exact ac_put rfl rfl (show Boxed (W2.drewN n0) _ _ _ from HX2.out) (show Boxed (W2.drewN n0) _ _ _ from HX3.out) trivial (below_drewN HBB.out n0) HA2.out HE.out
    · have hlt2 : ¬ (k : Int) < (ends.length : Int) := by omega
      have HF := Lib.hid (show Sc.grpI m r.length 0 ends = decide ((last : Int) = r.length) ∧ Sc.doneI q 0 0 ends = at0 from by
        have h1 := HI.out
        rw [List.drop_of_length_le (by omega), Sc.grpI, Sc.doneI] at h1
        exact h1)
      have hnw : IntKind.i64.wrap ((r.length : Int) + 1) = (r.length : Int) + 1 := by rw [IntKind.wrap_i64]; omega
      gi_wp2_with (fail)
      have HAC := Lib.hid (show Ac w (W2.drewN n0) (.slice Ah h.length ch) w1.heap.size A c q from ⟨below_drewN HBB.out n0, HX1.out, ⟨false, HX2.out⟩, HX3.out, HQM.out.drewN n0, hlt3⟩)
      have HY5 := Lib.hid (HY.out.below HBB.out)
      clear HBB HX1 HX2 HX3 HQM z1c z2c z2f z3c z3f hnw hlt hlt2 hk HI HU HZ HB1 hd0 hd1 hzz
      generalize W2.drewN n0 = W3 at *
      refine wpIn_loop (fun a wr => ∃ (ds : List Deferred) (j : Nat), Hid (Ac w wr (.slice Ah h.length ch) w1.heap.size A c q) ∧ Hid (Mk w.heap.size ds wr) ∧ j ≤ r.length + 1 ∧ Hid (∀ x, x < j → Sc.rowB q h x = true) ∧ a.defers = ds ∧ a.tmps.size = 104 ∧ a.tmps.getD 11 undef = .pointer (some ⟨w.heap.size, 0, none⟩) ∧ a.tmps.getD 12 undef = .pointer (some ⟨w.heap.size + 1, 0, none⟩) ∧ a.tmps.getD 13 undef = .pointer (some ⟨w.heap.size + 1 + 1, 0, none⟩) ∧ a.tmps.getD 14 undef = .pointer (some ⟨w1.heap.size, 0, none⟩) ∧ a.tmps.getD 15 undef = .int .i64 r.length ∧ a.tmps.getD 16 undef = .int .i64 last ∧ a.tmps.getD 17 undef = .int .i64 at0 ∧ a.tmps.getD 73 undef = .int .i64 ((r.length : Int) + 1) ∧ a.tmps.getD 74 undef = .int .i64 j) (mzC (r.length + 1)) ?_ ?_
      · exact ⟨[], 0, HAC, trivial, Nat.zero_le _, Lib.hid (fun x hx => absurd hx (Nat.not_lt_zero _)), rfl, rfl, rfl, rfl, rfl, rfl, rfl, rfl, rfl, rfl, rfl⟩
      · rintro ⟨tm, df⟩ wr ⟨ds, j, HA5, HM5, hj, HRW, hds, htz, e11, e12, e13, e14, e15, e16, e17, e73, e74⟩
        dsimp only at hds htz e11 e12 e13 e14 e15 e16 e17 e73 e74
        subst hds
        obtain ⟨u, rfl⟩ := arr104 tm htz
        replace e11 : u 11 = _ := e11
        replace e12 : u 12 = _ := e12
        replace e13 : u 13 = _ := e13
        replace e14 : u 14 = _ := e14
        replace e15 : u 15 = _ := e15
        replace e16 : u 16 = _ := e16
        replace e17 : u 17 = _ := e17
        replace e73 : u 73 = _ := e73
        replace e74 : u 74 = _ := e74
        clear htz HAC
        rw [e11, e12, e13, e14, e15, e16, e17, e73, e74]
        by_cases hjn : j ≤ r.length
        · have hd : decide ((j : Int) < (r.length : Int) + 1) = true := by rw [decide_eq_true_eq]; omega
          have hdn : (j : Int) < (r.length : Int) + 1 := by omega
          gi_wp2_with (fail)
          refine inC (into_any _ _ _) ?_
          rintro e w4 ⟨rfl, rfl⟩
          gi_wp2_with (fail)
          obtain ⟨f0, hf⟩ : ∃ f, wr.heap.size = f := ⟨_, rfl⟩
          have hA1 := al1 wr (.cells #[.int .i64 j] 3)
          have hA2 := al1 (wr.alloc (.cells #[.int .i64 j] 3)) (.cells #[.pointer (some ⟨w1.heap.size, 0, none⟩)] 62)
          have hA3 := al1 ((wr.alloc (.cells #[.int .i64 j] 3)).alloc (.cells #[.pointer (some ⟨w1.heap.size, 0, none⟩)] 62)) (.cells #[.int .i64 j] 3)
          have HK1 := Lib.hid (((Boxed.new wr 3 (.int .i64 j)).alloc (.cells #[.pointer (some ⟨w1.heap.size, 0, none⟩)] 62)).alloc (.cells #[.int .i64 j] 3))
          have HK2 := Lib.hid ((Boxed.new (wr.alloc (.cells #[.int .i64 j] 3)) 62 (.pointer (some ⟨w1.heap.size, 0, none⟩))).alloc (.cells #[.int .i64 j] 3))
          have HK3 := Lib.hid (Boxed.new ((wr.alloc (.cells #[.int .i64 j] 3)).alloc (.cells #[.pointer (some ⟨w1.heap.size, 0, none⟩)] 62)) 3 (.int .i64 j))
          have HST := Lib.hid ((hA1.up hA2).up hA3)
          have hszz : (((wr.alloc (.cells #[.int .i64 j] 3)).alloc (.cells #[.pointer (some ⟨w1.heap.size, 0, none⟩)] 62)).alloc (.cells #[.int .i64 j] 3)).heap.size = wr.heap.size + 3 := by simp
          simp only [World.size_alloc] at HK2 HK3
          clear hA1 hA2 hA3
          generalize ((wr.alloc (.cells #[.int .i64 j] 3)).alloc (.cells #[.pointer (some ⟨w1.heap.size, 0, none⟩)] 62)).alloc (.cells #[.int .i64 j] 3) = WL at *
          rw [hf] at HK1 HK2 HK3 hszz ⊢
          have HAL := Lib.hid (HA5.out.below HST.out)
          have HML := Lib.hid (HM5.out.keep (W' := WL) (fun D hD => (HST.out.block D (Array.getElem?_eq_some_iff.1 hD).1).trans hD))
          have hwf : w1.heap.size < f0 := by rw [← hf]; exact HA5.out.qm.lt
          have hww := HAL.out.bel.size
          have HHY := Lib.hid (HY.out.below HAL.out.bel)
          clear HST HA5 HM5 hf
          refine rf_outer (Sc.ins q.m j) (protI w1.heap.size (f0 + 1) (f0 + 1 + 1))
            (fun r W => Hid (Below WL.heap.size WL W) ∧ Hid (∀ x (hx : x < (Sc.ins q.m j).length), x < r → Sc.at_ h j ≤ Sc.scr q (Sc.ins q.m j)[x] j (Sc.at_ h (Sc.ins q.m j)[x])))
            (fun c r W => c = .ret ∧ Hid (Sc.rowB q h j = false) ∧ Hid (Ex2 WL W (w.heap.size + 1) (w.heap.size + 1 + 1)) ∧ Hid (Boxed W (w.heap.size + 1) 4 (.bool false)) ∧ Hid (Boxed W (w.heap.size + 1 + 1) 25 (.int .i64 0)))
            (enc := encI) rfl (enters_of Try.func39 (by kernel_rfl) rfl) (fun _ => rfl) ?hP ?hit ?hI ?hIx ?h0 ?hround ?hdone ?hstop
          case hP => rintro b (rfl | rfl | rfl) <;> omega
          case hit =>
            intro W hW
            exact into_iter w1.heap.size (f0 + 1) (f0 + 1 + 1) q.m j W (HAL.out.qm.upb hW).cm (boxed_below HK2.out hW).cell (boxed_below HK3.out hW).cell HQ.out.m8 (by omega)
          case hI =>
            rintro r X Y ⟨h1, h2⟩ hs
            exact ⟨h1.out.trans (hs.below (Nat.le_refl _) h1.out.size), h2⟩
          case hIx =>
            rintro c r X Y ⟨rfl, h1, h2, h3, h4⟩ hs
            exact ⟨rfl, h1, h2.out.istep hs, hs.boxed h3.out, hs.boxed h4.out⟩
          case h0 => exact ⟨Below.refl _ _, Lib.hid (fun x _ hx => absurd hx (Nat.not_lt_zero _))⟩
          case hround =>
            rintro la rr hr W hla ⟨hE, hC⟩
            have hmi := Sc.mem_ins.1 (List.getElem_mem hr)
            have HQS := Lib.hid (show ∀ y, (Sc.ins q.m j)[rr] = y → Sc.at_ h j ≤ Sc.scr q y j (Sc.at_ h y) → ∀ x (hx : x < (Sc.ins q.m j).length), x < rr + 1 → Sc.at_ h j ≤ Sc.scr q (Sc.ins q.m j)[x] j (Sc.at_ h (Sc.ins q.m j)[x]) from fun y hy hle x hx hxr => by
              rcases Nat.lt_or_ge x rr with h4 | h4
              · exact hC.out x hx h4
              · obtain rfl : x = rr := by omega
                rw [hy]; exact hle)
            obtain ⟨i, hi⟩ : ∃ i, (Sc.ins q.m j)[rr] = i := ⟨_, rfl⟩
            have HII := Lib.hid hi
            rw [hi] at hmi ⊢
            obtain ⟨hi1, hi2⟩ := hmi
            clear hi
            have hjq : j ≤ q.r.length := by rw [HQR.out]; exact hjn
            have hjh : j < h.length := by have := HHL.out; omega
            have hbi := HIN.out i (by omega)
            have hbj := HIN.out j hjh
            have HEN := Lib.hid (fun W (hW : QM W w1.heap.size A c q) => end_any w1.heap.size A c q i j (Sc.at_ h i) W hW HQ.out hi2 hjq hbi.1 (by omega))
            simp only [encI]
            gi_wp2
            refine ⟨RStep.refl _ _ _, ?_⟩
            rintro W2 hW2 _
            have HB2 := Lib.hid (hE.out.trans (hW2.below (Nat.le_refl _) hE.out.size))
            have HA2 := HAL.out.below HB2.out
            obtain ⟨bb, hbb⟩ := HA2.okb
            have HOK := Lib.hid hbb
            have HEB := Lib.hid HA2.eb
            have HQ2 := Lib.hid HA2.qm
            have cH := HA2.hb.cell
            have cJ := (boxed_below HK1.out HB2.out).cell
            obtain ⟨bh, oh, hAe, hbh, hch⟩ := at_cell (HHY.out.below HB2.out).row hjh
            obtain ⟨bh2, oh2, hAe2, hbh2, hch2⟩ := at_cell (HHY.out.below HB2.out).row (k := i) (by omega)
            rw [hAe] at hAe2
            injection hAe2 with hAe2
            injection hAe2 with g1 g2
            subst g1 g2
            have hj0 : (0 : Int) ≤ (j : Int) := by omega
            have hj1 : (j : Int) < (h.length : Int) := by omega
            have hi0 : (0 : Int) ≤ (i : Int) := by omega
            have hi3 : (i : Int) < (h.length : Int) := by omega
            have hmix : Try.prog.follows .mixedOrders = true := by kernel_rfl
            have HAE := Lib.hid hAe
            rw [hAe] at cH
            clear hE hC hW2 HA2 hbb hAe
            obtain ⟨hjv, hhj⟩ : ∃ y, Sc.at_ h j = y := ⟨_, rfl⟩
            obtain ⟨hiv, hhi⟩ : ∃ y, Sc.at_ h i = y := ⟨_, rfl⟩
            obtain ⟨sv, hsv⟩ : ∃ y, Sc.scr q i j hiv = y := ⟨_, rfl⟩
            have HFIN := Lib.hid (show ¬ sv < hjv → Sc.at_ h j ≤ Sc.scr q i j (Sc.at_ h i) from fun hh => by rw [hhj, hhi, hsv]; omega)
            have HNO := Lib.hid (show sv < hjv → Sc.rowB q h j = false from fun hh => row_no hi1 hi2 (by rw [hhj, hhi, hsv]; omega))
            rw [hhj] at hch hbj
            rw [hhi] at hch2 hbi HEN
            rw [hsv] at HEN
            clear hhj hhi hsv
            gi_wp2_with (fail)
            by_cases hlt9 : sv < hjv
            · have hdl : decide (sv < hjv) = true := decide_eq_true hlt9
              have HN2 := Lib.hid (HNO.out hlt9)
              clear hlt9
              refine wpIn_round_quiet hmix (by kernel_rfl) (by simp) (fun _ _ h => h) ?_
              repeat (go_big_quiet_step (exact quiet_0 (HEN.out _ (HQ2.out.drewN _))))
              rintro w' ⟨nq, rfl⟩
              have o1c : (W2.drewN nq).cell? _ = _ := HOK.out.cell
              have o1f : (W2.drewN nq).frozen? _ = _ := HOK.out.frozen
              have o2c : (W2.drewN nq).cell? _ = _ := HEB.out.cell
              have o2f : (W2.drewN nq).frozen? _ = _ := HEB.out.frozen
              gi_wp2_with (fail)
              have hex : Ex2 WL (W2.drewN nq) (w.heap.size + 1) (w.heap.size + 1 + 1) := ⟨HB2.out.os, HB2.out.tape, HB2.out.output, HB2.out.size, fun b hb _ _ => HB2.out.block b hb⟩
              refine ⟨(rstep_drewN W2 nq).trans ((RStep.setCell _ _ _ (fun h => h)).trans (RStep.setCell _ _ _ (fun h => h))), rfl, HN2, (hex.set _ _ _ (.inl rfl)).set _ _ _ (.inr rfl), ?_, ?_⟩
              · exact show Boxed _ _ _ _ from ((show Boxed (W2.drewN nq) _ _ _ from HOK.out).set (.bool false)).other (B' := w.heap.size + 1 + 1) (by omega) (.int .i64 0)
              · exact show Boxed _ _ _ _ from ((show Boxed (W2.drewN nq) _ _ _ from HEB.out).other (B' := w.heap.size + 1) (by omega) (.bool false)).set (.int .i64 0)
            · have hdl : decide (sv < hjv) = false := decide_eq_false hlt9
              have HF2 := Lib.hid (HFIN.out (by omega))
              clear hlt9
              refine wpIn_round_quiet hmix (by kernel_rfl) (by simp) (fun _ _ h => h) ?_
              repeat (go_big_quiet_step (exact quiet_0 (HEN.out _ (HQ2.out.drewN _))))
              rintro w' ⟨nq, rfl⟩
              gi_wp2_with (fail)
              exact ⟨rstep_drewN W2 nq, Lib.hid (below_drewN HB2.out nq), Lib.hid (HQS.out i HII.out HF2.out)⟩
          case hstop =>
            rintro D cc rr W hD hr ⟨rfl, HN2, HE2, HO1, HO2⟩ hDm
            have hbel : Below w.heap.size w W := ⟨HE2.out.os.trans HAL.out.bel.os, HE2.out.tape.trans HAL.out.bel.tape, HE2.out.output.trans HAL.out.bel.output, Nat.le_trans hww HE2.out.size, fun b hb => (HE2.out.block b (by omega) (by omega) (by omega)).trans (HAL.out.bel.block b hb)⟩
            obtain ⟨bb, hbb⟩ := HAL.out.okb
            have hmk2 : Mk w.heap.size ({ target := .collected D, args := #[] } :: df) W := by
              refine HML.out.cons hD (HML.out.keep (fun D' h => (HE2.out.block D' (Array.getElem?_eq_some_iff.1 h).1 ?_ ?_).trans h)) (by omega) hDm
              · rintro rfl
                rw [show WL.heap[w.heap.size + 1]? = _ from hbb] at h; cases h
              · rintro rfl
                rw [show WL.heap[w.heap.size + 1 + 1]? = _ from HAL.out.eb] at h; cases h
            have HA2 := Lib.hid (show aB r d m f ends h = false by rw [HA.out]; exact acc_no4 (j := j) (by rw [HQR.out]; exact hjn) HN2.out)
            gi_wp2_with (fail)
            exact ac_end rfl rfl HO1.out HO2.out hmk2 hbel HA2.out HE.out
          case hdone =>
            rintro D W hD ⟨HB9, HC9⟩ hDm
            have hjw : IntKind.i64.wrap ((j : Int) + 1) = (j : Int) + 1 := by rw [IntKind.wrap_i64]; omega
            have hrow : Sc.rowB q h j = true := row_yes (fun i h1 h2 => by
              obtain ⟨x, hx, e⟩ := List.getElem_of_mem (Sc.mem_ins.2 ⟨h1, h2⟩ : i ∈ Sc.ins q.m j)
              have := HC9.out x hx hx
              rw [e] at this; exact this)
            have HRW2 := Lib.hid (show ∀ x, x < j + 1 → Sc.rowB q h x = true from fun x hx => by
              rcases Nat.lt_or_ge x j with h4 | h4
              · exact HRW.out x h4
              · obtain rfl : x = j := by omega
                exact hrow)
            gi_wp2_with (fail)
            refine ⟨⟨_, j + 1, HAL.out.below HB9.out, HML.out.cons hD (HML.out.keep (fun D' h => (HB9.out.block D' (Array.getElem?_eq_some_iff.1 h).1).trans h)) (by omega) hDm, by omega, HRW2, rfl, rfl, rfl, rfl, rfl, rfl, rfl, rfl, rfl, rfl, ?_⟩, ?_⟩
            · exact congrArg (Value.int .i64) (by omega)
            · exact Nat.lt_of_le_of_lt (Nat.le_of_eq (mzC_is (k := (j : Int) + 1) rfl)) (Nat.lt_of_lt_of_eq (by omega) (mzC_is (k := (j : Int)) rfl).symm)
        · obtain rfl : j = r.length + 1 := by omega
          have hd : decide (((r.length + 1 : Nat) : Int) < (r.length : Int) + 1) = false := by rw [decide_eq_false_iff_not]; omega
          have hdn : ¬ ((r.length + 1 : Nat) : Int) < (r.length : Int) + 1 := by omega
          obtain ⟨bb, hbb⟩ := HA5.out.okb
          have o1c := hbb.cell
          have o1f := hbb.frozen
          have o2c := HA5.out.eb.cell
          have o2f := HA5.out.eb.frozen
          have cH := HA5.out.hb.cell
          have HBB := Lib.hid hbb
          clear hbb
          by_cases hln : last = r.length
          · have hbe : ((last : Int) == (r.length : Int)) = true := by rw [hln]; simp
            obtain ⟨bh, oh, hAe, hbh, hch⟩ := at_cell (HY.out.below HA5.out.bel).row (k := r.length) (by have := HHL.out; omega)
            rw [hAe] at cH
            have hn0 : (r.length : Int) < (h.length : Int) := by have := HHL.out; omega
            have HA2 := Lib.hid (show aB r d m f ends h = (Sc.at_ h r.length == at0) by
              rw [HA.out, acc_last (q := q) (by rw [HQR.out]; exact HHL.out) HIN.out (by rw [HMM.out, HQR.out, HF.out.1, hln]; simp) (fun x hx => HRW.out x (by rw [HQR.out] at hx; omega)), HQR.out, HF.out.2])
            generalize Sc.at_ h r.length = hnv at *
            clear hAe hln
            gi_wp2_with (fail)
            exact ac_put rfl rfl HBB.out HA5.out.eb HM5.out HA5.out.bel HA2.out HE.out
          · have hbe : ((last : Int) == (r.length : Int)) = false := by rw [beq_eq_false_iff_ne]; omega
            have HA2 := Lib.hid (show aB r d m f ends h = false by
              rw [HA.out]
              refine acc_no3 ?_
              rw [HMM.out, HQR.out, HF.out.1]
              exact decide_eq_false (by omega))
            clear hln
            gi_wp2_with (fail)
            exact ac_put rfl rfl HBB.out HA5.out.eb HM5.out HA5.out.bel HA2.out HE.out
theorem accepts_any (A A2 Ae Ah : Option Addr) (c c2 ce ch : Nat) (r d : List Int) (m f : Int) (ends h : List Int) (w : World) (hv : IsInts w (.slice A r.length c) r) (hu : IsInts w (.slice A2 d.length c2) d) (hz : IsInts w (.slice Ae ends.length ce) ends) (hy : IsInts w (.slice Ah h.length ch) h)
    (hl : r.length ≤ 9223372036854775807) (hl2 : d.length ≤ 9223372036854775807) (hl3 : ends.length ≤ 9223372036854775807) (hl4 : h.length ≤ 9223372036854775807) :
    Calls Try.prog 16 #[.slice A r.length c, .slice A2 d.length c2, .int .i64 m, .int .i64 f, .slice Ae ends.length ce, .slice Ah h.length ch] w (APost r d m f ends h w) :=
  acc_walk A A2 Ae Ah c c2 ce ch r d m f ends h w hv hu hz hy hl hl2 hl3 hl4
end Go.Proofs.Ytchjjcmlekknfaa
