/- Walk of solve. -/
import Derived.Test.YtdcndhfjfllehaaW9
import Derived.Test.YtdcndhfjfllehaaW9a
import Derived.Deep.RegionHeld3
namespace Go.Proofs.Ytdcndhfjfllehaa
open Go.RowKit
set_option linter.unusedVariables false
set_option linter.unusedSimpArgs false
attribute [local go_sem] Oper.semAt_some

def rev (sp rm : Int) (xs : List Int) (m : Nat) : List Int := (endsI sp rm m (xs.drop m)).reverse
/-- the state of solve at the head of its loop: k words are still to do -/
structure Sv (w wr : World) (A : Option Addr) (cap : Nat) (xs : List Int) (sp rm : Int) (bi k : Nat) (es : List (Int × Value)) : Prop where
  bel : Below w.heap.size w wr
  t : wr.heap[w.heap.size]? = some (.cells #[.slice A xs.length cap, .int .i64 sp, .int .i64 rm] 42 (0, 0))
  l : Boxed wr (w.heap.size + 2) 47 (.slice (some ⟨w.heap.size + 1, 0, none⟩) (xs.length + 1) (xs.length + 1))
  p : Pairs wr (w.heap.size + 1) es
  len : es.length = xs.length + 1
  hi : w.heap.size + 2 < bi
  i : Boxed wr bi 3 (.int .i64 ((k : Int) - 1))
  lo : ∀ m (h : m < es.length), m < k → es[m] = (0, .slice none 0 0)
  up : ∀ m (h : m < es.length), k ≤ m → es[m].1 = Bk.at_ (Bk.tab sp rm (xs.drop m)) 0 ∧ IsIB (fun b => b < bi ∧ w.heap.size + 2 < b) wr es[m].2 (rev sp rm xs m)
/-- as ahead of the lines, but for two blocks -/
structure Ex (wm W : World) (b6 g : Nat) : Prop where
  os : W.os = wm.os
  tape : W.tape = wm.tape
  output : W.output = wm.output
  size : wm.heap.size ≤ W.heap.size
  block : ∀ b, b < wm.heap.size → b ≠ b6 → b ≠ g → W.heap[b]? = wm.heap[b]?
theorem Ex.refl (wm : World) (b6 g : Nat) : Ex wm wm b6 g := ⟨rfl, rfl, rfl, Nat.le_refl _, fun _ _ _ _ => rfl⟩
theorem Ex.istep {wm W W' : World} {b6 g : Nat} (h : Ex wm W b6 g) (hs : IStep wm.heap.size W W') : Ex wm W' b6 g :=
  ⟨hs.os.trans h.os, hs.tape.trans h.tape, hs.output.trans h.output, Nat.le_trans h.size hs.size, fun b hb h1 h2 => by
    have hlt : b < W.heap.size := Nat.lt_of_lt_of_le hb h.size
    rw [hs.block b _ (Array.getElem?_eq_getElem hlt) (.inr hb), ← Array.getElem?_eq_getElem hlt]
    exact h.block b hb h1 h2⟩
theorem Ex.set {wm W : World} {b6 g : Nat} (h : Ex wm W b6 g) (b i : Nat) (v : Value) (hb : b = b6 ∨ b = g) : Ex wm (W.setCell ⟨b, i, none⟩ v) b6 g :=
  ⟨h.os, h.tape, h.output, by simpa [World.setCell] using h.size, fun q hq h1 h2 => (Below.heap_setCell W ⟨b, i, none⟩ v q (by show q ≠ b; rcases hb with rfl | rfl <;> assumption)).trans (h.block q hq h1 h2)⟩
theorem Pairs.istep {B : Nat} {W W' : World} {g : Nat} {es : List (Int × Value)} (h : Pairs W g es) (hs : IStep B W W') : Pairs W' g es := hs.block g _ h (.inl rfl)
def pk (sp rm : Int) (xs : List Int) (i r : Nat) : Option (Nat × Int) := Bk.pick (Bk.tab sp rm (xs.drop (i + 1))) ((Bk.lines sp rm (xs.drop i)).take r)
def bestv (i : Nat) (o : Option (Nat × Int)) : Int := match o with
  | some (t, _) => (i : Int) + (t : Int)
  | none => -1
def costv (o : Option (Nat × Int)) : Int := match o with
  | some (_, y) => y
  | none => 0
theorem pk_succ {sp rm : Int} {xs : List Int} {i k : Nat} (hk : k < (Bk.lines sp rm (xs.drop i)).length) {c : Int} (hc : (Bk.lines sp rm (xs.drop i))[k] = (k + 1, c)) (hj : i + (k + 1) ≤ xs.length) :
    pk sp rm xs i (k + 1) = match pk sp rm xs i k with
      | none => some (k + 1, c + Bk.at_ (Bk.tab sp rm (xs.drop (i + (k + 1)))) 0)
      | some (t, y) => if c + Bk.at_ (Bk.tab sp rm (xs.drop (i + (k + 1)))) 0 < y then some (k + 1, c + Bk.at_ (Bk.tab sp rm (xs.drop (i + (k + 1)))) 0) else some (t, y) := by
  unfold pk
  rw [List.take_succ_eq_append_getElem hk, Bk.pick_snoc, hc]
  have h1 : Bk.at_ (Bk.tab sp rm (xs.drop (i + 1))) k = Bk.at_ (Bk.tab sp rm (xs.drop (i + (k + 1)))) 0 := by
    rw [Bk.tab_at _ _ _ k (by simp; omega), List.drop_drop, show i + 1 + k = i + (k + 1) by omega]
  unfold Bk.step
  simp only [Nat.add_sub_cancel, h1]
  cases Bk.pick (Bk.tab sp rm (xs.drop (i + 1))) ((Bk.lines sp rm (xs.drop i)).take k) <;> rfl
theorem pk_all {sp rm : Int} {xs : List Int} {i : Nat} (ho : Bk.ok sp rm xs) (hi : i < xs.length) :
    pk sp rm xs i (Bk.lines sp rm (xs.drop i)).length = some (Bk.fst sp rm (xs.drop i), Bk.at_ (Bk.tab sp rm (xs.drop i)) 0) := by
  have hd : xs.drop i = xs[i] :: xs.drop (i + 1) := List.drop_eq_getElem_cons hi
  unfold pk
  rw [List.take_length]
  have ho' := ho.drop i
  rw [hd] at ho' ⊢
  have h := Bk.pick_all ho' (xs[i] :: xs.drop (i + 1)).length (Nat.le_refl _)
  rwa [List.take_of_length_le (Bk.lines_len _ _ _)] at h
theorem pk_bd {sp rm : Int} {xs : List Int} {i k t : Nat} {y : Int} (ho : Bk.ok sp rm xs) (h : pk sp rm xs i k = some (t, y)) : 0 ≤ y := by
  have := Bk.pick_take_nonneg (ho.drop i) k (t := t) (y := y) (by rw [List.tail_drop]; exact h)
  exact this
theorem rev_step {sp rm : Int} {xs : List Int} {i : Nat} (ho : Bk.ok sp rm xs) (hi : i < xs.length) :
    rev sp rm xs i = rev sp rm xs (i + Bk.fst sp rm (xs.drop i)) ++ [((i + Bk.fst sp rm (xs.drop i) : Nat) : Int)] := by
  unfold rev
  rw [endsI_step i (ho.drop i) (by intro e; have := congrArg List.length e; simp at this; omega), List.reverse_cons, List.drop_drop]
theorem Sv.istep {w W W' : World} {A : Option Addr} {cap : Nat} {xs : List Int} {sp rm : Int} {bi k : Nat} {es : List (Int × Value)} (h : Sv w W A cap xs sp rm bi k es) (hs : IStep w.heap.size W W') (hbi : bi < W.heap.size) : Sv w W' A cap xs sp rm bi k es := by
  refine ⟨h.bel.trans (hs.below (Nat.le_refl _) h.bel.size), hs.block _ _ h.t (.inl rfl), hs.boxed h.l, h.p.istep hs, h.len, h.hi, hs.boxed h.i, h.lo, fun m hm hk => ⟨(h.up m hm hk).1, ?_⟩⟩
  obtain ⟨A', c, e, h1, h2⟩ := (h.up m hm hk).2
  refine ⟨A', c, e, h1, fun hn => ?_⟩
  obtain ⟨b, off, ea, hp, hb, hc⟩ := h2 hn
  exact ⟨b, off, ea, hp, Nat.lt_of_lt_of_le hb hs.size, fun i hi => hs.cell (hc i hi)⟩
theorem own_ib {X : World} {base : Nat} {v : Value} {xs : List Int} (h : OwnInts X base v xs) : IsIB (fun b => base ≤ b ∧ b < X.heap.size) X v xs := by
  obtain ⟨_, h | ⟨g, cap, cur, h1, h2, h3, h4, h5, h6, h7⟩⟩ := h
  · obtain ⟨rfl, h⟩ := h
    rw [List.eq_nil_of_length_eq_zero h]
    exact IsIB.nil
  · subst h1
    have hlt := (Array.getElem?_eq_some_iff.1 h3).1
    refine ⟨_, _, rfl, ⟨fun h => (by cases h), h4⟩, fun _ => ⟨g, 0, rfl, ⟨h2, hlt⟩, hlt, fun i hi => ?_⟩⟩
    have h8 : (cur.toList.take (xs.length * 1))[i]? = (xs.map (Value.int .i64))[i]? := by rw [h7]
    rw [List.getElem?_take_of_lt (by omega), Array.getElem?_toList] at h8
    rw [Nat.zero_add]
    simp [World.cell?, h3, h8, hi]
theorem round_end {WL W2 : World} {f g B i : Nat} {v0 : Value} {es : List (Int × Value)} {Pr : Nat → Prop} (HE : Ex WL W2 f g) (HB : Boxed W2 f 3 v0) (HP : Pairs W2 g es) (hi : i < es.length) (hfg : f ≠ g) (h1 : ¬ Pr f) (h2 : ¬ Pr g) (v : Value) (c : Int) :
    RStep B Pr W2 ((W2.setCell ⟨f, 0, none⟩ v).setCell ⟨g, i * 2, none⟩ (.int .i64 c)) ∧ Ex WL ((W2.setCell ⟨f, 0, none⟩ v).setCell ⟨g, i * 2, none⟩ (.int .i64 c)) f g ∧
      Boxed ((W2.setCell ⟨f, 0, none⟩ v).setCell ⟨g, i * 2, none⟩ (.int .i64 c)) f 3 v ∧ Pairs ((W2.setCell ⟨f, 0, none⟩ v).setCell ⟨g, i * 2, none⟩ (.int .i64 c)) g (es.set i (c, es[i].2)) :=
  ⟨(RStep.setCell _ _ _ h1).trans (RStep.setCell _ _ _ h2), (HE.set f 0 v (.inl rfl)).set g _ _ (.inr rfl),
    (Below.heap_setCell (W2.setCell ⟨f, 0, none⟩ v) ⟨g, i * 2, none⟩ (.int .i64 c) f hfg).trans (HB.set v),
    (show Pairs (W2.setCell ⟨f, 0, none⟩ v) g es from (Below.heap_setCell W2 ⟨f, 0, none⟩ v g (Ne.symm hfg)).trans HP).set0 hi c⟩
def mzS (a : Act) (wr : World) : Nat := match a.tmps.getD 5 undef with
  | .pointer (some p) => (match wr.cell? p with
    | some (.int _ n) => (n + 1).toNat
    | _ => 0)
  | _ => 0
theorem mzS_is {a : Act} {wr : World} {p : Addr} {n : Int} (h : a.tmps.getD 5 undef = .pointer (some p)) (hc : wr.cell? p = some (.int .i64 n)) : mzS a wr = (n + 1).toNat := by
  unfold mzS; rw [h]; simp only [hc]
def SvPost (xs : List Int) (sp rm : Int) (w : World) (e : Ending) (w' : World) : Prop :=
  ∃ g es, e = .returned (.slice (some ⟨g, 0, none⟩) (xs.length + 1) (xs.length + 1)) ∧ Pairs w' g es ∧ es.length = xs.length + 1 ∧
    (∀ m (h : m < es.length), es[m].1 = Bk.at_ (Bk.tab sp rm (xs.drop m)) 0 ∧ IsIB (fun b => w.heap.size ≤ b ∧ b ≠ g) w' es[m].2 (rev sp rm xs m)) ∧ Below w.heap.size w w'

set_option maxHeartbeats 4000000 in
set_option maxRecDepth 100000 in
theorem solve_any (xs : List Int) (A : Option Addr) (cap : Nat) (sp rm : Int) (w : World) (hv : IsInts w (.slice A xs.length cap) xs) (hr : Bk.Rt xs sp rm) (ho : Bk.ok sp rm xs) :
    Calls Try.prog 24 #[.agg #[.slice A xs.length cap, .int .i64 sp, .int .i64 rm]] w (SvPost xs sp rm w) := by
  have HV := Lib.hid hv
  have HR := Lib.hid hr
  have HO := Lib.hid ho
  have hn := hr.len
  have hmk := fun W => make_rests xs.length (by omega) W
  have HS0 := Lib.hid (show Sv w ((((w.alloc (.cells #[.slice A xs.length cap, .int .i64 sp, .int .i64 rm] 42)).alloc (.cells ((zero2 (xs.length + 1)).flatMap enc2).toArray 46)).alloc (.cells #[.slice (some ⟨w.heap.size + 1, 0, none⟩) (xs.length + 1) (xs.length + 1)] 47)).alloc (.cells #[.int .i64 ((xs.length : Int) - 1)] 3)) A cap xs sp rm (w.heap.size + 3) xs.length (zero2 (xs.length + 1)) from by
    refine ⟨?_, ?_, ?_, ?_, by simp [zero2], by omega, ?_, ?_, ?_⟩
    · exact ((((al1 w _).up (al1 _ _)).up (al1 _ _)).up (al1 _ _))
    · have h := World.alloc_heap_new w (.cells #[.slice A xs.length cap, .int .i64 sp, .int .i64 rm] 42)
      exact (Below.heap_alloc _ _ _ (by simp; omega)).trans ((Below.heap_alloc _ _ _ (by simp; omega)).trans ((Below.heap_alloc _ _ _ (by simp)).trans h))
    · have h := Boxed.new ((w.alloc (.cells #[.slice A xs.length cap, .int .i64 sp, .int .i64 rm] 42)).alloc (.cells ((zero2 (xs.length + 1)).flatMap enc2).toArray 46)) 47 (.slice (some ⟨w.heap.size + 1, 0, none⟩) (xs.length + 1) (xs.length + 1))
      simp only [World.size_alloc] at h
      exact h.alloc _
    · have h := World.alloc_heap_new (w.alloc (.cells #[.slice A xs.length cap, .int .i64 sp, .int .i64 rm] 42)) (.cells ((zero2 (xs.length + 1)).flatMap enc2).toArray 46)
      simp only [World.size_alloc] at h
      exact (Below.heap_alloc _ _ _ (by simp)).trans ((Below.heap_alloc _ _ _ (by simp)).trans h)
    · have h := Boxed.new (((w.alloc (.cells #[.slice A xs.length cap, .int .i64 sp, .int .i64 rm] 42)).alloc (.cells ((zero2 (xs.length + 1)).flatMap enc2).toArray 46)).alloc (.cells #[.slice (some ⟨w.heap.size + 1, 0, none⟩) (xs.length + 1) (xs.length + 1)] 47)) 3 (.int .i64 ((xs.length : Int) - 1))
      simp only [World.size_alloc] at h
      exact h
    · intro m h hm
      simp [zero2]
    · intro m h hm
      have hm2 : m = xs.length := by simp [zero2] at h; omega
      subst hm2
      simp only [zero2, List.getElem_replicate, rev, List.drop_length]
      exact ⟨rfl, IsIB.nil⟩)
  clear hv hr ho
  refine (callsIn_wide (n := 0)).1 ?_
  refine callsIn_of_wp_marks Try.func24 rfl trivial ?_ rfl
  simp only [Try.ntmps24, List.size_toArray, List.length_cons, List.length_nil, Nat.reduceAdd, Nat.reduceSub, Array.replicate_succ, Array.replicate_zero, List.push_toArray, List.append_toArray, List.nil_append, List.cons_append]
  gi_wp2_with (fail)
  clear hmk
  refine wpIn_loop (fun a wr => ∃ (ds : List Deferred) (bi k : Nat) (es : List (Int × Value)), Hid (Sv w wr A cap xs sp rm bi k es) ∧ Hid (Mk w.heap.size ds wr) ∧ k ≤ xs.length ∧ a.defers = ds ∧ a.tmps.size = 72 ∧ a.tmps.getD 1 undef = .pointer (some ⟨w.heap.size, 0, none⟩) ∧ a.tmps.getD 4 undef = .pointer (some ⟨w.heap.size + 2, 0, none⟩) ∧ a.tmps.getD 5 undef = .pointer (some ⟨bi, 0, none⟩)) mzS ?_ ?_
  · exact ⟨[], w.heap.size + 3, xs.length, zero2 (xs.length + 1), HS0, trivial, Nat.le_refl _, rfl, rfl, rfl, rfl, rfl⟩
  · rintro ⟨tm, df⟩ wr ⟨ds, bi, k, es, HS, HM, hk, hds, htz, e1, e4, e5⟩
    dsimp only at hds htz e1 e4 e5
    subst hds
    obtain ⟨u, rfl⟩ := arr72 tm htz
    replace e1 : u 1 = _ := e1
    replace e4 : u 4 = _ := e4
    replace e5 : u 5 = _ := e5
    clear htz
    rw [e1, e4, e5]
    clear HS0
    by_cases hpos : 1 ≤ k
    · obtain ⟨i, rfl⟩ : ∃ i, k = i + 1 := ⟨k - 1, by omega⟩
      have hei : ((i + 1 : Nat) : Int) - 1 = (i : Int) := by omega
      have hib := HS.out.i
      rw [hei] at hib
      have hi0 := hib.cell
      have hT := HS.out.t
      have t0 : wr.cell? ⟨w.heap.size, 0, none⟩ = some (.slice A xs.length cap) := by simp [World.cell?, hT]
      have t1 : wr.cell? ⟨w.heap.size, 1, none⟩ = some (.int .i64 sp) := by simp [World.cell?, hT]
      have t2 : wr.cell? ⟨w.heap.size, 2, none⟩ = some (.int .i64 rm) := by simp [World.cell?, hT]
      have hlt0 : w.heap.size < wr.heap.size := (Array.getElem?_eq_some_iff.1 hT).1
      have hlti := hib.lt
      have T0 := cell_al t0 (.cells #[.int .i64 (-1)] 3)
      have T1 := cell_al t1 (.cells #[.int .i64 (-1)] 3)
      have T2 := cell_al t2 (.cells #[.int .i64 (-1)] 3)
      have TI := cell_al hi0 (.cells #[.int .i64 (-1)] 3)
      have HIB := Lib.hid hib
      clear hT hei hib hpos
      gi_wp2_with (fail)
      refine inC (linesF_any _ _ _ _ _ _ _) ?_
      rintro e w4 ⟨rfl, rfl⟩
      gi_wp2_with (fail)
      clear T0 T1 T2 TI t0 t1 t2 hi0
      have hF : Boxed (((wr.alloc (.cells #[.int .i64 (-1)] 3)).alloc (.cells #[.slice A xs.length cap, .int .i64 sp, .int .i64 rm] 42)).alloc (.cells #[.int .i64 i] 3)) wr.heap.size 3 (.int .i64 (-1)) := ((Boxed.new wr 3 _).alloc _).alloc _
      have hT : (((wr.alloc (.cells #[.int .i64 (-1)] 3)).alloc (.cells #[.slice A xs.length cap, .int .i64 sp, .int .i64 rm] 42)).alloc (.cells #[.int .i64 i] 3)).heap[wr.heap.size + 1]? = some (.cells #[.slice A xs.length cap, .int .i64 sp, .int .i64 rm] 42 (0, 0)) := by
        have h := World.alloc_heap_new (wr.alloc (.cells #[.int .i64 (-1)] 3)) (.cells #[.slice A xs.length cap, .int .i64 sp, .int .i64 rm] 42)
        simp only [World.size_alloc] at h
        exact (Below.heap_alloc _ _ _ (by simp)).trans h
      have hJ : Boxed (((wr.alloc (.cells #[.int .i64 (-1)] 3)).alloc (.cells #[.slice A xs.length cap, .int .i64 sp, .int .i64 rm] 42)).alloc (.cells #[.int .i64 i] 3)) (wr.heap.size + 1 + 1) 3 (.int .i64 i) := by
        have h := Boxed.new ((wr.alloc (.cells #[.int .i64 (-1)] 3)).alloc (.cells #[.slice A xs.length cap, .int .i64 sp, .int .i64 rm] 42)) 3 (.int .i64 i)
        simp only [World.size_alloc] at h
        exact h
      have hST : Below wr.heap.size wr (((wr.alloc (.cells #[.int .i64 (-1)] 3)).alloc (.cells #[.slice A xs.length cap, .int .i64 sp, .int .i64 rm] 42)).alloc (.cells #[.int .i64 i] 3)) := ((al1 wr _).up (al1 _ _)).up (al1 _ _)
      have hSV := HS.out.istep (IStep.of_below hST) HIB.out.lt
      have hMK := HM.out.keep (W' := (((wr.alloc (.cells #[.int .i64 (-1)] 3)).alloc (.cells #[.slice A xs.length cap, .int .i64 sp, .int .i64 rm] 42)).alloc (.cells #[.int .i64 i] 3))) (fun D hD => (hST.block D (Array.getElem?_eq_some_iff.1 hD).1).trans hD)
      have hbf := HIB.out.lt
      obtain ⟨f, hf⟩ : ∃ f, wr.heap.size = f := ⟨_, rfl⟩
      obtain ⟨WL, hWL⟩ : ∃ WL, (((wr.alloc (.cells #[.int .i64 (-1)] 3)).alloc (.cells #[.slice A xs.length cap, .int .i64 sp, .int .i64 rm] 42)).alloc (.cells #[.int .i64 i] 3)) = WL := ⟨_, rfl⟩
      have hsz : f + 3 = WL.heap.size := by rw [← hWL, ← hf]; simp
      rw [hWL] at hF hT hJ hSV hMK ⊢
      rw [hf] at hF hT hJ hbf hlt0 hlti ⊢
      have HI0 := Lib.hid HIB.out.cell
      have HF0 := Lib.hid hf
      clear hST hWL HS HM HIB hf
      have HSV := Lib.hid hSV
      have HMK := Lib.hid hMK
      have hnl := hSV.l.lt
      have hng := hSV.p.lt
      have hnh := hSV.hi
      have hlen := hSV.len
      have hbi : Boxed WL bi 3 (.int .i64 i) := by
        have h := hSV.i
        rwa [show ((i + 1 : Nat) : Int) - 1 = (i : Int) by omega] at h
      have hti : WL.cell? ⟨f + 1, 0, none⟩ = some (.slice A xs.length cap) := by simp [World.cell?, hT]
      have hti1 : WL.cell? ⟨f + 1, 1, none⟩ = some (.int .i64 sp) := by simp [World.cell?, hT]
      have hti2 : WL.cell? ⟨f + 1, 2, none⟩ = some (.int .i64 rm) := by simp [World.cell?, hT]
      have hbl : Below w.heap.size w WL := hSV.bel
      clear hMK hSV
      refine rf_outer (Bk.lines sp rm (xs.drop i)) (protB (f + 1) (f + 1 + 1) w.heap.size)
        (fun r W => Hid (Ex WL W f (w.heap.size + 1)) ∧ Hid (Boxed W f 3 (.int .i64 (bestv i (pk sp rm xs i r)))) ∧ Hid (Pairs W (w.heap.size + 1) (es.set i (costv (pk sp rm xs i r), .slice none 0 0))))
        (fun _ _ _ => False)
        (enc := encP i) rfl (enters_of Try.func36 (by kernel_rfl) rfl) (fun _ => rfl) ?hP ?hit ?hI ?hIx ?h0 ?hround ?hdone ?hstop
      case hP => rintro b (rfl | rfl | hb) <;> omega
      case hit =>
        intro W hW
        have hc : ∀ b o v, b < WL.heap.size → WL.cell? ⟨b, o, none⟩ = some v → W.cell? ⟨b, o, none⟩ = some v := fun b o v hb h => (World.cell?_of_block (hW.block b hb)).trans h
        exact lines_iter (f + 1) (f + 1 + 1) xs A cap i sp rm w W (hc _ _ _ (by omega) hti) (hc _ _ _ (by omega) hti1) (hc _ _ _ (by omega) hti2) (hc _ _ _ (by omega) hJ.cell) HV.out (hbl.up hW) HR.out (by omega)
      case hI =>
        rintro r X Y ⟨h1, h2, h3⟩ hs
        exact ⟨h1.out.istep hs, hs.boxed h2.out, h3.out.istep hs⟩
      case hIx =>
        rintro c r X Y h hs
        exact h
      case h0 =>
        refine ⟨Ex.refl _ _ _, hF, ?_⟩
        have h0 := HSV.out.lo i (by omega) (by omega)
        have h1 : es.set i (costv (pk sp rm xs i 0), .slice none 0 0) = es := by
          have : (costv (pk sp rm xs i 0), Value.slice none 0 0) = es[i] := by rw [h0]; rfl
          rw [this, List.set_getElem_self]
        exact show Pairs _ _ _ from by rw [h1]; exact HSV.out.p
      case hround =>
        rintro la k hk W hla ⟨hE, hB, hPr⟩
        have hkl := Bk.lines_len sp rm (xs.drop i)
        have hdl : (xs.drop i).length = xs.length - i := by simp
        obtain ⟨c, hyk⟩ : ∃ c, (Bk.lines sp rm (xs.drop i))[k] = (k + 1, c) := ⟨((Bk.lines sp rm (xs.drop i))[k]).2, Prod.ext (Bk.lines_get hk) rfl⟩
        have hj : i + (k + 1) ≤ xs.length := by omega
        have HPK := Lib.hid (pk_succ hk hyk hj)
        have hc := Bk.lc_bd (HR.out.pos.drop i) HR.out.r (Bk.lc_mem.2 (hyk ▸ List.getElem_mem hk))
        have hbd : ∀ t y, pk sp rm xs i k = some (t, y) → 0 ≤ y := fun t y h => pk_bd HO.out h
        have htn := Bk.tab_nonneg (xs.drop (i + (k + 1))) (HO.out.drop _) 0
        have htb := Bk.tab_bd HR.out.r (xs.drop (i + (k + 1))) (HO.out.drop _) 0
        have hdl2 : (xs.drop (i + (k + 1))).length ≤ 64 := by simp; omega
        rw [hyk]
        simp only [encP]
        rw [show (i : Int) + ((k + 1 : Nat) : Int) = ((i + (k + 1) : Nat) : Int) by omega]
        have hel : (es.set i (costv (pk sp rm xs i k), .slice none 0 0)).length = xs.length + 1 := by rw [List.length_set]; exact hlen
        have hej : ((es.set i (costv (pk sp rm xs i k), .slice none 0 0))[i + (k + 1)]'(by rw [hel]; omega)).1 = Bk.at_ (Bk.tab sp rm (xs.drop (i + (k + 1)))) 0 := by
          rw [List.getElem_set_ne (by omega)]
          exact (HSV.out.up (i + (k + 1)) (by omega) (by omega)).1
        have hei : ((es.set i (costv (pk sp rm xs i k), .slice none 0 0))[i]'(by rw [hel]; omega)) = (costv (pk sp rm xs i k), .slice none 0 0) := by
          rw [List.getElem_set_self]
        have HEI := Lib.hid hei
        have hei1 := congrArg Prod.fst hei
        dsimp only at hei1
        obtain ⟨j, hjj⟩ : ∃ j, i + (k + 1) = j := ⟨_, rfl⟩
        have HJJ := Lib.hid hjj
        simp only [hjj] at HPK hej htn htb hdl2 hj ⊢
        have hij : i < j := by omega
        clear hkl hdl hyk hk hei
        generalize hTJ : Bk.at_ (Bk.tab sp rm (xs.drop j)) 0 = tj at HPK hej htn htb
        gi_wp2
        refine ⟨RStep.refl _ _ _, ?_⟩
        rintro W2 hW2 _
        have HE2 := Lib.hid (hE.out.istep hW2)
        have HB2 := Lib.hid (hW2.boxed hB.out)
        have HP2 := Lib.hid (hPr.out.istep hW2)
        clear hW2 hE hB hPr
        have hlc : W2.cell? ⟨w.heap.size + 2, 0, none⟩ = some (.slice (some ⟨w.heap.size + 1, 0, none⟩) (xs.length + 1) (xs.length + 1)) := (World.cell?_of_block (HE2.out.block (w.heap.size + 2) hnl (by omega) (by omega))).trans HSV.out.l.cell
        have hic : W2.cell? ⟨bi, 0, none⟩ = some (.int .i64 i) := (World.cell?_of_block (HE2.out.block bi hbi.lt (by omega) (by omega))).trans hbi.cell
        have hfc := HB2.out.cell
        have hff := HB2.out.frozen
        have hc0 := HP2.out.c0 (k := j) (by rw [hel]; omega)
        rw [hej] at hc0
        have hc1 := HP2.out.c0 (k := i) (by rw [hel]; omega)
        rw [hei1] at hc1
        have hfz := HP2.out.frozen (i * 2)
        have hs0 := HP2.out.set0 (k := i) (by rw [hel]; omega)
        cases hpk : pk sp rm xs i k with
        | none =>
          rw [hpk] at HPK hfc hc1
          simp only [bestv, costv] at hfc hc1
          gi_wp2_with (fail)
          obtain ⟨r1, r2, r3, r4⟩ := round_end (B := WL.heap.size) (Pr := protB (f + 1) (f + 1 + 1) w.heap.size) HE2.out HB2.out HP2.out (i := i) (by rw [hel]; omega) (by omega) (by rintro (h | h | h) <;> omega) (by rintro (h | h | h) <;> omega) (.int .i64 j) (c + tj)
          refine ⟨r1, r2, ?_, ?_⟩
          · exact show Boxed _ _ _ _ from by
              rw [HPK.out]
              simp only [bestv]
              rw [show (i : Int) + ((k + 1 : Nat) : Int) = (j : Int) by have := HJJ.out; omega]; exact r3
          · exact show Pairs _ _ _ from by
              rw [HPK.out]
              simp only [costv]
              rw [HEI.out, List.set_set] at r4; exact r4
        | some q =>
          obtain ⟨t, y0⟩ := q
          rw [hpk] at HPK hfc hc1
          simp only [bestv, costv] at hfc hc1
          have hy0 := hbd t y0 hpk
          have hneg : decide ((i : Int) + (t : Int) < 0) = false := by simp; omega
          by_cases hlt : c + tj < y0
          · simp only [if_pos hlt] at HPK
            have hdl : decide (c + tj < y0) = true := by simpa using hlt
            gi_wp2_with (fail)
            obtain ⟨r1, r2, r3, r4⟩ := round_end (B := WL.heap.size) (Pr := protB (f + 1) (f + 1 + 1) w.heap.size) HE2.out HB2.out HP2.out (i := i) (by rw [hel]; omega) (by omega) (by rintro (h | h | h) <;> omega) (by rintro (h | h | h) <;> omega) (.int .i64 j) (c + tj)
            refine ⟨r1, r2, ?_, ?_⟩
            · exact show Boxed _ _ _ _ from by
                rw [HPK.out]
                simp only [bestv]
                rw [show (i : Int) + ((k + 1 : Nat) : Int) = (j : Int) by have := HJJ.out; omega]; exact r3
            · exact show Pairs _ _ _ from by
                rw [HPK.out]
                simp only [costv]
                rw [HEI.out, List.set_set] at r4; exact r4
          · simp only [if_neg hlt] at HPK
            have hdl : decide (c + tj < y0) = false := by simpa using hlt
            gi_wp2_with (fail)
            refine ⟨RStep.refl _ _ _, HE2, ?_, ?_⟩
            · exact show Boxed _ _ _ _ from by rw [HPK.out, ← hpk]; exact HB2.out
            · exact show Pairs _ _ _ from by rw [HPK.out, ← hpk]; exact HP2.out
      case hstop => rintro D c r W _ _ h; exact h.elim
      case hdone =>
        rintro D W hD ⟨HE, HBx, HP⟩ hDm
        have hpa := pk_all HO.out (i := i) (by omega)
        rw [hpa] at HBx HP
        clear hpa
        have hfb := Bk.fst_bd (HO.out.drop i) (by intro e; have := congrArg List.length e; simp at this; omega)
        have hdl : (xs.drop i).length = xs.length - i := by simp
        rw [hdl] at hfb
        have hrs := rev_step HO.out (i := i) (by omega)
        obtain ⟨Y, hY⟩ : ∃ Y, Bk.at_ (Bk.tab sp rm (xs.drop i)) 0 = Y := ⟨_, rfl⟩
        have HYY := Lib.hid hY
        rw [hY] at HP HBx
        obtain ⟨t, ht⟩ : ∃ t, Bk.fst sp rm (xs.drop i) = t := ⟨_, rfl⟩
        rw [ht] at hfb HP HBx hrs
        clear hdl hY ht
        obtain ⟨j, hjj⟩ : ∃ j, i + t = j := ⟨_, rfl⟩
        have hbv : bestv i (some (t, Y)) = (j : Int) := by simp only [bestv]; omega
        rw [hbv] at HBx
        rw [hjj] at hrs
        have hij : i < j := by omega
        have hjn : j ≤ xs.length := by omega
        have HRS := Lib.hid hrs
        clear hbv hrs hfb hjj
        simp only [costv] at HP
        have hel : (es.set i (Y, Value.slice none 0 0)).length = xs.length + 1 := by rw [List.length_set]; exact hlen
        have hib := (HSV.out.up j (by omega) (by omega)).2
        have hej : ((es.set i (Y, Value.slice none 0 0))[j]'(by rw [hel]; omega)).2 = es[j].2 := by rw [List.getElem_set_ne (by omega)]
        have hei : ((es.set i (Y, Value.slice none 0 0))[i]'(by rw [hel]; omega)) = (Y, .slice none 0 0) := by rw [List.getElem_set_self]
        have HEI := Lib.hid hei
        have hc1 := HP.out.c1 (k := j) (by rw [hel]; omega)
        rw [hej] at hc1
        have hIW : IsIB (fun b => b < bi ∧ w.heap.size + 2 < b) W es[j].2 (rev sp rm xs j) := hib.keep HE.out.size (fun b hb hlt => HE.out.block b hlt (by omega) (by omega))
        obtain ⟨Av, cv, hev, _⟩ := id hIW
        rw [hev] at hc1 hIW
        obtain ⟨rv, hrv⟩ : ∃ rv, rev sp rm xs j = rv := ⟨_, rfl⟩
        rw [hrv] at hc1 hIW HRS
        have HIW := Lib.hid hIW
        have hrl : rv.length ≤ 64 := by
          rw [← hrv]
          unfold rev endsI
          rw [List.length_reverse, List.length_map]
          exact Nat.le_trans (ends_len _ _ _ (Nat.le_refl _) (HO.out.drop j)) (by rw [List.length_drop]; omega)
        have hlc : W.cell? ⟨w.heap.size + 2, 0, none⟩ = some (.slice (some ⟨w.heap.size + 1, 0, none⟩) (xs.length + 1) (xs.length + 1)) := (World.cell?_of_block (HE.out.block (w.heap.size + 2) hnl (by omega) (by omega))).trans HSV.out.l.cell
        have hic : W.cell? ⟨bi, 0, none⟩ = some (.int .i64 i) := (World.cell?_of_block (HE.out.block bi hbi.lt (by omega) (by omega))).trans hbi.cell
        have hfc := HBx.out.cell
        have hci1 := HP.out.c1 (k := i) (by rw [hel]; omega)
        rw [hei] at hci1
        have hfz := HP.out.frozen (i * 2 + 1)
        clear hev hej hei hib hIW hrv
        dsimp only at hci1
        gi_wp2_with (fail)
        have hl1 : bi < W.heap.size := cell_lt hic
        refine wpIn_wide.2 (grow_region hlc hic hfc hci1 hfz HIW.out hrl (by omega) (by omega) (by omega) (by omega) ?_)
        intro v X1 hown hbX
        have hpair : Pairs (X1.setCell ⟨w.heap.size + 1, i * 2 + 1, none⟩ v) (w.heap.size + 1) (es.set i (Y, v)) := by
          have h := (show Pairs X1 (w.heap.size + 1) _ from (hbX.block _ HP.out.lt).trans HP.out).set1 (k := i) (by rw [hel]; omega) v
          rw [HEI.out, List.set_set] at h
          exact h
        have hkX : ∀ b, b < W.heap.size → b ≠ w.heap.size + 1 → (X1.setCell ⟨w.heap.size + 1, i * 2 + 1, none⟩ v).heap[b]? = W.heap[b]? := fun b hb hne => (Below.heap_setCell X1 ⟨w.heap.size + 1, i * 2 + 1, none⟩ v b hne).trans (hbX.block b hb)
        have hsX : (X1.setCell ⟨w.heap.size + 1, i * 2 + 1, none⟩ v).heap.size = X1.heap.size := by simp [World.setCell]
        have hvb := own_ib hown
        have HVB := Lib.hid (show IsIB (fun b => w.heap.size + 2 < b ∧ b < X1.heap.size) (X1.setCell ⟨w.heap.size + 1, i * 2 + 1, none⟩ v) v (rev sp rm xs i) from by
          rw [HRS.out]
          exact (hvb.keep (by rw [hsX]; exact Nat.le_refl _) (fun b hb hlt => Below.heap_setCell X1 ⟨w.heap.size + 1, i * 2 + 1, none⟩ v b (by show b ≠ w.heap.size + 1; have := hb.1; omega))).mono (fun b hb => ⟨by have := hb.1; omega, hb.2⟩))
        have hsz2 := hbX.size
        have hosX : (X1.setCell ⟨w.heap.size + 1, i * 2 + 1, none⟩ v).os = W.os ∧ (X1.setCell ⟨w.heap.size + 1, i * 2 + 1, none⟩ v).tape = W.tape ∧ (X1.setCell ⟨w.heap.size + 1, i * 2 + 1, none⟩ v).output = W.output := ⟨hbX.os, hbX.tape, hbX.output⟩
        clear hbX hown hvb
        have HPAIR := Lib.hid hpair
        obtain ⟨X2, hX2⟩ : ∃ X2, X1.setCell ⟨w.heap.size + 1, i * 2 + 1, none⟩ v = X2 := ⟨_, rfl⟩
        rw [hX2] at hkX hsX hosX HVB HPAIR ⊢
        rw [← hsX] at HVB hsz2
        clear hX2 hsX hpair X1
        have hXi : X2.cell? ⟨bi, 0, none⟩ = some (.int .i64 i) := (World.cell?_of_block (hkX bi hl1 (by omega))).trans hic
        have HKX := Lib.hid hkX
        clear hkX hlc hic hfc hc1 hci1 hfz
        gi_wp2_with (fail)
        have hsz3 := HE.out.size
        obtain ⟨X, hX⟩ : ∃ X, X2.alloc (.cells #[.int .i64 ((i : Int) - 1)] 3) = X := ⟨_, rfl⟩
        have hBN : Boxed X X2.heap.size 3 (.int .i64 ((i : Int) - 1)) := by rw [← hX]; exact Boxed.new _ _ _
        have hkA : ∀ b, b < X2.heap.size → X.heap[b]? = X2.heap[b]? := by rw [← hX]; exact (al1 X2 _).block
        have hsA : X.heap.size = X2.heap.size + 1 := by rw [← hX]; simp
        have hosA : X.os = X2.os ∧ X.tape = X2.tape ∧ X.output = X2.output := by rw [← hX]; exact ⟨rfl, rfl, rfl⟩
        rw [hX]
        clear hX
        have hkW : ∀ b, b < W.heap.size → b ≠ w.heap.size + 1 → X.heap[b]? = W.heap[b]? := fun b hb hne => (hkA b (by omega)).trans (HKX.out b hb hne)
        have hkL : ∀ b, b < WL.heap.size → b ≠ f → b ≠ w.heap.size + 1 → X.heap[b]? = WL.heap[b]? := fun b hb h1 h2 => (hkW b (by omega) h2).trans (HE.out.block b hb h1 h2)
        have hmk : Mk w.heap.size ({ target := .collected D, args := #[] } :: df) X := by
          refine HMK.out.cons hD (HMK.out.keep (fun D' h => ?_)) (by omega) ?_
          · have hlt := (Array.getElem?_eq_some_iff.1 h).1
            refine (hkL D' hlt ?_ ?_).trans h
            · rintro rfl
              rw [show WL.heap[D']? = _ from hF] at h; cases h
            · rintro rfl
              rw [show WL.heap[w.heap.size + 1]? = _ from HSV.out.p] at h; cases h
          · have hlt := (Array.getElem?_eq_some_iff.1 hDm).1
            refine (hkW D hlt (by omega)).trans hDm
        have hsv : Sv w X A cap xs sp rm X2.heap.size i (es.set i (Y, v)) := by
          refine ⟨⟨?_, ?_, ?_, by omega, fun b hb => (hkL b (by omega) (by omega) (by omega)).trans (hbl.block b hb)⟩, (hkL w.heap.size (by omega) (by omega) (by omega)).trans HSV.out.t, (hkL _ hnl (by omega) (by omega)).trans HSV.out.l, (hkA _ (by omega)).trans HPAIR.out, by rw [List.length_set]; exact hlen, by omega, hBN, ?_, ?_⟩
          · rw [hosA.1, hosX.1, HE.out.os]; exact hbl.os
          · rw [hosA.2.1, hosX.2.1, HE.out.tape]; exact hbl.tape
          · rw [hosA.2.2, hosX.2.2, HE.out.output]; exact hbl.output
          · intro m hm hlt
            have hm' : m < es.length := by simpa using hm
            rw [List.getElem_set_ne (by omega)]
            exact HSV.out.lo m hm' (by omega)
          · intro m hm hge
            have hm' : m < es.length := by simpa using hm
            rcases Nat.lt_or_ge i m with hgt | hle
            · rw [List.getElem_set_ne (by omega)]
              obtain ⟨h1, h2⟩ := HSV.out.up m hm' (by omega)
              refine ⟨h1, ?_⟩
              exact (h2.keep (by omega) (fun b hb hlt => hkL b hlt (by omega) (by omega))).mono (fun b hb => ⟨by omega, hb.2⟩)
            · obtain rfl : m = i := by omega
              rw [List.getElem_set_self]
              refine ⟨HYY.out.symm, ?_⟩
              exact (HVB.out.keep (by omega) (fun b hb hlt => hkA b hlt)).mono (fun b hb => ⟨hb.2, hb.1⟩)
        refine ⟨⟨_, X2.heap.size, i, es.set i (Y, v), hsv, hmk, by omega, rfl, rfl, rfl, rfl, rfl⟩, ?_⟩
        refine Nat.lt_of_le_of_lt (Nat.le_of_eq (mzS_is (p := ⟨X2.heap.size, 0, none⟩) rfl hBN.cell)) (Nat.lt_of_lt_of_eq ?_ (mzS_is (p := ⟨bi, 0, none⟩) (n := (i : Int)) rfl HI0.out).symm)
        omega
    · obtain rfl : k = 0 := by omega
      have hib := HS.out.i
      rw [show ((0 : Nat) : Int) - 1 = -1 by omega] at hib
      have hi0 := hib.cell
      have hl0 := HS.out.l.cell
      gi_wp2_with (fail)
      refine leaves_marks df wr HM.out ?_
      rintro W' o1 o2 o3 hs hb
      have hkp : ∀ b, b < wr.heap.size → (∀ o, wr.heap[b]? = some o → o.isCells = true ∨ b < w.heap.size) → W'.heap[b]? = wr.heap[b]? := fun b hlt h => by
        have e := Array.getElem?_eq_getElem hlt
        rw [e]; exact hb b _ e (h _ e)
      refine ⟨_, results_tmp rfl _ _ _, w.heap.size + 1, es, rfl, (hb _ _ HS.out.p (.inl rfl)), HS.out.len, fun m hm => ?_, ?_⟩
      · obtain ⟨h1, h2⟩ := HS.out.up m hm (Nat.zero_le _)
        refine ⟨h1, ?_⟩
        obtain ⟨A', c, e, h3, h4⟩ := h2
        refine ⟨A', c, e, h3, fun hne => ?_⟩
        obtain ⟨b, off, ea, hp, hb2, hc⟩ := h4 hne
        refine ⟨b, off, ea, ⟨by have := hp.2; omega, by have := hp.2; omega⟩, by omega, fun i hi => ?_⟩
        have h5 := hc i hi
        refine (World.cell?_of_block (hkp b hb2 (fun o ho => .inl ?_))).trans h5
        simp only [World.cell?, ho] at h5
        cases o <;> simp_all [Obj.isCells]
      · have hB := HS.out.bel
        refine ⟨o1.trans hB.os, o2.trans hB.tape, o3.trans hB.output, by rw [hs]; exact hB.size, fun b hlt => ?_⟩
        rw [← hB.block b hlt]
        exact hkp b (by have := hB.size; omega) (fun o _ => .inr hlt)

end Go.Proofs.Ytdcndhfjfllehaa
