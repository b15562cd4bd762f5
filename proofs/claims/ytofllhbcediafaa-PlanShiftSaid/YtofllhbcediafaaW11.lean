/- Walk of Latest. -/
import Derived.Test.YtofllhbcediafaaW11a
namespace Go.Proofs.Ytofllhbcediafaa
open Go.RowKit
set_option linter.unusedVariables false
attribute [local go_sem] Oper.semAt_some

def okL (l : List (List Pl.Life)) (ds : List Int) : Bool := decide (Pl.err l ds = 0) && Pl.inTime l ds (Pl.shown ds)
def sRow (ds : List Int) (p : Nat) : List Int := List.replicate p 0 ++ (Pl.mins p (ds.drop p)).map (·.1)
def yRow (ds : List Int) (p : Nat) : List Int := List.replicate p 0 ++ (Pl.mins p (ds.drop p)).map (fun q => (q.2 : Int))
def fst (ds : List Int) (p : Nat) : Int := match Pl.mins p (ds.drop p) with | [] => -1 | q :: _ => q.2
theorem rep_set (p : Nat) (m : List Int) (v : Int) : (List.replicate (p + 1) (0 : Int) ++ m).set p v = List.replicate p 0 ++ v :: m := by
  induction p with
  | zero => rfl
  | succ p ih =>
    rw [List.replicate_succ, List.cons_append, List.set_cons_succ, ih]; rfl
theorem sRow_set (ds : List Int) (p : Nat) (h : p < ds.length) : (sRow ds (p + 1)).set p (Pl.pickM ds[p] p (Pl.mins (p + 1) (ds.drop (p + 1)))).1 = sRow ds p := by
  unfold sRow; rw [rep_set, Pl.mins_drop ds p h]; rfl
theorem yRow_set (ds : List Int) (p : Nat) (h : p < ds.length) : (yRow ds (p + 1)).set p ((Pl.pickM ds[p] p (Pl.mins (p + 1) (ds.drop (p + 1)))).2 : Int) = yRow ds p := by
  unfold yRow; rw [rep_set, Pl.mins_drop ds p h]; rfl
theorem fst_step (ds : List Int) (p : Nat) (h : p < ds.length) : fst ds p = (Pl.pickM ds[p] p (Pl.mins (p + 1) (ds.drop (p + 1)))).2 := by
  unfold fst; rw [Pl.mins_drop ds p h]
theorem sRow_len (ds : List Int) (p : Nat) (h : p ≤ ds.length) : (sRow ds p).length = ds.length := by simp [sRow, Pl.mins_length]; omega
theorem yRow_len (ds : List Int) (p : Nat) (h : p ≤ ds.length) : (yRow ds p).length = ds.length := by simp [yRow, Pl.mins_length]; omega
theorem sRow_0 (ds : List Int) : sRow ds 0 = Pl.shown ds := by simp [sRow, Pl.shown]
theorem yRow_0 (ds : List Int) : yRow ds 0 = Pl.whys ds := by simp [yRow, Pl.whys]
theorem sRow_n (ds : List Int) (n : Nat) (h : n = ds.length) : sRow ds n = List.replicate n 0 := by subst h; simp [sRow, Pl.mins]
theorem yRow_n (ds : List Int) (n : Nat) (h : n = ds.length) : yRow ds n = List.replicate n 0 := by subst h; simp [yRow, Pl.mins]
theorem fst_n (ds : List Int) (n : Nat) (h : n = ds.length) : fst ds n = -1 := by subst h; simp [fst, Pl.mins]

structure LInv (w W : World) (A2 : Option Addr) (cap2 : Nat) (ds : List Int) (n g1 g2 p : Nat) : Prop where
  d : Boxed W w.heap.size 23 (.slice A2 ds.length cap2)
  b : Below3 W w.heap.size (.slice (some ⟨g1, 0, none⟩) n n) (.slice (some ⟨g2, 0, none⟩) n n) 0
  c1 : CellsI W g1 (sRow ds p)
  c2 : CellsI W g2 (yRow ds p)
  below : Below w.heap.size w W
theorem LInv.istep {B : Nat} {w W W' : World} {A2 : Option Addr} {cap2 : Nat} {ds : List Int} {n g1 g2 p : Nat} (h : LInv w W A2 cap2 ds n g1 g2 p) (hB : w.heap.size ≤ B) (hs : IStep B W W') : LInv w W' A2 cap2 ds n g1 g2 p :=
  ⟨hs.boxed h.d, h.b.istep hs, h.c1.istep hs, h.c2.istep hs, h.below.trans (hs.below hB h.below.size)⟩

theorem LInv.drew {w W : World} {A2 : Option Addr} {cap2 : Nat} {ds : List Int} {n g1 g2 p : Nat} (h : LInv w W A2 cap2 ds n g1 g2 p) : LInv w W.drew A2 cap2 ds n g1 g2 p :=
  ⟨h.d, h.b, h.c1, h.c2, ⟨h.below.os, h.below.tape, h.below.output, h.below.size, h.below.block⟩⟩
theorem rstep_drew (B : Nat) (Pr : Nat → Prop) (W : World) : RStep B Pr W W.drew := ⟨rfl, rfl, rfl, Nat.le_refl _, fun _ _ h _ => h⟩
theorem boxed_far {W : World} {B : Nat} {t : TypeId} {v : Value} (h : Boxed W B t v) (p : Addr) (hp : B ≠ p.block) (u : Value) : Boxed (W.setCell p u) B t v := (Below.heap_setCell W p u B hp).trans h
theorem LInv.far {w W : World} {A2 : Option Addr} {cap2 : Nat} {ds : List Int} {n g1 g2 p : Nat} (h : LInv w W A2 cap2 ds n g1 g2 p) (q : Addr) (u : Value) (hq : w.heap.size + 1 + 1 + 1 < q.block) (h1 : g1 ≠ q.block) (h2 : g2 ≠ q.block) : LInv w (W.setCell q u) A2 cap2 ds n g1 g2 p :=
  ⟨boxed_far h.d q (by omega) u, ⟨boxed_far h.b.1 q (by omega) u, boxed_far h.b.2.1 q (by omega) u, boxed_far h.b.2.2 q (by omega) u⟩, h.c1.other q h1 u, h.c2.other q h2 u, h.below.setCell (by omega) u⟩
theorem LInv.both {w W : World} {A2 : Option Addr} {cap2 : Nat} {ds : List Int} {n g1 g2 p q : Nat} {x y : Int} (h : LInv w W A2 cap2 ds n g1 g2 p) (hne : g1 ≠ g2) (h1 : w.heap.size + 1 + 1 + 1 < g1) (h2 : w.heap.size + 1 + 1 + 1 < g2) (hs : (sRow ds p).set q x = sRow ds q) (hy : (yRow ds p).set q y = yRow ds q) :
    LInv w ((W.setCell ⟨g1, q, none⟩ (.int .i64 x)).setCell ⟨g2, q, none⟩ (.int .i64 y)) A2 cap2 ds n g1 g2 q := by
  refine ⟨boxed_far (boxed_far h.d _ ?_ _) _ ?_ _, ⟨boxed_far (boxed_far h.b.1 _ ?_ _) _ ?_ _, boxed_far (boxed_far h.b.2.1 _ ?_ _) _ ?_ _, boxed_far (boxed_far h.b.2.2 _ ?_ _) _ ?_ _⟩, ?_, ?_, (h.below.setCell ?_ _).setCell ?_ _⟩
  case refine_9 => rw [← hs]; exact (h.c1.set q x).other _ hne _
  case refine_10 => rw [← hy]; exact (h.c2.other _ hne.symm _).set q y
  all_goals (dsimp only; omega)

theorem linv_a {w w1 : World} {A2 : Option Addr} {cap2 : Nat} {ds : List Int} {n : Nat} (hn : n = ds.length) (hd : Boxed w1 w.heap.size 23 (.slice A2 ds.length cap2)) (hs : Boxed w1 (w.heap.size + 1) 23 (.slice none 0 0)) (hy : Boxed w1 (w.heap.size + 1 + 1) 23 (.slice none 0 0)) (hq : Boxed w1 (w.heap.size + 1 + 1 + 1) 26 (.int .i64 0)) (hb1 : Below w.heap.size w w1) :
    LInv w (((w1.alloc (.cells (zeros n) 3)).alloc (.cells (zeros n) 3)).setCell ⟨w.heap.size + 1, 0, none⟩ (.slice (some ⟨w1.heap.size, 0, none⟩) n n) |>.setCell ⟨w.heap.size + 1 + 1, 0, none⟩ (.slice (some ⟨(w1.heap.size + 1), 0, none⟩) n n)).drew A2 cap2 ds n w1.heap.size (w1.heap.size + 1) n := by
  have hlt := hq.lt
  have q0 : CellsI (((w1.alloc (.cells (zeros n) 3)).alloc (.cells (zeros n) 3)).setCell ⟨w.heap.size + 1, 0, none⟩ (.slice (some ⟨w1.heap.size, 0, none⟩) n n) |>.setCell ⟨w.heap.size + 1 + 1, 0, none⟩ (.slice (some ⟨(w1.heap.size + 1), 0, none⟩) n n)) w1.heap.size (List.replicate n 0) :=
    (((CellsI.new w1 n).alloc _).other _ (by dsimp only; omega) _).other _ (by dsimp only; omega) _
  have q1 : CellsI (((w1.alloc (.cells (zeros n) 3)).alloc (.cells (zeros n) 3)).setCell ⟨w.heap.size + 1, 0, none⟩ (.slice (some ⟨w1.heap.size, 0, none⟩) n n) |>.setCell ⟨w.heap.size + 1 + 1, 0, none⟩ (.slice (some ⟨(w1.heap.size + 1), 0, none⟩) n n)) (w1.heap.size + 1) (List.replicate n 0) := by
    refine CellsI.other (CellsI.other ?_ _ (by dsimp only; omega) _) _ (by dsimp only; omega) _
    have := CellsI.new (w1.alloc (.cells (zeros n) 3)) n
    rwa [World.size_alloc] at this
  refine LInv.drew ⟨?_, ⟨?_, ?_, ?_⟩, ?_, ?_, ?_⟩
  · exact (((hd.alloc _).alloc _).other (B' := w.heap.size + 1) (by omega) _).other (B' := w.heap.size + 1 + 1) (by omega) _
  · exact (((hs.alloc _).alloc _).set _).other (B' := w.heap.size + 1 + 1) (by omega) _
  · exact (((hy.alloc _).alloc _).other (B' := w.heap.size + 1) (by omega) _).set _
  · exact (((hq.alloc _).alloc _).other (B' := w.heap.size + 1) (by omega) _).other (B' := w.heap.size + 1 + 1) (by omega) _
  · rw [sRow_n ds _ hn]; assumption
  · rw [yRow_n ds _ hn]; assumption
  · exact (((hb1.alloc hb1.size _).alloc (by rw [World.size_alloc]; omega) _).setCell (by dsimp only; omega) _).setCell (by dsimp only; omega) _
theorem linv_b {w w1 : World} {A2 : Option Addr} {cap2 : Nat} {ds : List Int} {n : Nat} (hn : n = ds.length) (hd : Boxed w1 w.heap.size 23 (.slice A2 ds.length cap2)) (hs : Boxed w1 (w.heap.size + 1) 23 (.slice none 0 0)) (hy : Boxed w1 (w.heap.size + 1 + 1) 23 (.slice none 0 0)) (hq : Boxed w1 (w.heap.size + 1 + 1 + 1) 26 (.int .i64 0)) (hb1 : Below w.heap.size w w1) :
    LInv w (((w1.alloc (.cells (zeros n) 3)).alloc (.cells (zeros n) 3)).setCell ⟨w.heap.size + 1, 0, none⟩ (.slice (some ⟨(w1.heap.size + 1), 0, none⟩) n n) |>.setCell ⟨w.heap.size + 1 + 1, 0, none⟩ (.slice (some ⟨w1.heap.size, 0, none⟩) n n)).drew A2 cap2 ds n (w1.heap.size + 1) w1.heap.size n := by
  have hlt := hq.lt
  have q0 : CellsI (((w1.alloc (.cells (zeros n) 3)).alloc (.cells (zeros n) 3)).setCell ⟨w.heap.size + 1, 0, none⟩ (.slice (some ⟨(w1.heap.size + 1), 0, none⟩) n n) |>.setCell ⟨w.heap.size + 1 + 1, 0, none⟩ (.slice (some ⟨w1.heap.size, 0, none⟩) n n)) w1.heap.size (List.replicate n 0) :=
    (((CellsI.new w1 n).alloc _).other _ (by dsimp only; omega) _).other _ (by dsimp only; omega) _
  have q1 : CellsI (((w1.alloc (.cells (zeros n) 3)).alloc (.cells (zeros n) 3)).setCell ⟨w.heap.size + 1, 0, none⟩ (.slice (some ⟨(w1.heap.size + 1), 0, none⟩) n n) |>.setCell ⟨w.heap.size + 1 + 1, 0, none⟩ (.slice (some ⟨w1.heap.size, 0, none⟩) n n)) (w1.heap.size + 1) (List.replicate n 0) := by
    refine CellsI.other (CellsI.other ?_ _ (by dsimp only; omega) _) _ (by dsimp only; omega) _
    have := CellsI.new (w1.alloc (.cells (zeros n) 3)) n
    rwa [World.size_alloc] at this
  refine LInv.drew ⟨?_, ⟨?_, ?_, ?_⟩, ?_, ?_, ?_⟩
  · exact (((hd.alloc _).alloc _).other (B' := w.heap.size + 1) (by omega) _).other (B' := w.heap.size + 1 + 1) (by omega) _
  · exact (((hs.alloc _).alloc _).set _).other (B' := w.heap.size + 1 + 1) (by omega) _
  · exact (((hy.alloc _).alloc _).other (B' := w.heap.size + 1) (by omega) _).set _
  · exact (((hq.alloc _).alloc _).other (B' := w.heap.size + 1) (by omega) _).other (B' := w.heap.size + 1 + 1) (by omega) _
  · rw [sRow_n ds _ hn]; assumption
  · rw [yRow_n ds _ hn]; assumption
  · exact (((hb1.alloc hb1.size _).alloc (by rw [World.size_alloc]; omega) _).setCell (by dsimp only; omega) _).setCell (by dsimp only; omega) _
theorem linv_c {w w1 : World} {A2 : Option Addr} {cap2 : Nat} {ds : List Int} {n : Nat} (hn : n = ds.length) (hd : Boxed w1 w.heap.size 23 (.slice A2 ds.length cap2)) (hs : Boxed w1 (w.heap.size + 1) 23 (.slice none 0 0)) (hy : Boxed w1 (w.heap.size + 1 + 1) 23 (.slice none 0 0)) (hq : Boxed w1 (w.heap.size + 1 + 1 + 1) 26 (.int .i64 0)) (hb1 : Below w.heap.size w w1) :
    LInv w (((w1.alloc (.cells (zeros n) 3)).setCell ⟨w.heap.size + 1, 0, none⟩ (.slice (some ⟨w1.heap.size, 0, none⟩) n n)).alloc (.cells (zeros n) 3) |>.setCell ⟨w.heap.size + 1 + 1, 0, none⟩ (.slice (some ⟨(w1.heap.size + 1), 0, none⟩) n n)).drew A2 cap2 ds n w1.heap.size (w1.heap.size + 1) n := by
  have hlt := hq.lt
  refine LInv.drew ⟨?_, ⟨?_, ?_, ?_⟩, ?_, ?_, ?_⟩
  · exact (((hd.alloc _).other (B' := w.heap.size + 1) (by omega) _).alloc _).other (B' := w.heap.size + 1 + 1) (by omega) _
  · exact (((hs.alloc _).set _).alloc _).other (B' := w.heap.size + 1 + 1) (by omega) _
  · exact (((hy.alloc _).other (B' := w.heap.size + 1) (by omega) _).alloc _).set _
  · exact (((hq.alloc _).other (B' := w.heap.size + 1) (by omega) _).alloc _).other (B' := w.heap.size + 1 + 1) (by omega) _
  · rw [sRow_n ds _ hn]; exact (((CellsI.new w1 n).other _ (by dsimp only; omega) _).alloc _).other _ (by dsimp only; omega) _
  · rw [yRow_n ds _ hn]
    refine CellsI.other ?_ _ (by dsimp only; omega) _
    have := CellsI.new ((w1.alloc (.cells (zeros n) 3)).setCell ⟨w.heap.size + 1, 0, none⟩ (.slice (some ⟨w1.heap.size, 0, none⟩) n n)) n
    rwa [show ((w1.alloc (.cells (zeros n) 3)).setCell ⟨w.heap.size + 1, 0, none⟩ (.slice (some ⟨w1.heap.size, 0, none⟩) n n)).heap.size = w1.heap.size + 1 by simp [World.setCell]] at this
  · exact (((hb1.alloc hb1.size _).setCell (by dsimp only; omega) _).alloc (by simp [World.setCell]; omega) _).setCell (by dsimp only; omega) _

def LaPost (l : List (List Pl.Life)) (ds : List Int) (w : World) (e : Ending) (w' : World) : Prop :=
  ∃ a b, e = .returned (.tuple #[a, b, .bool (okL l ds), .int .i64 (Pl.err l ds)]) ∧ IsInts w' a (if okL l ds = true then Pl.shown ds else []) ∧ IsInts w' b (if okL l ds = true then Pl.whys ds else []) ∧ Below w.heap.size w w'
theorem LaPost.no {l : List (List Pl.Life)} {ds : List Int} {w w' : World} {x : Int} (h : okL l ds = false) (hx : x = Pl.err l ds) (hb : Below w.heap.size w w') : LaPost l ds w (.returned (.tuple #[.slice none 0 0, .slice none 0 0, .bool false, .int .i64 x])) w' := by
  refine ⟨.slice none 0 0, .slice none 0 0, ?_, ?_, ?_, hb⟩
  · rw [h, hx]
  · rw [h]; exact IsInts.nil
  · rw [h]; exact IsInts.nil
theorem LaPost.yes {l : List (List Pl.Life)} {ds : List Int} {w w' : World} {a b : Value} (h : okL l ds = true) (ha : IsInts w' a (Pl.shown ds)) (hb : IsInts w' b (Pl.whys ds)) (hB : Below w.heap.size w w') : LaPost l ds w (.returned (.tuple #[a, b, .bool true, .int .i64 0])) w' := by
  have he : Pl.err l ds = 0 := by simp [okL] at h; exact h.1
  refine ⟨a, b, ?_, ?_, ?_, hB⟩
  · rw [h, he]
  · rw [h]; exact ha
  · rw [h]; exact hb

set_option maxHeartbeats 2000000 in
theorem Latest_any (v u : Value) (l : List (List Pl.Life)) (ds : List Int) (w : World) (hv : IsWords w v l) (hu : IsInts w u ds) (hl : l.length ≤ 9223372036854775807) (hl2 : ds.length ≤ 9223372036854775807) :
    Calls Try.prog 11 #[v, u] w (LaPost l ds w) := by
  have HV := Lib.hid hv
  have HU := Lib.hid hu
  obtain ⟨A, cap, vs, rfl, hlen, hr, hvs⟩ := hv
  obtain ⟨A2, cap2, rfl, hr2⟩ := hu
  have HR2 := Lib.hid hr2
  clear hr hvs hlen hr2
  refine (callsIn_wide (n := 0)).1 ?_
  refine callsIn_of_wp_marks Try.func11 rfl trivial ?_ rfl
  simp only [Try.ntmps11, List.size_toArray, List.length_cons, List.length_nil, Nat.reduceAdd, Nat.reduceSub, Array.replicate_succ, Array.replicate_zero, List.push_toArray, List.append_toArray, List.nil_append, List.cons_append]
  gi_wp2_with (fail)
  have hb0 : Below w.heap.size w ((((w.alloc (.cells #[.slice A2 ds.length cap2] 23)).alloc (.cells #[.slice none 0 0] 23)).alloc (.cells #[.slice none 0 0] 23)).alloc (.cells #[.int .i64 0] 26)) :=
    ((((Below.refl _ w).alloc (Nat.le_refl _) _).alloc (by simp) _).alloc (by simp; omega) _).alloc (by simp; omega) _
  refine inC (check_any _ _ l ds _ (HV.out.below hb0) (HU.out.below hb0) hl hl2) ?_
  rintro e w1 ⟨rfl, hb1⟩
  have hd : Boxed w1 w.heap.size 23 (.slice A2 ds.length cap2) := boxed_below ((((Boxed.new w 23 _).alloc _).alloc _).alloc _) hb1
  have hs : Boxed w1 (w.heap.size + 1) 23 (.slice none 0 0) := boxed_below (by have := ((Boxed.new (w.alloc (.cells #[.slice A2 ds.length cap2] 23)) 23 (.slice none 0 0)).alloc (.cells #[.slice none 0 0] 23)).alloc (.cells #[.int .i64 0] 26); simpa using this) hb1
  have hy : Boxed w1 (w.heap.size + 1 + 1) 23 (.slice none 0 0) := boxed_below (by have := (Boxed.new ((w.alloc (.cells #[.slice A2 ds.length cap2] 23)).alloc (.cells #[.slice none 0 0] 23)) 23 (.slice none 0 0)).alloc (.cells #[.int .i64 0] 26); simpa using this) hb1
  have hq : Boxed w1 (w.heap.size + 1 + 1 + 1) 26 (.int .i64 0) := boxed_below (by have := Boxed.new (((w.alloc (.cells #[.slice A2 ds.length cap2] 23)).alloc (.cells #[.slice none 0 0] 23)).alloc (.cells #[.slice none 0 0] 23)) 26 (.int .i64 0); simpa using this) hb1
  replace hb1 : Below w.heap.size w w1 := hb0.up hb1
  clear hb0
  by_cases he : Pl.err l ds = 0
  rotate_left
  · have HO := Lib.hid (show okL l ds = false by simp [okL, he])
    rw [show endE (Pl.err l ds) = .panicked (bad (Pl.err l ds)) by simp [endE, he]]
    gi_wp2_with (fail)
    refine la_bad rfl rfl rfl rfl rfl ⟨hs, hy, hq⟩ _ ?_
    exact LaPost.no HO.out rfl (hb1.setCell (by show w.heap.size ≤ w.heap.size + 1 + 1 + 1; omega) _)
  have HE := Lib.hid he
  have HRt := Lib.hid (right_of he)
  have HDL := Lib.hid HRt.out.len
  have hfew := HRt.out.few
  clear he
  rw [endE_0 HE.out]
  have hmk := make_ints l.length (by omega)
  have hsc := hs.cell
  have hsf := hs.frozen
  have hyc := hy.cell
  have hyf := hy.frozen
  have hlt1 := hq.lt
  have zs2 := ((hs.alloc (.cells (zeros l.length) 3)).alloc (.cells (zeros l.length) 3)).cell
  have zf2 := ((hs.alloc (.cells (zeros l.length) 3)).alloc (.cells (zeros l.length) 3)).frozen
  have zy2 := ((hy.alloc (.cells (zeros l.length) 3)).alloc (.cells (zeros l.length) 3)).cell
  have zg2 := ((hy.alloc (.cells (zeros l.length) 3)).alloc (.cells (zeros l.length) 3)).frozen
  have zs1 := (hs.alloc (.cells (zeros l.length) 3)).cell
  have zf1 := (hs.alloc (.cells (zeros l.length) 3)).frozen
  have zy1 := (hy.alloc (.cells (zeros l.length) 3)).cell
  have zg1 := (hy.alloc (.cells (zeros l.length) 3)).frozen
  have xs1 := (((hs.alloc (.cells (zeros l.length) 3)).other (B' := w.heap.size + 1 + 1) (by omega) (.slice (some ⟨w1.heap.size, 0, none⟩) l.length l.length)).alloc (.cells (zeros l.length) 3)).cell
  have xf1 := (((hs.alloc (.cells (zeros l.length) 3)).other (B' := w.heap.size + 1 + 1) (by omega) (.slice (some ⟨w1.heap.size, 0, none⟩) l.length l.length)).alloc (.cells (zeros l.length) 3)).frozen
  have xy1 := (((hy.alloc (.cells (zeros l.length) 3)).other (B' := w.heap.size + 1) (by omega) (.slice (some ⟨w1.heap.size, 0, none⟩) l.length l.length)).alloc (.cells (zeros l.length) 3)).cell
  have xg1 := (((hy.alloc (.cells (zeros l.length) 3)).other (B' := w.heap.size + 1) (by omega) (.slice (some ⟨w1.heap.size, 0, none⟩) l.length l.length)).alloc (.cells (zeros l.length) 3)).frozen
  gi_wp2_with (fail)
  rename_i K hK
  have key : ∀ (g1 g2 : Nat) (W : World), LInv w W A2 cap2 ds l.length g1 g2 l.length → g1 ≠ g2 → w.heap.size + 1 + 1 + 1 < g1 → w.heap.size + 1 + 1 + 1 < g2 → K { tmps := #[.slice A l.length cap, .slice A2 ds.length cap2, undef, .pointer (some ⟨w.heap.size, 0, none⟩), .pointer (some ⟨w.heap.size + 1, 0, none⟩), .pointer (some ⟨w.heap.size + 1 + 1, 0, none⟩), .bool false, .pointer (some ⟨w.heap.size + 1 + 1 + 1, 0, none⟩), undef, undef, undef, .slice A l.length cap, .slice A2 ds.length cap2, .tuple #[], .slice A l.length cap, .int .i64 l.length, .slice (some ⟨g1, 0, none⟩) l.length l.length, .slice A l.length cap, .int .i64 l.length, .slice (some ⟨g2, 0, none⟩) l.length l.length, undef, undef, undef, undef, undef, undef, undef, undef, undef, undef, undef, undef, undef, undef, undef, undef, undef, undef, undef, undef, undef, undef, undef, undef, undef, undef, undef, undef, undef, undef, undef, undef, undef], defers := [{ target := .fn (.func 23) #[], args := #[.pointer (some ⟨w.heap.size + 1 + 1 + 1, 0, none⟩)] }] } W := by
    clear zs2 zf2 zy2 zg2 zs1 zf1 zy1 zg1 xs1 xf1 xy1 xg1 hsc hsf hyc hyf hmk hd hs hy hq hb1 hlt1
    intro g1 g2 W hI hne h1 h2
    apply hK
    clear hK
    have hd1 := (hI.d.alloc (.cells #[.int .i64 (-1)] 3)).cell
    gi_wp2_with (fail)
    refine inC (backward_any _ _ ⟨_, _, _, rfl⟩) ?_
    rintro e w4 ⟨rfl, rfl⟩
    gi_wp2_with (fail)
    clear hd1
    have hI2 : LInv w ((W.alloc (.cells #[.int .i64 (-1)] 3)).alloc (.cells #[.slice A2 ds.length cap2] 23)) A2 cap2 ds l.length g1 g2 l.length :=
      hI.istep (Nat.le_refl _) ((IStep.of_below ((Below.refl _ W).alloc (Nat.le_refl _) _)).trans (IStep.of_below ((Below.refl _ _).alloc (Nat.le_refl _) _)))
    have hfb : Boxed ((W.alloc (.cells #[.int .i64 (-1)] 3)).alloc (.cells #[.slice A2 ds.length cap2] 23)) W.heap.size 3 (.int .i64 (-1)) := (Boxed.new W 3 _).alloc _
    have hdb : Boxed ((W.alloc (.cells #[.int .i64 (-1)] 3)).alloc (.cells #[.slice A2 ds.length cap2] 23)) (W.heap.size + 1) 23 (.slice A2 ds.length cap2) := by
      have := Boxed.new (W.alloc (.cells #[.int .i64 (-1)] 3)) 23 (.slice A2 ds.length cap2)
      simpa using this
    have hgl1 := hI.c1.lt
    have hgl2 := hI.c2.lt
    have hql := hI.b.2.2.lt
    obtain ⟨f, hf⟩ : ∃ f, W.heap.size = f := ⟨_, rfl⟩
    obtain ⟨WL, hWL⟩ : ∃ WL, ((W.alloc (.cells #[.int .i64 (-1)] 3)).alloc (.cells #[.slice A2 ds.length cap2] 23)) = WL := ⟨_, rfl⟩
    have hsz : f + 2 ≤ WL.heap.size := by rw [← hWL, ← hf]; simp
    rw [hWL] at hI2 hfb hdb ⊢
    rw [hf] at hfb hdb hgl1 hgl2 hql ⊢
    clear hWL hI hf W
    refine rf_outer (Pl.downs ds) (protB (f + 1) w.heap.size)
      (fun k W => LInv w W A2 cap2 ds l.length g1 g2 (l.length - k) ∧ Boxed W f 3 (.int .i64 (fst ds (l.length - k))))
      (fun _ _ _ => False)
      (enc := fun q : Nat × Int => #[.int .i64 q.1, .int .i64 q.2]) rfl (enters_of Try.func34 (by kernel_rfl) rfl) (fun _ => rfl) ?hP ?hit ?hI ?hIx ?h0 ?hround ?hdone ?hstop
    case hP => rintro b (rfl | hb) <;> omega
    case hit =>
      intro W hW
      exact backward1_iter _ A2 cap2 ds w W (boxed_below hdb hW).cell HR2.out (hI2.below.up hW) hl2
    case hI =>
      rintro k X Y ⟨h1, h2⟩ hs
      exact ⟨h1.istep hI2.below.size hs, hs.boxed h2⟩
    case hIx =>
      rintro c k X Y h hs
      exact h
    case h0 => exact ⟨hI2, by rw [fst_n ds _ (by simp [HDL.out])]; exact hfb⟩
    case hround =>
      rintro la k hk W hla ⟨hL, hfx⟩
      rw [Pl.downs_length, HDL.out] at hk
      obtain ⟨p, hp⟩ : ∃ p : Nat, p + k + 1 = l.length := ⟨l.length - k - 1, by omega⟩
      have hpl : p < ds.length := by rw [HDL.out]; omega
      rw [Pl.downs_at ds k _ p (by rw [HDL.out]; exact hp) hpl]
      rw [show l.length - k = p + 1 by omega] at hL hfx
      gi_wp2
      refine ⟨RStep.refl _ _ _, ?_⟩
      rintro W2 hW2 _
      replace hL := hL.istep hI2.below.size hW2
      replace hfx := hW2.boxed hfx
      clear hW2
      have hpk := sRow_set ds p hpl
      have hpy := yRow_set ds p hpl
      have hpf := fst_step ds p hpl
      obtain ⟨b, off, rfl, hbb, hc0⟩ := ints_at HR2.out hpl
      have hcp := (hL.below.cell (p := ⟨b, off + p, none⟩) hbb).trans hc0
      have hdc := hL.d.cell
      have hmix : Try.prog.follows .mixedOrders = true := by kernel_rfl
      unfold fst at hfx
      cases hM : Pl.mins (p + 1) (ds.drop (p + 1)) with
      | nil =>
        rw [hM] at hpk hpy hpf hfx
        simp only [Pl.pickM] at hpk hpy hpf
        dsimp only at hfx
        have hfc := hfx.cell
        have hff := hfx.frozen
        gi_wp2_with (fail)
        have hL3 := hL.far ⟨f, 0, none⟩ (.int .i64 p) (by dsimp only; omega) (by dsimp only; omega) (by dsimp only; omega)
        have hf3 := hfx.set (.int .i64 p)
        have hS3 : RStep WL.heap.size (protB (f + 1) w.heap.size) W2 (W2.setCell ⟨f, 0, none⟩ (.int .i64 p)) := RStep.setCell _ _ _ (by rintro (h | h) <;> simp at h <;> omega)
        have hcx := (hL3.below.cell (p := ⟨b, off + p, none⟩) hbb).trans hc0
        obtain ⟨W3, hW3⟩ : ∃ W3, W2.setCell ⟨f, 0, none⟩ (.int .i64 p) = W3 := ⟨_, rfl⟩
        rw [hW3] at hL3 hf3 hS3 hcx ⊢
        clear hW3 hL hfx hfc hff hdc hcp
        have l1 := sRow_len ds (p + 1) hpl
        have l2 := yRow_len ds (p + 1) hpl
        have hsc := hL3.b.1.cell
        have hyc := hL3.b.2.1.cell
        have hdc := hL3.d.cell
        have hfc := hf3.cell
        have c1c := hL3.c1.cell p (by omega)
        have c1f := hL3.c1.frozen p
        have c2c := hL3.c2.cell p (by omega)
        have c2f := hL3.c2.frozen p
        have hpn : p < l.length := by omega
        refine pair_region hsc hyc hdc hfc hcx hpn (by omega) c1c c1f c2c c2f (by omega) (by omega) (by omega) (by omega) (by omega) (by omega) (by omega) (by omega) (by omega) (by omega) (by omega) (fun _ _ h => h) (fun _ _ _ h => h) ?_
        show RStep _ _ W2 _ ∧ LInv _ _ _ _ _ _ _ _ (l.length - (k + 1)) ∧ Boxed _ _ _ (.int .i64 (fst ds (l.length - (k + 1))))
        rw [show l.length - (k + 1) = p by omega, hpf]
        refine ⟨hS3.trans ((RStep.setCell _ _ _ ?_).trans ((RStep.setCell _ _ _ ?_).trans (rstep_drew _ _ _))), (hL3.both hne h1 h2 hpk hpy).drew, boxed_far (boxed_far hf3 _ ?_ _) _ ?_ _⟩
        · rintro (h | h) <;> simp at h <;> omega
        · rintro (h | h) <;> simp at h <;> omega
        · dsimp only; omega
        · dsimp only; omega
      | cons q m =>
        obtain ⟨e, j⟩ := q
        obtain ⟨hj1, hj2, hje⟩ := Pl.mins_head ds (p + 1) (e, j) m hM
        rw [hM] at hpk hpy hpf hfx
        simp only [Pl.pickM] at hpk hpy hpf hj1 hj2 hje
        dsimp only at hfx
        have hfc := hfx.cell
        have hff := hfx.frozen
        obtain ⟨b2, off2, hA, hbb2, hc2⟩ := ints_at HR2.out hj2
        cases hA
        rw [hje] at hc2
        have hcj := (hL.below.cell (p := ⟨b, off + j, none⟩) hbb).trans hc2
        have hj0 : decide ((j : Int) < 0) = false := by simp
        by_cases hle : ds[p] ≤ e
        · rw [if_pos hle] at hpk hpy hpf
          dsimp only at hpk hpy hpf
          have hle' : decide (ds[p] ≤ e) = true := by simp [hle]
          gi_wp2_with (fail)
          have hL3 := hL.far ⟨f, 0, none⟩ (.int .i64 p) (by dsimp only; omega) (by dsimp only; omega) (by dsimp only; omega)
          have hf3 := hfx.set (.int .i64 p)
          have hS3 : RStep WL.heap.size (protB (f + 1) w.heap.size) W2 (W2.setCell ⟨f, 0, none⟩ (.int .i64 p)) := RStep.setCell _ _ _ (by rintro (h | h) <;> simp at h <;> omega)
          have hcx := (hL3.below.cell (p := ⟨b, off + p, none⟩) hbb).trans hc0
          obtain ⟨W3, hW3⟩ : ∃ W3, W2.setCell ⟨f, 0, none⟩ (.int .i64 p) = W3 := ⟨_, rfl⟩
          rw [hW3] at hL3 hf3 hS3 hcx ⊢
          clear hW3 hL hfx hfc hff hdc hcp hcj
          have l1 := sRow_len ds (p + 1) hpl
          have l2 := yRow_len ds (p + 1) hpl
          have hsc := hL3.b.1.cell
          have hyc := hL3.b.2.1.cell
          have hdc := hL3.d.cell
          have hfc := hf3.cell
          have c1c := hL3.c1.cell p (by omega)
          have c1f := hL3.c1.frozen p
          have c2c := hL3.c2.cell p (by omega)
          have c2f := hL3.c2.frozen p
          have hpn : p < l.length := by omega
          refine pair_region hsc hyc hdc hfc hcx hpn (by omega) c1c c1f c2c c2f (by omega) (by omega) (by omega) (by omega) (by omega) (by omega) (by omega) (by omega) (by omega) (by omega) (by omega) (fun _ _ h => h) (fun _ _ _ h => h) ?_
          show RStep _ _ W2 _ ∧ LInv _ _ _ _ _ _ _ _ (l.length - (k + 1)) ∧ Boxed _ _ _ (.int .i64 (fst ds (l.length - (k + 1))))
          rw [show l.length - (k + 1) = p by omega, hpf]
          refine ⟨hS3.trans ((RStep.setCell _ _ _ ?_).trans ((RStep.setCell _ _ _ ?_).trans (rstep_drew _ _ _))), (hL3.both hne h1 h2 hpk hpy).drew, boxed_far (boxed_far hf3 _ ?_ _) _ ?_ _⟩
          · rintro (h | h) <;> simp at h <;> omega
          · rintro (h | h) <;> simp at h <;> omega
          · dsimp only; omega
          · dsimp only; omega
        · rw [if_neg hle] at hpk hpy hpf
          dsimp only at hpk hpy hpf
          have hle' : decide (ds[p] ≤ e) = false := by simp [hle]
          gi_wp2_with (fail)
          have hL3 := hL
          have hf3 := hfx
          have hS3 : RStep WL.heap.size (protB (f + 1) w.heap.size) W2 W2 := RStep.refl _ _ _
          have hcx := hcj
          clear hL hfx hfc hff hdc hcp hcj
          have l1 := sRow_len ds (p + 1) hpl
          have l2 := yRow_len ds (p + 1) hpl
          have hsc := hL3.b.1.cell
          have hyc := hL3.b.2.1.cell
          have hdc := hL3.d.cell
          have hfc := hf3.cell
          have c1c := hL3.c1.cell p (by omega)
          have c1f := hL3.c1.frozen p
          have c2c := hL3.c2.cell p (by omega)
          have c2f := hL3.c2.frozen p
          have hpn : p < l.length := by omega
          refine pair_region hsc hyc hdc hfc hcx hpn (by omega) c1c c1f c2c c2f (by omega) (by omega) (by omega) (by omega) (by omega) (by omega) (by omega) (by omega) (by omega) (by omega) (by omega) (fun _ _ h => h) (fun _ _ _ h => h) ?_
          show RStep _ _ W2 _ ∧ LInv _ _ _ _ _ _ _ _ (l.length - (k + 1)) ∧ Boxed _ _ _ (.int .i64 (fst ds (l.length - (k + 1))))
          rw [show l.length - (k + 1) = p by omega, hpf]
          refine ⟨hS3.trans ((RStep.setCell _ _ _ ?_).trans ((RStep.setCell _ _ _ ?_).trans (rstep_drew _ _ _))), (hL3.both hne h1 h2 hpk hpy).drew, boxed_far (boxed_far hf3 _ ?_ _) _ ?_ _⟩
          · rintro (h | h) <;> simp at h <;> omega
          · rintro (h | h) <;> simp at h <;> omega
          · dsimp only; omega
          · dsimp only; omega
    case hdone =>
      rintro D W hD ⟨hL, hfx⟩ hK
      rw [show l.length - (Pl.downs ds).length = 0 by rw [Pl.downs_length, HDL.out]; omega] at hL
      have HRo1 := hL.c1.ints l.length (by rw [sRow_len ds 0 (Nat.zero_le _), HDL.out])
      have HRo2 := hL.c2.ints l.length (by rw [yRow_len ds 0 (Nat.zero_le _), HDL.out])
      rw [sRow_0] at HRo1
      rw [yRow_0] at HRo2
      have H1 := Lib.hid HRo1
      have H2 := Lib.hid HRo2
      clear HRo1 HRo2
      have hbw := hL.below
      have hD0 : w.heap.size ≤ D := Nat.le_trans hI2.below.size hD
      have hdc := hL.d.cell
      have hsc := hL.b.1.cell
      have hsl : (Pl.shown ds).length = l.length := by rw [Pl.shown, List.length_map, Pl.mins_length, HDL.out]
      gi_wp2_with (fail)
      refine inC (inTime_any _ _ _ l ds (Pl.shown ds) _ (HV.out.below hbw) (HU.out.below hbw) H1.out HRt.out (by omega)) ?_
      rintro e W5 ⟨rfl, hb5⟩
      have hB5 := hbw.up hb5
      have K5 : W5.heap[D]? = some (.deferred (some [])) := (hb5.block D (Array.getElem?_eq_some_iff.1 hK).1).trans hK
      have b1 := boxed_below hL.b.1 hb5
      have b2 := boxed_below hL.b.2.1 hb5
      have b3 := boxed_below hL.b.2.2 hb5
      have I1 := Lib.hid (H1.out.below hb5)
      have I2 := Lib.hid (H2.out.below hb5)
      cases hi : Pl.inTime l ds (Pl.shown ds)
      · have HO := Lib.hid (show okL l ds = false by simp [okL, hi])
        have b1c := b1.cell
        have b1f := b1.frozen
        have b2c := (b2.other (B' := w.heap.size + 1) (by omega) (.slice none 0 0)).cell
        have b2f := (b2.other (B' := w.heap.size + 1) (by omega) (.slice none 0 0)).frozen
        have b3c := ((b3.other (B' := w.heap.size + 1) (by omega) (.slice none 0 0)).other (B' := w.heap.size + 1 + 1) (by omega) (.slice none 0 0)).cell
        have b3f := ((b3.other (B' := w.heap.size + 1) (by omega) (.slice none 0 0)).other (B' := w.heap.size + 1 + 1) (by omega) (.slice none 0 0)).frozen
        have e1 := ((b1.set (.slice none 0 0)).other (B' := w.heap.size + 1 + 1) (by omega) (.slice none 0 0)).other (B' := w.heap.size + 1 + 1 + 1) (by omega) (.int .i64 0)
        have e2 := ((b2.other (B' := w.heap.size + 1) (by omega) (.slice none 0 0)).set (.slice none 0 0)).other (B' := w.heap.size + 1 + 1 + 1) (by omega) (.int .i64 0)
        have e3 := ((b3.other (B' := w.heap.size + 1) (by omega) (.slice none 0 0)).other (B' := w.heap.size + 1 + 1) (by omega) (.slice none 0 0)).set (.int .i64 0)
        have eB : Below w.heap.size w (((W5.setCell ⟨w.heap.size + 1, 0, none⟩ (.slice none 0 0)).setCell ⟨w.heap.size + 1 + 1, 0, none⟩ (.slice none 0 0)).setCell ⟨w.heap.size + 1 + 1 + 1, 0, none⟩ (.int .i64 0)) :=
          ((hB5.setCell (by show w.heap.size ≤ w.heap.size + 1; omega) _).setCell (by show w.heap.size ≤ w.heap.size + 1 + 1; omega) _).setCell (by show w.heap.size ≤ w.heap.size + 1 + 1 + 1; omega) _
        have eK : (((W5.setCell ⟨w.heap.size + 1, 0, none⟩ (.slice none 0 0)).setCell ⟨w.heap.size + 1 + 1, 0, none⟩ (.slice none 0 0)).setCell ⟨w.heap.size + 1 + 1 + 1, 0, none⟩ (.int .i64 0)).heap[D]? = some (.deferred (some [])) :=
          (KeepsOthers.setCell _ _ _).same D _ ((KeepsOthers.setCell _ _ _).same D _ ((KeepsOthers.setCell _ _ _).same D _ K5 rfl) rfl) rfl
        gi_wp2_with (fail)
        generalize (((W5.setCell ⟨w.heap.size + 1, 0, none⟩ (.slice none 0 0)).setCell ⟨w.heap.size + 1 + 1, 0, none⟩ (.slice none 0 0)).setCell ⟨w.heap.size + 1 + 1 + 1, 0, none⟩ (.int .i64 0)) = W6 at *
        refine la_end rfl rfl rfl rfl rfl ⟨e1, e2, e3⟩ ⟨_, _, _, rfl⟩ ⟨_, _, _, rfl⟩ hD0 eK _ (fun _ => LaPost.no HO.out HE.out.symm (takes_below hD0 eK eB))
      · have HO := Lib.hid (show okL l ds = true by simp [okL, hi, HE.out])
        have e1 := ((b1.set (.slice (some ⟨g1, 0, none⟩) l.length l.length)).other (B' := w.heap.size + 1 + 1) (by omega) (.slice (some ⟨g2, 0, none⟩) l.length l.length)).other (B' := w.heap.size + 1 + 1 + 1) (by omega) (.int .i64 0)
        have e2 := ((b2.other (B' := w.heap.size + 1) (by omega) (.slice (some ⟨g1, 0, none⟩) l.length l.length)).set (.slice (some ⟨g2, 0, none⟩) l.length l.length)).other (B' := w.heap.size + 1 + 1 + 1) (by omega) (.int .i64 0)
        have e3 := ((b3.other (B' := w.heap.size + 1) (by omega) (.slice (some ⟨g1, 0, none⟩) l.length l.length)).other (B' := w.heap.size + 1 + 1) (by omega) (.slice (some ⟨g2, 0, none⟩) l.length l.length)).set (.int .i64 0)
        have eB : Below w.heap.size w (((W5.setCell ⟨w.heap.size + 1, 0, none⟩ (.slice (some ⟨g1, 0, none⟩) l.length l.length)).setCell ⟨w.heap.size + 1 + 1, 0, none⟩ (.slice (some ⟨g2, 0, none⟩) l.length l.length)).setCell ⟨w.heap.size + 1 + 1 + 1, 0, none⟩ (.int .i64 0)) :=
          ((hB5.setCell (by show w.heap.size ≤ w.heap.size + 1; omega) _).setCell (by show w.heap.size ≤ w.heap.size + 1 + 1; omega) _).setCell (by show w.heap.size ≤ w.heap.size + 1 + 1 + 1; omega) _
        have eK : (((W5.setCell ⟨w.heap.size + 1, 0, none⟩ (.slice (some ⟨g1, 0, none⟩) l.length l.length)).setCell ⟨w.heap.size + 1 + 1, 0, none⟩ (.slice (some ⟨g2, 0, none⟩) l.length l.length)).setCell ⟨w.heap.size + 1 + 1 + 1, 0, none⟩ (.int .i64 0)).heap[D]? = some (.deferred (some [])) :=
          (KeepsOthers.setCell _ _ _).same D _ ((KeepsOthers.setCell _ _ _).same D _ ((KeepsOthers.setCell _ _ _).same D _ K5 rfl) rfl) rfl
        have c1 := (((hL.c1.below hb5).other ⟨w.heap.size + 1, 0, none⟩ (by dsimp only; omega) (.slice (some ⟨g1, 0, none⟩) l.length l.length)).other ⟨w.heap.size + 1 + 1, 0, none⟩ (by dsimp only; omega) (.slice (some ⟨g2, 0, none⟩) l.length l.length)).other ⟨w.heap.size + 1 + 1 + 1, 0, none⟩ (by dsimp only; omega) (.int .i64 0)
        have c2 := (((hL.c2.below hb5).other ⟨w.heap.size + 1, 0, none⟩ (by dsimp only; omega) (.slice (some ⟨g1, 0, none⟩) l.length l.length)).other ⟨w.heap.size + 1 + 1, 0, none⟩ (by dsimp only; omega) (.slice (some ⟨g2, 0, none⟩) l.length l.length)).other ⟨w.heap.size + 1 + 1 + 1, 0, none⟩ (by dsimp only; omega) (.int .i64 0)
        rw [sRow_0] at c1
        rw [yRow_0] at c2
        have hyl : (Pl.whys ds).length = l.length := by rw [Pl.whys, List.length_map, Pl.mins_length, HDL.out]
        have b1c := b1.cell
        have b1f := b1.frozen
        have b2c := b2.cell
        have b2f := b2.frozen
        have b2c1 := (b2.other (B' := w.heap.size + 1) (by omega) (.slice (some ⟨g1, 0, none⟩) l.length l.length)).cell
        have b2f1 := (b2.other (B' := w.heap.size + 1) (by omega) (.slice (some ⟨g1, 0, none⟩) l.length l.length)).frozen
        have b3c := ((b3.other (B' := w.heap.size + 1) (by omega) (.slice (some ⟨g1, 0, none⟩) l.length l.length)).other (B' := w.heap.size + 1 + 1) (by omega) (.slice (some ⟨g2, 0, none⟩) l.length l.length)).cell
        have b3f := ((b3.other (B' := w.heap.size + 1) (by omega) (.slice (some ⟨g1, 0, none⟩) l.length l.length)).other (B' := w.heap.size + 1 + 1) (by omega) (.slice (some ⟨g2, 0, none⟩) l.length l.length)).frozen
        gi_wp2_with (fail)
        rename_i K2 hK2
        refine wpIn_wide.2 ?_
        go_region
        generalize (((W5.setCell ⟨w.heap.size + 1, 0, none⟩ (.slice (some ⟨g1, 0, none⟩) l.length l.length)).setCell ⟨w.heap.size + 1 + 1, 0, none⟩ (.slice (some ⟨g2, 0, none⟩) l.length l.length)).setCell ⟨w.heap.size + 1 + 1 + 1, 0, none⟩ (.int .i64 0)) = W6 at *
        refine hK2 _ _ ?_
        gi_wp2_with (fail)
        have eK' : W6.drew.heap[D]? = some (.deferred (some [])) := eK
        have eB' : Below w.heap.size w W6.drew := below_drewN eB 1
        have eT := takes_below hD0 eK' eB'
        refine la_end (W := W6.drew) rfl rfl rfl rfl rfl ⟨e1, e2, e3⟩ ⟨_, _, _, rfl⟩ ⟨_, _, _, rfl⟩ hD0 eK' _ (fun hs => LaPost.yes HO.out ?_ ?_ eT)
        · exact CellsI.ints (CellsI.istep (W := W6.drew) c1 hs) _ hsl.symm
        · exact CellsI.ints (CellsI.istep (W := W6.drew) c2 hs) _ hyl.symm
    case hstop =>
      rintro D c k W hD hle h hK
      exact h.elim
  clear hK
  refine wpIn_wide.2 ?_
  go_region
  all_goals first
    | exact key _ _ _ (linv_a HDL.out.symm hd hs hy hq hb1) (by omega) (by omega) (by omega)
    | exact key _ _ _ (linv_b HDL.out.symm hd hs hy hq hb1) (by omega) (by omega) (by omega)
    | exact key _ _ _ (linv_c HDL.out.symm hd hs hy hq hb1) (by omega) (by omega) (by omega)

end Go.Proofs.Ytofllhbcediafaa
