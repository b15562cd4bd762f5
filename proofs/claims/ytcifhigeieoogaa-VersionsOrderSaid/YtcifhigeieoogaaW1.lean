/- Amendments and steps in memory; walks of within, right and the reference's Right. -/
import Derived.Test.YtcifhigeieoogaaBase
import Derived.Test.YtcifhigeieoogaaPlain
import Derived.Laws.NewBlocks
import Derived.Laws.EntriesVeiled
namespace Go.Proofs.Ytcifhigeieoogaa
open Go.RowKit
set_option linter.unusedVariables false
set_option linter.unusedSimpArgs false

theorem al1 (w : World) (o : Obj) : Below w.heap.size w (w.alloc o) := (Below.refl _ _).alloc (Nat.le_refl _) _
theorem frozen_new {w : World} (c : Array Value) (t : TypeId) (n i : Nat) (hn : n = w.heap.size) : (w.alloc (.cells c t)).frozen? ⟨n, i, none⟩ = false := by
  subst hn
  unfold World.frozen?
  rw [World.alloc_heap_new]
  simp
attribute [local go_sem] frozen_new
def BPost (b : Bool) (w : World) (e : Ending) (w' : World) : Prop := e = .returned (.bool b) ∧ Below w.heap.size w w'
theorem BPost.of {b c : Bool} {w w' : World} (h : b = c) (hb : Below w.heap.size w w') : BPost b w (.returned (.bool c)) w' := by subst h; exact ⟨rfl, hb⟩
def IPost (x : Int) (w : World) (e : Ending) (w' : World) : Prop := e = .returned (.int .i64 x) ∧ Below w.heap.size w w'
theorem IPost.of {x y : Int} {w w' : World} (h : x = y) (hb : Below w.heap.size w w') : IPost x w (.returned (.int .i64 y)) w' := by subst h; exact ⟨rfl, hb⟩
def Bl (w W : World) : Prop := Below w.heap.size w W
theorem Bl.mk {w W : World} (h : Below w.heap.size w W) : Bl w W := h
theorem Bl.b {w W : World} (h : Bl w W) : Below w.heap.size w W := h
theorem Bl.upb {w W W' : World} (h : Bl w W) (hb : Below W.heap.size W W') : Bl w W' := h.b.up hb

theorem within_any (a hi : Int) (w : World) : Calls Try.prog 29 #[.int .i64 a, .int .i64 hi] w fun e w' => e = .returned (.bool (Vn.inn a hi)) ∧ w = w' := by
  unfold Vn.inn
  cases h1 : decide (0 ≤ a)
  all_goals cases h2 : decide (a ≤ hi)
  all_goals
    go_enter Try.func29, Try.ntmps29
    go_wp2
    go_ret
    exact ⟨rfl, rfl⟩
theorem within_is {a hi : Int} {b : Bool} (h : Vn.inn a hi = b) (w : World) : Calls Try.prog 29 #[.int .i64 a, .int .i64 hi] w fun e w' => e = .returned (.bool b) ∧ w = w' := by
  subst h; exact within_any a hi w
theorem refWithin_any (a hi : Int) (w : World) : Calls Try.prog 35 #[.int .i64 a, .int .i64 hi] w fun e w' => e = .returned (.bool (Vn.inn a (hi - 1))) ∧ w = w' := by
  unfold Vn.inn
  rw [show decide (a ≤ hi - 1) = decide (a < hi) by rw [decide_eq_decide]; omega]
  cases h1 : decide (0 ≤ a)
  all_goals cases h2 : decide (a < hi)
  all_goals
    go_enter Try.func35, Try.ntmps35
    go_wp2
    go_ret
    exact ⟨rfl, rfl⟩
theorem refWithin_1048577 {a : Int} {b : Bool} (h : Vn.inn a 1048576 = b) (w : World) : Calls Try.prog 35 #[.int .i64 a, .int .i64 1048577] w fun e w' => e = .returned (.bool b) ∧ w = w' := by
  subst h; exact refWithin_any a 1048577 w
theorem refWithin_1099511627776 {a : Int} {b : Bool} (h : Vn.inn a 1099511627775 = b) (w : World) : Calls Try.prog 35 #[.int .i64 a, .int .i64 1099511627776] w fun e w' => e = .returned (.bool b) ∧ w = w' := by
  subst h; exact refWithin_any a 1099511627776 w
theorem refWithin_1099511627777 {a : Int} {b : Bool} (h : Vn.inn a 1099511627776 = b) (w : World) : Calls Try.prog 35 #[.int .i64 a, .int .i64 1099511627777] w fun e w' => e = .returned (.bool b) ∧ w = w' := by
  subst h; exact refWithin_any a 1099511627777 w

/- amendments -/
def vA (x : Am) : Value := .agg #[.int .i64 x.no, .int .i64 x.at_, .int .i64 x.known, .int .i64 x.key, .int .i64 x.value, .bool x.gone]
def encA (x : Am) : List Value := [.int .i64 x.no, .int .i64 x.at_, .int .i64 x.known, .int .i64 x.key, .int .i64 x.value, .bool x.gone]
/-- a box that holds one -/
def BoxA (W : World) (B : Nat) (x : Am) : Prop := W.heap[B]? = some (.cells #[.int .i64 x.no, .int .i64 x.at_, .int .i64 x.known, .int .i64 x.key, .int .i64 x.value, .bool x.gone] 27 (0, 0))
theorem BoxA.new (W : World) (x : Am) : BoxA (W.alloc (.cells #[.int .i64 x.no, .int .i64 x.at_, .int .i64 x.known, .int .i64 x.key, .int .i64 x.value, .bool x.gone] 27)) W.heap.size x := World.alloc_heap_new W _
theorem BoxA.lt {W : World} {B : Nat} {x : Am} (hb : BoxA W B x) : B < W.heap.size := (Array.getElem?_eq_some_iff.1 hb).1
theorem BoxA.upb {W W' : World} {B : Nat} {x : Am} (hb : BoxA W B x) (hk : Below W.heap.size W W') : BoxA W' B x := (hk.block B hb.lt).trans hb
theorem BoxA.drewN {W : World} {B : Nat} {x : Am} (hb : BoxA W B x) (n : Nat) : BoxA (W.drewN n) B x := hb
theorem BoxA.alloc {W : World} {B : Nat} {x : Am} (hb : BoxA W B x) (y : Obj) : BoxA (W.alloc y) B x := hb.upb (al1 W y)
theorem BoxA.c0 {W : World} {B : Nat} {x : Am} (hb : BoxA W B x) : W.cell? ⟨B, 0, none⟩ = some (.int .i64 x.no) := by simp [World.cell?, show W.heap[B]? = _ from hb]
theorem BoxA.c1 {W : World} {B : Nat} {x : Am} (hb : BoxA W B x) : W.cell? ⟨B, 1, none⟩ = some (.int .i64 x.at_) := by simp [World.cell?, show W.heap[B]? = _ from hb]
theorem BoxA.c2 {W : World} {B : Nat} {x : Am} (hb : BoxA W B x) : W.cell? ⟨B, 2, none⟩ = some (.int .i64 x.known) := by simp [World.cell?, show W.heap[B]? = _ from hb]
theorem BoxA.c3 {W : World} {B : Nat} {x : Am} (hb : BoxA W B x) : W.cell? ⟨B, 3, none⟩ = some (.int .i64 x.key) := by simp [World.cell?, show W.heap[B]? = _ from hb]
theorem BoxA.c4 {W : World} {B : Nat} {x : Am} (hb : BoxA W B x) : W.cell? ⟨B, 4, none⟩ = some (.int .i64 x.value) := by simp [World.cell?, show W.heap[B]? = _ from hb]
theorem BoxA.c5 {W : World} {B : Nat} {x : Am} (hb : BoxA W B x) : W.cell? ⟨B, 5, none⟩ = some (.bool x.gone) := by simp [World.cell?, show W.heap[B]? = _ from hb]
theorem BoxA.frozen {W : World} {B : Nat} {x : Am} (hb : BoxA W B x) (i : Nat) : W.frozen? ⟨B, i, none⟩ = false := by simp [World.frozen?, show W.heap[B]? = _ from hb]
def IsAs (w : World) (v : Value) (l : List Am) : Prop := ∃ A c, v = .slice A l.length c ∧ RowAt w A (l.flatMap encA)
theorem IsAs.below {w w' : World} {v : Value} {l : List Am} (h : IsAs w v l) (hb : Below w.heap.size w w') : IsAs w' v l := by
  obtain ⟨A, c, e, hr⟩ := h
  exact ⟨A, c, e, hr.below hb⟩
theorem IsAs.upb {w w' : World} {v : Value} {l : List Am} (h : IsAs w v l) (hb : Below w.heap.size w w') : IsAs w' v l := h.below hb
theorem IsAs.drewN {w : World} {v : Value} {l : List Am} (h : IsAs w v l) (n : Nat) : IsAs (w.drewN n) v l := h
theorem IsAs.nil {w : World} : IsAs w (.slice none 0 0) [] := ⟨none, 0, rfl, RowAt.nil⟩
theorem flatA_len (l : List Am) : (l.flatMap encA).length = 6 * l.length := by
  induction l with
  | nil => rfl
  | cons a l ih => simp only [List.flatMap_cons, List.length_append, ih, encA, List.length_cons, List.length_nil]; omega
theorem flatA_at (l : List Am) (k i : Nat) (h : k < l.length) (hi : i < 6) : (l.flatMap encA)[k * 6 + i]? = (encA l[k])[i]? := by
  induction l generalizing k with
  | nil => simp at h
  | cons a l ih =>
    cases k with
    | zero => rw [List.flatMap_cons, List.getElem?_append_left (by simp [encA]; omega)]; simp
    | succ k =>
      rw [List.flatMap_cons, List.getElem?_append_right (by simp [encA]; omega)]
      have := ih k (by simpa using h)
      rw [show (k + 1) * 6 + i - (encA a).length = k * 6 + i by simp [encA]; omega, this]
      simp
theorem flatA_one (l : List Am) : ∀ u ∈ l.flatMap encA, u.oneCell' = true := by
  intro u hu
  obtain ⟨y, hy, hu2⟩ := List.mem_flatMap.1 hu
  simp [encA] at hu2
  rcases hu2 with rfl | rfl | rfl | rfl | rfl | rfl <;> rfl
/-- one lies in a block at a place -/
structure AtA (w : World) (b o : Nat) (x : Am) : Prop where
  lt : b < w.heap.size
  c0 : w.cell? ⟨b, o, none⟩ = some (.int .i64 x.no)
  c1 : w.cell? ⟨b, o + 1, none⟩ = some (.int .i64 x.at_)
  c2 : w.cell? ⟨b, o + 2, none⟩ = some (.int .i64 x.known)
  c3 : w.cell? ⟨b, o + 3, none⟩ = some (.int .i64 x.key)
  c4 : w.cell? ⟨b, o + 4, none⟩ = some (.int .i64 x.value)
  c5 : w.cell? ⟨b, o + 5, none⟩ = some (.bool x.gone)
theorem IsAs_at {w : World} {A : Option Addr} {l : List Am} (h : RowAt w A (l.flatMap encA)) {k : Nat} (hk : k < l.length) :
    ∃ b off, A = some ⟨b, off, none⟩ ∧ AtA w b (off + k * 6) l[k] := by
  have hl := flatA_len l
  obtain ⟨b, off, e, hb, hc⟩ := h (by intro h0; rw [h0] at hl; simp at hl; omega)
  have key : ∀ i v, i < 6 → (encA l[k])[i]? = some v → w.cell? ⟨b, off + k * 6 + i, none⟩ = some v := fun i v hi hv => by
    have := hc (k * 6 + i) (by omega)
    rw [← Nat.add_assoc] at this
    rw [this, ← List.getElem?_eq_getElem, flatA_at l k i hk hi, hv]
  exact ⟨b, off, e, hb, key 0 _ (by omega) rfl, key 1 _ (by omega) rfl, key 2 _ (by omega) rfl, key 3 _ (by omega) rfl, key 4 _ (by omega) rfl, key 5 _ (by omega) rfl⟩
theorem AtA.below {w w' : World} {b o : Nat} {x : Am} (hh : AtA w b o x) (hb : Below w.heap.size w w') : AtA w' b o x := by
  have k : ∀ i, w'.cell? ⟨b, i, none⟩ = w.cell? ⟨b, i, none⟩ := fun i => hb.cell (p := ⟨b, i, none⟩) hh.lt
  exact ⟨Nat.lt_of_lt_of_le hh.lt hb.size, (k _).trans hh.c0, (k _).trans hh.c1, (k _).trans hh.c2, (k _).trans hh.c3, (k _).trans hh.c4, (k _).trans hh.c5⟩
theorem AtA.upb {w w' : World} {b o : Nat} {x : Am} (hh : AtA w b o x) (hb : Below w.heap.size w w') : AtA w' b o x := hh.below hb
theorem boxA_news {W : World} {vb : Nat} {x : Am} (h : BoxA W vb x) : ∀ j u, (encA x)[j]? = some u → W.cell? ((⟨vb, 0, none⟩ : Addr).add j) = some u := fun j u hj => by
  have e : (⟨vb, 0, none⟩ : Addr).add j = ⟨vb, j, none⟩ := by unfold Addr.add; split <;> simp_all
  rw [e]
  simp [World.cell?, show W.heap[vb]? = _ from h]
  simpa [encA] using hj

/- steps -/
def vS (x : St) : Value := .agg #[.int .i64 x.at_, .int .i64 x.value, .bool x.ok]
def encS (x : St) : List Value := [.int .i64 x.at_, .int .i64 x.value, .bool x.ok]
/-- a box that holds one -/
def BoxS (W : World) (B : Nat) (x : St) : Prop := W.heap[B]? = some (.cells #[.int .i64 x.at_, .int .i64 x.value, .bool x.ok] 44 (0, 0))
theorem BoxS.new (W : World) (x : St) : BoxS (W.alloc (.cells #[.int .i64 x.at_, .int .i64 x.value, .bool x.ok] 44)) W.heap.size x := World.alloc_heap_new W _
theorem BoxS.lt {W : World} {B : Nat} {x : St} (hb : BoxS W B x) : B < W.heap.size := (Array.getElem?_eq_some_iff.1 hb).1
theorem BoxS.upb {W W' : World} {B : Nat} {x : St} (hb : BoxS W B x) (hk : Below W.heap.size W W') : BoxS W' B x := (hk.block B hb.lt).trans hb
theorem BoxS.drewN {W : World} {B : Nat} {x : St} (hb : BoxS W B x) (n : Nat) : BoxS (W.drewN n) B x := hb
theorem BoxS.alloc {W : World} {B : Nat} {x : St} (hb : BoxS W B x) (y : Obj) : BoxS (W.alloc y) B x := hb.upb (al1 W y)
theorem BoxS.c0 {W : World} {B : Nat} {x : St} (hb : BoxS W B x) : W.cell? ⟨B, 0, none⟩ = some (.int .i64 x.at_) := by simp [World.cell?, show W.heap[B]? = _ from hb]
theorem BoxS.c1 {W : World} {B : Nat} {x : St} (hb : BoxS W B x) : W.cell? ⟨B, 1, none⟩ = some (.int .i64 x.value) := by simp [World.cell?, show W.heap[B]? = _ from hb]
theorem BoxS.c2 {W : World} {B : Nat} {x : St} (hb : BoxS W B x) : W.cell? ⟨B, 2, none⟩ = some (.bool x.ok) := by simp [World.cell?, show W.heap[B]? = _ from hb]
theorem BoxS.frozen {W : World} {B : Nat} {x : St} (hb : BoxS W B x) (i : Nat) : W.frozen? ⟨B, i, none⟩ = false := by simp [World.frozen?, show W.heap[B]? = _ from hb]
def IsSs (w : World) (v : Value) (l : List St) : Prop := ∃ A c, v = .slice A l.length c ∧ RowAt w A (l.flatMap encS)
theorem IsSs.below {w w' : World} {v : Value} {l : List St} (h : IsSs w v l) (hb : Below w.heap.size w w') : IsSs w' v l := by
  obtain ⟨A, c, e, hr⟩ := h
  exact ⟨A, c, e, hr.below hb⟩
theorem IsSs.upb {w w' : World} {v : Value} {l : List St} (h : IsSs w v l) (hb : Below w.heap.size w w') : IsSs w' v l := h.below hb
theorem IsSs.drewN {w : World} {v : Value} {l : List St} (h : IsSs w v l) (n : Nat) : IsSs (w.drewN n) v l := h
theorem IsSs.nil {w : World} : IsSs w (.slice none 0 0) [] := ⟨none, 0, rfl, RowAt.nil⟩
theorem flatS_len (l : List St) : (l.flatMap encS).length = 3 * l.length := by
  induction l with
  | nil => rfl
  | cons a l ih => simp only [List.flatMap_cons, List.length_append, ih, encS, List.length_cons, List.length_nil]; omega
theorem flatS_at (l : List St) (k i : Nat) (h : k < l.length) (hi : i < 3) : (l.flatMap encS)[k * 3 + i]? = (encS l[k])[i]? := by
  induction l generalizing k with
  | nil => simp at h
  | cons a l ih =>
    cases k with
    | zero => rw [List.flatMap_cons, List.getElem?_append_left (by simp [encS]; omega)]; simp
    | succ k =>
      rw [List.flatMap_cons, List.getElem?_append_right (by simp [encS]; omega)]
      have := ih k (by simpa using h)
      rw [show (k + 1) * 3 + i - (encS a).length = k * 3 + i by simp [encS]; omega, this]
      simp
theorem flatS_one (l : List St) : ∀ u ∈ l.flatMap encS, u.oneCell' = true := by
  intro u hu
  obtain ⟨y, hy, hu2⟩ := List.mem_flatMap.1 hu
  simp [encS] at hu2
  rcases hu2 with rfl | rfl | rfl <;> rfl
/-- one lies in a block at a place -/
structure AtS (w : World) (b o : Nat) (x : St) : Prop where
  lt : b < w.heap.size
  c0 : w.cell? ⟨b, o, none⟩ = some (.int .i64 x.at_)
  c1 : w.cell? ⟨b, o + 1, none⟩ = some (.int .i64 x.value)
  c2 : w.cell? ⟨b, o + 2, none⟩ = some (.bool x.ok)
theorem IsSs_at {w : World} {A : Option Addr} {l : List St} (h : RowAt w A (l.flatMap encS)) {k : Nat} (hk : k < l.length) :
    ∃ b off, A = some ⟨b, off, none⟩ ∧ AtS w b (off + k * 3) l[k] := by
  have hl := flatS_len l
  obtain ⟨b, off, e, hb, hc⟩ := h (by intro h0; rw [h0] at hl; simp at hl; omega)
  have key : ∀ i v, i < 3 → (encS l[k])[i]? = some v → w.cell? ⟨b, off + k * 3 + i, none⟩ = some v := fun i v hi hv => by
    have := hc (k * 3 + i) (by omega)
    rw [← Nat.add_assoc] at this
    rw [this, ← List.getElem?_eq_getElem, flatS_at l k i hk hi, hv]
  exact ⟨b, off, e, hb, key 0 _ (by omega) rfl, key 1 _ (by omega) rfl, key 2 _ (by omega) rfl⟩
theorem AtS.below {w w' : World} {b o : Nat} {x : St} (hh : AtS w b o x) (hb : Below w.heap.size w w') : AtS w' b o x := by
  have k : ∀ i, w'.cell? ⟨b, i, none⟩ = w.cell? ⟨b, i, none⟩ := fun i => hb.cell (p := ⟨b, i, none⟩) hh.lt
  exact ⟨Nat.lt_of_lt_of_le hh.lt hb.size, (k _).trans hh.c0, (k _).trans hh.c1, (k _).trans hh.c2⟩
theorem AtS.upb {w w' : World} {b o : Nat} {x : St} (hh : AtS w b o x) (hb : Below w.heap.size w w') : AtS w' b o x := hh.below hb
theorem boxS_news {W : World} {vb : Nat} {x : St} (h : BoxS W vb x) : ∀ j u, (encS x)[j]? = some u → W.cell? ((⟨vb, 0, none⟩ : Addr).add j) = some u := fun j u hj => by
  have e : (⟨vb, 0, none⟩ : Addr).add j = ⟨vb, j, none⟩ := by unfold Addr.add; split <;> simp_all
  rw [e]
  simp [World.cell?, show W.heap[vb]? = _ from h]
  simpa [encS] using hj

set_option maxHeartbeats 2000000 in
theorem right_any (x : Am) (w : World) : Calls Try.prog 26 #[vA x] w (BPost (Vn.right x) w) := by
  have HB0 := Lib.hid (BoxA.new w x)
  have HW := Lib.hid (al1 w (.cells #[.int .i64 x.no, .int .i64 x.at_, .int .i64 x.known, .int .i64 x.key, .int .i64 x.value, .bool x.gone] 27))
  have q0 := HB0.out.c0
  have q1 := HB0.out.c1
  have q2 := HB0.out.c2
  have q3 := HB0.out.c3
  have q4 := HB0.out.c4
  have q5 := HB0.out.c5
  have hvv : vA x = vA x := rfl
  unfold vA
  clear hvv
  go_enter Try.func26, Try.ntmps26
  go_wp2_with (fail)
  cases a0 : Vn.inn x.no 1048576
  · refine (within_is a0 _).mono ?_
    rintro e _ ⟨rfl, rfl⟩
    go_wp2_with (fail)
    go_ret
    exact .of (by simp [Vn.right, a0]) HW.out
  refine (within_is a0 _).mono ?_
  rintro e _ ⟨rfl, rfl⟩
  go_wp2_with (fail)
  cases a1 : Vn.inn x.key 1048576
  · refine (within_is a1 _).mono ?_
    rintro e _ ⟨rfl, rfl⟩
    go_wp2_with (fail)
    go_ret
    exact .of (by simp [Vn.right, a0, a1]) HW.out
  refine (within_is a1 _).mono ?_
  rintro e _ ⟨rfl, rfl⟩
  go_wp2_with (fail)
  cases a2 : Vn.inn x.at_ 1099511627775
  · refine (within_is a2 _).mono ?_
    rintro e _ ⟨rfl, rfl⟩
    go_wp2_with (fail)
    go_ret
    exact .of (by simp [Vn.right, a0, a1, a2]) HW.out
  refine (within_is a2 _).mono ?_
  rintro e _ ⟨rfl, rfl⟩
  go_wp2_with (fail)
  cases a3 : Vn.inn x.known 1099511627775
  · refine (within_is a3 _).mono ?_
    rintro e _ ⟨rfl, rfl⟩
    go_wp2_with (fail)
    go_ret
    exact .of (by simp [Vn.right, a0, a1, a2, a3]) HW.out
  refine (within_is a3 _).mono ?_
  rintro e _ ⟨rfl, rfl⟩
  go_wp2_with (fail)
  cases a4 : Vn.inn x.value 1099511627776
  · refine (within_is a4 _).mono ?_
    rintro e _ ⟨rfl, rfl⟩
    go_wp2_with (fail)
    go_ret
    exact .of (by simp [Vn.right, a0, a1, a2, a3, a4]) HW.out
  refine (within_is a4 _).mono ?_
  rintro e _ ⟨rfl, rfl⟩
  cases g : x.gone
  · rw [g] at q5
    go_wp2_with (fail)
    go_ret
    exact .of (by simp [Vn.right, g, a0, a1, a2, a3, a4]) (al1 _ _)
  rw [g] at q5
  cases z : (x.value == 0)
  all_goals
    go_wp2_with (fail)
    go_ret
    exact .of (by simp [Vn.right, g, z, a0, a1, a2, a3, a4]) (al1 _ _)
theorem right_is {x : Am} {b : Bool} (h : Vn.right x = b) (w : World) : Calls Try.prog 26 #[vA x] w (BPost b w) := by subst h; exact right_any x w

set_option maxHeartbeats 2000000 in
theorem refRight_any (x : Am) (w : World) : Calls Try.prog 34 #[vA x] w (BPost (Vn.right x) w) := by
  have HB0 := Lib.hid (BoxA.new w x)
  have HW := Lib.hid (al1 w (.cells #[.int .i64 x.no, .int .i64 x.at_, .int .i64 x.known, .int .i64 x.key, .int .i64 x.value, .bool x.gone] 27))
  have q0 := HB0.out.c0
  have q1 := HB0.out.c1
  have q2 := HB0.out.c2
  have q3 := HB0.out.c3
  have q4 := HB0.out.c4
  have q5 := HB0.out.c5
  have hvv : vA x = vA x := rfl
  unfold vA
  clear hvv
  go_enter Try.func34, Try.ntmps34
  go_wp2_with (fail)
  cases a0 : Vn.inn x.no 1048576
  · refine (refWithin_1048577 a0 _).mono ?_
    rintro e _ ⟨rfl, rfl⟩
    go_wp2_with (fail)
    go_ret
    exact .of (by simp [Vn.right, a0]) HW.out
  refine (refWithin_1048577 a0 _).mono ?_
  rintro e _ ⟨rfl, rfl⟩
  go_wp2_with (fail)
  cases a1 : Vn.inn x.key 1048576
  · refine (refWithin_1048577 a1 _).mono ?_
    rintro e _ ⟨rfl, rfl⟩
    go_wp2_with (fail)
    go_ret
    exact .of (by simp [Vn.right, a0, a1]) HW.out
  refine (refWithin_1048577 a1 _).mono ?_
  rintro e _ ⟨rfl, rfl⟩
  go_wp2_with (fail)
  cases a2 : Vn.inn x.at_ 1099511627775
  · refine (refWithin_1099511627776 a2 _).mono ?_
    rintro e _ ⟨rfl, rfl⟩
    go_wp2_with (fail)
    go_ret
    exact .of (by simp [Vn.right, a0, a1, a2]) HW.out
  refine (refWithin_1099511627776 a2 _).mono ?_
  rintro e _ ⟨rfl, rfl⟩
  go_wp2_with (fail)
  cases a3 : Vn.inn x.known 1099511627775
  · refine (refWithin_1099511627776 a3 _).mono ?_
    rintro e _ ⟨rfl, rfl⟩
    go_wp2_with (fail)
    go_ret
    exact .of (by simp [Vn.right, a0, a1, a2, a3]) HW.out
  refine (refWithin_1099511627776 a3 _).mono ?_
  rintro e _ ⟨rfl, rfl⟩
  go_wp2_with (fail)
  cases a4 : Vn.inn x.value 1099511627776
  · refine (refWithin_1099511627777 a4 _).mono ?_
    rintro e _ ⟨rfl, rfl⟩
    go_wp2_with (fail)
    go_ret
    exact .of (by simp [Vn.right, a0, a1, a2, a3, a4]) HW.out
  refine (refWithin_1099511627777 a4 _).mono ?_
  rintro e _ ⟨rfl, rfl⟩
  cases g : x.gone
  · rw [g] at q5
    go_wp2_with (fail)
    go_ret
    exact .of (by simp [Vn.right, g, a0, a1, a2, a3, a4]) (al1 _ _)
  rw [g] at q5
  cases z : (x.value == 0)
  all_goals
    go_wp2_with (fail)
    go_ret
    exact .of (by simp [Vn.right, g, z, a0, a1, a2, a3, a4]) (al1 _ _)
theorem refRight_is {x : Am} {b : Bool} (h : Vn.right x = b) (w : World) : Calls Try.prog 34 #[vA x] w (BPost b w) := by subst h; exact refRight_any x w
end Go.Proofs.Ytcifhigeieoogaa
