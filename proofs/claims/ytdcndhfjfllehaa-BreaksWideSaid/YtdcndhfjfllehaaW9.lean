/- Words for solve: a row of rests, ends in blocks of a kind, marks of loops that are over. -/
import Derived.Test.YtdcndhfjfllehaaW8
import Derived.ArgAppend
import Derived.Laws.AppendOwnNone
namespace Go.Proofs.Ytdcndhfjfllehaa
open Go.RowKit
set_option linter.unusedVariables false
set_option linter.unusedSimpArgs false

def enc2 (e : Int × Value) : List Value := [.int .i64 e.1, e.2]
/-- block g is a row of rests -/
def Pairs (W : World) (g : Nat) (es : List (Int × Value)) : Prop := W.heap[g]? = some (.cells (es.flatMap enc2).toArray 46 (0, 0))
theorem flat2_len (es : List (Int × Value)) : (es.flatMap enc2).length = 2 * es.length := by
  induction es with
  | nil => rfl
  | cons a l ih => simp only [List.flatMap_cons, List.length_append, ih, enc2, List.length_cons, List.length_nil]; omega
theorem flat2_at (es : List (Int × Value)) (k : Nat) (h : k < es.length) : (es.flatMap enc2)[k * 2]? = some (.int .i64 es[k].1) ∧ (es.flatMap enc2)[k * 2 + 1]? = some es[k].2 := by
  induction es generalizing k with
  | nil => simp at h
  | cons a l ih =>
    cases k with
    | zero => simp [List.flatMap_cons, enc2]
    | succ k =>
      have := ih k (by simpa using h)
      simp only [List.flatMap_cons, enc2, List.cons_append, List.nil_append, List.getElem_cons_succ]
      rw [show (k + 1) * 2 = k * 2 + 1 + 1 by omega]
      simpa using this
theorem flat2_set0 (es : List (Int × Value)) (k : Nat) (h : k < es.length) (c : Int) : (es.flatMap enc2).set (k * 2) (.int .i64 c) = (es.set k (c, es[k].2)).flatMap enc2 := by
  induction es generalizing k with
  | nil => simp at h
  | cons a l ih =>
    cases k with
    | zero => simp [List.flatMap_cons, enc2]
    | succ k =>
      have := ih k (by simpa using h)
      simp only [List.flatMap_cons, enc2, List.cons_append, List.nil_append, List.getElem_cons_succ, List.set_cons_succ]
      rw [show (k + 1) * 2 = k * 2 + 1 + 1 by omega]
      simpa using this
theorem flat2_set1 (es : List (Int × Value)) (k : Nat) (h : k < es.length) (v : Value) : (es.flatMap enc2).set (k * 2 + 1) v = (es.set k (es[k].1, v)).flatMap enc2 := by
  induction es generalizing k with
  | nil => simp at h
  | cons a l ih =>
    cases k with
    | zero => simp [List.flatMap_cons, enc2]
    | succ k =>
      have := ih k (by simpa using h)
      simp only [List.flatMap_cons, enc2, List.cons_append, List.nil_append, List.getElem_cons_succ, List.set_cons_succ]
      rw [show (k + 1) * 2 = k * 2 + 1 + 1 by omega]
      simpa using this
theorem Pairs.lt {W : World} {g : Nat} {es : List (Int × Value)} (h : Pairs W g es) : g < W.heap.size := (Array.getElem?_eq_some_iff.1 h).1
theorem Pairs.c0 {W : World} {g : Nat} {es : List (Int × Value)} (h : Pairs W g es) {k : Nat} (hk : k < es.length) : W.cell? ⟨g, k * 2, none⟩ = some (.int .i64 es[k].1) := by
  have h1 := (flat2_at es k hk).1
  simp [World.cell?, show W.heap[g]? = _ from h, h1]
theorem Pairs.c1 {W : World} {g : Nat} {es : List (Int × Value)} (h : Pairs W g es) {k : Nat} (hk : k < es.length) : W.cell? ⟨g, k * 2 + 1, none⟩ = some es[k].2 := by
  have h1 := (flat2_at es k hk).2
  simp [World.cell?, show W.heap[g]? = _ from h, h1]
theorem Pairs.frozen {W : World} {g : Nat} {es : List (Int × Value)} (h : Pairs W g es) (i : Nat) : W.frozen? ⟨g, i, none⟩ = false := by
  simp [World.frozen?, show W.heap[g]? = _ from h]
theorem Pairs.keep {W W' : World} {g : Nat} {es : List (Int × Value)} (h : Pairs W g es) (hk : W'.heap[g]? = W.heap[g]?) : Pairs W' g es := hk.trans h
theorem Pairs.set0 {W : World} {g : Nat} {es : List (Int × Value)} (h : Pairs W g es) {k : Nat} (hk : k < es.length) (c : Int) : Pairs (W.setCell ⟨g, k * 2, none⟩ (.int .i64 c)) g (es.set k (c, es[k].2)) := by
  obtain ⟨hlt, hh⟩ := Array.getElem?_eq_some_iff.1 h
  show (W.heap.modify g _)[g]? = _
  rw [Array.getElem?_eq_getElem (by rw [Array.size_modify]; exact hlt), Array.getElem_modify_self, hh, ← flat2_set0 es k hk c]
  simp
theorem Pairs.set1 {W : World} {g : Nat} {es : List (Int × Value)} (h : Pairs W g es) {k : Nat} (hk : k < es.length) (v : Value) : Pairs (W.setCell ⟨g, k * 2 + 1, none⟩ v) g (es.set k (es[k].1, v)) := by
  obtain ⟨hlt, hh⟩ := Array.getElem?_eq_some_iff.1 h
  show (W.heap.modify g _)[g]? = _
  rw [Array.getElem?_eq_getElem (by rw [Array.size_modify]; exact hlt), Array.getElem_modify_self, hh, ← flat2_set1 es k hk v]
  simp
def zero2 (n : Nat) : List (Int × Value) := List.replicate n (0, .slice none 0 0)
theorem infoRest : (Try.prog.info? 46).map (fun i => (i.zero, i.size, i.bytes)) = some (some (.agg #[.int .i64 0, .slice none 0 0]), 2, 32) := by kernel_rfl
theorem made_eq (n : Nat) : madeCells #[.int .i64 0, .slice none 0 0] (n * 2) = ((zero2 n).flatMap enc2).toArray := by
  apply Array.ext
  · have := flat2_len (zero2 n)
    simp [madeCells, zero2] at this ⊢; omega
  · intro i h1 h2
    have hl := flat2_len (zero2 n)
    have hn : (zero2 n).length = n := by simp [zero2]
    simp only [List.size_toArray] at h2
    obtain ⟨a, b⟩ := flat2_at (zero2 n) (i / 2) (by omega)
    simp only [madeCells, Array.getElem_map, Array.getElem_range, List.getElem_toArray]
    rcases Nat.mod_two_eq_zero_or_one i with e | e
    · rw [show i / 2 * 2 = i by omega, List.getElem?_eq_getElem h2] at a
      injection a with a
      rw [a]; simp [e, zero2]
    · rw [show i / 2 * 2 + 1 = i by omega, List.getElem?_eq_getElem h2] at b
      injection b with b
      rw [b]; simp [e, zero2]
theorem make_rests (n : Nat) (hn : n ≤ 1000) (w : World) : (Instr.makeSlice 47 (.int .i64 ((n : Int) + 1)) (.int .i64 ((n : Int) + 1))).run Try.prog w = .ok (.slice (some ⟨w.heap.size, 0, none⟩) (n + 1) (n + 1)) (w.alloc (.cells ((zero2 (n + 1)).flatMap enc2).toArray 46)) := by
  obtain ⟨i0, hi, hz0, hz1, hz2⟩ := info_parts infoRest
  have hb : (i0.bytes : Int) * ((n : Int) + 1) ≤ 281474976710656 := by rw [hz2]; omega
  have hr := run_make (P := Try.prog) w 47 46 i0 _ Try.underlying47 hi hz0 .i64 .i64 ((n : Int) + 1) ((n : Int) + 1) (by omega) (by omega) hb (by omega)
  rw [show ((n : Int) + 1).toNat = n + 1 by omega, hz1] at hr
  rw [hr, ← made_eq]
  rfl

/-- ints in a block of a kind -/
def IsIB (P : Nat → Prop) (w : World) (v : Value) (xs : List Int) : Prop :=
  ∃ A c, v = .slice A xs.length c ∧ ((A = none → c = 0) ∧ xs.length ≤ c) ∧ (xs ≠ [] → ∃ b off, A = some ⟨b, off, none⟩ ∧ P b ∧ b < w.heap.size ∧ ∀ i (h : i < xs.length), w.cell? ⟨b, off + i, none⟩ = some (.int .i64 xs[i]))
theorem IsIB.keep {P : Nat → Prop} {w w' : World} {v : Value} {xs : List Int} (h : IsIB P w v xs) (hs : w.heap.size ≤ w'.heap.size) (hk : ∀ b, P b → b < w.heap.size → w'.heap[b]? = w.heap[b]?) : IsIB P w' v xs := by
  obtain ⟨A, c, e, h1, h2⟩ := h
  refine ⟨A, c, e, h1, fun hn => ?_⟩
  obtain ⟨b, off, ea, hp, hb, hc⟩ := h2 hn
  exact ⟨b, off, ea, hp, by omega, fun i hi => (World.cell?_of_block (w := w) (hk b hp hb)).trans (hc i hi)⟩
theorem IsIB.mono {P P' : Nat → Prop} {w : World} {v : Value} {xs : List Int} (h : IsIB P w v xs) (hp : ∀ b, P b → P' b) : IsIB P' w v xs := by
  obtain ⟨A, c, e, h1, h2⟩ := h
  refine ⟨A, c, e, h1, fun hn => ?_⟩
  obtain ⟨b, off, ea, hpb, hb, hc⟩ := h2 hn
  exact ⟨b, off, ea, hp b hpb, hb, hc⟩
theorem IsIB.ints {P : Nat → Prop} {w : World} {v : Value} {xs : List Int} (h : IsIB P w v xs) : IsInts w v xs := by
  obtain ⟨A, c, e, h1, h2⟩ := h
  refine ⟨A, c, e, fun hn => ?_⟩
  obtain ⟨b, off, ea, hpb, hb, hc⟩ := h2 (by intro h0; subst h0; simp at hn)
  exact ⟨b, off, ea, hb, fun i hi => by
    have hi' : i < xs.length := by simpa using hi
    rw [hc i hi']; simp⟩
theorem IsIB.nil {P : Nat → Prop} {w : World} : IsIB P w (.slice none 0 0) [] := ⟨none, 0, rfl, ⟨fun _ => rfl, Nat.le_refl _⟩, fun h => absurd rfl h⟩
/-- append to a slice that is full: always a new row -/
theorem run_grow1 {P : Nat → Prop} {X : World} {Av : Option Addr} {n cv : Nat} {xs : List Int} (ty : TypeId) (h : IsIB P X (.slice Av n cv) xs) (hl : xs.length ≤ 1000) {ad : Nat} {y : Int} (hc : X.cell? ⟨ad, 0, none⟩ = some (.int .i64 y)) (c1 : Nat) :
    ∃ v' X', (Builtin.append_ #[22, 22] ty #[.slice Av n n, .slice (some ⟨ad, 0, none⟩) 1 c1]).run Try.prog X = .ok v' X' ∧ OwnInts X' X.heap.size v' (xs ++ [y]) ∧ X.grownBy X' none := by
  obtain ⟨i0, hi, hz0, hz1, hz2⟩ := info_parts infoInt
  obtain ⟨A, c, e, h1, h2⟩ := h
  injection e with e1 e2 e3
  subst e1 e2 e3
  have hnew : ∀ j u, [Value.int .i64 y][j]? = some u → X.cell? ((⟨ad, 0, none⟩ : Addr).add j) = some u := fun j u hj => by
    cases j with
    | zero =>
      simp at hj; subst hj
      rw [show (⟨ad, 0, none⟩ : Addr).add 0 = ⟨ad, 0, none⟩ by simp [Addr.add]]
      exact hc
    | succ j => simp at hj
  have fin : ∀ v' X', X'.ownsRow X.heap.size 3 1 v' (xs.length + 1) (xs.map (Value.int .i64) ++ [.int .i64 y]) → OwnInts X' X.heap.size v' (xs ++ [y]) := fun v' X' h => by unfold OwnInts; simpa using h
  cases Av with
  | some b =>
    by_cases hne : xs = []
    · subst hne
      obtain ⟨v', X', hr, r1, r2⟩ := run_append_arg_grows (P := Try.prog) X 22 ty 3 i0 (.int .i64 0) 1 8 Try.underlying22 hi hz0 hz1 hz2 rfl (by decide) b 0 0 [] rfl (fun j u hj => by simp at hj) ⟨ad, 0, none⟩ 1 c1 [.int .i64 y] rfl hnew (by omega) (by unfold maxLen; omega) (by omega)
      exact ⟨v', X', hr, fin _ _ r1, r2⟩
    · obtain ⟨bb, off, ea, _, hb, hcs⟩ := h2 hne
      injection ea with ea
      subst ea
      obtain ⟨v', X', hr, r1, r2⟩ := run_append_arg_grows (P := Try.prog) X 22 ty 3 i0 (.int .i64 0) 1 8 Try.underlying22 hi hz0 hz1 hz2 rfl (by decide) ⟨bb, off, none⟩ xs.length xs.length (xs.map (Value.int .i64)) (by simp) (fun j u hj => by
        obtain ⟨hj1, rfl⟩ := List.getElem?_eq_some_iff.1 hj
        rw [Addr.add_lit, hcs j (by simpa using hj1)]; simp) ⟨ad, 0, none⟩ 1 c1 [.int .i64 y] rfl hnew (by omega) (by unfold maxLen; omega) (by omega)
      exact ⟨v', X', hr, fin _ _ r1, r2⟩
  | none =>
    have hne : xs = [] := by
      apply Classical.byContradiction
      intro hne
      obtain ⟨bb, off, ea, _⟩ := h2 hne
      cases ea
    subst hne
    obtain ⟨v', X', hr, r1, r2, _⟩ := run_append_own (P := Try.prog) X X.heap.size 22 ty 3 i0 (.int .i64 0) 1 8 Try.underlying22 hi hz0 hz1 hz2 rfl (by decide) (.slice none 0 0) 0 [] (World.ownsRow_nil X _ 3 1) ⟨ad, 0, none⟩ 1 c1 [.int .i64 y] rfl hnew (by simp [Value.oneCell']) (by unfold maxLen; omega) (by omega) (Nat.le_refl _)
    exact ⟨v', X', hr, fin _ _ r1, r2⟩
/-- the same as a step of a region that draws -/
theorem step_run {X : World} {ops : Array Oper} {o : Oper} {a : Act} {K : Act → World → Prop} {Q : Exit → Act → World → Prop} {E : Prop} (hgd : o.guard = none) (s x : Operand) (v y : Value) (R : Value → World → Prop)
    (ho : o.op = .call { callee := .builtin .append, args := #[s, x], argTypes := #[22, 22] }) (hs : a.eval s = v) (hx : a.eval x = y) (hr : ∃ v' X', (Builtin.append_ #[22, 22] o.type #[v, y]).run Try.prog X = .ok v' X' ∧ R v' X')
    (h : ∀ v' X', R v' X' → K (a.put o.dst v') X') : if Region.wanted o (yielded ops a.tmps) = true then Oper.wp Try.prog o a X K Q else E := by
  have hw : Region.wanted o (yielded ops a.tmps) = true := by simp [Region.wanted, hgd]
  rw [if_pos hw]
  obtain ⟨v', X', h1, h2⟩ := hr
  unfold Oper.wp execOp
  simp only [ho, resolve, invoke, builtin, Sem.run_bind, Sem.run_pure, Result.andThen_ok, List.map_toArray, List.map_cons, List.map_nil, hs, hx, h1]
  exact h v' X' h2

/-- marks of loops over functions that are over -/
def Mk (lo : Nat) : List Deferred → World → Prop
  | [], _ => True
  | d :: ds, W => ∃ D, d = { target := .collected D, args := #[] } ∧ lo ≤ D ∧ W.heap[D]? = some (.deferred (some [])) ∧ (∀ d' ∈ ds, d' ≠ d) ∧ Mk lo ds W
theorem Mk.keep {lo : Nat} {ds : List Deferred} {W W' : World} (h : Mk lo ds W) (hk : ∀ D : Nat, W.heap[D]? = some (Obj.deferred (some [])) → W'.heap[D]? = some (Obj.deferred (some []))) : Mk lo ds W' := by
  induction ds with
  | nil => trivial
  | cons d ds ih =>
    obtain ⟨D, h1, h2, h3, h4, h5⟩ := h
    exact ⟨D, h1, h2, hk D h3, h4, ih h5⟩
theorem Mk.lt {lo : Nat} {ds : List Deferred} {W : World} (h : Mk lo ds W) : ∀ d ∈ ds, ∃ D, d = { target := .collected D, args := #[] } ∧ D < W.heap.size := by
  induction ds with
  | nil => intro d hd; simp at hd
  | cons d ds ih =>
    obtain ⟨D, h1, h2, h3, h4, h5⟩ := h
    intro d' hd
    rcases List.mem_cons.1 hd with rfl | hd
    · exact ⟨D, h1, (Array.getElem?_eq_some_iff.1 h3).1⟩
    · exact ih h5 d' hd
/-- a new mark -/
theorem Mk.cons {lo : Nat} {ds : List Deferred} {W0 W : World} {D : Nat} (h0 : Mk lo ds W0) (hD : W0.heap.size ≤ D) (h : Mk lo ds W) (hlo : lo ≤ D) (hm : W.heap[D]? = some (.deferred (some []))) : Mk lo ({ target := .collected D, args := #[] } :: ds) W :=
  ⟨D, rfl, hlo, hm, fun d' hd e => by
    obtain ⟨D', e1, hlt⟩ := h0.lt d' hd
    rw [e1] at e
    injection e with e
    injection e with e
    omega, h⟩
/-- at the return all marks are taken -/
theorem leaves_marks {fn : Func} {tmps : Array Value} {R : Ending → World → Prop} {lo : Nat} : ∀ (ds : List Deferred) (W : World), Mk lo ds W →
    (∀ W', W'.os = W.os → W'.tape = W.tape → W'.output = W.output → W'.heap.size = W.heap.size → (∀ b o, W.heap[b]? = some o → (o.isCells = true ∨ b < lo) → W'.heap[b]? = some o) → LeavesInM Fence.wide 0 Try.prog fn tmps R [] .returning W') →
    LeavesInM Fence.wide 0 Try.prog fn tmps R ds .returning W
  | [], W, _, h => h W rfl rfl rfl rfl (fun _ _ h _ => h)
  | d :: ds, W, hm, h => by
    obtain ⟨D, rfl, h2, h3, h4, h5⟩ := hm
    refine ⟨by simp, .inl ⟨D, _, rfl, run_takeDeferred h3, ?_⟩⟩
    refine leaves_marks ds _ ?_ (fun W' a1 a2 a3 a4 a5 => h W' (a1.trans rfl) (a2.trans rfl) (a3.trans rfl) (a4.trans (by simp)) (fun b o hb ho => a5 b o ?_ ho))
    · have key : ∀ ds', (∀ d' ∈ ds', d' ≠ ({ target := .collected D, args := #[] } : Deferred)) → Mk lo ds' W → Mk lo ds' (W.putObj D (.deferred none)) := by
        intro ds'
        induction ds' with
        | nil => intros; trivial
        | cons e es ih =>
          intro hne hmk
          obtain ⟨D2, rfl, k2, k3, k4, k5⟩ := hmk
          refine ⟨D2, rfl, k2, ?_, k4, ih (fun d' hd => hne d' (by simp [hd])) k5⟩
          have hDD : D2 ≠ D := fun e => by
            have := hne { target := .collected D2, args := #[] } (by simp)
            rw [e] at this; exact this rfl
          exact (World.putObj_heap_other hDD).trans k3
      exact key ds h4 h5
    · have hbD : b ≠ D := fun e => by
        subst e
        rw [h3] at hb
        injection hb with hb
        subst hb
        rcases ho with ho | ho
        · simp [Obj.isCells] at ho
        · omega
      exact (World.putObj_heap_other hbD).trans hb

end Go.Proofs.Ytdcndhfjfllehaa
