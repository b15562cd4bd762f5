/- A range over a function, by index: the iterator's contract gives a known list of rounds; the caller's law takes an invariant by the number of rounds that are over. The marks that loops over functions leave in a frame. A range over a function whose values are told at the round alone. -/
import Derived.RangeFuncNested
import Derived.RangeFuncLeaves
import Derived.Shelf.Abstract
import Derived.WalkKit
import Derived.OwnWalkIn
import Derived.TacticsInMore
import Derived.LoopNIn
import Derived.LoopIn
import Derived.Test.YtkcnanclpkongaaProg
namespace Go.Proofs.Ytkcnanclpkongaa
section
open Go.RowKit

/-- What an iterator itself may do between two rounds: new blocks, draws, and turns of blocks from B on that hold no cells. -/
structure IStep (B : Nat) (A A' : World) : Prop where
  os : A'.os = A.os
  tape : A'.tape = A.tape
  output : A'.output = A.output
  size : A.heap.size ≤ A'.heap.size
  block : ∀ b o, A.heap[b]? = some o → (o.isCells = true ∨ b < B) → A'.heap[b]? = some o

theorem IStep.refl (B : Nat) (A : World) : IStep B A A := ⟨rfl, rfl, rfl, Nat.le_refl _, fun _ _ h _ => h⟩
theorem IStep.trans {B : Nat} {X Y Z : World} (h : IStep B X Y) (k : IStep B Y Z) : IStep B X Z :=
  ⟨k.os.trans h.os, k.tape.trans h.tape, k.output.trans h.output, Nat.le_trans h.size k.size, fun b o hb ho => k.block b o (h.block b o hb ho) ho⟩
theorem IStep.mono {B B' : Nat} {X Y : World} (h : IStep B' X Y) (hB : B ≤ B') : IStep B X Y :=
  ⟨h.os, h.tape, h.output, h.size, fun b o hb ho => h.block b o hb (ho.elim (fun h => .inl h) (fun h => .inr (Nat.lt_of_lt_of_le h hB)))⟩
theorem IStep.of_below {B : Nat} {A A' : World} (h : Below A.heap.size A A') : IStep B A A' :=
  ⟨h.os, h.tape, h.output, h.size, fun b _ hb _ => (h.block b (Array.getElem?_eq_some_iff.1 hb).1).trans hb⟩
theorem IStep.putObj {B : Nat} {A : World} {l : Nat} {o : Obj} (o' : Obj) (hB : B ≤ l) (hl : A.heap[l]? = some o) (ho : o.isCells = false) : IStep B A (A.putObj l o') :=
  ⟨rfl, rfl, rfl, by simp, fun b x hb hx => by
    by_cases e : b = l
    · subst e
      rw [hl] at hb
      cases hb
      rcases hx with hx | hx
      · rw [ho] at hx; cases hx
      · omega
    · exact (World.putObj_heap_other e).trans hb⟩
theorem IStep.cell {B : Nat} {A A' : World} {a : Addr} {v : Value} (h : IStep B A A') (hc : A.cell? a = some v) : A'.cell? a = some v := by
  have hb : ∃ o, A.heap[a.block]? = some o ∧ o.isCells = true := by
    unfold World.cell? at hc
    cases ho : A.heap[a.block]? with
    | none => simp [ho] at hc
    | some o => exact ⟨o, rfl, by cases o <;> simp_all [Obj.isCells]⟩
  obtain ⟨o, ho, hcs⟩ := hb
  exact (World.cell?_of_block (w := A) ((h.block _ _ ho (.inl hcs)).trans ho.symm)).trans hc
theorem IStep.below {B n : Nat} {A A' : World} (h : IStep B A A') (hn : n ≤ B) (hs : n ≤ A.heap.size) : Below n A A' :=
  ⟨h.os, h.tape, h.output, h.size, fun k hk => by
    have hlt : k < A.heap.size := by omega
    rw [h.block k _ (Array.getElem?_eq_getElem hlt) (.inr (by omega)), Array.getElem?_eq_getElem hlt]⟩
theorem IStep.boxed {B : Nat} {A A' : World} {b : Nat} {t : TypeId} {v : Value} (h : IStep B A A') (hb : Boxed A b t v) : Boxed A' b t v := h.block b _ hb (.inl rfl)
theorem IStep.owns {B : Nat} {A A' : World} {base : Nat} {e : TypeId} {size : Nat} {v : Value} {n : Nat} {xs : List Value} (h : IStep B A A') (ho : A.ownsRow base e size v n xs) : A'.ownsRow base e size v n xs := by
  obtain ⟨h1, h2⟩ := ho
  refine ⟨h1, ?_⟩
  rcases h2 with h2 | ⟨g, cap, cur, hv, hg, hh, r⟩
  · exact .inl h2
  · exact .inr ⟨g, cap, cur, hv, hg, h.block g _ hh (.inl rfl), r⟩

/-- What a round keeps: what is no cells from B on, and the blocks of Prot. -/
structure RStep (B : Nat) (Prot : Nat → Prop) (A A' : World) : Prop where
  os : A'.os = A.os
  tape : A'.tape = A.tape
  output : A'.output = A.output
  size : A.heap.size ≤ A'.heap.size
  block : ∀ b o, A.heap[b]? = some o → (o.isCells = false ∧ B ≤ b ∨ Prot b) → A'.heap[b]? = some o

theorem RStep.refl (B : Nat) (Pr : Nat → Prop) (A : World) : RStep B Pr A A := ⟨rfl, rfl, rfl, Nat.le_refl _, fun _ _ h _ => h⟩
theorem RStep.trans {B : Nat} {Pr : Nat → Prop} {X Y Z : World} (h : RStep B Pr X Y) (k : RStep B Pr Y Z) : RStep B Pr X Z :=
  ⟨k.os.trans h.os, k.tape.trans h.tape, k.output.trans h.output, Nat.le_trans h.size k.size, fun b o hb ho => k.block b o (h.block b o hb ho) ho⟩
theorem RStep.mono {B B' : Nat} {Pr Pr' : Nat → Prop} {X Y : World} (h : RStep B Pr X Y) (hB : B ≤ B') (hP : ∀ b, Pr' b → Pr b) : RStep B' Pr' X Y :=
  ⟨h.os, h.tape, h.output, h.size, fun b o hb ho => h.block b o hb (ho.elim (fun h => .inl ⟨h.1, Nat.le_trans hB h.2⟩) (fun h => .inr (hP b h)))⟩
theorem RStep.of_below {B : Nat} {Pr : Nat → Prop} {A A' : World} (h : Below A.heap.size A A') : RStep B Pr A A' :=
  ⟨h.os, h.tape, h.output, h.size, fun b _ hb _ => (h.block b (Array.getElem?_eq_some_iff.1 hb).1).trans hb⟩
theorem RStep.setCell {B : Nat} {Pr : Nat → Prop} (A : World) (p : Addr) (v : Value) (hp : ¬ Pr p.block) : RStep B Pr A (A.setCell p v) :=
  ⟨rfl, rfl, rfl, by simp [World.setCell], fun b o hb ho => by
    by_cases e : b = p.block
    · subst e
      rcases ho with ho | ho
      · exact (KeepsOthers.setCell A p v).same _ _ hb ho.1
      · exact absurd ho hp
    · exact (Below.heap_setCell A p v b e).trans hb⟩
theorem RStep.grown {B : Nat} {Pr : Nat → Prop} {A A' : World} {row : Option Nat} (hg : A.grownBy A' row) (hr : ∀ j o, row = some j → A.heap[j]? = some o → o.isCells = true ∧ ¬ Pr j) : RStep B Pr A A' :=
  ⟨hg.os, hg.tape, hg.output, hg.size, fun b o hb ho => (hg.block b (Array.getElem?_eq_some_iff.1 hb).1 (fun e => by
    obtain ⟨h1, h2⟩ := hr b o e.symm hb
    rcases ho with ho | ho
    · rw [h1] at ho; cases ho.1
    · exact h2 ho)).trans hb⟩
theorem RStep.cell {B : Nat} {Pr : Nat → Prop} {A A' : World} {a : Addr} {v : Value} (h : RStep B Pr A A') (hp : Pr a.block) (hc : A.cell? a = some v) : A'.cell? a = some v := by
  have hb : ∃ o, A.heap[a.block]? = some o := by
    unfold World.cell? at hc
    cases ho : A.heap[a.block]? with
    | none => simp [ho] at hc
    | some o => exact ⟨o, rfl⟩
  obtain ⟨o, ho⟩ := hb
  exact (World.cell?_of_block (w := A) ((h.block _ _ ho (.inr hp)).trans ho.symm)).trans hc
theorem RStep.putObj {B : Nat} {Pr : Nat → Prop} {A : World} {l : Nat} (o' : Obj) (hB : l < B) (hp : ¬ Pr l) : RStep B Pr A (A.putObj l o') :=
  ⟨rfl, rfl, rfl, by simp, fun b x hb hx => by
    by_cases e : b = l
    · subst e
      rcases hx with hx | hx
      · omega
      · exact absurd hx hp
    · exact (World.putObj_heap_other e).trans hb⟩

/-- The iterator's contract: called in W it makes the rounds of ys, one by one; or it stops where a round has said 'no more'. -/
def Iter {α : Type} (P : Program) (g : Nat) (lb : Array Value) (enc : α → Array Value) (ys : List α) (Prot : Nat → Prop) (W : World) : Prop :=
  ∀ (l : Nat) (J Jx : Nat → World → Prop),
    (∀ k A A', J k A → IStep W.heap.size A A' → J k A') → (∀ k A A', Jx k A → IStep W.heap.size A A' → Jx k A') →
    (∀ k (hk : k < ys.length) A, J k A → YieldAt Fence.wide 0 P l (enc ys[k]) A fun e A' =>
      (e = .returned (.bool true) ∧ J (k + 1) A' ∧ RStep W.heap.size Prot A A') ∨ (e = .returned (.bool false) ∧ Jx (k + 1) A')) →
    J 0 W →
    CallsIn Fence.wide 0 P g (#[.func (.yield l) #[] #[]] ++ lb) W fun e W' => (∃ v, e = .returned v) ∧ (J ys.length W' ∨ ∃ k, k ≤ ys.length ∧ Jx k W')

/-- How the body of a round may be left. -/
def endR (B : Nat) (Prot : Nat → Prop) (I : Nat → World → Prop) (Ix : Code → Nat → World → Prop) (k : Nat) (W : World) : Exit → Act → World → Prop
  | .normal, _, W' => RStep B Prot W W' ∧ I k W'
  | .ret, _, W' => RStep B (fun _ => False) W W' ∧ Ix .ret k W'
  | .exit id, _, W' => RStep B (fun _ => False) W W' ∧ Ix (.exit id) k W'
  | .goto t, _, W' => RStep B (fun _ => False) W W' ∧ Ix (.goto t) k W'
  | .panic _, _, _ => False
  | .outgrown, _, _ => False

/-- One round: the law's own book-keeping round the assignments and the body. -/
def roundHyp {α : Type} (P : Program) (enc : α → Array Value) (ys : List α) (Prot : Nat → Prop) (ps : Array Tmp) (assign body : Code) (a : Act) (w : World) (I : Nat → World → Prop) (Ix : Code → Nat → World → Prop) : Prop :=
  ∀ (l k : Nat) (hk : k < ys.length) (W : World), w.heap.size ≤ l → I k W →
    assign.wpIn (Fence.wide.inRound l) 0 P (Exit.then (fun a1 W1 => RStep w.heap.size Prot W W1 ∧ ∀ W2, IStep w.heap.size W1 W2 → (∃ r, W2.heap[l]? = some (.loop r)) →
        body.wpIn (Fence.wide.inRound l) 0 P (endR w.heap.size Prot I Ix (k + 1) W2) a1 W2) (fun _ _ _ => False))
      { tmps := (ps.zip (enc ys[k])).foldl (fun t (p, v) => t.setIfInBounds p v) a.tmps, defers := [] } W

/-- The round itself, out of roundHyp, whatever the record's number and where the deferred calls go. -/
theorem round_yield {α : Type} {P : Program} {enc : α → Array Value} {ys : List α} {Prot : Nat → Prop} {ps : Array Tmp} {assign body : Code} {a : Act} {w W1 : World} {I : Nat → World → Prop} {Ix : Code → Nat → World → Prop}
    (hI : ∀ k A A', I k A → IStep w.heap.size A A' → I k A') (hIx : ∀ c k A A', Ix c k A → IStep w.heap.size A A' → Ix c k A')
    (hps : ∀ x, (enc x).size = ps.size) (hP : ∀ b, Prot b → b < w.heap.size)
    (hround : roundHyp P enc ys Prot ps assign body a w I Ix)
    (L : Nat) (fn : FuncId) (rec : LoopState → Option Code → Loop) (hrec : ∃ D, rec = fun st pe => { state := st, pending := pe, fn, tmps := a.tmps, params := ps, assign, body, defers := D })
    (hLw : w.heap.size ≤ L) (hLW : L < W1.heap.size) (G : World → Prop) (hG : ∀ A A', G A → RStep w.heap.size (fun _ => False) A A' → G A') (hG2 : ∀ A o, G A → G (A.putObj L o))
    (k : Nat) (hk : k < ys.length) (A : World) (hi : I k A) (hl : A.heap[L]? = some (.loop (rec .ready none))) (hg : G A) :
    YieldAt Fence.wide 0 P L (enc ys[k]) A fun e A' =>
      (e = .returned (.bool true) ∧ (I (k + 1) A' ∧ A'.heap[L]? = some (.loop (rec .ready none)) ∧ G A') ∧ RStep W1.heap.size Prot A A') ∨
      (e = .returned (.bool false) ∧ ∃ c, Ix c (k + 1) A' ∧ A'.heap[L]? = some (.loop (rec .done (some c))) ∧ G A') := by
  obtain ⟨D, hrec⟩ := hrec
  have hLP : ¬ Prot L := fun h => by have := hP L h; omega
  have hy := run_yield (P := P) (args := enc ys[k]) hl (by rw [hrec]; exact hps _)
  rw [hrec] at hy
  refine ⟨fn, _, assign, body, hy, roundIn_of_wpIn trivial ?_⟩
  refine wpIn_mono (hround L k hk A hLw hi) ?_
  rintro e a1 Wa h1
  cases e with
  | normal =>
    obtain ⟨hr1, hbody⟩ := h1
    have hl1 := hr1.block L _ hl (.inl ⟨rfl, hLw⟩)
    have hltA : L < Wa.heap.size := (Array.getElem?_eq_some_iff.1 hl1).1
    refine ⟨_, run_beginRound hl1 (by rw [hrec]), ?_⟩
    have hl2 : (Wa.putObj L (.loop { rec .ready none with state := .busy })).heap[L]? = some (.loop { rec .ready none with state := .busy }) := World.putObj_heap_same hltA
    have hg1 : G Wa := hG _ _ hg (hr1.mono (Nat.le_refl _) (fun _ h => h.elim))
    refine wpIn_mono (hbody _ (IStep.putObj _ hLw hl1 rfl) ⟨_, hl2⟩) ?_
    have fin : ∀ (jump : Option Code) (W3 : World), RStep w.heap.size (fun _ => False) (Wa.putObj L (.loop { rec .ready none with state := .busy })) W3 →
        (Instr.endRound L jump).run P W3 = .ok (.bool jump.isNone) (W3.putObj L (.loop (rec (if jump.isNone then .ready else .done) jump))) ∧
        W3.heap[L]? = some (.loop { rec .ready none with state := .busy }) ∧
        (W3.putObj L (.loop (rec (if jump.isNone then .ready else .done) jump))).heap[L]? = some (.loop (rec (if jump.isNone then .ready else .done) jump)) ∧
        G (W3.putObj L (.loop (rec (if jump.isNone then .ready else .done) jump))) := fun jump W3 hk3 => by
      have hl3 := hk3.block _ _ hl2 (.inl ⟨rfl, hLw⟩)
      have hg3 := hG _ _ (hG2 _ (.loop { rec .ready none with state := .busy }) hg1) hk3
      have := run_endRound (P := P) jump hl3
      rw [hrec] at this ⊢ hl3
      exact ⟨this, hl3, World.putObj_heap_same (Array.getElem?_eq_some_iff.1 hl3).1, hG2 _ _ hg3⟩
    rintro e a3 W3 hp
    cases e with
    | normal =>
      obtain ⟨hk3, hi3⟩ := hp
      obtain ⟨hr, hl3, hl4, hg4⟩ := fin none W3 (hk3.mono (Nat.le_refl _) (fun _ h => h.elim))
      refine ⟨_, _, hr, .inl ⟨rfl, ⟨hI _ _ _ hi3 (IStep.putObj _ hLw hl3 rfl), hl4, hg4⟩, ?_⟩⟩
      have e1 : RStep W1.heap.size Prot A Wa := hr1.mono (by omega) (fun _ h => h)
      have e2 : RStep W1.heap.size Prot Wa (Wa.putObj L (.loop { rec .ready none with state := .busy })) := RStep.putObj _ hLW hLP
      have e3 : RStep W1.heap.size Prot _ W3 := hk3.mono (by omega) (fun _ h => h)
      exact ((e1.trans e2).trans e3).trans (RStep.putObj _ hLW hLP)
    | ret =>
      obtain ⟨hk3, hi3⟩ := hp
      obtain ⟨hr, hl3, hl4, hg4⟩ := fin (some .ret) W3 hk3
      exact ⟨_, _, hr, .inr ⟨rfl, .ret, hIx _ _ _ _ hi3 (IStep.putObj _ hLw hl3 rfl), hl4, hg4⟩⟩
    | exit id =>
      obtain ⟨hk3, hi3⟩ := hp
      obtain ⟨hr, hl3, hl4, hg4⟩ := fin (some (.exit id)) W3 hk3
      exact ⟨_, _, hr, .inr ⟨rfl, .exit id, hIx _ _ _ _ hi3 (IStep.putObj _ hLw hl3 rfl), hl4, hg4⟩⟩
    | goto t =>
      obtain ⟨hk3, hi3⟩ := hp
      obtain ⟨hr, hl3, hl4, hg4⟩ := fin (some (.goto t)) W3 hk3
      exact ⟨_, _, hr, .inr ⟨rfl, .goto t, hIx _ _ _ _ hi3 (IStep.putObj _ hLw hl3 rfl), hl4, hg4⟩⟩
    | panic ch => exact hp.elim
    | outgrown => exact hp.elim
  | exit id => exact h1.elim
  | goto t => exact h1.elim
  | ret => exact h1.elim
  | panic chain => exact h1.elim
  | outgrown => exact h1.elim

/-- The statement 'for .. := range g { .. }' outside every round. -/
theorem rf_outer {α : Type} {P : Program} {g : Operand} {ps : Array Tmp} {assign body : Code} {Q : Exit → Act → World → Prop} {a : Act} {w : World}
    {gf : Nat} {lb : Array Value} {enc : α → Array Value} (ys : List α) (Prot : Nat → Prop) (I : Nat → World → Prop) (Ix : Code → Nat → World → Prop)
    (hg : a.eval g = .func (.func gf) #[] lb) (eg : ∀ args w, (callFunc gf args).run P w = .ok (.enter gf args) w)
    (hps : ∀ x, (enc x).size = ps.size) (hP : ∀ b, Prot b → b < w.heap.size)
    (hit : ∀ W, Below w.heap.size w W → Iter P gf lb enc ys Prot W)
    (hI : ∀ k A A', I k A → IStep w.heap.size A A' → I k A') (hIx : ∀ c k A A', Ix c k A → IStep w.heap.size A A' → Ix c k A')
    (h0 : I 0 w)
    (hround : roundHyp P enc ys Prot ps assign body a w I Ix)
    (hdone : ∀ D W, w.heap.size ≤ D → I ys.length W → W.heap[D]? = some (.deferred (some [])) → Q .normal { a with defers := { target := .collected D, args := #[] } :: a.defers } W)
    (hstop : ∀ D c k W, w.heap.size ≤ D → k ≤ ys.length → Ix c k W → W.heap[D]? = some (.deferred (some [])) → c.wpIn Fence.wide 0 P Q { a with defers := { target := .collected D, args := #[] } :: a.defers } W) :
    (Code.rangeFunc g ps assign body).wpIn Fence.wide 0 P Q a w := by
  refine wpIn_rangeFunc ?_
  intro fn _
  obtain ⟨rec, hrec⟩ : ∃ rec : LoopState → Option Code → Loop, rec = fun st pe => { state := st, pending := pe, fn, tmps := a.tmps, params := ps, assign, body, defers := w.heap.size } := ⟨_, rfl⟩
  obtain ⟨W1, hW1⟩ : ∃ W1, (w.alloc (.deferred (some []))).alloc (.loop (rec .ready none)) = W1 := ⟨_, rfl⟩
  have hL1 : W1.heap[w.heap.size + 1]? = some (.loop (rec .ready none)) := by
    rw [← hW1]; have := World.alloc_heap_new (w.alloc (.deferred (some []))) (.loop (rec .ready none)); rwa [World.size_alloc] at this
  have hK1 : W1.heap[w.heap.size]? = some (.deferred (some [])) := by
    rw [← hW1]; exact (Below.heap_alloc _ _ _ (by simp)).trans (World.alloc_heap_new w _)
  have hb1 : Below w.heap.size w W1 := by
    rw [← hW1]; exact ((Below.refl _ w).alloc (Nat.le_refl _) _).alloc (by simp) _
  have hLW : w.heap.size + 1 < W1.heap.size := (Array.getElem?_eq_some_iff.1 hL1).1
  have hI1 : I 0 W1 := hI _ _ _ h0 (IStep.of_below hb1)
  refine ⟨w.heap.size + 1, [{ target := .collected w.heap.size, args := #[] }], W1, { target := .fn (.func gf) lb, args := #[.func (.yield (w.heap.size + 1)) #[] #[]] }, W1, gf,
    #[.func (.yield (w.heap.size + 1)) #[] #[]] ++ lb, W1, ?_, ?_, ?_, ?_, ?_, ?_⟩
  · rw [← hW1, hrec]; exact run_enterLoop_outer _ _ _ _ _
  · simp only [resolve, hg]
    simp [go_sem]
  · intro f' hf'; exact trivial
  · simp [invoke, go_sem, eg]
  · intro h; simp [Fence.wide] at h
  · refine ((hit W1 hb1) (w.heap.size + 1)
      (fun k A => I k A ∧ A.heap[w.heap.size + 1]? = some (.loop (rec .ready none)) ∧ A.heap[w.heap.size]? = some (.deferred (some [])))
      (fun k A => ∃ c, Ix c k A ∧ A.heap[w.heap.size + 1]? = some (.loop (rec .done (some c))) ∧ A.heap[w.heap.size]? = some (.deferred (some [])))
      (fun k A B hs hg' => ⟨hI _ _ _ hs.1 (hg'.mono hb1.size), hg'.block _ _ hs.2.1 (.inr hLW), hg'.block _ _ hs.2.2 (.inr (by omega))⟩)
      (fun k A B hs hg' => by
        obtain ⟨c, hc, hl, hk⟩ := hs
        exact ⟨c, hIx _ _ _ _ hc (hg'.mono hb1.size), hg'.block _ _ hl (.inr hLW), hg'.block _ _ hk (.inr (by omega))⟩)
      ?_ ⟨hI1, hL1, hK1⟩).mono ?_
    · rintro k hk A ⟨hi, hl, hd⟩
      refine round_yield (W1 := W1) hI hIx hps hP hround (w.heap.size + 1) fn rec ⟨_, hrec⟩ (by omega) hLW (fun A => A.heap[w.heap.size]? = some (.deferred (some [])))
        (fun A A' h hr => hr.block _ _ h (.inl ⟨rfl, Nat.le_refl _⟩)) (fun A o h => (World.putObj_heap_other (by omega)).trans h) k hk A hi hl hd
    · rintro e W2 ⟨⟨v, rfl⟩, (⟨hi, hl, hk⟩ | ⟨k, hle, c, hi, hl, hk⟩)⟩
      · exact ⟨none, _, by have := run_endLoop (P := P) hl (by rw [hrec]; simp); rw [hrec] at this; exact this, hdone _ _ (Nat.le_refl _) (hI _ _ _ hi (IStep.putObj _ (by omega) hl rfl)) ((World.putObj_heap_other (by omega)).trans hk)⟩
      · exact ⟨some c, _, by have := run_endLoop (P := P) hl (by rw [hrec]; simp); rw [hrec] at this; exact this, hstop _ c k _ (Nat.le_refl _) hle (hIx _ _ _ _ hi (IStep.putObj _ (by omega) hl rfl)) ((World.putObj_heap_other (by omega)).trans hk)⟩

/-- The statement within a round of loop l₀. -/
theorem rf_inner {α : Type} {P : Program} {g : Operand} {ps : Array Tmp} {assign body : Code} {Q : Exit → Act → World → Prop} {a : Act} {w : World} {l₀ : Nat}
    {gf : Nat} {lb : Array Value} {enc : α → Array Value} (ys : List α) (Prot : Nat → Prop) (I : Nat → World → Prop) (Ix : Code → Nat → World → Prop)
    (hl₀ : ∃ r₀, w.heap[l₀]? = some (.loop r₀))
    (hg : a.eval g = .func (.func gf) #[] lb) (eg : ∀ args w, (callFunc gf args).run P w = .ok (.enter gf args) w)
    (hps : ∀ x, (enc x).size = ps.size) (hP : ∀ b, Prot b → b < w.heap.size)
    (hit : ∀ W, Below w.heap.size w W → Iter P gf lb enc ys Prot W)
    (hI : ∀ k A A', I k A → IStep w.heap.size A A' → I k A') (hIx : ∀ c k A A', Ix c k A → IStep w.heap.size A A' → Ix c k A')
    (h0 : I 0 w)
    (hround : roundHyp P enc ys Prot ps assign body a w I Ix)
    (hdone : ∀ W, I ys.length W → Q .normal a W)
    (hstop : ∀ c k W, k ≤ ys.length → Ix c k W → c.wpIn (Fence.wide.inRound l₀) 0 P Q a W) :
    (Code.rangeFunc g ps assign body).wpIn (Fence.wide.inRound l₀) 0 P Q a w := by
  obtain ⟨r₀, hr₀⟩ := hl₀
  refine wpIn_rangeFunc ?_
  intro fn _
  obtain ⟨rec, hrec⟩ : ∃ rec : LoopState → Option Code → Loop, rec = fun st pe => { state := st, pending := pe, fn, tmps := a.tmps, params := ps, assign, body, defers := r₀.defers } := ⟨_, rfl⟩
  obtain ⟨W1, hW1⟩ : ∃ W1, w.alloc (.loop (rec .ready none)) = W1 := ⟨_, rfl⟩
  have hL1 : W1.heap[w.heap.size]? = some (.loop (rec .ready none)) := by
    rw [← hW1]; exact World.alloc_heap_new w _
  have hb1 : Below w.heap.size w W1 := by
    rw [← hW1]; exact (Below.refl _ w).alloc (Nat.le_refl _) _
  have hLW : w.heap.size < W1.heap.size := (Array.getElem?_eq_some_iff.1 hL1).1
  have hI1 : I 0 W1 := hI _ _ _ h0 (IStep.of_below hb1)
  refine ⟨w.heap.size, [], W1, { target := .fn (.func gf) lb, args := #[.func (.yield w.heap.size) #[] #[]] }, W1, gf,
    #[.func (.yield w.heap.size) #[] #[]] ++ lb, W1, ?_, ?_, ?_, ?_, ?_, ?_⟩
  · rw [← hW1, hrec]; exact run_enterLoop_inner hr₀ _ _ _ _ _
  · simp only [resolve, hg]
    simp [go_sem]
  · intro f' hf'; exact trivial
  · simp [invoke, go_sem, eg]
  · intro h; simp [Fence.wide] at h
  · refine (CallsIn.inRound l₀ ((hit W1 hb1) w.heap.size
      (fun k A => I k A ∧ A.heap[w.heap.size]? = some (.loop (rec .ready none)) ∧ True)
      (fun k A => ∃ c, Ix c k A ∧ A.heap[w.heap.size]? = some (.loop (rec .done (some c))) ∧ True)
      (fun k A B hs hg' => ⟨hI _ _ _ hs.1 (hg'.mono hb1.size), hg'.block _ _ hs.2.1 (.inr hLW), trivial⟩)
      (fun k A B hs hg' => by
        obtain ⟨c, hc, hl, _⟩ := hs
        exact ⟨c, hIx _ _ _ _ hc (hg'.mono hb1.size), hg'.block _ _ hl (.inr hLW), trivial⟩)
      ?_ ⟨hI1, hL1, trivial⟩)).mono ?_
    · rintro k hk A ⟨hi, hl, _⟩
      exact round_yield (W1 := W1) hI hIx hps hP hround w.heap.size fn rec ⟨_, hrec⟩ (Nat.le_refl _) hLW (fun _ => True) (fun _ _ _ _ => trivial) (fun _ _ _ => trivial) k hk A hi hl trivial
    · rintro e W2 ⟨⟨v, rfl⟩, (⟨hi, hl, _⟩ | ⟨k, hle, c, hi, hl, _⟩)⟩
      · exact ⟨none, _, by have := run_endLoop (P := P) hl (by rw [hrec]; simp); rw [hrec] at this; exact this, hdone _ (hI _ _ _ hi (IStep.putObj _ (Nat.le_refl _) hl rfl))⟩
      · exact ⟨some c, _, by have := run_endLoop (P := P) hl (by rw [hrec]; simp); rw [hrec] at this; exact this, hstop c k _ hle (hIx _ _ _ _ hi (IStep.putObj _ (Nat.le_refl _) hl rfl))⟩

/-- At the return of a function that held such a loop: the block for deferred calls is shut. -/
theorem takes_below {w W : World} {D : Nat} (hD : w.heap.size ≤ D) (hK : W.heap[D]? = some (.deferred (some []))) (hB : Below w.heap.size w W) : Below w.heap.size w (W.putObj D (.deferred none)) :=
  hB.trans ((IStep.putObj (B := w.heap.size) _ hD hK rfl).below (Nat.le_refl _) hB.size)

/-- At a call within the fenced walk: the plain contract serves. -/
theorem inC {P : Program} {f : FuncId} {args : Array Value} {w : World} {R K : Ending → World → Prop} (h : Calls P f args w R) (hk : ∀ e w', R e w' → K e w') :
    Fence.wide.fn f ∧ Fence.wide.depth = none ∧ CallsIn Fence.wide 0 P f args w K := ⟨trivial, rfl, (callsIn_wide.2 h).mono hk⟩
/-- The same within a round. -/
theorem inCr {P : Program} {l : Nat} {f : FuncId} {args : Array Value} {w : World} {R K : Ending → World → Prop} (h : Calls P f args w R) (hk : ∀ e w', R e w' → K e w') :
    (Fence.wide.inRound l).fn f ∧ (Fence.wide.inRound l).depth = none ∧ CallsIn (Fence.wide.inRound l) 0 P f args w K := ⟨trivial, rfl, CallsIn.inRound l ((callsIn_wide.2 h).mono hk)⟩

end
section
open Go.RowKit
set_option linter.unusedVariables false
set_option linter.unusedSimpArgs false
set_option maxRecDepth 20000

/-- marks of loops over functions that are over -/
def Mk (lo : Nat) : List Deferred → World → Prop
  | [], _ => True
  | d :: ds, W => ∃ D, d = { target := .collected D, args := #[] } ∧ lo ≤ D ∧ W.heap[D]? = some (.deferred (some [])) ∧ (∀ d' ∈ ds, d' ≠ d) ∧ Mk lo ds W
theorem Mk.keep {lo : Nat} {ds : List Deferred} {W W' : World} (h : Mk lo ds W) (hk : ∀ D : Nat, W.heap[D]? = some (Obj.deferred (some [])) → W'.heap[D]? = some (Obj.deferred (some []))) : Mk lo ds W' := by
  induction ds with
  | nil => trivial
  | cons d ds ih =>
    obtain ⟨D, h1, h2, h3, h4, h5⟩ := h
    exact ⟨D, h1, h2, hk D h3, h4, ih h5⟩
theorem Mk.lt {lo : Nat} {ds : List Deferred} {W : World} (h : Mk lo ds W) : ∀ d ∈ ds, ∃ D, d = { target := .collected D, args := #[] } ∧ D < W.heap.size := by
  induction ds with
  | nil => intro d hd; simp at hd
  | cons d ds ih =>
    obtain ⟨D, h1, h2, h3, h4, h5⟩ := h
    intro d' hd
    rcases List.mem_cons.1 hd with rfl | hd
    · exact ⟨D, h1, (Array.getElem?_eq_some_iff.1 h3).1⟩
    · exact ih h5 d' hd
/-- a new mark -/
theorem Mk.cons {lo : Nat} {ds : List Deferred} {W0 W : World} {D : Nat} (h0 : Mk lo ds W0) (hD : W0.heap.size ≤ D) (h : Mk lo ds W) (hlo : lo ≤ D) (hm : W.heap[D]? = some (.deferred (some []))) : Mk lo ({ target := .collected D, args := #[] } :: ds) W :=
  ⟨D, rfl, hlo, hm, fun d' hd e => by
    obtain ⟨D', e1, hlt⟩ := h0.lt d' hd
    rw [e1] at e
    injection e with e
    injection e with e
    omega, h⟩
/-- at the return all marks are taken -/
theorem leaves_marks {fn : Func} {tmps : Array Value} {R : Ending → World → Prop} {lo : Nat} : ∀ (ds : List Deferred) (W : World), Mk lo ds W →
    (∀ W', W'.os = W.os → W'.tape = W.tape → W'.output = W.output → W'.heap.size = W.heap.size → (∀ b o, W.heap[b]? = some o → (o.isCells = true ∨ b < lo) → W'.heap[b]? = some o) → LeavesInM Fence.wide 0 Try.prog fn tmps R [] .returning W') →
    LeavesInM Fence.wide 0 Try.prog fn tmps R ds .returning W
  | [], W, _, h => h W rfl rfl rfl rfl (fun _ _ h _ => h)
  | d :: ds, W, hm, h => by
    obtain ⟨D, rfl, h2, h3, h4, h5⟩ := hm
    refine ⟨by simp, .inl ⟨D, _, rfl, run_takeDeferred h3, ?_⟩⟩
    refine leaves_marks ds _ ?_ (fun W' a1 a2 a3 a4 a5 => h W' (a1.trans rfl) (a2.trans rfl) (a3.trans rfl) (a4.trans (by simp)) (fun b o hb ho => a5 b o ?_ ho))
    · have key : ∀ ds', (∀ d' ∈ ds', d' ≠ ({ target := .collected D, args := #[] } : Deferred)) → Mk lo ds' W → Mk lo ds' (W.putObj D (.deferred none)) := by
        intro ds'
        induction ds' with
        | nil => intros; trivial
        | cons e es ih =>
          intro hne hmk
          obtain ⟨D2, rfl, k2, k3, k4, k5⟩ := hmk
          refine ⟨D2, rfl, k2, ?_, k4, ih (fun d' hd => hne d' (by simp [hd])) k5⟩
          have hDD : D2 ≠ D := fun e => by
            have := hne { target := .collected D2, args := #[] } (by simp)
            rw [e] at this; exact this rfl
          exact (World.putObj_heap_other hDD).trans k3
      exact key ds h4 h5
    · have hbD : b ≠ D := fun e => by
        subst e
        rw [h3] at hb
        injection hb with hb
        subst hb
        rcases ho with ho | ho
        · simp [Obj.isCells] at ho
        · omega
      exact (World.putObj_heap_other hbD).trans hb

end
section
open Go.RowKit
set_option linter.unusedVariables false
set_option linter.unusedSimpArgs false

/-- The iterator's contract: called in W it makes the rounds of ys, one by one; or it stops where a round has said 'no more'. -/
def IterV {α : Type} (P : Program) (g : Nat) (lb : Array Value) (Rel : α → Array Value → World → Prop) (ys : List α) (Prot : Nat → Prop) (W : World) : Prop :=
  ∀ (l : Nat) (J Jx : Nat → World → Prop),
    (∀ k A A', J k A → IStep W.heap.size A A' → J k A') → (∀ k A A', Jx k A → IStep W.heap.size A A' → Jx k A') →
    (∀ k (hk : k < ys.length) A xv, J k A → Rel ys[k] xv A → YieldAt Fence.wide 0 P l xv A fun e A' =>
      (e = .returned (.bool true) ∧ J (k + 1) A' ∧ RStep W.heap.size Prot A A') ∨ (e = .returned (.bool false) ∧ Jx (k + 1) A')) →
    J 0 W →
    CallsIn Fence.wide 0 P g (#[.func (.yield l) #[] #[]] ++ lb) W fun e W' => (∃ v, e = .returned v) ∧ (J ys.length W' ∨ ∃ k, k ≤ ys.length ∧ Jx k W')

/-- One round: the law's own book-keeping round the assignments and the body. -/
def roundHypV {α : Type} (P : Program) (Rel : α → Array Value → World → Prop) (ys : List α) (Prot : Nat → Prop) (ps : Array Tmp) (assign body : Code) (a : Act) (w : World) (I : Nat → World → Prop) (Ix : Code → Nat → World → Prop) : Prop :=
  ∀ (l k : Nat) (hk : k < ys.length) (W : World) (xv : Array Value), w.heap.size ≤ l → I k W → Rel ys[k] xv W →
    assign.wpIn (Fence.wide.inRound l) 0 P (Exit.then (fun a1 W1 => RStep w.heap.size Prot W W1 ∧ ∀ W2, IStep w.heap.size W1 W2 → (∃ r, W2.heap[l]? = some (.loop r)) →
        body.wpIn (Fence.wide.inRound l) 0 P (endR w.heap.size Prot I Ix (k + 1) W2) a1 W2) (fun _ _ _ => False))
      { tmps := (ps.zip xv).foldl (fun t (p, v) => t.setIfInBounds p v) a.tmps, defers := [] } W

/-- The round itself, out of roundHypV, whatever the record's number and where the deferred calls go. -/
theorem round_yieldV {α : Type} {P : Program} {Rel : α → Array Value → World → Prop} {ys : List α} {Prot : Nat → Prop} {ps : Array Tmp} {assign body : Code} {a : Act} {w W1 : World} {I : Nat → World → Prop} {Ix : Code → Nat → World → Prop}
    (hI : ∀ k A A', I k A → IStep w.heap.size A A' → I k A') (hIx : ∀ c k A A', Ix c k A → IStep w.heap.size A A' → Ix c k A')
    (hps : ∀ x xv A, Rel x xv A → xv.size = ps.size) (hP : ∀ b, Prot b → b < w.heap.size)
    (hround : roundHypV P Rel ys Prot ps assign body a w I Ix)
    (L : Nat) (fn : FuncId) (rec : LoopState → Option Code → Loop) (hrec : ∃ D, rec = fun st pe => { state := st, pending := pe, fn, tmps := a.tmps, params := ps, assign, body, defers := D })
    (hLw : w.heap.size ≤ L) (hLW : L < W1.heap.size) (G : World → Prop) (hG : ∀ A A', G A → RStep w.heap.size (fun _ => False) A A' → G A') (hG2 : ∀ A o, G A → G (A.putObj L o))
    (k : Nat) (hk : k < ys.length) (A : World) (xv : Array Value) (hrl : Rel ys[k] xv A) (hi : I k A) (hl : A.heap[L]? = some (.loop (rec .ready none))) (hg : G A) :
    YieldAt Fence.wide 0 P L xv A fun e A' =>
      (e = .returned (.bool true) ∧ (I (k + 1) A' ∧ A'.heap[L]? = some (.loop (rec .ready none)) ∧ G A') ∧ RStep W1.heap.size Prot A A') ∨
      (e = .returned (.bool false) ∧ ∃ c, Ix c (k + 1) A' ∧ A'.heap[L]? = some (.loop (rec .done (some c))) ∧ G A') := by
  obtain ⟨D, hrec⟩ := hrec
  have hLP : ¬ Prot L := fun h => by have := hP L h; omega
  have hy := run_yield (P := P) (args := xv) hl (by rw [hrec]; exact hps _ _ _ hrl)
  rw [hrec] at hy
  refine ⟨fn, _, assign, body, hy, roundIn_of_wpIn trivial ?_⟩
  refine wpIn_mono (hround L k hk A xv hLw hi hrl) ?_
  rintro e a1 Wa h1
  cases e with
  | normal =>
    obtain ⟨hr1, hbody⟩ := h1
    have hl1 := hr1.block L _ hl (.inl ⟨rfl, hLw⟩)
    have hltA : L < Wa.heap.size := (Array.getElem?_eq_some_iff.1 hl1).1
    refine ⟨_, run_beginRound hl1 (by rw [hrec]), ?_⟩
    have hl2 : (Wa.putObj L (.loop { rec .ready none with state := .busy })).heap[L]? = some (.loop { rec .ready none with state := .busy }) := World.putObj_heap_same hltA
    have hg1 : G Wa := hG _ _ hg (hr1.mono (Nat.le_refl _) (fun _ h => h.elim))
    refine wpIn_mono (hbody _ (IStep.putObj _ hLw hl1 rfl) ⟨_, hl2⟩) ?_
    have fin : ∀ (jump : Option Code) (W3 : World), RStep w.heap.size (fun _ => False) (Wa.putObj L (.loop { rec .ready none with state := .busy })) W3 →
        (Instr.endRound L jump).run P W3 = .ok (.bool jump.isNone) (W3.putObj L (.loop (rec (if jump.isNone then .ready else .done) jump))) ∧
        W3.heap[L]? = some (.loop { rec .ready none with state := .busy }) ∧
        (W3.putObj L (.loop (rec (if jump.isNone then .ready else .done) jump))).heap[L]? = some (.loop (rec (if jump.isNone then .ready else .done) jump)) ∧
        G (W3.putObj L (.loop (rec (if jump.isNone then .ready else .done) jump))) := fun jump W3 hk3 => by
      have hl3 := hk3.block _ _ hl2 (.inl ⟨rfl, hLw⟩)
      have hg3 := hG _ _ (hG2 _ (.loop { rec .ready none with state := .busy }) hg1) hk3
      have := run_endRound (P := P) jump hl3
      rw [hrec] at this ⊢ hl3
      exact ⟨this, hl3, World.putObj_heap_same (Array.getElem?_eq_some_iff.1 hl3).1, hG2 _ _ hg3⟩
    rintro e a3 W3 hp
    cases e with
    | normal =>
      obtain ⟨hk3, hi3⟩ := hp
      obtain ⟨hr, hl3, hl4, hg4⟩ := fin none W3 (hk3.mono (Nat.le_refl _) (fun _ h => h.elim))
      refine ⟨_, _, hr, .inl ⟨rfl, ⟨hI _ _ _ hi3 (IStep.putObj _ hLw hl3 rfl), hl4, hg4⟩, ?_⟩⟩
      have e1 : RStep W1.heap.size Prot A Wa := hr1.mono (by omega) (fun _ h => h)
      have e2 : RStep W1.heap.size Prot Wa (Wa.putObj L (.loop { rec .ready none with state := .busy })) := RStep.putObj _ hLW hLP
      have e3 : RStep W1.heap.size Prot _ W3 := hk3.mono (by omega) (fun _ h => h)
      exact ((e1.trans e2).trans e3).trans (RStep.putObj _ hLW hLP)
    | ret =>
      obtain ⟨hk3, hi3⟩ := hp
      obtain ⟨hr, hl3, hl4, hg4⟩ := fin (some .ret) W3 hk3
      exact ⟨_, _, hr, .inr ⟨rfl, .ret, hIx _ _ _ _ hi3 (IStep.putObj _ hLw hl3 rfl), hl4, hg4⟩⟩
    | exit id =>
      obtain ⟨hk3, hi3⟩ := hp
      obtain ⟨hr, hl3, hl4, hg4⟩ := fin (some (.exit id)) W3 hk3
      exact ⟨_, _, hr, .inr ⟨rfl, .exit id, hIx _ _ _ _ hi3 (IStep.putObj _ hLw hl3 rfl), hl4, hg4⟩⟩
    | goto t =>
      obtain ⟨hk3, hi3⟩ := hp
      obtain ⟨hr, hl3, hl4, hg4⟩ := fin (some (.goto t)) W3 hk3
      exact ⟨_, _, hr, .inr ⟨rfl, .goto t, hIx _ _ _ _ hi3 (IStep.putObj _ hLw hl3 rfl), hl4, hg4⟩⟩
    | panic ch => exact hp.elim
    | outgrown => exact hp.elim
  | exit id => exact h1.elim
  | goto t => exact h1.elim
  | ret => exact h1.elim
  | panic chain => exact h1.elim
  | outgrown => exact h1.elim

/-- The statement 'for .. := range g { .. }' outside every round. -/
theorem rf_outerV {α : Type} {P : Program} {g : Operand} {ps : Array Tmp} {assign body : Code} {Q : Exit → Act → World → Prop} {a : Act} {w : World}
    {gf : Nat} {lb : Array Value} {Rel : α → Array Value → World → Prop} (ys : List α) (Prot : Nat → Prop) (I : Nat → World → Prop) (Ix : Code → Nat → World → Prop)
    (hg : a.eval g = .func (.func gf) #[] lb) (eg : ∀ args w, (callFunc gf args).run P w = .ok (.enter gf args) w)
    (hps : ∀ x xv A, Rel x xv A → xv.size = ps.size) (hP : ∀ b, Prot b → b < w.heap.size)
    (hit : ∀ W, Below w.heap.size w W → IterV P gf lb Rel ys Prot W)
    (hI : ∀ k A A', I k A → IStep w.heap.size A A' → I k A') (hIx : ∀ c k A A', Ix c k A → IStep w.heap.size A A' → Ix c k A')
    (h0 : I 0 w)
    (hround : roundHypV P Rel ys Prot ps assign body a w I Ix)
    (hdone : ∀ D W, w.heap.size ≤ D → I ys.length W → W.heap[D]? = some (.deferred (some [])) → Q .normal { a with defers := { target := .collected D, args := #[] } :: a.defers } W)
    (hstop : ∀ D c k W, w.heap.size ≤ D → k ≤ ys.length → Ix c k W → W.heap[D]? = some (.deferred (some [])) → c.wpIn Fence.wide 0 P Q { a with defers := { target := .collected D, args := #[] } :: a.defers } W) :
    (Code.rangeFunc g ps assign body).wpIn Fence.wide 0 P Q a w := by
  refine wpIn_rangeFunc ?_
  intro fn _
  obtain ⟨rec, hrec⟩ : ∃ rec : LoopState → Option Code → Loop, rec = fun st pe => { state := st, pending := pe, fn, tmps := a.tmps, params := ps, assign, body, defers := w.heap.size } := ⟨_, rfl⟩
  obtain ⟨W1, hW1⟩ : ∃ W1, (w.alloc (.deferred (some []))).alloc (.loop (rec .ready none)) = W1 := ⟨_, rfl⟩
  have hL1 : W1.heap[w.heap.size + 1]? = some (.loop (rec .ready none)) := by
    rw [← hW1]; have := World.alloc_heap_new (w.alloc (.deferred (some []))) (.loop (rec .ready none)); rwa [World.size_alloc] at this
  have hK1 : W1.heap[w.heap.size]? = some (.deferred (some [])) := by
    rw [← hW1]; exact (Below.heap_alloc _ _ _ (by simp)).trans (World.alloc_heap_new w _)
  have hb1 : Below w.heap.size w W1 := by
    rw [← hW1]; exact ((Below.refl _ w).alloc (Nat.le_refl _) _).alloc (by simp) _
  have hLW : w.heap.size + 1 < W1.heap.size := (Array.getElem?_eq_some_iff.1 hL1).1
  have hI1 : I 0 W1 := hI _ _ _ h0 (IStep.of_below hb1)
  refine ⟨w.heap.size + 1, [{ target := .collected w.heap.size, args := #[] }], W1, { target := .fn (.func gf) lb, args := #[.func (.yield (w.heap.size + 1)) #[] #[]] }, W1, gf,
    #[.func (.yield (w.heap.size + 1)) #[] #[]] ++ lb, W1, ?_, ?_, ?_, ?_, ?_, ?_⟩
  · rw [← hW1, hrec]; exact run_enterLoop_outer _ _ _ _ _
  · simp only [resolve, hg]
    simp [go_sem]
  · intro f' hf'; exact trivial
  · simp [invoke, go_sem, eg]
  · intro h; simp [Fence.wide] at h
  · refine ((hit W1 hb1) (w.heap.size + 1)
      (fun k A => I k A ∧ A.heap[w.heap.size + 1]? = some (.loop (rec .ready none)) ∧ A.heap[w.heap.size]? = some (.deferred (some [])))
      (fun k A => ∃ c, Ix c k A ∧ A.heap[w.heap.size + 1]? = some (.loop (rec .done (some c))) ∧ A.heap[w.heap.size]? = some (.deferred (some [])))
      (fun k A B hs hg' => ⟨hI _ _ _ hs.1 (hg'.mono hb1.size), hg'.block _ _ hs.2.1 (.inr hLW), hg'.block _ _ hs.2.2 (.inr (by omega))⟩)
      (fun k A B hs hg' => by
        obtain ⟨c, hc, hl, hk⟩ := hs
        exact ⟨c, hIx _ _ _ _ hc (hg'.mono hb1.size), hg'.block _ _ hl (.inr hLW), hg'.block _ _ hk (.inr (by omega))⟩)
      ?_ ⟨hI1, hL1, hK1⟩).mono ?_
    · rintro k hk A xv ⟨hi, hl, hd⟩ hrl
      refine round_yieldV (W1 := W1) hI hIx hps hP hround (w.heap.size + 1) fn rec ⟨_, hrec⟩ (by omega) hLW (fun A => A.heap[w.heap.size]? = some (.deferred (some [])))
        (fun A A' h hr => hr.block _ _ h (.inl ⟨rfl, Nat.le_refl _⟩)) (fun A o h => (World.putObj_heap_other (by omega)).trans h) k hk A xv hrl hi hl hd
    · rintro e W2 ⟨⟨v, rfl⟩, (⟨hi, hl, hk⟩ | ⟨k, hle, c, hi, hl, hk⟩)⟩
      · exact ⟨none, _, by have := run_endLoop (P := P) hl (by rw [hrec]; simp); rw [hrec] at this; exact this, hdone _ _ (Nat.le_refl _) (hI _ _ _ hi (IStep.putObj _ (by omega) hl rfl)) ((World.putObj_heap_other (by omega)).trans hk)⟩
      · exact ⟨some c, _, by have := run_endLoop (P := P) hl (by rw [hrec]; simp); rw [hrec] at this; exact this, hstop _ c k _ (Nat.le_refl _) hle (hIx _ _ _ _ hi (IStep.putObj _ (by omega) hl rfl)) ((World.putObj_heap_other (by omega)).trans hk)⟩

end
end Go.Proofs.Ytkcnanclpkongaa
