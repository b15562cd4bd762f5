/- A range over a function whose rounds keep all that the iterator lays: for iterators that range over another one. -/
import Derived.Test.YtninnpcggeofmaaIter
namespace Go.Proofs.Ytninnpcggeofmaa
open Go.RowKit

/-- The iterator's contract where a round that ends the loop keeps what is no cells: asked of iterators that range over another one. -/
def Iter2 {α : Type} (P : Program) (g : Nat) (lb : Array Value) (enc : α → Array Value) (ys : List α) (Prot : Nat → Prop) (W : World) : Prop :=
  ∀ (l : Nat) (J Jx : Nat → World → Prop),
    (∀ k A A', J k A → IStep W.heap.size A A' → J k A') → (∀ k A A', Jx k A → IStep W.heap.size A A' → Jx k A') →
    (∀ k (hk : k < ys.length) A, J k A → YieldAt Fence.wide 0 P l (enc ys[k]) A fun e A' =>
      (e = .returned (.bool true) ∧ J (k + 1) A' ∧ RStep W.heap.size Prot A A') ∨ (e = .returned (.bool false) ∧ Jx (k + 1) A' ∧ RStep W.heap.size (fun _ => False) A A')) →
    J 0 W →
    CallsIn Fence.wide 0 P g (#[.func (.yield l) #[] #[]] ++ lb) W fun e W' => (∃ v, e = .returned v) ∧ (J ys.length W' ∨ ∃ k, k ≤ ys.length ∧ Jx k W')
theorem Iter.to2 {α : Type} {P : Program} {g : Nat} {lb : Array Value} {enc : α → Array Value} {ys : List α} {Prot Prot' : Nat → Prop} {W : World} (h : Iter P g lb enc ys Prot W) (hp : ∀ b, Prot b → Prot' b) : Iter2 P g lb enc ys Prot' W :=
  fun l J Jx hJ hJx hY h0 => h l J Jx hJ hJx (fun k hk A hj => by
    obtain ⟨fn, tmps, assign, body, hy, hR⟩ := hY k hk A hj
    exact ⟨fn, tmps, assign, body, hy, hR.mono (fun e A' hr => hr.imp (fun ⟨h1, h2, h3⟩ => ⟨h1, h2, h3.mono (Nat.le_refl _) hp⟩) (fun ⟨h1, h2, _⟩ => ⟨h1, h2⟩))⟩) h0

/-- The round itself, out of roundHyp, whatever the record's number and where the deferred calls go. -/
theorem round_yieldS {α : Type} {P : Program} {enc : α → Array Value} {ys : List α} {Prot Prot1 : Nat → Prop} {ps : Array Tmp} {assign body : Code} {a : Act} {w W1 : World} {I : Nat → World → Prop} {Ix : Code → Nat → World → Prop}
    (hI : ∀ k A A', I k A → IStep w.heap.size A A' → I k A') (hIx : ∀ c k A A', Ix c k A → IStep w.heap.size A A' → Ix c k A')
    (hps : ∀ x, (enc x).size = ps.size) (h01 : ∀ b, Prot1 b → Prot b) (hP : ∀ b, Prot1 b → b < w.heap.size ∨ W1.heap.size ≤ b)
    (hround : roundHyp P enc ys Prot ps assign body a w I Ix)
    (L : Nat) (fn : FuncId) (rec : LoopState → Option Code → Loop) (hrec : ∃ D, rec = fun st pe => { state := st, pending := pe, fn, tmps := a.tmps, params := ps, assign, body, defers := D })
    (hLw : w.heap.size ≤ L) (hLW : L < W1.heap.size) (G : World → Prop) (hG : ∀ A A', G A → RStep w.heap.size (fun _ => False) A A' → G A') (hG2 : ∀ A o, G A → G (A.putObj L o))
    (k : Nat) (hk : k < ys.length) (A : World) (hi : I k A) (hl : A.heap[L]? = some (.loop (rec .ready none))) (hg : G A) :
    YieldAt Fence.wide 0 P L (enc ys[k]) A fun e A' =>
      (e = .returned (.bool true) ∧ (I (k + 1) A' ∧ A'.heap[L]? = some (.loop (rec .ready none)) ∧ G A') ∧ RStep W1.heap.size Prot1 A A') ∨
      (e = .returned (.bool false) ∧ (∃ c, Ix c (k + 1) A' ∧ A'.heap[L]? = some (.loop (rec .done (some c))) ∧ G A') ∧ RStep W1.heap.size (fun _ => False) A A') := by
  obtain ⟨D, hrec⟩ := hrec
  have hLP : ¬ Prot1 L := fun h => by have := hP L h; omega
  have hy := run_yield (P := P) (args := enc ys[k]) hl (by rw [hrec]; exact hps _)
  rw [hrec] at hy
  refine ⟨fn, _, assign, body, hy, roundIn_of_wpIn trivial ?_⟩
  refine wpIn_mono (hround L k hk A hLw hi) ?_
  rintro e a1 Wa h1
  cases e with
  | normal =>
    obtain ⟨hr1, hbody⟩ := h1
    have hl1 := hr1.block L _ hl (.inl ⟨rfl, hLw⟩)
    have hltA : L < Wa.heap.size := (Array.getElem?_eq_some_iff.1 hl1).1
    refine ⟨_, run_beginRound hl1 (by rw [hrec]), ?_⟩
    have hl2 : (Wa.putObj L (.loop { rec .ready none with state := .busy })).heap[L]? = some (.loop { rec .ready none with state := .busy }) := World.putObj_heap_same hltA
    have hg1 : G Wa := hG _ _ hg (hr1.mono (Nat.le_refl _) (fun _ h => h.elim))
    refine wpIn_mono (hbody _ (IStep.putObj _ hLw hl1 rfl) ⟨_, hl2⟩) ?_
    have fin : ∀ (jump : Option Code) (W3 : World), RStep w.heap.size (fun _ => False) (Wa.putObj L (.loop { rec .ready none with state := .busy })) W3 →
        (Instr.endRound L jump).run P W3 = .ok (.bool jump.isNone) (W3.putObj L (.loop (rec (if jump.isNone then .ready else .done) jump))) ∧
        W3.heap[L]? = some (.loop { rec .ready none with state := .busy }) ∧
        (W3.putObj L (.loop (rec (if jump.isNone then .ready else .done) jump))).heap[L]? = some (.loop (rec (if jump.isNone then .ready else .done) jump)) ∧
        G (W3.putObj L (.loop (rec (if jump.isNone then .ready else .done) jump))) := fun jump W3 hk3 => by
      have hl3 := hk3.block _ _ hl2 (.inl ⟨rfl, hLw⟩)
      have hg3 := hG _ _ (hG2 _ (.loop { rec .ready none with state := .busy }) hg1) hk3
      have := run_endRound (P := P) jump hl3
      rw [hrec] at this ⊢ hl3
      exact ⟨this, hl3, World.putObj_heap_same (Array.getElem?_eq_some_iff.1 hl3).1, hG2 _ _ hg3⟩
    rintro e a3 W3 hp
    cases e with
    | normal =>
      obtain ⟨hk3, hi3⟩ := hp
      obtain ⟨hr, hl3, hl4, hg4⟩ := fin none W3 (hk3.mono (Nat.le_refl _) (fun _ h => h.elim))
      refine ⟨_, _, hr, .inl ⟨rfl, ⟨hI _ _ _ hi3 (IStep.putObj _ hLw hl3 rfl), hl4, hg4⟩, ?_⟩⟩
      have e1 : RStep W1.heap.size Prot1 A Wa := hr1.mono (by omega) h01
      have e2 : RStep W1.heap.size Prot1 Wa (Wa.putObj L (.loop { rec .ready none with state := .busy })) := RStep.putObj _ hLW hLP
      have e3 : RStep W1.heap.size Prot1 _ W3 := hk3.mono (by omega) h01
      exact ((e1.trans e2).trans e3).trans (RStep.putObj _ hLW hLP)
    | ret =>
      obtain ⟨hk3, hi3⟩ := hp
      obtain ⟨hr, hl3, hl4, hg4⟩ := fin (some .ret) W3 hk3
      exact ⟨_, _, hr, .inr ⟨rfl, ⟨.ret, hIx _ _ _ _ hi3 (IStep.putObj _ hLw hl3 rfl), hl4, hg4⟩, ((((hr1.mono (by omega) (fun _ h => h.elim)).trans (RStep.putObj _ hLW (fun h => h))).trans (hk3.mono (by omega) (fun _ h => h))).trans (RStep.putObj _ hLW (fun h => h)))⟩⟩
    | exit id =>
      obtain ⟨hk3, hi3⟩ := hp
      obtain ⟨hr, hl3, hl4, hg4⟩ := fin (some (.exit id)) W3 hk3
      exact ⟨_, _, hr, .inr ⟨rfl, ⟨.exit id, hIx _ _ _ _ hi3 (IStep.putObj _ hLw hl3 rfl), hl4, hg4⟩, ((((hr1.mono (by omega) (fun _ h => h.elim)).trans (RStep.putObj _ hLW (fun h => h))).trans (hk3.mono (by omega) (fun _ h => h))).trans (RStep.putObj _ hLW (fun h => h)))⟩⟩
    | goto t =>
      obtain ⟨hk3, hi3⟩ := hp
      obtain ⟨hr, hl3, hl4, hg4⟩ := fin (some (.goto t)) W3 hk3
      exact ⟨_, _, hr, .inr ⟨rfl, ⟨.goto t, hIx _ _ _ _ hi3 (IStep.putObj _ hLw hl3 rfl), hl4, hg4⟩, ((((hr1.mono (by omega) (fun _ h => h.elim)).trans (RStep.putObj _ hLW (fun h => h))).trans (hk3.mono (by omega) (fun _ h => h))).trans (RStep.putObj _ hLW (fun h => h)))⟩⟩
    | panic ch => exact hp.elim
    | outgrown => exact hp.elim
  | exit id => exact h1.elim
  | goto t => exact h1.elim
  | ret => exact h1.elim
  | panic chain => exact h1.elim
  | outgrown => exact h1.elim

/-- The statement 'for .. := range g { .. }' outside every round. -/
theorem rf_outerS {α : Type} {P : Program} {g : Operand} {ps : Array Tmp} {assign body : Code} {Q : Exit → Act → World → Prop} {a : Act} {w : World}
    {gf : Nat} {lb : Array Value} {enc : α → Array Value} (ys : List α) (Prot Prot1 : Nat → Prop) (I : Nat → World → Prop) (Ix : Code → Nat → World → Prop)
    (hg : a.eval g = .func (.func gf) #[] lb) (eg : ∀ args w, (callFunc gf args).run P w = .ok (.enter gf args) w)
    (hps : ∀ x, (enc x).size = ps.size) (h01 : ∀ b, Prot1 b → Prot b) (hP : ∀ b, Prot1 b → b < w.heap.size ∨ w.heap.size + 2 ≤ b)
    (hit : ∀ W, Below w.heap.size w W → W.heap.size = w.heap.size + 2 → Iter2 P gf lb enc ys Prot1 W)
    (hI : ∀ k A A', I k A → IStep w.heap.size A A' → I k A') (hIx : ∀ c k A A', Ix c k A → IStep w.heap.size A A' → Ix c k A')
    (h0 : I 0 w)
    (hround : roundHyp P enc ys Prot ps assign body a w I Ix)
    (hdone : ∀ D W, w.heap.size ≤ D → I ys.length W → W.heap[D]? = some (.deferred (some [])) → Q .normal { a with defers := { target := .collected D, args := #[] } :: a.defers } W)
    (hstop : ∀ D c k W, w.heap.size ≤ D → k ≤ ys.length → Ix c k W → W.heap[D]? = some (.deferred (some [])) → c.wpIn Fence.wide 0 P Q { a with defers := { target := .collected D, args := #[] } :: a.defers } W) :
    (Code.rangeFunc g ps assign body).wpIn Fence.wide 0 P Q a w := by
  refine wpIn_rangeFunc ?_
  intro fn _
  obtain ⟨rec, hrec⟩ : ∃ rec : LoopState → Option Code → Loop, rec = fun st pe => { state := st, pending := pe, fn, tmps := a.tmps, params := ps, assign, body, defers := w.heap.size } := ⟨_, rfl⟩
  obtain ⟨W1, hW1⟩ : ∃ W1, (w.alloc (.deferred (some []))).alloc (.loop (rec .ready none)) = W1 := ⟨_, rfl⟩
  have hL1 : W1.heap[w.heap.size + 1]? = some (.loop (rec .ready none)) := by
    rw [← hW1]; have := World.alloc_heap_new (w.alloc (.deferred (some []))) (.loop (rec .ready none)); rwa [World.size_alloc] at this
  have hK1 : W1.heap[w.heap.size]? = some (.deferred (some [])) := by
    rw [← hW1]; exact (Below.heap_alloc _ _ _ (by simp)).trans (World.alloc_heap_new w _)
  have hb1 : Below w.heap.size w W1 := by
    rw [← hW1]; exact ((Below.refl _ w).alloc (Nat.le_refl _) _).alloc (by simp) _
  have hs1 : W1.heap.size = w.heap.size + 2 := by rw [← hW1]; simp
  have hLW : w.heap.size + 1 < W1.heap.size := (Array.getElem?_eq_some_iff.1 hL1).1
  have hI1 : I 0 W1 := hI _ _ _ h0 (IStep.of_below hb1)
  refine ⟨w.heap.size + 1, [{ target := .collected w.heap.size, args := #[] }], W1, { target := .fn (.func gf) lb, args := #[.func (.yield (w.heap.size + 1)) #[] #[]] }, W1, gf,
    #[.func (.yield (w.heap.size + 1)) #[] #[]] ++ lb, W1, ?_, ?_, ?_, ?_, ?_, ?_⟩
  · rw [← hW1, hrec]; exact run_enterLoop_outer _ _ _ _ _
  · simp only [resolve, hg]
    simp [go_sem]
  · intro f' hf'; exact trivial
  · simp [invoke, go_sem, eg]
  · intro h; simp [Fence.wide] at h
  · refine ((hit W1 hb1 hs1) (w.heap.size + 1)
      (fun k A => I k A ∧ A.heap[w.heap.size + 1]? = some (.loop (rec .ready none)) ∧ A.heap[w.heap.size]? = some (.deferred (some [])))
      (fun k A => ∃ c, Ix c k A ∧ A.heap[w.heap.size + 1]? = some (.loop (rec .done (some c))) ∧ A.heap[w.heap.size]? = some (.deferred (some [])))
      (fun k A B hs hg' => ⟨hI _ _ _ hs.1 (hg'.mono hb1.size), hg'.block _ _ hs.2.1 (.inr hLW), hg'.block _ _ hs.2.2 (.inr (by omega))⟩)
      (fun k A B hs hg' => by
        obtain ⟨c, hc, hl, hk⟩ := hs
        exact ⟨c, hIx _ _ _ _ hc (hg'.mono hb1.size), hg'.block _ _ hl (.inr hLW), hg'.block _ _ hk (.inr (by omega))⟩)
      ?_ ⟨hI1, hL1, hK1⟩).mono ?_
    · rintro k hk A ⟨hi, hl, hd⟩
      refine round_yieldS (W1 := W1) hI hIx hps h01 (fun b h => by rw [hs1]; exact hP b h) hround (w.heap.size + 1) fn rec ⟨_, hrec⟩ (by omega) hLW (fun A => A.heap[w.heap.size]? = some (.deferred (some [])))
        (fun A A' h hr => hr.block _ _ h (.inl ⟨rfl, Nat.le_refl _⟩)) (fun A o h => (World.putObj_heap_other (by omega)).trans h) k hk A hi hl hd
    · rintro e W2 ⟨⟨v, rfl⟩, (⟨hi, hl, hk⟩ | ⟨k, hle, c, hi, hl, hk⟩)⟩
      · exact ⟨none, _, by have := run_endLoop (P := P) hl (by rw [hrec]; simp); rw [hrec] at this; exact this, hdone _ _ (Nat.le_refl _) (hI _ _ _ hi (IStep.putObj _ (by omega) hl rfl)) ((World.putObj_heap_other (by omega)).trans hk)⟩
      · exact ⟨some c, _, by have := run_endLoop (P := P) hl (by rw [hrec]; simp); rw [hrec] at this; exact this, hstop _ c k _ (Nat.le_refl _) hle (hIx _ _ _ _ hi (IStep.putObj _ (by omega) hl rfl)) ((World.putObj_heap_other (by omega)).trans hk)⟩

theorem RStep.istep {B B' : Nat} {Pr : Nat → Prop} {W X Y : World} (h : RStep B Pr W X) (hB : W.heap.size ≤ B') (hs : IStep B' X Y) : RStep B Pr W Y :=
  ⟨hs.os.trans h.os, hs.tape.trans h.tape, hs.output.trans h.output, Nat.le_trans h.size hs.size, fun b o hb ho => hs.block b o (h.block b o hb ho) (.inr (Nat.lt_of_lt_of_le (Array.getElem?_eq_some_iff.1 hb).1 hB))⟩
end Go.Proofs.Ytninnpcggeofmaa

