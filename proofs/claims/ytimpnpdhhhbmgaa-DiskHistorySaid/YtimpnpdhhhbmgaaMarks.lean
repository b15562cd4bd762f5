/- The marks that loops over functions leave in a frame. -/
import Derived.Test.YtimpnpdhhhbmgaaIter
import Derived.RangeFuncLeaves
import Derived.Test.YtimpnpdhhhbmgaaProg
namespace Go.Proofs.Ytimpnpdhhhbmgaa
open Go.RowKit
set_option linter.unusedVariables false
set_option linter.unusedSimpArgs false

/-- marks of loops over functions that are over -/
def Mk (lo : Nat) : List Deferred → World → Prop
  | [], _ => True
  | d :: ds, W => ∃ D, d = { target := .collected D, args := #[] } ∧ lo ≤ D ∧ W.heap[D]? = some (.deferred (some [])) ∧ (∀ d' ∈ ds, d' ≠ d) ∧ Mk lo ds W
theorem Mk.keep {lo : Nat} {ds : List Deferred} {W W' : World} (h : Mk lo ds W) (hk : ∀ D : Nat, W.heap[D]? = some (Obj.deferred (some [])) → W'.heap[D]? = some (Obj.deferred (some []))) : Mk lo ds W' := by
  induction ds with
  | nil => trivial
  | cons d ds ih =>
    obtain ⟨D, h1, h2, h3, h4, h5⟩ := h
    exact ⟨D, h1, h2, hk D h3, h4, ih h5⟩
theorem Mk.lt {lo : Nat} {ds : List Deferred} {W : World} (h : Mk lo ds W) : ∀ d ∈ ds, ∃ D, d = { target := .collected D, args := #[] } ∧ D < W.heap.size := by
  induction ds with
  | nil => intro d hd; simp at hd
  | cons d ds ih =>
    obtain ⟨D, h1, h2, h3, h4, h5⟩ := h
    intro d' hd
    rcases List.mem_cons.1 hd with rfl | hd
    · exact ⟨D, h1, (Array.getElem?_eq_some_iff.1 h3).1⟩
    · exact ih h5 d' hd
/-- a new mark -/
theorem Mk.cons {lo : Nat} {ds : List Deferred} {W0 W : World} {D : Nat} (h0 : Mk lo ds W0) (hD : W0.heap.size ≤ D) (h : Mk lo ds W) (hlo : lo ≤ D) (hm : W.heap[D]? = some (.deferred (some []))) : Mk lo ({ target := .collected D, args := #[] } :: ds) W :=
  ⟨D, rfl, hlo, hm, fun d' hd e => by
    obtain ⟨D', e1, hlt⟩ := h0.lt d' hd
    rw [e1] at e
    injection e with e
    injection e with e
    omega, h⟩
/-- at the return all marks are taken -/
theorem leaves_marks {fn : Func} {tmps : Array Value} {R : Ending → World → Prop} {lo : Nat} : ∀ (ds : List Deferred) (W : World), Mk lo ds W →
    (∀ W', W'.os = W.os → W'.tape = W.tape → W'.output = W.output → W'.heap.size = W.heap.size → (∀ b o, W.heap[b]? = some o → (o.isCells = true ∨ b < lo) → W'.heap[b]? = some o) → LeavesInM Fence.wide 0 Try.prog fn tmps R [] .returning W') →
    LeavesInM Fence.wide 0 Try.prog fn tmps R ds .returning W
  | [], W, _, h => h W rfl rfl rfl rfl (fun _ _ h _ => h)
  | d :: ds, W, hm, h => by
    obtain ⟨D, rfl, h2, h3, h4, h5⟩ := hm
    refine ⟨by simp, .inl ⟨D, _, rfl, run_takeDeferred h3, ?_⟩⟩
    refine leaves_marks ds _ ?_ (fun W' a1 a2 a3 a4 a5 => h W' (a1.trans rfl) (a2.trans rfl) (a3.trans rfl) (a4.trans (by simp)) (fun b o hb ho => a5 b o ?_ ho))
    · have key : ∀ ds', (∀ d' ∈ ds', d' ≠ ({ target := .collected D, args := #[] } : Deferred)) → Mk lo ds' W → Mk lo ds' (W.putObj D (.deferred none)) := by
        intro ds'
        induction ds' with
        | nil => intros; trivial
        | cons e es ih =>
          intro hne hmk
          obtain ⟨D2, rfl, k2, k3, k4, k5⟩ := hmk
          refine ⟨D2, rfl, k2, ?_, k4, ih (fun d' hd => hne d' (by simp [hd])) k5⟩
          have hDD : D2 ≠ D := fun e => by
            have := hne { target := .collected D2, args := #[] } (by simp)
            rw [e] at this; exact this rfl
          exact (World.putObj_heap_other hDD).trans k3
      exact key ds h4 h5
    · have hbD : b ≠ D := fun e => by
        subst e
        rw [h3] at hb
        injection hb with hb
        subst hb
        rcases ho with ho | ho
        · simp [Obj.isCells] at ho
        · omega
      exact (World.putObj_heap_other hbD).trans hb

end Go.Proofs.Ytimpnpdhhhbmgaa
