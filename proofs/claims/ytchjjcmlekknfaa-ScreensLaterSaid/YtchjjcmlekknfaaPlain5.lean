/- Plain mathematics of layer 48, fifth part: the reference's loop over the ends of the first screen. No program in sight. -/
import Derived.Test.YtchjjcmlekknfaaPlain4
namespace Go.Proofs.Ytchjjcmlekknfaa
set_option linter.unusedVariables false
set_option linter.unusedSimpArgs false
namespace Sc
def accF (q : Qs) (i : Nat) (b : Int) (t : Nat) : Bst := (List.range' (i + 1) t).foldl (fun acc j => stepB j (best q j (scr q i j b)) acc) none
theorem accF_succ (q : Qs) (i : Nat) (b : Int) (t : Nat) : accF q i b (t + 1) = stepB (i + 1 + t) (best q (i + 1 + t) (scr q i (i + 1 + t) b)) (accF q i b t) := by
  unfold accF
  rw [List.range'_1_concat, List.foldl_append]; rfl
theorem best_fold {q : Qs} {i : Nat} {b : Int} (hi : i < q.r.length) : best q i b = outB (accF q i b (min q.r.length (i + q.m) - i)) := by
  obtain ⟨k, hk⟩ : ∃ k, q.r.length - i = k + 1 := ⟨q.r.length - i - 1, by omega⟩
  have e0 : best q i b = bst q (k + 1) i b := by rw [best, hk]
  rw [e0, bst, if_neg (by omega)]
  congr 1
  unfold accF outs
  have : ∀ (js : List Nat) (a : Bst), (∀ j ∈ js, i < j ∧ j ≤ q.r.length) → js.foldl (fun acc j => stepB j (bst q k j (scr q i j b)) acc) a = js.foldl (fun acc j => stepB j (best q j (scr q i j b)) acc) a := by
    intro js
    induction js with
    | nil => intros; rfl
    | cons j js ih =>
      intro a h
      have hj := h j (by simp)
      rw [List.foldl_cons, List.foldl_cons, show bst q k j (scr q i j b) = best q j (scr q i j b) from bst_fuel q _ _ _ _ hj.2 (by omega) (by omega)]
      exact ih _ fun x hx => h x (by simp [hx])
  exact this _ _ fun j hj => by have := List.mem_range'_1.1 hj; omega
theorem best_n {q : Qs} {b : Int} : best q q.r.length b = ([], b) := by rw [best, Nat.sub_self, bst]
theorem stepB_yes {j : Nat} {p : List Nat × Int} {acc : Bst} (h : acc.isSome = false ∨ p.2 < (outB acc).2) : stepB j p acc = some (j :: p.1, p.2) := by
  cases acc with
  | none => rfl
  | some a => rcases h with h | h
              · cases h
              · simp only [stepB]; exact if_pos h
theorem stepB_no {j : Nat} {p : List Nat × Int} {acc : Bst} (h : acc.isSome = true) (h2 : ¬ p.2 < (outB acc).2) : stepB j p acc = acc := by
  cases acc with
  | none => cases h
  | some a => simp only [stepB]; exact if_neg h2
end Sc
end Go.Proofs.Ytchjjcmlekknfaa
