/- How one more decision moves the verdict. -/
import Derived.Test.YtninnpcggeofmaaPlain4
import Derived.Test.YtninnpcggeofmaaL3
import Derived.Test.YtninnpcggeofmaaL2
namespace Go.Proofs.Ytninnpcggeofmaa
set_option linter.unusedVariables false
set_option linter.unusedSimpArgs false

theorem verB_le {b b' : List Hh} {q : Hh.Qq} (h1 : 0 ≤ Hh.firstN 1 (Hh.lastN 5 b) b → 0 ≤ Hh.firstN 1 (Hh.lastN 5 b') b')
    (h2 : 0 ≤ Hh.firstN 2 (-1) b ∧ Hh.lastN 4 b < 0 → 0 ≤ Hh.firstN 2 (-1) b' ∧ Hh.lastN 4 b' < 0) (h3 : 0 ≤ Hh.delayN q b → 0 ≤ Hh.delayN q b') : (Hh.verB b q).v ≤ (Hh.verB b' q).v := by
  have k1 : ∀ c, 0 ≤ Hh.firstN 1 (Hh.lastN 5 c) c → (Hh.verB c q).v = 2 := fun c h => by unfold Hh.verB; rw [if_pos h]
  have k2 : ∀ c, 0 ≤ Hh.firstN 2 (-1) c ∧ Hh.lastN 4 c < 0 → (Hh.verB c q).v = 2 := fun c h => by
    by_cases h1 : 0 ≤ Hh.firstN 1 (Hh.lastN 5 c) c
    · exact k1 c h1
    · unfold Hh.verB; rw [if_neg h1, if_pos h]
  have k3 : ∀ c, 0 ≤ Hh.delayN q c → 1 ≤ (Hh.verB c q).v := fun c h => by
    by_cases h1 : 0 ≤ Hh.firstN 1 (Hh.lastN 5 c) c
    · rw [k1 c h1]; decide
    · by_cases h2 : 0 ≤ Hh.firstN 2 (-1) c ∧ Hh.lastN 4 c < 0
      · rw [k2 c h2]; decide
      · have e : (Hh.verB c q).v = 1 := by unfold Hh.verB; rw [if_neg h1, if_neg h2, if_pos h]
        rw [e]; decide
  have k0 : ∀ c, 0 ≤ (Hh.verB c q).v := fun c => by
    by_cases h1 : 0 ≤ Hh.firstN 1 (Hh.lastN 5 c) c
    · rw [k1 c h1]; decide
    · by_cases h2 : 0 ≤ Hh.firstN 2 (-1) c ∧ Hh.lastN 4 c < 0
      · rw [k2 c h2]; decide
      · by_cases h : 0 ≤ Hh.delayN q c
        · have := k3 c h; omega
        · have e : (Hh.verB c q).v = 0 := by unfold Hh.verB; rw [if_neg h1, if_neg h2, if_neg h]
          rw [e]; decide
  by_cases a1 : 0 ≤ Hh.firstN 1 (Hh.lastN 5 b) b
  · rw [k1 b a1, k1 b' (h1 a1)]; exact Int.le_refl _
  · by_cases a2 : 0 ≤ Hh.firstN 2 (-1) b ∧ Hh.lastN 4 b < 0
    · rw [k2 b a2, k2 b' (h2 a2)]; exact Int.le_refl _
    · by_cases a3 : 0 ≤ Hh.delayN q b
      · have e : (Hh.verB b q).v = 1 := by unfold Hh.verB; rw [if_neg a1, if_neg a2, if_pos a3]
        rw [e]; exact k3 b' (h3 a3)
      · have e : (Hh.verB b q).v = 0 := by unfold Hh.verB; rw [if_neg a1, if_neg a2, if_neg a3]
        rw [e]; exact k0 b'
theorem mem_ins {l : List Hh} {x : Hh} {q : Hh.Qq} (hb : Hh.binds q x = true) (y : Hh) : y ∈ Hh.bnd (Hh.ins l x) q ↔ y ∈ Hh.bnd l q ∨ y = x := by
  unfold Hh.bnd Hh.ins
  rw [List.mem_filter, List.mem_filter, List.mem_append, List.mem_cons]
  constructor
  · rintro ⟨h | rfl | h, h2⟩
    · exact .inl ⟨List.mem_of_mem_take h, h2⟩
    · exact .inr rfl
    · exact .inl ⟨List.mem_of_mem_drop h, h2⟩
  · rintro (⟨h, h2⟩ | rfl)
    · refine ⟨?_, h2⟩
      rw [← List.take_append_drop (Hh.pos l x.no) l, List.mem_append] at h
      rcases h with h | h
      · exact .inl h
      · exact .inr (.inr h)
    · exact ⟨.inr (.inl rfl), hb⟩
end Go.Proofs.Ytninnpcggeofmaa
