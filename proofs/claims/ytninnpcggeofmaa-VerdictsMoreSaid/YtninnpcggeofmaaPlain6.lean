/- VerdictsMore's plain law. -/
import Derived.Test.YtninnpcggeofmaaPlain5
namespace Go.Proofs.Ytninnpcggeofmaa
set_option linter.unusedVariables false
set_option linter.unusedSimpArgs false

theorem ver_more {l : List Hh} {x : Hh} {q : Hh.Qq} (h0 : Hh.addE l x = 0) (ha : Hh.askQ q = true) :
    ((x.kind = 4 ∨ x.kind = 5) → (Hh.ver (Hh.ins l x) q).v ≤ (Hh.ver l q).v) ∧ (¬ (x.kind = 4 ∨ x.kind = 5) → (Hh.ver l q).v ≤ (Hh.ver (Hh.ins l x) q).v) ∧ (Hh.ver (Hh.ins l x) q).e = 0 := by
  have he := (addE_zero h0).1
  have hei := err_ins h0
  refine ⟨?_, ?_, (ver_reason hei ha).1⟩
  all_goals
    intro hk
    unfold Hh.ver
    simp only [if_pos he, if_pos hei, if_pos ha]
    cases hb : Hh.binds q x
    · have e : Hh.bnd (Hh.ins l x) q = Hh.bnd l q := by
        unfold Hh.bnd Hh.ins
        rw [List.filter_append, List.filter_cons, if_neg (by simp [hb]), ← List.filter_append, List.take_append_drop]
      rw [e]; exact Int.le_refl _
    have hm := mem_ins (l := l) hb
    have n1 : ∀ y ∈ Hh.bnd l q, 0 ≤ y.no := fun y hy => by have := (incr_mem (err_zero he).2 y (List.mem_filter.1 hy).1).1; omega
    have n2 : ∀ y ∈ Hh.bnd (Hh.ins l x) q, 0 ≤ y.no := fun y hy => by have := (incr_mem (err_zero hei).2 y (List.mem_filter.1 hy).1).1; omega
    refine verB_le ?_ ?_ ?_
    · rw [first_pos _ _ _ n1, first_pos _ _ _ n2]
      rintro ⟨y, hy, h1, h2⟩
      rw [last_lt] at h2
      first
        | exact ⟨y, (hm y).2 (.inl hy), h1, (last_lt _ _ _).2 ⟨h2.1, fun z hz hk5 => by
            rcases (hm z).1 hz with h | h
            · exact h2.2 z h hk5
            · exact absurd (.inr (h ▸ hk5)) hk⟩⟩
        | exact ⟨y, by
            rcases (hm y).1 hy with h | h
            · exact h
            · exfalso; subst h; omega, h1, (last_lt _ _ _).2 ⟨h2.1, fun z hz hk5 => h2.2 z ((hm z).2 (.inl hz)) hk5⟩⟩
    · rw [first_pos _ _ _ n1, first_pos _ _ _ n2, last_lt, last_lt]
      simp only [hm]
      grind
    · rw [delay_pos _ _ n1, delay_pos _ _ n2]
      simp only [hm]
      grind
end Go.Proofs.Ytninnpcggeofmaa
