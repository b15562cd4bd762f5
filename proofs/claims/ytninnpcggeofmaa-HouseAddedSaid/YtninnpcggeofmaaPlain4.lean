/- A record with one more decision. -/
import Derived.Test.YtninnpcggeofmaaW25
namespace Go.Proofs.Ytninnpcggeofmaa
open Go.RowKit
set_option linter.unusedVariables false
set_option linter.unusedSimpArgs false

theorem addE_zero {l : List Hh} {x : Hh} (h : Hh.addE l x = 0) : Hh.err l = 0 ∧ Hh.right x = true ∧ Hh.has l x.no = false ∧ l.length ≠ 1024 := by
  unfold Hh.addE at h
  split at h
  · rename_i h1
    split at h
    · rename_i h2
      split at h
      · cases h
      · rename_i h3
        split at h
        · cases h
        · rename_i h4
          exact ⟨h1, h2, by simpa using h3, h4⟩
    · cases h
  · rename_i h1; exact absurd h h1
theorem pos_split {l : List Hh} (n : Int) (hp : l.Pairwise (fun a b => a.no < b.no)) : (∀ y ∈ l.take (Hh.pos l n), y.no < n) ∧ (∀ y ∈ l.drop (Hh.pos l n), n ≤ y.no) := by
  induction l with
  | nil => simp
  | cons a r ih =>
    rw [List.pairwise_cons] at hp
    obtain ⟨h1, h2⟩ := ih hp.2
    by_cases ha : a.no < n
    · have e : Hh.pos (a :: r) n = Hh.pos r n + 1 := by unfold Hh.pos; rw [List.filter_cons, if_pos (by simpa using ha), List.length_cons]
      rw [e, List.take_succ_cons, List.drop_succ_cons]
      exact ⟨fun y hy => by rcases List.mem_cons.1 hy with rfl | hy; exact ha; exact h1 y hy, h2⟩
    · have e : Hh.pos (a :: r) n = 0 := by
        unfold Hh.pos
        rw [List.length_eq_zero_iff, List.filter_eq_nil_iff]
        intro y hy
        rcases List.mem_cons.1 hy with rfl | hy
        · simpa using ha
        · have := hp.1 y hy; simp; omega
      rw [e]
      refine ⟨by simp, fun y hy => ?_⟩
      rcases List.mem_cons.1 (by simpa using hy : y ∈ a :: r) with rfl | hy
      · omega
      · have := hp.1 y hy; omega
theorem err_ins {l : List Hh} {x : Hh} (h : Hh.addE l x = 0) : Hh.err (Hh.ins l x) = 0 := by
  obtain ⟨he, hr, hh, hl⟩ := addE_zero h
  obtain ⟨hlen, hinc⟩ := err_zero he
  have hp := incr_pair hinc
  obtain ⟨h1, h2⟩ := pos_split x.no hp
  have h3 : ∀ y ∈ l.drop (Hh.pos l x.no), x.no < y.no := fun y hy => by
    have := h2 y hy
    have hne : ¬ y.no = x.no := fun e => by
      unfold Hh.has at hh
      rw [List.any_eq_false] at hh
      exact hh y (List.mem_of_mem_drop hy) (by simpa using e)
    omega
  refine err_ok ?_ (incr_of ?_ ?_)
  · unfold Hh.ins; simp; have := pos_le l x.no; omega
  · intro y hy
    unfold Hh.ins at hy
    rcases List.mem_append.1 hy with hy | hy
    · exact incr_mem hinc y (List.mem_of_mem_take hy)
    · rcases List.mem_cons.1 hy with rfl | hy
      · have := ((Hh.right_iff y).1 hr).no; exact ⟨by omega, hr⟩
      · exact incr_mem hinc y (List.mem_of_mem_drop hy)
  · unfold Hh.ins
    rw [List.pairwise_append, List.pairwise_cons]
    refine ⟨hp.sublist (List.take_sublist _ _), ⟨h3, hp.sublist (List.drop_sublist _ _)⟩, fun a ha b hb => ?_⟩
    have h4 := h1 a ha
    rcases List.mem_cons.1 hb with rfl | hb
    · exact h4
    · have := h3 b hb; omega
theorem bnd_ins_no {l : List Hh} {x : Hh} {q : Hh.Qq} (h : q.known < x.known) : Hh.bnd (Hh.ins l x) q = Hh.bnd l q := by
  have hb : Hh.binds q x = false := by simp [Hh.binds]; omega
  unfold Hh.bnd Hh.ins
  rw [List.filter_append, List.filter_cons, if_neg (by simp [hb]), ← List.filter_append, List.take_append_drop]
theorem ver_ins_no {l : List Hh} {x : Hh} {q : Hh.Qq} (h0 : Hh.addE l x = 0) (h : q.known < x.known) : Hh.ver (Hh.ins l x) q = Hh.ver l q := by
  unfold Hh.ver
  rw [if_pos (err_ins h0), if_pos (addE_zero h0).1, bnd_ins_no h]
end Go.Proofs.Ytninnpcggeofmaa
