/- Two decisions that are added in any order. -/
import Derived.Test.YtninnpcggeofmaaPlain4
namespace Go.Proofs.Ytninnpcggeofmaa
set_option linter.unusedVariables false
set_option linter.unusedSimpArgs false

/-- how often a decision stands in a record -/
def metN (l : List Hh) (a : Hh) : Nat := (l.filter (fun y => decide (y = a))).length
/-- what else stands in it -/
def oths (l : List Hh) (a : Hh) : List Hh := l.filter (fun y => decide (y ≠ a))

theorem not_has {l : List Hh} {a : Hh} (h : Hh.has l a.no = false) : ∀ y ∈ l, y ≠ a := by
  intro y hy e
  unfold Hh.has at h
  rw [List.any_eq_false] at h
  exact h y hy (by simp [e])
theorem filt_ins {l : List Hh} {a : Hh} (h : Hh.has l a.no = false) : (Hh.ins l a).filter (fun y => decide (y = a)) = [a] := by
  have hn := not_has h
  unfold Hh.ins
  rw [List.filter_append, List.filter_cons, if_pos (by simp)]
  rw [List.filter_eq_nil_iff.2 (fun y hy => by simpa using hn y (List.mem_of_mem_take hy)), List.filter_eq_nil_iff.2 (fun y hy => by simpa using hn y (List.mem_of_mem_drop hy))]
  rfl
theorem oths_ins {l : List Hh} {a : Hh} (h : Hh.has l a.no = false) : oths (Hh.ins l a) a = l := by
  have hn := not_has h
  unfold oths Hh.ins
  rw [List.filter_append, List.filter_cons, if_neg (by simp), ← List.filter_append, List.take_append_drop]
  exact List.filter_eq_self.2 fun y hy => by simpa using hn y hy
theorem metN_ins {l : List Hh} {a : Hh} (h : Hh.has l a.no = false) : metN (Hh.ins l a) a = 1 := by
  unfold metN; rw [filt_ins h]; rfl
theorem filt_comm {α} (p q : α → Bool) (l : List α) : (l.filter p).filter q = (l.filter q).filter p := by
  rw [List.filter_filter, List.filter_filter]
  congr 1; funext y; rw [Bool.and_comm]
theorem oths_stand {l : List Hh} {a : Hh} {k : Int} (h : Hh.has l a.no = false) : oths (Hh.stand (Hh.ins l a) k) a = Hh.stand l k := by
  unfold oths Hh.stand
  rw [filt_comm]
  exact congrArg _ (oths_ins h)
theorem metN_stand {l : List Hh} {a : Hh} {k : Int} (h : Hh.has l a.no = false) : metN (Hh.stand (Hh.ins l a) k) a = if a.known ≤ k then 1 else 0 := by
  unfold metN Hh.stand
  rw [filt_comm, filt_ins h]
  by_cases h1 : a.known ≤ k
  · rw [if_pos h1]; simp [h1]
  · rw [if_neg h1]; simp [h1]
theorem stdE_ins {l : List Hh} {a : Hh} {k : Int} (h : Hh.addE l a = 0) : Hh.stdE (Hh.ins l a) k = Hh.stdE l k := by
  unfold Hh.stdE; rw [if_pos (err_ins h), if_pos (addE_zero h).1]
theorem mem_ins_iff {l : List Hh} {x y : Hh} : y ∈ Hh.ins l x ↔ y ∈ l ∨ y = x := by
  unfold Hh.ins
  rw [List.mem_append, List.mem_cons]
  constructor
  · rintro (h | rfl | h)
    · exact .inl (List.mem_of_mem_take h)
    · exact .inr rfl
    · exact .inl (List.mem_of_mem_drop h)
  · rintro (h | rfl)
    · rw [← List.take_append_drop (Hh.pos l x.no) l, List.mem_append] at h
      exact h.elim .inl fun h => .inr (.inr h)
    · exact .inr (.inl rfl)
theorem has_ins {l : List Hh} {a : Hh} {n : Int} : Hh.has (Hh.ins l a) n = (Hh.has l n || decide (a.no = n)) := by
  rw [Bool.eq_iff_iff]
  unfold Hh.has
  simp only [List.any_eq_true, Bool.or_eq_true, decide_eq_true_eq]
  constructor
  · rintro ⟨y, hy, e⟩
    rcases mem_ins_iff.1 hy with hy | rfl
    · exact .inl ⟨y, hy, e⟩
    · exact .inr e
  · rintro (⟨y, hy, e⟩ | e)
    · exact ⟨y, mem_ins_iff.2 (.inl hy), e⟩
    · exact ⟨a, mem_ins_iff.2 (.inr rfl), e⟩
theorem len_ins {l : List Hh} {a : Hh} : (Hh.ins l a).length = l.length + 1 := by
  unfold Hh.ins; have := pos_le l a.no; simp; omega
theorem sorted_eq : ∀ {l m : List Hh}, l.Pairwise (fun a b => a.no < b.no) → m.Pairwise (fun a b => a.no < b.no) → (∀ y, y ∈ l ↔ y ∈ m) → l = m
  | [], [], _, _, _ => rfl
  | [], b :: m, _, _, h => by have := (h b).2 (by simp); simp at this
  | a :: l, [], _, _, h => by have := (h a).1 (by simp); simp at this
  | a :: l, b :: m, hl, hm, h => by
    rw [List.pairwise_cons] at hl hm
    have e : a = b := by
      have h1 := (h a).1 (by simp)
      have h2 := (h b).2 (by simp)
      rcases List.mem_cons.1 h1 with e | h1
      · exact e
      · rcases List.mem_cons.1 h2 with e | h2
        · exact e.symm
        · have := hm.1 a h1; have := hl.1 b h2; omega
    subst e
    rw [sorted_eq hl.2 hm.2 fun y => ?_]
    have hy := h y
    rw [List.mem_cons, List.mem_cons] at hy
    constructor
    · intro h1
      rcases hy.1 (.inr h1) with rfl | h2
      · have := hl.1 y h1; omega
      · exact h2
    · intro h1
      rcases hy.2 (.inr h1) with rfl | h2
      · have := hm.1 y h1; omega
      · exact h2
theorem pair_ins {l : List Hh} {x : Hh} (h : Hh.addE l x = 0) : (Hh.ins l x).Pairwise (fun a b => a.no < b.no) := incr_pair (err_zero (err_ins h)).2
theorem addE_mk {l : List Hh} {x : Hh} (h1 : Hh.err l = 0) (h2 : Hh.right x = true) (h3 : Hh.has l x.no = false) (h4 : l.length ≠ 1024) : Hh.addE l x = 0 := by
  unfold Hh.addE; rw [if_pos h1, if_pos h2, if_neg (by simp [h3]), if_neg h4]
/-- the second added first -/
theorem add_comm {l : List Hh} {a b : Hh} (hl : l.length ≤ 30) (ha : Hh.addE l a = 0) (hb : Hh.addE (Hh.ins l a) b = 0) :
    Hh.addE l b = 0 ∧ Hh.addE (Hh.ins l b) a = 0 ∧ Hh.ins (Hh.ins l a) b = Hh.ins (Hh.ins l b) a := by
  obtain ⟨a1, a2, a3, a4⟩ := addE_zero ha
  obtain ⟨b1, b2, b3, b4⟩ := addE_zero hb
  rw [has_ins, Bool.or_eq_false_iff] at b3
  have e1 : Hh.addE l b = 0 := addE_mk a1 b2 b3.1 (by omega)
  have e2 : Hh.addE (Hh.ins l b) a = 0 := addE_mk (err_ins e1) a2 (by
    rw [has_ins, a3, Bool.false_or]
    have := of_decide_eq_false b3.2
    exact decide_eq_false fun e => this e.symm) (by rw [len_ins]; omega)
  refine ⟨e1, e2, sorted_eq (pair_ins hb) (pair_ins e2) fun y => ?_⟩
  rw [mem_ins_iff, mem_ins_iff, mem_ins_iff, mem_ins_iff]
  constructor
  · rintro ((h | h) | h)
    · exact .inl (.inl h)
    · exact .inr h
    · exact .inl (.inr h)
  · rintro ((h | h) | h)
    · exact .inl (.inl h)
    · exact .inr h
    · exact .inl (.inr h)
theorem add_no {l : List Hh} {a b : Hh} (hl : l.length ≤ 30) (ha : Hh.addE l a = 0) (hb : ¬ Hh.addE (Hh.ins l a) b = 0) : ¬ Hh.addE l b = 0 ∨ a.no = b.no := by
  rcases Decidable.em (Hh.addE l b = 0) with h | h
  · obtain ⟨c1, c2, c3, c4⟩ := addE_zero h
    refine .inr (Decidable.byContradiction fun e => hb (addE_mk (err_ins ha) c2 ?_ (by rw [len_ins]; omega)))
    rw [has_ins, c3, Bool.false_or]
    exact decide_eq_false e
  · exact .inl h
end Go.Proofs.Ytninnpcggeofmaa
