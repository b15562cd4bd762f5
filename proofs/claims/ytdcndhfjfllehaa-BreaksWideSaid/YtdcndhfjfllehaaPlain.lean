/- Plain mathematics of layer 47: lines, the least costs, the ends. No program in sight. -/
namespace Go.Proofs.Ytdcndhfjfllehaa
set_option linter.unusedVariables false
set_option linter.unusedSimpArgs false
namespace Bk

/-- the lines that begin with the first word and fit: how many words, what cost -/
def ln (sp : Int) : Int → Nat → List Int → List (Nat × Int)
  | _, _, [] => []
  | left, t, x :: r => if left - (sp + x) < 0 then [] else (t + 1, if r.isEmpty then 0 else (left - (sp + x)) * (left - (sp + x))) :: ln sp (left - (sp + x)) (t + 1) r
def lines (sp rm : Int) (ws : List Int) : List (Nat × Int) := ln sp (rm + sp) 0 ws
def at_ (l : List Int) (i : Nat) : Int := l.getD i 0
def step (tab : List Int) (b : Option (Nat × Int)) (p : Nat × Int) : Option (Nat × Int) := match b with
  | none => some (p.1, p.2 + at_ tab (p.1 - 1))
  | some (t, y) => if p.2 + at_ tab (p.1 - 1) < y then some (p.1, p.2 + at_ tab (p.1 - 1)) else some (t, y)
def pick (tab : List Int) (l : List (Nat × Int)) : Option (Nat × Int) := l.foldl (step tab) none
/-- the least costs from each word on -/
def tab (sp rm : Int) : List Int → List Int
  | [] => [0]
  | x :: r => (match pick (tab sp rm r) (lines sp rm (x :: r)) with
    | some (_, y) => y
    | none => 0) :: tab sp rm r
/-- how many words the first line has -/
def fst (sp rm : Int) (ws : List Int) : Nat := match pick (tab sp rm ws.tail) (lines sp rm ws) with
  | some (t, _) => t
  | none => 0
/-- all words can stand on a line -/
def ok (sp rm : Int) (ws : List Int) : Prop := 0 ≤ sp ∧ ∀ x ∈ ws, 1 ≤ x ∧ x ≤ rm
theorem ok.tail {sp rm : Int} {x : Int} {r : List Int} (h : ok sp rm (x :: r)) : ok sp rm r := ⟨h.1, fun y hy => h.2 y (by simp [hy])⟩
theorem ok.drop {sp rm : Int} {ws : List Int} (h : ok sp rm ws) (k : Nat) : ok sp rm (ws.drop k) := ⟨h.1, fun y hy => h.2 y (List.mem_of_mem_drop hy)⟩

theorem tab_len (sp rm : Int) (ws : List Int) : (tab sp rm ws).length = ws.length + 1 := by
  induction ws with
  | nil => rfl
  | cons x r ih => simp only [tab, List.length_cons, ih]
theorem tab_drop (sp rm : Int) (ws : List Int) (k : Nat) (h : k ≤ ws.length) : (tab sp rm ws).drop k = tab sp rm (ws.drop k) := by
  induction ws generalizing k with
  | nil => simp at h; subst h; rfl
  | cons x r ih =>
    cases k with
    | zero => rfl
    | succ k => simp only [tab, List.drop_succ_cons]; exact ih k (by simpa using h)
theorem at_drop (l : List Int) (i k : Nat) : at_ (l.drop k) i = at_ l (k + i) := by
  unfold at_; simp [List.getD_eq_getElem?_getD]
theorem tab_at (sp rm : Int) (ws : List Int) (k : Nat) (h : k ≤ ws.length) : at_ (tab sp rm ws) k = at_ (tab sp rm (ws.drop k)) 0 := by
  rw [← tab_drop sp rm ws k h, at_drop, Nat.add_zero]

/-- where a line of t words stands in lines -/
theorem ln_mem {sp left : Int} {t : Nat} {ws : List Int} {e : Nat} {c : Int} (h : (e, c) ∈ ln sp left t ws) : t < e ∧ e ≤ t + ws.length ∧ 0 ≤ c := by
  induction ws generalizing left t with
  | nil => simp [ln] at h
  | cons x r ih =>
    rw [ln] at h
    split at h
    · simp at h
    · rcases List.mem_cons.1 h with h | h
      · injection h with h1 h2
        subst h1 h2
        refine ⟨by omega, by simp, ?_⟩
        split
        · exact Int.le_refl 0
        · exact Int.mul_nonneg (by omega) (by omega)
      · have := ih h
        simp; omega
theorem lines_mem {sp rm : Int} {ws : List Int} {e : Nat} {c : Int} (h : (e, c) ∈ lines sp rm ws) : 1 ≤ e ∧ e ≤ ws.length ∧ 0 ≤ c := by
  have := ln_mem h; omega
/-- the numbers of words go up by one -/
theorem ln_get {sp left : Int} {t : Nat} {ws : List Int} {k : Nat} (h : k < (ln sp left t ws).length) : ((ln sp left t ws)[k]).1 = t + k + 1 := by
  induction ws generalizing left t k with
  | nil => simp [ln] at h
  | cons x r ih =>
    by_cases hc : left - (sp + x) < 0
    · have : ln sp left t (x :: r) = [] := by rw [ln, if_pos hc]
      simp [this] at h
    · have e : ln sp left t (x :: r) = (t + 1, if r.isEmpty then 0 else (left - (sp + x)) * (left - (sp + x))) :: ln sp (left - (sp + x)) (t + 1) r := by rw [ln, if_neg hc]
      simp only [e] at h ⊢
      cases k with
      | zero => rfl
      | succ k =>
        simp only [List.getElem_cons_succ]
        rw [ih (by simpa using h)]; omega
theorem lines_get {sp rm : Int} {ws : List Int} {k : Nat} (h : k < (lines sp rm ws).length) : ((lines sp rm ws)[k]).1 = k + 1 := by
  have := ln_get (sp := sp) (left := rm + sp) (t := 0) (ws := ws) h
  unfold lines; omega
theorem lines_ne {sp rm : Int} {x : Int} {r : List Int} (h : ok sp rm (x :: r)) : lines sp rm (x :: r) ≠ [] := by
  unfold lines
  have := h.2 x (by simp)
  rw [ln, if_neg (by omega)]
  simp

theorem rev_ind {α : Type} {P : List α → Prop} (h0 : P []) (hs : ∀ l a, P l → P (l ++ [a])) (l : List α) : P l := by
  have key : ∀ n (l : List α), l.length = n → P l := by
    intro n
    induction n with
    | zero => intro l h; rw [List.eq_nil_of_length_eq_zero h]; exact h0
    | succ n ih =>
      intro l h
      have hne : l ≠ [] := by intro e; rw [e] at h; simp at h
      rw [← List.dropLast_concat_getLast hne]
      exact hs _ _ (ih _ (by simp; omega))
  exact key _ l rfl
/-- what pick finds: the first of the least -/
structure Best (tab : List Int) (l : List (Nat × Int)) (t : Nat) (y : Int) : Prop where
  mem : ∃ c, (t, c) ∈ l ∧ y = c + at_ tab (t - 1)
  le : ∀ e c, (e, c) ∈ l → y ≤ c + at_ tab (e - 1)
  lt : ∀ e c, (e, c) ∈ l → e < t → y < c + at_ tab (e - 1)
theorem pick_snoc (tab : List Int) (l : List (Nat × Int)) (p : Nat × Int) : pick tab (l ++ [p]) = step tab (pick tab l) p := by
  unfold pick; rw [List.foldl_append]; rfl
theorem pick_spec (tab : List Int) (l : List (Nat × Int)) (hs : ∀ k (h : k < l.length), (l[k]).1 = k + 1) : (l = [] ∧ pick tab l = none) ∨ ∃ t y, pick tab l = some (t, y) ∧ Best tab l t y := by
  revert hs
  refine rev_ind (P := fun l => (∀ k (h : k < l.length), (l[k]).1 = k + 1) → ((l = [] ∧ pick tab l = none) ∨ ∃ t y, pick tab l = some (t, y) ∧ Best tab l t y)) (fun _ => .inl ⟨rfl, rfl⟩) ?_ l
  · intro l p ih hs
    right
    have hs' : ∀ k (h : k < l.length), (l[k]).1 = k + 1 := fun k h => by
      have := hs k (by simp; omega)
      rwa [List.getElem_append_left h] at this
    have hp : p.1 = l.length + 1 := by
      have := hs l.length (by simp)
      simpa using this
    rw [pick_snoc]
    rcases ih hs' with ⟨rfl, e⟩ | ⟨t, y, e, hb⟩
    · rw [e]
      refine ⟨p.1, p.2 + at_ tab (p.1 - 1), rfl, ⟨p.2, by simp, rfl⟩, fun e c h => ?_, fun e c h hlt => ?_⟩
      · simp at h; subst h; exact Int.le_refl _
      · simp at h; subst h; simp at hlt
    · rw [e]
      have hmem : ∀ e c, (e, c) ∈ l → e ≤ l.length := fun e c h => by
        obtain ⟨k, hk, he⟩ := List.getElem_of_mem h
        have := hs' k hk
        rw [he] at this
        simp at this; omega
      simp only [step]
      split
      · rename_i hlt
        refine ⟨p.1, p.2 + at_ tab (p.1 - 1), rfl, ⟨p.2, by simp, rfl⟩, fun e c h => ?_, fun e c h hlt2 => ?_⟩
        · rcases List.mem_append.1 h with h | h
          · have := hb.le e c h; omega
          · simp at h; subst h; exact Int.le_refl _
        · rcases List.mem_append.1 h with h | h
          · have := hb.le e c h; omega
          · simp at h; subst h; simp at hlt2
      · rename_i hge
        refine ⟨t, y, rfl, ?_, fun e c h => ?_, fun e c h hlt2 => ?_⟩
        · obtain ⟨c, hc, h2⟩ := hb.mem
          exact ⟨c, by simp [hc], h2⟩
        · rcases List.mem_append.1 h with h | h
          · exact hb.le e c h
          · simp at h; subst h; have h3 : ¬ c + at_ tab (e - 1) < y := hge; omega
        · rcases List.mem_append.1 h with h | h
          · exact hb.lt e c h hlt2
          · simp at h
            subst h
            obtain ⟨c', hc', _⟩ := hb.mem
            have := hmem t c' hc'
            simp at hp hlt2; omega
theorem fst_spec {sp rm : Int} {ws : List Int} (h : ok sp rm ws) (hne : ws ≠ []) : Best (tab sp rm ws.tail) (lines sp rm ws) (fst sp rm ws) (at_ (tab sp rm ws) 0) := by
  cases ws with
  | nil => exact absurd rfl hne
  | cons x r =>
    rcases pick_spec (tab sp rm r) (lines sp rm (x :: r)) (fun k h => lines_get h) with ⟨e, _⟩ | ⟨t, y, e, hb⟩
    · exact absurd e (lines_ne h)
    · have e1 : fst sp rm (x :: r) = t := by unfold fst; rw [List.tail_cons, e]
      have e2 : at_ (tab sp rm (x :: r)) 0 = y := by rw [tab, e]; rfl
      rw [e1, e2]; exact hb
theorem fst_bd {sp rm : Int} {ws : List Int} (h : ok sp rm ws) (hne : ws ≠ []) : 1 ≤ fst sp rm ws ∧ fst sp rm ws ≤ ws.length := by
  obtain ⟨c, hc, _⟩ := (fst_spec h hne).mem
  have := lines_mem hc
  omega
theorem tab_nonneg {sp rm : Int} (ws : List Int) (h : ok sp rm ws) : ∀ i, 0 ≤ at_ (tab sp rm ws) i := by
  induction ws with
  | nil => intro i; unfold at_ tab; cases i <;> simp
  | cons x r ih =>
    intro i
    cases i with
    | zero =>
      obtain ⟨c, hc, hy⟩ := (fst_spec h (by simp)).mem
      have h1 := (lines_mem hc).2.2
      have h2 := ih h.tail (fst sp rm (x :: r) - 1)
      rw [hy]
      simp only [List.tail_cons]
      omega
    | succ i =>
      have := ih h.tail i
      have e : at_ (tab sp rm (x :: r)) (i + 1) = at_ (tab sp rm r) i := by simp [tab, at_]
      rw [e]; exact this
end Bk
end Go.Proofs.Ytdcndhfjfllehaa
