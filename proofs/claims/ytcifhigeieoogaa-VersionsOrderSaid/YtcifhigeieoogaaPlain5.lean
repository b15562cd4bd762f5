/- Plain law of layer 16 for VersionsOrder. -/
import Derived.Test.YtcifhigeieoogaaPlain3
namespace Go.Proofs.Ytcifhigeieoogaa
set_option linter.unusedVariables false
set_option linter.unusedSimpArgs false
namespace Vn
theorem inc_ext {s t : List Am} (hs : s.Pairwise (fun x y => x.no < y.no)) (ht : t.Pairwise (fun x y => x.no < y.no)) (h : ∀ x, x ∈ s ↔ x ∈ t) : s = t := by
  induction s generalizing t with
  | nil =>
    cases t with
    | nil => rfl
    | cons y t => have := (h y).2 (by simp); simp at this
  | cons x s ih =>
    cases t with
    | nil => have := (h x).1 (by simp); simp at this
    | cons y t =>
      rw [List.pairwise_cons] at hs ht
      have e : x = y := by
        have h1 := (h x).1 (by simp)
        have h2 := (h y).2 (by simp)
        rw [List.mem_cons] at h1 h2
        rcases h1 with h1 | h1
        · exact h1
        · rcases h2 with h2 | h2
          · exact h2.symm
          · have := hs.1 y h2; have := ht.1 x h1; omega
      subst e
      congr 1
      refine ih hs.2 ht.2 fun z => ?_
      constructor
      · intro hz
        have h1 := (h z).1 (by simp [hz])
        rw [List.mem_cons] at h1
        rcases h1 with rfl | h1
        · have := hs.1 z hz; omega
        · exact h1
      · intro hz
        have h1 := (h z).2 (by simp [hz])
        rw [List.mem_cons] at h1
        rcases h1 with rfl | h1
        · have := ht.1 z hz; omega
        · exact h1
/-- some amendments added one after the other -/
def addAll (xs : List Am) : List Am := xs.foldl ins []
theorem addAll_succ {xs : List Am} {k : Nat} (hk : k < xs.length) : addAll (xs.take (k + 1)) = ins (addAll (xs.take k)) xs[k] := by
  unfold addAll
  rw [List.take_succ_eq_append_getElem hk, List.foldl_append]; rfl
/-- what is added in any order -/
structure Turned (l xs : List Am) : Prop where
  perm : xs.Perm l
  ok : Ok l
theorem Turned.rt {l xs : List Am} (h : Turned l xs) : ∀ x ∈ xs, right x = true := fun x hx => h.ok.rt x (h.perm.mem_iff.1 hx)
theorem Turned.ne {l xs : List Am} (h : Turned l xs) : xs.Pairwise (fun x y => x.no ≠ y.no) :=
  (h.perm.pairwise_iff (fun h => Ne.symm h)).2 (h.ok.inc.imp (fun h => by omega))
theorem Turned.len {l xs : List Am} (h : Turned l xs) : xs.length = l.length := h.perm.length_eq
theorem addAll_facts {l xs : List Am} (h : Turned l xs) : ∀ k, k ≤ xs.length → Ok (addAll (xs.take k)) ∧ (addAll (xs.take k)).length = k ∧ (∀ y, y ∈ addAll (xs.take k) ↔ y ∈ xs.take k) := by
  intro k
  induction k with
  | zero => intro _; exact ⟨⟨by simp [addAll], by simp [addAll], by simp [addAll]⟩, rfl, by simp [addAll]⟩
  | succ k ih =>
    intro hk
    obtain ⟨h1, h2, h3⟩ := ih (by omega)
    have hz := addAll_ok0 h (by omega) h1 h2 h3
    rw [addAll_succ (by omega)]
    refine ⟨ok_ins hz, by rw [ins_len, h2], fun y => ?_⟩
    rw [mem_ins, h3, List.take_succ_eq_append_getElem (by omega), List.mem_append, List.mem_singleton]
    exact Or.comm
where
  addAll_ok0 {l xs : List Am} (h : Turned l xs) {k : Nat} (hk : k < xs.length) (h1 : Ok (addAll (xs.take k))) (h2 : (addAll (xs.take k)).length = k) (h3 : ∀ y, y ∈ addAll (xs.take k) ↔ y ∈ xs.take k) : addE (addAll (xs.take k)) xs[k] = 0 := by
    unfold addE
    have hh : has (addAll (xs.take k)) xs[k].no = false := by
      unfold has
      rw [List.any_eq_false]
      intro y hy
      rw [decide_eq_true_eq]
      have hy2 := (h3 y).1 hy
      obtain ⟨j, hj, rfl⟩ := List.getElem_of_mem hy2
      rw [List.length_take] at hj
      rw [List.getElem_take]
      exact List.pairwise_iff_getElem.1 h.ne j k (by omega) hk (by omega)
    rw [if_pos ((err_iff _).2 h1), if_pos (h.rt _ (List.getElem_mem hk)), hh, if_neg (by decide), if_neg]
    rw [h2]
    have := h.len
    have := h.ok.len
    omega
theorem addAll_ok {l xs : List Am} (h : Turned l xs) {k : Nat} (hk : k < xs.length) : addE (addAll (xs.take k)) xs[k] = 0 ∧ addL (addAll (xs.take k)) xs[k] = addAll (xs.take (k + 1)) := by
  obtain ⟨h1, h2, h3⟩ := addAll_facts h k (by omega)
  have hz := addAll_facts.addAll_ok0 h hk h1 h2 h3
  exact ⟨hz, by rw [addL_ok hz, addAll_succ hk]⟩
theorem addAll_all {l xs : List Am} (h : Turned l xs) : addAll (xs.take xs.length) = l := by
  obtain ⟨h1, _, h3⟩ := addAll_facts h xs.length (Nat.le_refl _)
  refine inc_ext h1.inc h.ok.inc fun y => ?_
  rw [h3, List.take_length, h.perm.mem_iff]
/-- two changed places -/
def swap (xs : List Am) (i k : Nat) : List Am := match xs[i]?, xs[k]? with
  | some a, some b => (xs.set i b).set k a
  | _, _ => xs
theorem swap_eq {xs : List Am} {i k : Nat} (hi : i < xs.length) (hk : k < xs.length) : swap xs i k = (xs.set i xs[k]).set k xs[i] := by
  unfold swap; rw [List.getElem?_eq_getElem hi, List.getElem?_eq_getElem hk]
theorem swap_len (xs : List Am) (i k : Nat) : (swap xs i k).length = xs.length := by
  unfold swap; split <;> simp
theorem swap_perm {xs : List Am} {i k : Nat} (hi : i < xs.length) (hik : i ≤ k) (hk : k < xs.length) : (swap xs i k).Perm xs := by
  rw [swap_eq hi hk]
  by_cases e : i = k
  · subst e; simp
  · have e1 : xs = xs.take i ++ xs[i] :: ((xs.drop (i + 1)).take (k - i - 1) ++ xs[k] :: xs.drop (k + 1)) := by
      have h2 : xs.drop (i + 1) = (xs.drop (i + 1)).take (k - i - 1) ++ xs[k] :: xs.drop (k + 1) := by
        have h3 := (List.take_append_drop (k - i - 1) (xs.drop (i + 1))).symm
        rw [List.drop_drop, show i + 1 + (k - i - 1) = k by omega, List.drop_eq_getElem_cons hk] at h3
        exact h3
      rw [← h2, ← List.drop_eq_getElem_cons hi, List.take_append_drop]
    obtain ⟨A, hA⟩ : ∃ A, xs.take i = A := ⟨_, rfl⟩
    obtain ⟨B, hB⟩ : ∃ B, (xs.drop (i + 1)).take (k - i - 1) = B := ⟨_, rfl⟩
    obtain ⟨D, hD⟩ : ∃ D, xs.drop (k + 1) = D := ⟨_, rfl⟩
    obtain ⟨a, ha⟩ : ∃ a, xs[i] = a := ⟨_, rfl⟩
    obtain ⟨b, hb⟩ : ∃ b, xs[k] = b := ⟨_, rfl⟩
    have hAl : A.length = i := by rw [← hA, List.length_take]; omega
    have hBl : B.length = k - i - 1 := by rw [← hB, List.length_take, List.length_drop]; omega
    rw [hA, hB, hD, ha, hb] at e1
    rw [ha, hb]
    have e2 : (xs.set i b).set k a = A ++ b :: (B ++ a :: D) := by
      rw [e1, List.set_append, if_neg (by omega), hAl, Nat.sub_self, List.set_cons_zero, List.set_append, if_neg (by omega), hAl]
      rw [show k - i = (k - i - 1) + 1 by omega, List.set_cons_succ, List.set_append, if_neg (by omega), hBl, Nat.sub_self, List.set_cons_zero]
    rw [e2, e1]
    refine List.Perm.append_left A ?_
    have p1 : (b :: (B ++ a :: D)).Perm (b :: a :: (B ++ D)) := List.Perm.cons b List.perm_middle
    have p2 : (a :: (B ++ b :: D)).Perm (a :: b :: (B ++ D)) := List.Perm.cons a List.perm_middle
    exact p1.trans ((List.Perm.swap a b _).trans p2.symm)
/-- the own ones -/
def ownK (l : List Am) (key : Int) : List Am := l.filter (fun y => decide (y.key = key))
theorem ownK_ok {l : List Am} (h : Ok l) (key : Int) : Ok (ownK l key) :=
  ⟨Nat.le_trans (List.length_filter_le _ _) h.len, fun x hx => h.rt x (List.mem_filter.1 hx).1, h.inc.filter _⟩
theorem ownK_val {l : List Am} (h : Ok l) (key t kn : Int) : valE (ownK l key) key t kn = valE l key t kn ∧ val (ownK l key) key t kn = val l key t kn := by
  have h2 := ownK_ok h key
  have e : valE (ownK l key) key t kn = valE l key t kn := by unfold valE; rw [if_pos ((err_iff _).2 h2), if_pos ((err_iff _).2 h)]
  refine ⟨e, ?_⟩
  unfold val
  rw [e, vl_eq h2 h (fun y hy => by
    unfold ownK
    rw [List.mem_filter]
    exact ⟨fun h => h.1, fun h => ⟨h, by simpa using (cnt_iff.1 hy).1⟩⟩)]
theorem ownK_succ {l : List Am} {k : Nat} (hk : k < l.length) (key : Int) : ownK (l.take (k + 1)) key = if l[k].key = key then ownK (l.take k) key ++ [l[k]] else ownK (l.take k) key := by
  unfold ownK
  rw [List.take_succ_eq_append_getElem hk, List.filter_append]
  split
  · rename_i h; simp [h]
  · rename_i h; simp [h]
end Vn
end Go.Proofs.Ytcifhigeieoogaa
