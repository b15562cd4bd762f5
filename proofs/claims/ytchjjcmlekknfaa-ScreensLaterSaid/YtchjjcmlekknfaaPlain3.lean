/- Plain mathematics of layer 48, third part: which questions are right, shorter and greater ones, what is accepted. No program in sight. -/
import Derived.Test.YtchjjcmlekknfaaPlain2
namespace Go.Proofs.Ytchjjcmlekknfaa
set_option linter.unusedVariables false
set_option linter.unusedSimpArgs false
namespace Sc

/-- the lines are right -/
def goodL : Int → List Int → List Int → Bool
  | last, t :: r, x :: d => decide (last ≤ t) && (decide (t ≤ 1099511627775) && (decide (0 ≤ x) && (decide (x ≤ 1073741824) && goodL t r d)))
  | _, _, _ => true
/-- the error of a question -/
def errQ (r d : List Int) (m f : Int) : Int :=
  if 64 < r.length ∨ 64 < d.length then 2
  else if r.length ≠ d.length ∨ m < 1 ∨ 8 < m ∨ f < 0 ∨ 1073741824 < f then 480
  else if goodL 0 r d = true then 0 else 480
def mkQ (r d : List Int) (m f : Int) : Qs := ⟨r, d, m.toNat, f⟩

theorem goodL_at : ∀ {last : Int} {r d : List Int}, goodL last r d = true → r.length = d.length → ∀ i, i < r.length →
    (last ≤ at_ r i ∧ at_ r i ≤ 1099511627775) ∧ (0 ≤ at_ d i ∧ at_ d i ≤ 1073741824) ∧ (i + 1 < r.length → at_ r i ≤ at_ r (i + 1))
  | last, [], d, _, _, i, hi => by simp at hi
  | last, t :: r, [], _, hl, _, _ => by simp at hl
  | last, t :: r, x :: d, h, hl, i, hi => by
    simp only [goodL, Bool.and_eq_true, decide_eq_true_eq] at h
    obtain ⟨h1, h2, h3, h4, h5⟩ := h
    have hl2 : r.length = d.length := by simpa using hl
    have ih := goodL_at h5 hl2
    cases i with
    | zero =>
      refine ⟨⟨h1, h2⟩, ⟨h3, h4⟩, fun hi2 => ?_⟩
      exact (ih 0 (by simpa using hi2)).1.1
    | succ i =>
      have hi2 : i < r.length := by simpa using hi
      obtain ⟨a, b, c⟩ := ih i hi2
      exact ⟨⟨Int.le_trans h1 a.1, a.2⟩, b, fun h6 => c (by simpa using h6)⟩
theorem errQ_zero {r d : List Int} {m f : Int} (h : errQ r d m f = 0) : r.length ≤ 64 ∧ r.length = d.length ∧ 1 ≤ m ∧ m ≤ 8 ∧ 0 ≤ f ∧ f ≤ 1073741824 ∧ goodL 0 r d = true := by
  unfold errQ at h
  split at h
  · cases h
  · split at h
    · cases h
    · split at h
      · rename_i h1 h2 h3; exact ⟨by omega, by omega, by omega, by omega, by omega, by omega, h3⟩
      · cases h
theorem errQ_mk {r d : List Int} {m f : Int} (h1 : r.length ≤ 64) (h2 : r.length = d.length) (h3 : 1 ≤ m) (h4 : m ≤ 8) (h5 : 0 ≤ f) (h6 : f ≤ 1073741824) (h7 : goodL 0 r d = true) : errQ r d m f = 0 := by
  unfold errQ; rw [if_neg (by omega), if_neg (by omega), if_pos h7]
theorem ok_of {r d : List Int} {m f : Int} (h : errQ r d m f = 0) : ok (mkQ r d m f) := by
  obtain ⟨h1, h2, h3, h4, h5, h6, h7⟩ := errQ_zero h
  have g := goodL_at h7 h2
  exact ⟨h2.symm, h1, by show 1 ≤ m.toNat; omega, by show m.toNat ≤ 8; omega, h5, h6, fun i hi => (g i hi).1, fun i hi => (g i hi).2.1, fun i hi => (g i (Nat.lt_of_succ_lt hi)).2.2 hi⟩

/-- the first lines alone -/
theorem goodL_take : ∀ {last : Int} {r d : List Int} (j : Nat), goodL last r d = true → goodL last (r.take j) (d.take j) = true
  | last, r, d, 0, _ => by rw [List.take_zero, List.take_zero]; rfl
  | last, [], d, j + 1, _ => by rw [List.take_nil]; rfl
  | last, t :: r, [], j + 1, _ => by rw [List.take_nil]; rfl
  | last, t :: r, x :: d, j + 1, h => by
    rw [List.take_succ_cons, List.take_succ_cons]
    simp only [goodL, Bool.and_eq_true, decide_eq_true_eq] at h ⊢
    exact ⟨h.1, h.2.1, h.2.2.1, h.2.2.2.1, goodL_take j h.2.2.2.2⟩
theorem errQ_take {r d : List Int} {m f : Int} (j : Nat) (h : errQ r d m f = 0) : errQ (r.take j) (d.take j) m f = 0 := by
  obtain ⟨h1, h2, h3, h4, h5, h6, h7⟩ := errQ_zero h
  exact errQ_mk (by rw [List.length_take]; omega) (by rw [List.length_take, List.length_take, h2]) h3 h4 h5 h6 (goodL_take j h7)
theorem at_take {l : List Int} {i j : Nat} (h : i < j) : at_ (l.take j) i = at_ l i := by
  unfold at_; simp [List.getD_eq_getElem?_getD, List.getElem?_take, h]
theorem sumN_take {d : List Int} {k j : Nat} (h : k ≤ j) : sumN (d.take j) k = sumN d k := by
  unfold sumN; rw [List.take_take, Nat.min_eq_left h]
theorem scr_take {r d : List Int} {m f : Int} {i k j : Nat} {b : Int} (h1 : i < k) (h2 : k ≤ j) : scr (mkQ (r.take j) (d.take j) m f) i k b = scr (mkQ r d m f) i k b := by
  unfold scr mkQ
  simp only
  rw [at_take (by omega), sumN_take h2, sumN_take (by omega)]
theorem H_eq {q q' : Qs} (hm : q.m = q'.m) {j : Nat} (hs' : ∀ i k b, i < k → k ≤ j → scr q i k b = scr q' i k b) : ∀ k, k ≤ j → hs q k = hs q' k
  | 0, _ => rfl
  | k + 1, h => by
    rw [hs, hs, H_eq hm hs' k (by omega)]
    congr 2
    unfold stepH
    rw [hm]
    have : ∀ (is : List Nat) (a : Int), (∀ i ∈ is, i < k + 1) → is.foldl (fun acc i => min acc (scr q i (k + 1) (at_ (hs q' k) i))) a = is.foldl (fun acc i => min acc (scr q' i (k + 1) (at_ (hs q' k) i))) a := by
      intro is
      induction is with
      | nil => intros; rfl
      | cons i is ih =>
        intro a hi
        rw [List.foldl_cons, List.foldl_cons, hs' i (k + 1) _ (hi i (by simp)) h]
        exact ih _ fun x hx => hi x (by simp [hx])
    exact this _ _ fun i hi => (mem_ins.1 hi).2
theorem H_take {r d : List Int} {m f : Int} {j k : Nat} (h : k ≤ j) : H (mkQ (r.take j) (d.take j) m f) k = H (mkQ r d m f) k := by
  unfold H; rw [H_eq (q := mkQ (r.take j) (d.take j) m f) (q' := mkQ r d m f) rfl (j := j) (fun i k b h1 h2 => scr_take h1 h2) k h]

/-- a question that is greater is done no earlier -/
theorem H_mono {q q' : Qs} (h : ok q) (h' : ok q') (hn : q.r.length = q'.r.length) (hm : q'.m ≤ q.m) (hs' : ∀ i k b b', b ≤ b' → i < k → k ≤ q.r.length → scr q i k b ≤ scr q' i k b') : ∀ {j : Nat}, j ≤ q.r.length → H q j ≤ H q' j := by
  intro j
  induction j using Nat.strongRecOn with
  | _ j ih =>
    intro hj
    cases j with
    | zero => exact Int.le_refl _
    | succ k =>
      obtain ⟨i, hi, e⟩ := (h'.H_le (j := k + 1) (by omega)).2.2.2.2 (by omega)
      obtain ⟨i1, i2⟩ := mem_ins.1 hi
      have h1 := (h.H_le hj).2.2.2.1 (by omega) i (mem_ins.2 ⟨by omega, i2⟩)
      have h2 := hs' i (k + 1) _ _ (ih i i2 (by omega)) i2 hj
      rw [e]; exact Int.le_trans h1 h2
theorem scr_le {q q' : Qs} {i k : Nat} {b b' : Int} (hb : b ≤ b') (hf : q.f ≤ q'.f) (hr : at_ q.r (k - 1) ≤ at_ q'.r (k - 1)) (hd : sumN q.d k - sumN q.d i ≤ sumN q'.d k - sumN q'.d i) : scr q i k b ≤ scr q' i k b' := by
  unfold scr; split <;> omega
theorem sum_le {d d' : List Int} (hl : d.length = d'.length) (h : ∀ i, at_ d i ≤ at_ d' i) {i k : Nat} (hik : i ≤ k) (hk : k ≤ d.length) : sumN d k - sumN d i ≤ sumN d' k - sumN d' i := by
  induction hik with
  | refl => omega
  | @step k hik ih =>
    have := ih (by omega)
    have := h k
    rw [sumN_succ _ _ (by omega), sumN_succ _ _ (by omega)]
    omega

/-- numbers as Go's -/
def toI : List Nat → List Int
  | [] => []
  | x :: l => (x : Int) :: toI l
/-- a list of ends, of any numbers, is a grouping -/
def grpI (m n : Int) : Int → List Int → Bool
  | last, [] => decide (last = n)
  | last, e :: l => if e ≤ last ∨ n < e ∨ m < e - last then false else grpI m n e l
theorem grpI_nat {m n : Nat} : ∀ {i : Nat} {l : List Int}, grpI m n i l = true → ∃ k : List Nat, l = toI k ∧ Grp m n i k
  | i, [], h => ⟨[], rfl, by simp only [grpI, decide_eq_true_eq] at h; show i = n; omega⟩
  | i, e :: l, h => by
    rw [grpI] at h
    split at h
    · cases h
    · rename_i hc
      have he : e = (e.toNat : Int) := by omega
      rw [he] at h
      obtain ⟨k, e1, g⟩ := grpI_nat h
      exact ⟨e.toNat :: k, by rw [toI, ← he, e1], by omega, by omega, by omega, g⟩
theorem grpI_of {m n : Nat} : ∀ {i : Nat} {k : List Nat}, Grp m n i k → grpI m n i (toI k) = true
  | i, [], h => by simp only [Grp] at h; subst h; simp [grpI, toI]
  | i, e :: k, h => by
    obtain ⟨a, b, c, g⟩ := h
    rw [toI, grpI, if_neg (by omega)]
    exact grpI_of g
/-- when a list of ends is done, of any numbers -/
def doneI (q : Qs) : Int → Int → List Int → Int
  | _, b, [] => b
  | i, b, e :: l => doneI q e (scr q i.toNat e.toNat b) l
theorem doneI_map (q : Qs) : ∀ (i : Nat) (b : Int) (k : List Nat), doneI q i b (toI k) = doneAt q i b k
  | i, b, [] => rfl
  | i, b, e :: k => by
    rw [toI, doneI, doneAt, doneI_map q e]; rfl

/-- the numbers of a proof are within their bounds, and no screen is done earlier -/
def inB (h : List Int) : Bool := h.all (fun x => decide (0 ≤ x) && decide (x ≤ 4398046511104))
def rowB (q : Qs) (h : List Int) (j : Nat) : Bool := (ins q.m j).all (fun i => decide (at_ h j ≤ scr q i j (at_ h i)))
def accB (q : Qs) (ends h : List Int) : Bool :=
  decide (h.length = q.r.length + 1) && inB h && (grpI q.m q.r.length 0 ends && ((List.range (q.r.length + 1)).all (rowB q h) && decide (at_ h q.r.length = doneI q 0 0 ends)))
theorem acc_le {q : Qs} (h : ok q) {hh : List Int} (hr : (List.range (q.r.length + 1)).all (rowB q hh) = true) : ∀ {j : Nat}, 0 < j → j ≤ q.r.length → at_ hh j ≤ H q j := by
  intro j
  induction j using Nat.strongRecOn with
  | _ j ih =>
    intro h0 hj
    obtain ⟨i, hi, e⟩ := (h.H_le hj).2.2.2.2 h0
    rw [List.all_eq_true] at hr
    have h1 := hr j (List.mem_range.2 (by omega))
    unfold rowB at h1
    rw [List.all_eq_true] at h1
    have h2 := of_decide_eq_true (h1 i hi)
    obtain ⟨i1, i2⟩ := mem_ins.1 hi
    rw [e]
    by_cases hz : i = 0
    · subst hz
      have : ∀ b c, scr q 0 j b = scr q 0 j c := fun b c => by unfold scr; rw [if_neg (by omega), if_neg (by omega)]
      rw [this _ (at_ hh 0)]; exact h2
    · exact Int.le_trans h2 (scr_mono q i j (ih i i2 (by omega) (by omega)))
/-- whatever is accepted is done as early as possible -/
theorem acc_sound {q : Qs} (h : ok q) {ends hh : List Int} (ha : accB q ends hh = true) : grpI q.m q.r.length 0 ends = true ∧ doneI q 0 0 ends = H q q.r.length := by
  unfold accB at ha
  simp only [Bool.and_eq_true, decide_eq_true_eq] at ha
  obtain ⟨⟨a1, a2⟩, a3, a4, a5⟩ := ha
  refine ⟨a3, ?_⟩
  obtain ⟨k, e, g⟩ := grpI_nat (i := 0) (by exact a3)
  have h1 := h.least (Nat.le_refl _) k (i := 0) (b := 0) (Int.le_refl _) g
  have e2 : doneI q 0 0 ends = doneAt q 0 0 k := by rw [e]; exact doneI_map q 0 0 k
  rcases Nat.eq_zero_or_pos q.r.length with hz | hz
  · rw [hz] at g ⊢
    rw [grp_n g] at e2
    rw [e2]; rfl
  · have h2 := acc_le h a4 hz (Nat.le_refl _)
    omega
/-- what Group and Prove return is accepted -/
theorem acc_own {q : Qs} (h : ok q) : accB q (toI (best q 0 0).1) (hs q q.r.length) = true := by
  have B := best_best h.m1 0 0 (Nat.zero_le _)
  have hat : ∀ {j}, j ≤ q.r.length → at_ (hs q q.r.length) j = H q j := fun hj => hs_at q hj
  unfold accB
  simp only [Bool.and_eq_true, decide_eq_true_eq]
  refine ⟨⟨hs_len q _, ?_⟩, grpI_of B.grp, ?_, ?_⟩
  · unfold inB
    rw [List.all_eq_true]
    intro x hx
    obtain ⟨j, hj, e⟩ := List.getElem_of_mem hx
    rw [hs_len] at hj
    have e2 : x = H q j := by rw [← hat (by omega), ← e]; unfold at_; simp [List.getD_eq_getElem?_getD, hs_len, hj]
    have := h.H_le (j := j) (by omega)
    have := h.n
    simp only [Bool.and_eq_true, decide_eq_true_eq]
    omega
  · rw [List.all_eq_true]
    intro j hj
    have hj := List.mem_range.1 hj
    unfold rowB
    rw [List.all_eq_true]
    intro i hi
    have hi2 := mem_ins.1 hi
    refine decide_eq_true ?_
    rw [hat (by omega), hat (by omega)]
    exact (h.H_le (j := j) (by omega)).2.2.2.1 (by omega) i hi
  · rw [hat (Nat.le_refl _), ← best_done h]
    rw [show doneI q 0 0 (toI (best q 0 0).1) = _ from doneI_map q 0 0 _, B.done]
end Sc
end Go.Proofs.Ytchjjcmlekknfaa
