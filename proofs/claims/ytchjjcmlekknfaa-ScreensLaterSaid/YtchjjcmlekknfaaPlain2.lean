/- Plain mathematics of layer 48, second part: the reference's best groupings, and the first of the earliest ones by the latest times. No program in sight. -/
import Derived.Test.YtchjjcmlekknfaaPlain
namespace Go.Proofs.Ytchjjcmlekknfaa
set_option linter.unusedVariables false
set_option linter.unusedSimpArgs false
namespace Sc

/-- where a screen that begins at a line can end -/
def outs (m n i : Nat) : List Nat := List.range' (i + 1) (min n (i + m) - i)
theorem mem_outs {m n i j : Nat} : j ∈ outs m n i ↔ i < j ∧ j ≤ n ∧ j ≤ i + m := by
  unfold outs; rw [List.mem_range'_1]; omega
abbrev Bst := Option (List Nat × Int)
def stepB (j : Nat) (p : List Nat × Int) (acc : Bst) : Bst := match acc with
  | none => some (j :: p.1, p.2)
  | some a => if p.2 < a.2 then some (j :: p.1, p.2) else some a
def outB : Bst → List Nat × Int
  | none => ([], 0)
  | some a => a
/-- the reference's best grouping from a line on -/
def bst (q : Qs) : Nat → Nat → Int → List Nat × Int
  | 0, _, b => ([], b)
  | k + 1, i, b => if i = q.r.length then ([], b) else outB ((outs q.m q.r.length i).foldl (fun acc j => stepB j (bst q k j (scr q i j b)) acc) none)

/-- a list of ends comes before another one -/
def bef : List Nat → List Nat → Bool
  | [], [] => false
  | [], _ :: _ => true
  | _ :: _, [] => false
  | a :: l, b :: m => if a = b then bef l m else decide (a < b)

theorem fold_pick (g : Nat → List Nat × Int) : ∀ (js : List Nat) (a : Bst), js.Pairwise (· < ·) → (∀ x, a = some x → ∃ j0, (∀ j ∈ js, j0 < j) ∧ x = (j0 :: (g j0).1, (g j0).2)) → (a = none → js ≠ []) →
    ∃ j, (j ∈ js ∨ ∃ x, a = some x ∧ x = (j :: (g j).1, (g j).2)) ∧ js.foldl (fun acc j => stepB j (g j) acc) a = some (j :: (g j).1, (g j).2) ∧
      (∀ j' ∈ js, (g j).2 ≤ (g j').2 ∧ (j' < j → (g j).2 < (g j').2)) ∧ (∀ x, a = some x → (g j).2 ≤ x.2 ∧ (x ≠ (j :: (g j).1, (g j).2) → (g j).2 < x.2))
  | [], a, _, ha, hn => by
    cases a with
    | none => exact absurd rfl (hn rfl)
    | some x =>
      obtain ⟨j0, _, e⟩ := ha x rfl
      exact ⟨j0, .inr ⟨x, rfl, e⟩, by rw [List.foldl_nil, e], by simp, fun y hy => by cases hy; exact ⟨by rw [e]; exact Int.le_refl _, fun h => absurd e h⟩⟩
  | j1 :: js, a, hp, ha, hn => by
    rw [List.pairwise_cons] at hp
    rw [List.foldl_cons]
    have key : ∃ j0, stepB j1 (g j1) a = some (j0 :: (g j0).1, (g j0).2) ∧ (∀ j ∈ js, j0 < j) ∧ (j0 = j1 ∨ (j0 < j1 ∧ a = some (j0 :: (g j0).1, (g j0).2))) ∧ (g j0).2 ≤ (g j1).2 ∧ (∀ x, a = some x → (g j0).2 ≤ x.2 ∧ (x ≠ (j0 :: (g j0).1, (g j0).2) → (g j0).2 < x.2)) := by
      cases a with
      | none => exact ⟨j1, rfl, hp.1, .inl rfl, Int.le_refl _, by simp⟩
      | some x =>
        obtain ⟨j0, h0, e⟩ := ha x rfl
        simp only [stepB]
        by_cases hlt : (g j1).2 < x.2
        · rw [if_pos hlt]
          exact ⟨j1, rfl, hp.1, .inl rfl, Int.le_refl _, fun y hy => by cases hy; exact ⟨by omega, fun _ => hlt⟩⟩
        · rw [if_neg hlt]
          refine ⟨j0, by rw [e], fun j hj => h0 j (by simp [hj]), .inr ⟨h0 j1 (by simp), by rw [e]⟩, ?_, fun y hy => ?_⟩
          · rw [e] at hlt; simp at hlt; exact hlt
          · cases hy; exact ⟨by rw [e]; exact Int.le_refl _, fun h => absurd e h⟩
    obtain ⟨j0, e0, h1, h2, h3, h4⟩ := key
    rw [e0]
    obtain ⟨j, c1, c2, c3, c4⟩ := fold_pick g js (some (j0 :: (g j0).1, (g j0).2)) hp.2 (fun x hx => by cases hx; exact ⟨j0, h1, rfl⟩) (by simp)
    have c5 := c4 _ rfl
    have hj0 : j = j0 ∨ j0 < j := by
      rcases c1 with c1 | ⟨x, hx, e⟩
      · exact .inr (h1 j c1)
      · cases hx; injection e with e _; injection e with e _; exact .inl e.symm
    have hst : j ≠ j0 → (g j).2 < (g j0).2 := fun hne => c5.2 (fun e => by injection e with e _; injection e with e _; exact hne e.symm)
    refine ⟨j, ?_, c2, ?_, ?_⟩
    · rcases c1 with c1 | ⟨x, hx, e⟩
      · exact .inl (by simp [c1])
      · cases hx
        injection e with e _; injection e with e _; subst e
        rcases h2 with rfl | ⟨_, h2⟩
        · exact .inl (by simp)
        · exact .inr ⟨_, h2, rfl⟩
    · intro j' hj'
      rcases List.mem_cons.1 hj' with rfl | hj'
      · refine ⟨by have := c5.1; simp at this; omega, fun hlt => ?_⟩
        have : j ≠ j0 := by rcases h2 with h2 | ⟨h2, _⟩ <;> omega
        have := hst this
        omega
      · exact c3 j' hj'
    · intro x hx
      obtain ⟨d1, d2⟩ := h4 x hx
      have d3 := c5.1
      simp at d3
      refine ⟨by omega, fun hne => ?_⟩
      by_cases hjj : j = j0
      · subst hjj; exact d2 hne
      · have := hst hjj; omega

/-- what the best grouping is -/
structure Best (q : Qs) (i : Nat) (b : Int) (p : List Nat × Int) : Prop where
  grp : Grp q.m q.r.length i p.1
  done : doneAt q i b p.1 = p.2
  least : ∀ l, Grp q.m q.r.length i l → p.2 ≤ doneAt q i b l
  first : ∀ l, Grp q.m q.r.length i l → doneAt q i b l = p.2 → bef l p.1 = false
theorem grp_le {m n i : Nat} {l : List Nat} (h : Grp m n i l) : i ≤ n := by
  cases l with
  | nil => simp only [Grp] at h; omega
  | cons j l => obtain ⟨a, b, _⟩ := h; omega
theorem grp_n {m n : Nat} {l : List Nat} (h : Grp m n n l) : l = [] := by
  cases l with
  | nil => rfl
  | cons j l => obtain ⟨a, b, _⟩ := h; omega
theorem outs_pair (m n i : Nat) : (outs m n i).Pairwise (· < ·) := List.pairwise_lt_range'
/-- one step of it -/
theorem bst_step {q : Qs} (hm : 1 ≤ q.m) {k i : Nat} {b : Int} (hi : i < q.r.length) : ∃ j, j ∈ outs q.m q.r.length i ∧ bst q (k + 1) i b = (j :: (bst q k j (scr q i j b)).1, (bst q k j (scr q i j b)).2) ∧
    ∀ j' ∈ outs q.m q.r.length i, (bst q k j (scr q i j b)).2 ≤ (bst q k j' (scr q i j' b)).2 ∧ (j' < j → (bst q k j (scr q i j b)).2 < (bst q k j' (scr q i j' b)).2) := by
  have hne : outs q.m q.r.length i ≠ [] := by
    intro h
    have : i + 1 ∈ outs q.m q.r.length i := mem_outs.2 ⟨by omega, by omega, by omega⟩
    rw [h] at this; simp at this
  obtain ⟨j, h1, h2, h3, h4⟩ := fold_pick (fun j => bst q k j (scr q i j b)) (outs q.m q.r.length i) none (outs_pair _ _ _) (by simp) (fun _ => hne)
  refine ⟨j, ?_, ?_, h3⟩
  · rcases h1 with h1 | ⟨x, hx, _⟩
    · exact h1
    · cases hx
  · rw [bst, if_neg (by omega), h2]; rfl
theorem bst_best {q : Qs} (hm : 1 ≤ q.m) : ∀ (k i : Nat) (b : Int), i ≤ q.r.length → q.r.length ≤ i + k → Best q i b (bst q k i b)
  | 0, i, b, h1, h2 => by
    have e : i = q.r.length := by omega
    exact ⟨e, rfl, fun l hl => by rw [e] at hl; rw [grp_n hl]; exact Int.le_refl _, fun l hl _ => by rw [e] at hl; rw [grp_n hl]; rfl⟩
  | k + 1, i, b, h1, h2 => by
    by_cases e : i = q.r.length
    · have e2 : bst q (k + 1) i b = ([], b) := by rw [bst, if_pos e]
      rw [e2]
      exact ⟨e, rfl, fun l hl => by rw [e] at hl; rw [grp_n hl]; exact Int.le_refl _, fun l hl _ => by rw [e] at hl; rw [grp_n hl]; rfl⟩
    · obtain ⟨j, hj, e2, h3⟩ := bst_step hm (k := k) (b := b) (show i < q.r.length by omega)
      obtain ⟨a1, a2, a3⟩ := mem_outs.1 hj
      have B := bst_best hm k j (scr q i j b) a2 (by omega)
      rw [e2]
      refine ⟨⟨a1, a2, a3, B.grp⟩, B.done, fun l hl => ?_, fun l hl hd => ?_⟩
      · cases l with
        | nil => simp only [Grp] at hl; omega
        | cons x l =>
          obtain ⟨b1, b2, b3, b4⟩ := hl
          have := (h3 x (mem_outs.2 ⟨b1, b2, b3⟩)).1
          have := (bst_best hm k x (scr q i x b) b2 (by omega)).least l b4
          simp only [doneAt]; omega
      · cases l with
        | nil => simp only [Grp] at hl; omega
        | cons x l =>
          obtain ⟨b1, b2, b3, b4⟩ := hl
          simp only [doneAt] at hd
          simp only [bef]
          by_cases hx : x = j
          · subst hx; rw [if_pos rfl]; exact B.first l b4 hd
          · rw [if_neg hx]
            refine decide_eq_false fun hlt => ?_
            have := (h3 x (mem_outs.2 ⟨b1, b2, b3⟩)).2 hlt
            have := (bst_best hm k x (scr q i x b) b2 (by omega)).least l b4
            omega
def best (q : Qs) (i : Nat) (b : Int) : List Nat × Int := bst q (q.r.length - i) i b
theorem best_best {q : Qs} (hm : 1 ≤ q.m) (i : Nat) (b : Int) (hi : i ≤ q.r.length) : Best q i b (best q i b) := bst_best hm _ _ _ hi (by omega)
/-- more fuel changes nothing -/
theorem bst_fuel (q : Qs) : ∀ (k k' i : Nat) (b : Int), i ≤ q.r.length → q.r.length ≤ i + k → q.r.length ≤ i + k' → bst q k i b = bst q k' i b
  | 0, 0, _, _, _, _, _ => rfl
  | 0, k' + 1, i, b, h1, h2, h3 => by rw [bst, bst, if_pos (by omega)]
  | k + 1, 0, i, b, h1, h2, h3 => by rw [bst, bst, if_pos (by omega)]
  | k + 1, k' + 1, i, b, h1, h2, h3 => by
    rw [bst, bst]
    split
    · rfl
    · congr 1
      have : ∀ (js : List Nat) (a : Bst), (∀ j ∈ js, i < j ∧ j ≤ q.r.length) → js.foldl (fun acc j => stepB j (bst q k j (scr q i j b)) acc) a = js.foldl (fun acc j => stepB j (bst q k' j (scr q i j b)) acc) a := by
        intro js
        induction js with
        | nil => intros; rfl
        | cons j js ih =>
          intro a h
          rw [List.foldl_cons, List.foldl_cons, bst_fuel q k k' j _ (h j (by simp)).2 (by have := h j (by simp); omega) (by have := h j (by simp); omega)]
          exact ih _ fun x hx => h x (by simp [hx])
      exact this _ _ fun j hj => by have := mem_outs.1 hj; omega

theorem best_done {q : Qs} (h : ok q) : (best q 0 0).2 = H q q.r.length := by
  have B := best_best h.m1 0 0 (Nat.zero_le _)
  obtain ⟨l, g, e⟩ := h.grp (Nat.le_refl q.r.length)
  have h1 := B.least l g
  have h2 := h.least (Nat.le_refl _) (best q 0 0).1 (i := 0) (b := 0) (Int.le_refl _) B.grp
  rw [B.done] at h2
  omega

/-- the latest times, in an array of 65 -/
def latI (q : Qs) (j : Nat) (l : List Int) (i : Nat) : List Int := if at_ q.r (j - 1) + (sumN q.d j - sumN q.d i) ≤ at_ l j then l.set i (max (at_ l i) (at_ l j - (sumN q.d j - sumN q.d i) - q.f)) else l
def latS (q : Qs) (l : List Int) (j : Nat) : List Int := (ins q.m j).foldl (latI q j) l
def lat0 (n : Nat) (D : Int) : List Int := List.replicate n (-1152921504606846976) ++ D :: List.replicate (64 - n) 0
def lat (q : Qs) (D : Int) : Nat → List Int
  | 0 => lat0 q.r.length D
  | k + 1 => latS q (lat q D k) (q.r.length - k)
theorem latI_len (q : Qs) (j : Nat) (l : List Int) (i : Nat) : (latI q j l i).length = l.length := by
  unfold latI; split <;> simp
theorem latF_len (q : Qs) (j : Nat) (is : List Nat) (l : List Int) : (is.foldl (latI q j) l).length = l.length := by
  induction is generalizing l with
  | nil => rfl
  | cons i is ih => rw [List.foldl_cons, ih, latI_len]
theorem lat0_len {n : Nat} (h : n ≤ 64) (D : Int) : (lat0 n D).length = 65 := by simp [lat0]; omega
theorem lat_len {q : Qs} (h : q.r.length ≤ 64) (D : Int) (k : Nat) : (lat q D k).length = 65 := by
  induction k with
  | zero => exact lat0_len h D
  | succ k ih => rw [lat, latS, latF_len, ih]
theorem at_set {l : List Int} {i j : Nat} {v : Int} (h : i < l.length) : at_ (l.set i v) j = if i = j then v else at_ l j := by
  unfold at_
  rw [List.getD_eq_getElem?_getD, List.getElem?_set]
  split
  · rename_i e; subst e; simp [h]
  · rfl
theorem latI_at {q : Qs} {j i x : Nat} {l : List Int} (hi : i < l.length) : at_ (latI q j l i) x = if x = i ∧ at_ q.r (j - 1) + (sumN q.d j - sumN q.d i) ≤ at_ l j then max (at_ l i) (at_ l j - (sumN q.d j - sumN q.d i) - q.f) else at_ l x := by
  unfold latI
  by_cases hc : at_ q.r (j - 1) + (sumN q.d j - sumN q.d i) ≤ at_ l j
  · rw [if_pos hc, at_set hi]
    by_cases hx : x = i
    · rw [if_pos hx.symm, if_pos ⟨hx, hc⟩]
    · rw [if_neg (fun e => hx e.symm), if_neg (fun e => hx e.1)]
  · rw [if_neg hc, if_neg (fun e => hc e.2)]
theorem latF_at {q : Qs} {j : Nat} : ∀ (is : List Nat) (l : List Int) (x : Nat), (∀ i ∈ is, i < j) → is.Nodup → j < l.length →
    at_ (is.foldl (latI q j) l) x = if x ∈ is ∧ at_ q.r (j - 1) + (sumN q.d j - sumN q.d x) ≤ at_ l j then max (at_ l x) (at_ l j - (sumN q.d j - sumN q.d x) - q.f) else at_ l x
  | [], l, x, _, _, _ => by simp
  | i :: is, l, x, h1, h2, h3 => by
    rw [List.nodup_cons] at h2
    have hij := h1 i (by simp)
    rw [List.foldl_cons, latF_at is _ x (fun y hy => h1 y (by simp [hy])) h2.2 (by rw [latI_len]; exact h3)]
    have ej : at_ (latI q j l i) j = at_ l j := by rw [latI_at (by omega), if_neg (by omega)]
    rw [ej]
    by_cases hx : x = i
    · subst hx
      rw [if_neg (fun e => h2.1 e.1), latI_at (by omega)]
      by_cases hc : at_ q.r (j - 1) + (sumN q.d j - sumN q.d x) ≤ at_ l j
      · rw [if_pos ⟨rfl, hc⟩, if_pos ⟨by simp, hc⟩]
      · rw [if_neg (fun e => hc e.2), if_neg (fun e => hc e.2)]
    · have hm : x ∈ i :: is ↔ x ∈ is := by simp [hx]
      have eX : at_ (latI q j l i) x = at_ l x := by rw [latI_at (by omega), if_neg (fun e => hx e.1)]
      rw [eX]
      simp only [hm]
theorem ins_nodup (m j : Nat) : (ins m j).Nodup := List.nodup_range'
theorem latS_at {q : Qs} {j x : Nat} {l : List Int} (h3 : j < l.length) : at_ (latS q l j) x = if x ∈ ins q.m j ∧ at_ q.r (j - 1) + (sumN q.d j - sumN q.d x) ≤ at_ l j then max (at_ l x) (at_ l j - (sumN q.d j - sumN q.d x) - q.f) else at_ l x :=
  latF_at _ _ _ (fun i hi => (mem_ins.1 hi).2) (ins_nodup _ _) h3
def L (q : Qs) (D : Int) (i : Nat) : Int := at_ (lat q D q.r.length) i
theorem lat0_n (n : Nat) (D : Int) : at_ (lat0 n D) n = D := by unfold at_ lat0; simp [List.getD_eq_getElem?_getD]
theorem lat0_lt {n i : Nat} (D : Int) (h : i < n) : at_ (lat0 n D) i = -1152921504606846976 := by
  unfold at_ lat0
  rw [List.getD_eq_getElem?_getD, List.getElem?_append_left (by simpa using h)]
  simp [h]
/-- an element stands when all behind it are done -/
theorem lat_fix {q : Qs} (h : ok q) (D : Int) : ∀ (k e : Nat) {i : Nat}, k + e ≤ q.r.length → q.r.length ≤ i + k → i ≤ q.r.length → at_ (lat q D (k + e)) i = at_ (lat q D k) i
  | k, 0, i, _, _, _ => rfl
  | k, e + 1, i, h1, h2, h3 => by
    rw [← Nat.add_assoc, lat, latS_at (by rw [lat_len h.n]; have := h.n; omega), if_neg (fun hh => by have := (mem_ins.1 hh.1).2; omega)]
    exact lat_fix h D k e (by omega) h2 h3
theorem L_at {q : Qs} (h : ok q) (D : Int) {k i : Nat} (hk : k ≤ q.r.length) (hi : q.r.length ≤ i + k) (hi2 : i ≤ q.r.length) : L q D i = at_ (lat q D k) i := by
  have := lat_fix h D k (q.r.length - k) (i := i) (by omega) hi hi2
  rw [show k + (q.r.length - k) = q.r.length by omega] at this
  exact this
theorem L_n {q : Qs} (h : ok q) (D : Int) : L q D q.r.length = D := by
  rw [L_at h D (k := 0) (by omega) (by omega) (by omega), lat, lat0_n]
theorem lat_iff {q : Qs} (h : ok q) (D : Int) (k : Nat) (hk : k ≤ q.r.length) {i : Nat} (hi : i < q.r.length) {t : Int} (ht : 0 ≤ t) :
    t ≤ at_ (lat q D k) i ↔ ∃ j, q.r.length < j + k ∧ j ≤ q.r.length ∧ i ∈ ins q.m j ∧ at_ q.r (j - 1) + (sumN q.d j - sumN q.d i) ≤ L q D j ∧ t ≤ L q D j - (sumN q.d j - sumN q.d i) - q.f := by
  induction k with
  | zero =>
    rw [lat, lat0_lt D hi]
    constructor
    · intro h; omega
    · rintro ⟨j, h1, h2, _⟩; omega
  | succ k ih =>
    have ih := ih (by omega)
    rw [lat, latS_at (by rw [lat_len h.n]; have := h.n; omega)]
    have eL : at_ (lat q D k) (q.r.length - k) = L q D (q.r.length - k) := (L_at h D (by omega) (by omega) (by omega)).symm
    rw [eL]
    constructor
    · intro hle
      split at hle
      · rename_i hc
        by_cases hold : t ≤ at_ (lat q D k) i
        · obtain ⟨j, a, b, c, d⟩ := ih.1 hold
          exact ⟨j, by omega, b, c, d⟩
        · exact ⟨q.r.length - k, by omega, by omega, hc.1, hc.2, by omega⟩
      · obtain ⟨j, a, b, c, d⟩ := ih.1 hle
        exact ⟨j, by omega, b, c, d⟩
    · rintro ⟨j, a, b, c, d, e⟩
      by_cases hj : j = q.r.length - k
      · subst hj
        rw [if_pos ⟨c, d⟩]; omega
      · have := ih.2 ⟨j, by omega, b, c, d, e⟩
        split <;> omega
/-- the latest time: what is done then can be followed by a grouping that is done in time -/
theorem L_iff {q : Qs} (h : ok q) (D : Int) : ∀ (e i : Nat), 0 < i → i + e = q.r.length → ∀ {t : Int}, 0 ≤ t → (t ≤ L q D i ↔ ∃ l, Grp q.m q.r.length i l ∧ doneAt q i t l ≤ D) := by
  intro e
  induction e using Nat.strongRecOn with
  | _ e ih =>
    intro i hi he t ht
    by_cases hn : i = q.r.length
    · rw [hn, L_n h]
      constructor
      · intro h1; exact ⟨[], rfl, h1⟩
      · rintro ⟨l, hl, h1⟩; rw [grp_n hl] at h1; exact h1
    · rw [L, lat_iff h D q.r.length (Nat.le_refl _) (by omega) ht]
      have hsc : ∀ j, j ≤ q.r.length → (at_ q.r (j - 1) + (sumN q.d j - sumN q.d i) ≤ L q D j ∧ t ≤ L q D j - (sumN q.d j - sumN q.d i) - q.f ↔ scr q i j t ≤ L q D j) := fun j hj => by
        unfold scr; rw [if_pos hi]; omega
      have hs0 : ∀ j, i < j → j ≤ q.r.length → 0 ≤ scr q i j t := fun j hij hj => by
        have := h.r0 (j - 1) (by omega)
        have := h.sum_mono (i := i) (j := j) (by omega) hj
        unfold scr; rw [if_pos hi]; omega
      constructor
      · rintro ⟨j, a, b, c, d⟩
        obtain ⟨c1, c2⟩ := mem_ins.1 c
        obtain ⟨l, g1, g2⟩ := (ih (q.r.length - j) (by omega) j (by omega) (by omega) (hs0 j c2 b)).1 ((hsc j b).1 d)
        exact ⟨j :: l, ⟨c2, b, by omega, g1⟩, g2⟩
      · rintro ⟨l, g1, g2⟩
        cases l with
        | nil => simp only [Grp] at g1; omega
        | cons j l =>
          obtain ⟨a1, a2, a3, a4⟩ := g1
          refine ⟨j, by omega, a2, mem_ins.2 ⟨by omega, a1⟩, (hsc j a2).2 ?_⟩
          exact (ih (q.r.length - j) (by omega) j (by omega) (by omega) (hs0 j a1 a2)).2 ⟨l, a4, g2⟩
/-- a step of Group -/
theorem next {q : Qs} (h : ok q) {D : Int} {i : Nat} {b : Int} (hi : i < q.r.length) (hb : 0 ≤ b) (hD : (best q i b).2 = D) :
    ∃ j l, best q i b = (j :: l, D) ∧ i < j ∧ j ≤ q.r.length ∧ best q j (scr q i j b) = (l, D) ∧ scr q i j b ≤ L q D j ∧ (∀ x, i < x → x < j → L q D x < scr q i x b) ∧ 0 ≤ scr q i j b := by
  obtain ⟨k, hk⟩ : ∃ k, q.r.length - i = k + 1 := ⟨q.r.length - i - 1, by omega⟩
  obtain ⟨j, h1, h2, h3⟩ := bst_step h.m1 (k := k) (b := b) hi
  obtain ⟨a1, a2, a3⟩ := mem_outs.1 h1
  have e0 : best q i b = bst q (k + 1) i b := by rw [best, hk]
  have e1 : ∀ x, i < x → x ≤ q.r.length → bst q k x (scr q i x b) = best q x (scr q i x b) := fun x hx1 hx2 => bst_fuel q _ _ _ _ hx2 (by omega) (by omega)
  rw [e1 j a1 a2] at h2 h3
  have eD : (best q j (scr q i j b)).2 = D := by rw [← hD, e0, h2]
  have hs0 : ∀ x, i < x → x ≤ q.r.length → 0 ≤ scr q i x b := fun x hx1 hx2 => by
    have := h.r0 (x - 1) (by omega)
    have := h.sum_mono (i := i) (j := x) (by omega) hx2
    unfold scr; split <;> omega
  have B := best_best h.m1 j (scr q i j b) a2
  have B0 := best_best h.m1 i b (Nat.le_of_lt hi)
  refine ⟨j, (best q j (scr q i j b)).1, by rw [e0, h2, eD], a1, a2, by rw [← eD], ?_, fun x hx1 hx2 => ?_, hs0 j a1 a2⟩
  · exact (L_iff h D (q.r.length - j) j (by omega) (by omega) (hs0 j a1 a2)).2 ⟨_, B.grp, by rw [B.done, eD]; exact Int.le_refl _⟩
  · refine Decidable.byContradiction fun hc => ?_
    obtain ⟨l, g1, g2⟩ := (L_iff h D (q.r.length - x) x (by omega) (by omega) (hs0 x hx1 (by omega))).1 (by omega)
    have h4 := h3 x (mem_outs.2 ⟨hx1, by omega, by omega⟩)
    rw [e1 x hx1 (by omega)] at h4
    have := (best_best h.m1 x (scr q i x b) (by omega)).least l g1
    have := h4.2 hx2
    omega
end Sc
end Go.Proofs.Ytchjjcmlekknfaa
