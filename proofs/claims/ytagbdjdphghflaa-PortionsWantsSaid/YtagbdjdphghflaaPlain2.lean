/- Plain mathematics of layer 44: a division is fair; more to divide; greater demands. -/
import Derived.Test.YtagbdjdphghflaaPlain
namespace Go.Proofs.Ytagbdjdphghflaa
namespace Pl

def cnt (n : Int) : List Int → Int
  | [] => 0
  | d :: r => (if n < d then 1 else 0) + cnt n r

def total : List Int → Int
  | [] => 0
  | d :: r => d + total r

theorem cnt_nonneg (n : Int) (l : List Int) : 0 ≤ cnt n l := by
  induction l with
  | nil => simp [cnt]
  | cons a l ih => simp only [cnt]; split <;> omega
theorem sumMin_succ (n : Int) (l : List Int) : sumMin (n + 1) l = sumMin n l + cnt n l := by
  induction l with
  | nil => simp [sumMin, cnt]
  | cons a l ih => simp only [sumMin, cnt, ih]; split <;> omega
theorem sumMin_le_total (n : Int) (l : List Int) : sumMin n l ≤ total l := by
  induction l with
  | nil => simp [sumMin, total]
  | cons a l ih => simp only [sumMin, total]; omega
theorem sumMin_eq_total (n : Int) (l : List Int) (h : ∀ x ∈ l, x ≤ n) : sumMin n l = total l := by
  induction l with
  | nil => rfl
  | cons a l ih =>
    have h1 := h a (by simp)
    simp only [sumMin, total, ih (fun x hx => h x (by simp [hx]))]; omega
theorem cnt_zero (n : Int) (l : List Int) (h : ∀ x ∈ l, x ≤ n) : cnt n l = 0 := by
  induction l with
  | nil => rfl
  | cons a l ih =>
    have h1 := h a (by simp)
    simp only [cnt, ih (fun x hx => h x (by simp [hx]))]
    rw [if_neg (by omega)]; rfl

theorem dv_get (n : Int) (xs : List Int) : ∀ (L : Int) (i : Nat) (h : i < xs.length), (dv n L xs)[i]? = some (if n < xs[i] ∧ cnt n (xs.take i) < L then n + 1 else min xs[i] n) := by
  induction xs with
  | nil => intro L i h; simp at h
  | cons d r ih =>
    intro L i h
    by_cases hb : n < d ∧ 0 < L
    · have e : dv n L (d :: r) = (n + 1) :: dv n (L - 1) r := by simp only [dv]; rw [if_pos hb]
      rw [e]
      cases i with
      | zero => simp [cnt, hb.1, hb.2]
      | succ i =>
        simp only [List.getElem?_cons_succ, List.getElem_cons_succ, List.take_succ_cons, cnt]
        rw [ih (L - 1) i (by simpa using h), if_pos hb.1]
        congr 1
        by_cases hc : n < r[i]'(by simpa using h) ∧ cnt n (r.take i) < L - 1
        · rw [if_pos hc, if_pos ⟨hc.1, by omega⟩]
        · rw [if_neg hc, if_neg (fun h' => hc ⟨h'.1, by omega⟩)]
    · have e : dv n L (d :: r) = min d n :: dv n L r := by simp only [dv]; rw [if_neg hb]
      rw [e]
      cases i with
      | zero => simp only [List.getElem?_cons_zero, List.getElem_cons_zero, List.take_zero, cnt]; rw [if_neg hb]
      | succ i =>
        simp only [List.getElem?_cons_succ, List.getElem_cons_succ, List.take_succ_cons, cnt]
        rw [ih L i (by simpa using h)]
        congr 1
        have hcn := cnt_nonneg n (r.take i)
        by_cases hd : n < d
        · have hL : L ≤ 0 := by
            rcases Int.lt_or_le 0 L with h1 | h1
            · exact absurd ⟨hd, h1⟩ hb
            · exact h1
          rw [if_pos hd, if_neg (fun h' => by omega), if_neg (fun h' => by omega)]
        · rw [if_neg hd]
          by_cases hc : n < r[i]'(by simpa using h) ∧ cnt n (r.take i) < L
          · rw [if_pos hc, if_pos ⟨hc.1, by omega⟩]
          · rw [if_neg hc, if_neg (fun h' => hc ⟨h'.1, by omega⟩)]

theorem dv_total (n : Int) (xs : List Int) : ∀ L : Int, 0 ≤ L → total (dv n L xs) = sumMin n xs + min L (cnt n xs) := by
  induction xs with
  | nil => intro L h; simp [dv, total, sumMin, cnt]; omega
  | cons d r ih =>
    intro L h
    have hcn := cnt_nonneg n r
    by_cases hb : n < d ∧ 0 < L
    · have e : dv n L (d :: r) = (n + 1) :: dv n (L - 1) r := by simp only [dv]; rw [if_pos hb]
      rw [e]
      simp only [total, sumMin, cnt, ih (L - 1) (by omega)]
      rw [if_pos hb.1]; omega
    · have e : dv n L (d :: r) = min d n :: dv n L r := by simp only [dv]; rw [if_neg hb]
      rw [e]
      simp only [total, sumMin, cnt, ih L h]
      by_cases hd : n < d
      · rw [if_pos hd]; omega
      · rw [if_neg hd]; omega

/-- what is known of the level of right arguments -/
structure Lev (c : Int) (ds : List Int) (n : Int) : Prop where
  nn : 0 ≤ n
  le : n ≤ most ds 0
  fits : sumMin n ds ≤ c
  top : n = most ds 0 ∨ c < sumMin (n + 1) ds

theorem level_lev (c : Int) (ds : List Int) (hc : 0 ≤ c) (hd : ∀ x ∈ ds, 0 ≤ x) : Lev c ds (level c ds) := by
  have hm := (le_most ds 0).1
  have hz := sumMin_zero ds hd
  have := lev_spec c ds (most ds 0).toNat hc (by omega)
  refine ⟨this.1, by have := this.2.1; unfold level; omega, this.2.2.1, ?_⟩
  by_cases h : level c ds = most ds 0
  · exact .inl h
  · refine .inr (this.2.2.2 _ ?_ ?_)
    · show lev c ds _ < level c ds + 1
      unfold level; omega
    · have := this.2.1
      unfold level at h ⊢; omega

theorem divide_total (c : Int) (ds : List Int) (hc : 0 ≤ c) (hd : ∀ x ∈ ds, 0 ≤ x) : total (divide c ds) = min c (total ds) := by
  have h := level_lev c ds hc hd
  unfold divide
  rw [dv_total _ _ _ (by have := h.fits; omega)]
  have hs := sumMin_succ (level c ds) ds
  have ht := sumMin_le_total (level c ds + 1) ds
  have hf := h.fits
  rcases h.top with e | e
  · have hall : ∀ x ∈ ds, x ≤ level c ds := fun x hx => by rw [e]; exact (le_most ds 0).2 x hx
    rw [cnt_zero _ _ hall]
    have := sumMin_eq_total _ _ hall
    omega
  · omega

theorem divide_get (c : Int) (ds : List Int) (i : Nat) (h : i < ds.length) : (divide c ds)[i]? = some (if level c ds < ds[i] ∧ cnt (level c ds) (ds.take i) < c - sumMin (level c ds) ds then level c ds + 1 else min ds[i] (level c ds)) := dv_get _ _ _ _ h

theorem divide_length (c : Int) (ds : List Int) : (divide c ds).length = ds.length := dv_length _ _ _

theorem divide_fair (c : Int) (ds : List Int) (hc : 0 ≤ c) (hd : ∀ x ∈ ds, 0 ≤ x) (i : Nat) (h : i < ds.length) (h' : i < (divide c ds).length) :
    0 ≤ (divide c ds)[i] ∧ (divide c ds)[i] ≤ ds[i] ∧ (ds[i] ≤ level c ds → (divide c ds)[i] = ds[i]) ∧ (divide c ds)[i] ≤ level c ds + 1 ∧ (level c ds < ds[i] → level c ds ≤ (divide c ds)[i]) := by
  have hl := level_lev c ds hc hd
  have hn := hl.nn
  have hx := hd ds[i] (List.getElem_mem h)
  have := divide_get c ds i h
  rw [List.getElem?_eq_getElem h'] at this
  injection this with e
  rw [e]
  split <;> omega

theorem divide_more (c : Int) (ds : List Int) (hc : 0 ≤ c) (hd : ∀ x ∈ ds, 0 ≤ x) (i : Nat) (h : i < ds.length) (h1 : i < (divide c ds).length) (h2 : i < (divide (c + 1) ds).length) :
    (divide c ds)[i] ≤ (divide (c + 1) ds)[i] := by
  have hl := level_lev c ds hc hd
  have hm := level_lev (c + 1) ds (by omega) hd
  have e1 := divide_get c ds i h
  have e2 := divide_get (c + 1) ds i h
  rw [List.getElem?_eq_getElem h1] at e1
  rw [List.getElem?_eq_getElem h2] at e2
  injection e1 with e1
  injection e2 with e2
  rw [e1, e2]
  have hle : level c ds ≤ level (c + 1) ds := by
    rcases Int.lt_or_le (level (c + 1) ds) (level c ds) with hlt | hge
    · exfalso
      have h3 := hm.top
      have h4 := hl.le
      have h5 := hl.fits
      have h6 := sumMin_mono (level (c + 1) ds + 1) (level c ds) (by omega) ds
      omega
    · exact hge
  by_cases heq : level (c + 1) ds = level c ds
  · rw [heq]
    split <;> split <;> omega
  · split <;> split <;> omega

theorem total_ge (l m : List Int) (hlen : l.length = m.length) (h : ∀ i (h1 : i < l.length) (h2 : i < m.length), l[i] ≤ m[i]) : total l ≤ total m := by
  induction l generalizing m with
  | nil => cases m with
    | nil => simp
    | cons => simp at hlen
  | cons a l ih =>
    cases m with
    | nil => simp at hlen
    | cons b m =>
      have h0 := h 0 (by simp) (by simp)
      have := ih m (by simpa using hlen) (fun i h1 h2 => by have := h (i + 1) (by simpa using h1) (by simpa using h2); simpa using this)
      simp only [total]
      simp only [List.getElem_cons_zero] at h0
      omega
theorem total_gt (l m : List Int) (hlen : l.length = m.length) (h : ∀ i (h1 : i < l.length) (h2 : i < m.length), l[i] ≤ m[i]) (k : Nat) (h1 : k < l.length) (h2 : k < m.length) (hk : l[k] < m[k]) : total l < total m := by
  induction l generalizing m k with
  | nil => simp at h1
  | cons a l ih =>
    cases m with
    | nil => simp at hlen
    | cons b m =>
      have h0 := h 0 (by simp) (by simp)
      have hr : ∀ i (h1 : i < l.length) (h2 : i < m.length), l[i] ≤ m[i] := fun i h1 h2 => by have := h (i + 1) (by simpa using h1) (by simpa using h2); simpa using this
      simp only [List.getElem_cons_zero] at h0
      simp only [total]
      cases k with
      | zero =>
        have := total_ge l m (by simpa using hlen) hr
        simp only [List.getElem_cons_zero] at hk
        omega
      | succ k =>
        have := ih m (by simpa using hlen) hr k (by simpa using h1) (by simpa using h2) (by simpa using hk)
        omega
theorem total_eq_of_not (l m : List Int) (hlen : l.length = m.length) (h : ∀ i (h1 : i < l.length) (h2 : i < m.length), l[i] = m[i]) : total l = total m := by
  have : l = m := List.ext_getElem hlen h
  rw [this]

theorem sumMin_set (n : Int) (ds : List Int) (k : Nat) (h : k < ds.length) (b : Int) : sumMin n (ds.set k b) = sumMin n ds - min ds[k] n + min b n := by
  induction ds generalizing k with
  | nil => simp at h
  | cons a l ih =>
    cases k with
    | zero => simp only [List.set_cons_zero, sumMin, List.getElem_cons_zero]; omega
    | succ k => simp only [List.set_cons_succ, sumMin, List.getElem_cons_succ, ih k (by simpa using h)]; omega
theorem total_set (ds : List Int) (k : Nat) (h : k < ds.length) (b : Int) : total (ds.set k b) = total ds - ds[k] + b := by
  induction ds generalizing k with
  | nil => simp at h
  | cons a l ih =>
    cases k with
    | zero => simp only [List.set_cons_zero, total, List.getElem_cons_zero]; omega
    | succ k => simp only [List.set_cons_succ, total, List.getElem_cons_succ, ih k (by simpa using h)]; omega
theorem cnt_le (n : Int) (l m : List Int) (hlen : l.length = m.length) (h : ∀ i (h1 : i < l.length) (h2 : i < m.length), l[i] ≤ m[i]) : cnt n l ≤ cnt n m := by
  induction l generalizing m with
  | nil => cases m with
    | nil => simp
    | cons => simp at hlen
  | cons a l ih =>
    cases m with
    | nil => simp at hlen
    | cons b m =>
      have h0 := h 0 (by simp) (by simp)
      have := ih m (by simpa using hlen) (fun i h1 h2 => by have := h (i + 1) (by simpa using h1) (by simpa using h2); simpa using this)
      simp only [cnt]
      simp only [List.getElem_cons_zero] at h0
      split <;> split <;> omega

/-- a greater demand: the others get no more -/
theorem divide_wants_other (c : Int) (ds : List Int) (hc : 0 ≤ c) (hd : ∀ x ∈ ds, 0 ≤ x) (k : Nat) (hk : k < ds.length) (b : Int) (hb : ds[k] ≤ b) (i : Nat) (h : i < ds.length) (hik : i ≠ k)
    (h1 : i < (divide c ds).length) (h2 : i < (divide c (ds.set k b)).length) : (divide c (ds.set k b))[i] ≤ (divide c ds)[i] := by
  have hk0 := hd ds[k] (List.getElem_mem hk)
  have hd' : ∀ x ∈ ds.set k b, 0 ≤ x := fun x hx => by
    rcases List.mem_or_eq_of_mem_set hx with h | h
    · exact hd x h
    · omega
  have hl := level_lev c ds hc hd
  have hm := level_lev c (ds.set k b) hc hd'
  have e1 := divide_get c ds i h
  have e2 := divide_get c (ds.set k b) i (by simpa using h)
  rw [List.getElem?_eq_getElem h1] at e1
  rw [List.getElem?_eq_getElem h2] at e2
  injection e1 with e1
  injection e2 with e2
  rw [List.getElem_set_ne (by omega)] at e2
  rw [e1, e2]
  generalize level c ds = n at *
  generalize level c (ds.set k b) = n' at *
  have hs := fun q => sumMin_set q ds k hk b
  rcases Int.lt_trichotomy n' n with hlt | heq | hgt
  · split <;> split <;> omega
  · subst heq
    have hcl : cnt n' (ds.take i) ≤ cnt n' ((ds.set k b).take i) := cnt_le _ _ _ (by simp) (fun j j1 j2 => by
      rw [List.getElem_take, List.getElem_take]
      by_cases hj : k = j
      · subst hj; rw [List.getElem_set_self]; exact hb
      · rw [List.getElem_set_ne hj]; exact Int.le_refl _)
    have := hs n'
    split <;> split <;> omega
  · have htop : n = most ds 0 := by
      rcases hl.top with e | e
      · exact e
      · exfalso
        have h3 := sumMin_mono (n + 1) n' (by omega) ds
        have h4 := hs n'
        have h5 := hm.fits
        omega
    have := (le_most ds 0).2 ds[i] (List.getElem_mem h)
    split <;> split <;> omega

theorem total_others (l m : List Int) (hlen : l.length = m.length) (k : Nat) (h1 : k < l.length) (h2 : k < m.length) (h : ∀ i (h1 : i < l.length) (h2 : i < m.length), i ≠ k → m[i] ≤ l[i]) (ht : total l ≤ total m) : l[k] ≤ m[k] := by
  have e := total_set m k h2 l[k]
  rcases Int.lt_or_le m[k] l[k] with hlt | hge
  · exfalso
    have hg := total_ge (m.set k l[k]) l (by simp [hlen]) (fun i j1 j2 => by
      by_cases hi : k = i
      · subst hi; rw [List.getElem_set_self]; exact Int.le_refl _
      · rw [List.getElem_set_ne hi]; exact h i j2 (by simpa using j1) (Ne.symm hi))
    omega
  · exact hge

/-- a greater demand gets no less -/
theorem divide_wants_own (c : Int) (ds : List Int) (hc : 0 ≤ c) (hd : ∀ x ∈ ds, 0 ≤ x) (k : Nat) (hk : k < ds.length) (b : Int) (hb : ds[k] ≤ b)
    (h1 : k < (divide c ds).length) (h2 : k < (divide c (ds.set k b)).length) : (divide c ds)[k] ≤ (divide c (ds.set k b))[k] := by
  have hk0 := hd ds[k] (List.getElem_mem hk)
  have hd' : ∀ x ∈ ds.set k b, 0 ≤ x := fun x hx => by
    rcases List.mem_or_eq_of_mem_set hx with h | h
    · exact hd x h
    · omega
  refine total_others _ _ (by simp [divide_length]) k h1 h2 (fun i j1 j2 hi => divide_wants_other c ds hc hd k hk b hb i (by rw [divide_length] at j1; exact j1) hi j1 j2) ?_
  rw [divide_total c ds hc hd, divide_total c _ hc hd', total_set ds k hk b]
  omega

end Pl
end Go.Proofs.Ytagbdjdphghflaa
