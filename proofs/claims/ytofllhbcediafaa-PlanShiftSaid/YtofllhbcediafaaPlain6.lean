/- Plain mathematics of layer 50: being in time, index by index; the latest plan is the latest. -/
import Derived.Test.YtofllhbcediafaaPlain5
namespace Go.Proofs.Ytofllhbcediafaa
set_option linter.unusedVariables false
namespace Pl

def prev (s : List Int) (k : Nat) : Int := if k = 0 then 0 else at_ s (k - 1)
theorem lastS_prev' (s : List Int) (k : Nat) (h : k ≤ s.length) : lastS 0 (s.take k) = prev s k := by
  unfold prev
  by_cases h0 : k = 0
  · subst h0; simp [lastS]
  · rw [if_neg h0]
    have := lastS_take 0 s (k - 1) (by omega)
    rw [show k - 1 + 1 = k by omega] at this
    rw [this, at_eq s _ (by omega)]

theorem inT_iff (l : List (List Life)) (ds s : List Int) (k : Nat) (h : k ≤ s.length) (h1 : s.length ≤ l.length) (h2 : s.length ≤ ds.length) :
    inT 0 l ds (s.take k) = true ↔ ∀ j (hj : j < k) (hl : j < l.length), prev s j ≤ at_ s j ∧ born l[j] ≤ at_ s j ∧ at_ s j ≤ at_ ds j := by
  induction k with
  | zero => simp [inT]
  | succ k ih =>
    rw [inT_take 0 l ds s k (by omega) (by omega) (by omega), Bool.and_eq_true, ih (by omega), lastS_prev' s k (by omega)]
    have e1 := at_eq s k (by omega)
    have e2 := at_eq ds k (by omega)
    have tk : tOk (prev s k) (born (l[k]'(by omega))) (ds[k]'(by omega)) (s[k]'(by omega)) = true ↔ prev s k ≤ at_ s k ∧ born (l[k]'(by omega)) ≤ at_ s k ∧ at_ s k ≤ at_ ds k := by
      rw [e1, e2]
      simp only [tOk, Bool.and_eq_true, decide_eq_true_eq]
      omega
    constructor
    · rintro ⟨h3, h4⟩ j hj hl
      by_cases e : j = k
      · subst e; exact tk.1 h4
      · exact h3 j (by omega) hl
    · intro h3
      exact ⟨fun j hj hl => h3 j (by omega) hl, tk.2 (h3 k (by omega) (by omega))⟩

theorem inTime_iff (l : List (List Life)) (ds s : List Int) (h2 : ds.length = l.length) :
    inTime l ds s = true ↔ s.length = l.length ∧ ∀ j (hl : j < l.length), prev s j ≤ at_ s j ∧ born l[j] ≤ at_ s j ∧ at_ s j ≤ at_ ds j := by
  unfold inTime
  rw [Bool.and_eq_true, decide_eq_true_eq]
  constructor
  · rintro ⟨h1, h3⟩
    have := (inT_iff l ds s s.length (Nat.le_refl _) (by omega) (by omega)).1 (by rw [List.take_of_length_le (Nat.le_refl _)]; exact h3)
    exact ⟨h1, fun j hl => this j (by omega) hl⟩
  · rintro ⟨h1, h3⟩
    refine ⟨h1, ?_⟩
    have := (inT_iff l ds s s.length (Nat.le_refl _) (by omega) (by omega)).2 (fun j hj hl => h3 j hl)
    rwa [List.take_of_length_le (Nat.le_refl _)] at this

/-- times go up, and stay at most the dues from there on -/
theorem inTime_mono {l : List (List Life)} {ds s : List Int} (h2 : ds.length = l.length) (h : inTime l ds s = true) (i j : Nat) (hij : i ≤ j) (hj : j < l.length) : at_ s i ≤ at_ s j := by
  obtain ⟨_, h3⟩ := (inTime_iff l ds s h2).1 h
  induction j with
  | zero => rw [show i = 0 by omega]; exact Int.le_refl _
  | succ j ih =>
    by_cases e : i = j + 1
    · rw [e]; exact Int.le_refl _
    · have h4 := ih (by omega) (by omega)
      have h5 := (h3 (j + 1) hj).1
      simp only [prev, Nat.add_sub_cancel, if_neg (Nat.succ_ne_zero j)] at h5
      omega

theorem shown_best (ds : List Int) (i : Nat) (h : i < ds.length) : ∃ b, Best ds i ds.length b ∧ at_ (shown ds) i = at_ ds b ∧ at_ (whys ds) i = (b : Int) := by
  have hl : i < (mins 0 ds).length := by rw [mins_length]; exact h
  obtain ⟨hb, hv⟩ := mins_at ds i h hl
  obtain ⟨e1, e2⟩ := of_best ds i _ h hb
  exact ⟨_, hb, by rw [at_eq _ _ (by rw [shown_len]; exact h), e1], by rw [at_eq _ _ (by rw [whys_len]; exact h), e2]⟩

theorem shown_le (ds : List Int) (i j : Nat) (hij : i ≤ j) (hj : j < ds.length) : at_ (shown ds) i ≤ at_ ds j := by
  obtain ⟨b, hb, he, _⟩ := shown_best ds i (by omega)
  rw [he]; exact hb.le j hij hj
theorem shown_mono (ds : List Int) (i j : Nat) (hij : i ≤ j) (hj : j < ds.length) : at_ (shown ds) i ≤ at_ (shown ds) j := by
  obtain ⟨b, hb, he, _⟩ := shown_best ds j hj
  rw [he]
  have := hb.lo
  exact shown_le ds i b (by omega) hb.hi
theorem le_shown (ds : List Int) (i : Nat) (hi : i < ds.length) (t : Int) (h : ∀ j, i ≤ j → j < ds.length → t ≤ at_ ds j) : t ≤ at_ (shown ds) i := by
  obtain ⟨b, hb, he, _⟩ := shown_best ds i hi
  rw [he]; exact h b hb.lo hb.hi

/-- the latest plan is in time just if no word is born too late -/
theorem shown_inTime (l : List (List Life)) (ds : List Int) (h2 : ds.length = l.length) (h0 : ∀ i, i < ds.length → 0 ≤ at_ ds i) :
    inTime l ds (shown ds) = true ↔ ∀ i (h : i < l.length), born l[i] ≤ at_ (shown ds) i := by
  rw [inTime_iff l ds _ h2]
  constructor
  · rintro ⟨_, h3⟩ i hi
    exact (h3 i hi).2.1
  · intro h3
    refine ⟨by rw [shown_len]; exact h2, fun j hj => ⟨?_, h3 j hj, shown_le ds j j (Nat.le_refl _) (by omega)⟩⟩
    unfold prev
    split
    · exact le_shown ds j (by omega) 0 (fun k _ hk => h0 k hk)
    · exact shown_mono ds (j - 1) j (by omega) (by omega)

/-- nobody who is in time is later -/
theorem inTime_le {l : List (List Life)} {ds s : List Int} (h2 : ds.length = l.length) (h : inTime l ds s = true) (i : Nat) (hi : i < l.length) : at_ s i ≤ at_ (shown ds) i := by
  refine le_shown ds i (by omega) _ (fun j hij hj => ?_)
  have h4 := inTime_mono h2 h i j hij (by omega)
  have h5 := (((inTime_iff l ds s h2).1 h).2 j (by omega)).2.2
  omega
theorem inTime_shown {l : List (List Life)} {ds s : List Int} (h2 : ds.length = l.length) (h0 : ∀ i, i < ds.length → 0 ≤ at_ ds i) (h : inTime l ds s = true) : inTime l ds (shown ds) = true :=
  (shown_inTime l ds h2 h0).2 (fun i hi => by
    have h4 := inTime_le h2 h i hi
    have h5 := (((inTime_iff l ds s h2).1 h).2 i hi).2.1
    omega)
end Pl
end Go.Proofs.Ytofllhbcediafaa
