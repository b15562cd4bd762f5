/- Plain mathematics of layer 36: the program's rules and the reference's verdict are one. -/
import Derived.Test.YtninnpcggeofmaaW13
namespace Go.Proofs.Ytninnpcggeofmaa
open Go.RowKit
set_option linter.unusedVariables false
set_option linter.unusedSimpArgs false

theorem incr_mem {l : List Hh} : ∀ {z : Int}, Hh.incr z l = true → ∀ x ∈ l, z < x.no ∧ Hh.right x = true := by
  induction l with
  | nil => intro z _ x hx; simp at hx
  | cons a r ih =>
    intro z h x hx
    simp only [Hh.incr, Bool.and_eq_true, decide_eq_true_eq] at h
    rcases List.mem_cons.1 hx with rfl | hx
    · exact ⟨h.1.2, h.1.1⟩
    · have := ih h.2 x hx
      exact ⟨by omega, this.2⟩
theorem incr_pair {l : List Hh} : ∀ {z : Int}, Hh.incr z l = true → l.Pairwise (fun a b => a.no < b.no) := by
  induction l with
  | nil => intro z _; exact List.Pairwise.nil
  | cons a r ih =>
    intro z h
    simp only [Hh.incr, Bool.and_eq_true, decide_eq_true_eq] at h
    exact List.Pairwise.cons (fun b hb => (incr_mem h.2 b hb).1) (ih h.2)
theorem incr_of {l : List Hh} : ∀ {z : Int}, (∀ x ∈ l, z < x.no ∧ Hh.right x = true) → l.Pairwise (fun a b => a.no < b.no) → Hh.incr z l = true := by
  induction l with
  | nil => intro z _ _; rfl
  | cons a r ih =>
    intro z h hp
    have ha := h a (by simp)
    rw [List.pairwise_cons] at hp
    simp only [Hh.incr, Bool.and_eq_true, decide_eq_true_eq]
    exact ⟨⟨ha.2, ha.1⟩, ih (fun x hx => ⟨hp.1 x hx, (h x (by simp [hx])).2⟩) hp.2⟩
/-- the number of the first one -/
def headN : List Hh → Int
  | [] => -1
  | x :: _ => x.no
theorem stp_keep (z : Int) (ys : List Hh) (h : ∀ y ∈ ys, z < y.no) : ys.foldl (stp (-1)) (true, z) = (true, z) := by
  induction ys with
  | nil => rfl
  | cons y r ih =>
    have hy := h y (by simp)
    have hc : cmpI y.no z = 1 := by unfold cmpI; rw [if_neg (by omega), if_pos hy]
    have e : stp (-1) (true, z) y = (true, z) := by
      unfold stp
      rw [if_neg]
      rintro (h | h)
      · cases h
      · rw [hc] at h; omega
    rw [List.foldl_cons, e]
    exact ih (fun x hx => h x (by simp [hx]))
theorem ext_least (ys : List Hh) (hp : ys.Pairwise (fun a b => a.no < b.no)) : extN (-1) (-1) ys = headN ys := by
  cases ys with
  | nil => rfl
  | cons y r =>
    rw [List.pairwise_cons] at hp
    unfold extN extS
    rw [List.foldl_cons]
    have e : stp (-1) (false, -1) y = (true, y.no) := by simp [stp]
    rw [e, stp_keep _ _ hp.1]
    rfl
def maxN (ys : List Hh) : Int := ys.foldl (fun m h => max m h.no) (-1)
theorem ext_most (ys : List Hh) (h0 : ∀ y ∈ ys, 0 ≤ y.no) : extN 1 (-1) ys = maxN ys := by
  have key : ∀ (ys : List Hh) (f : Bool) (z : Int), (∀ y ∈ ys, 0 ≤ y.no) → (f = false → z = -1) → (ys.foldl (stp 1) (f, z)).2 = ys.foldl (fun m h => max m h.no) z := by
    intro ys
    induction ys with
    | nil => intro f z _ _; rfl
    | cons y r ih =>
      intro f z h hf
      have hy := h y (by simp)
      rw [List.foldl_cons, List.foldl_cons]
      have hr := fun x (hx : x ∈ r) => h x (List.mem_cons_of_mem _ hx)
      by_cases hc : f = false ∨ cmpI y.no z = 1
      · have e : stp 1 (f, z) y = (true, y.no) := by unfold stp; rw [if_pos hc]
        have e2 : max z y.no = y.no := by
          rcases hc with hc | hc
          · have := hf hc; omega
          · unfold cmpI at hc
            split at hc
            · cases hc
            · split at hc
              · omega
              · cases hc
        rw [e, e2]
        exact ih true y.no hr (fun h => by cases h)
      · have e : stp 1 (f, z) y = (f, z) := by unfold stp; rw [if_neg hc]
        have hft : f = true := by cases f with
          | true => rfl
          | false => exact absurd (.inl rfl) hc
        have e2 : max z y.no = z := by
          have h3 : ¬ cmpI y.no z = 1 := fun h => hc (.inr h)
          have h4 : y.no ≤ z := by
            rcases Int.lt_or_le z y.no with h5 | h5
            · exfalso; apply h3; unfold cmpI; rw [if_neg (by omega), if_pos h5]
            · exact h5
          omega
        rw [e, e2]
        exact ih f z hr hf
  exact key ys false (-1) h0 (fun _ => rfl)
theorem last_max (kind : Int) (b : List Hh) : Hh.lastN kind b = maxN (b.filter (fun h => decide (h.kind = kind))) := by
  unfold Hh.lastN maxN
  generalize (-1 : Int) = z
  induction b generalizing z with
  | nil => rfl
  | cons x r ih =>
    rw [List.foldl_cons, ih]
    by_cases hk : x.kind = kind
    · rw [if_pos hk, List.filter_cons, if_pos (by simpa using hk), List.foldl_cons]
    · rw [if_neg hk, List.filter_cons, if_neg (by simpa using hk)]
theorem first_head (kind above : Int) (b : List Hh) : Hh.firstN kind above b = headN (b.filter (fun h => decide (h.kind = kind) && decide (above < h.no))) := by
  induction b with
  | nil => rfl
  | cons x r ih =>
    rw [Hh.firstN]
    by_cases hk : x.kind = kind ∧ above < x.no
    · rw [if_pos hk, List.filter_cons, if_pos (by simpa using hk)]; rfl
    · rw [if_neg hk, List.filter_cons, if_neg (by simpa using hk), ih]
theorem delay_head (q : Hh.Qq) (b : List Hh) : Hh.delayN q b = headN (b.filter (fun h => decide (h.kind = 3) && decide (q.at_ < q.beg + h.ms))) := by
  induction b with
  | nil => rfl
  | cons x r ih =>
    rw [Hh.delayN]
    by_cases hk : x.kind = 3 ∧ q.at_ < q.beg + x.ms
    · rw [if_pos hk, List.filter_cons, if_pos (by simpa using hk)]; rfl
    · rw [if_neg hk, List.filter_cons, if_neg (by simpa using hk), ih]
theorem bys_bnd (kind : Int) (q : Hh.Qq) (l : List Hh) : bys kind q l = (Hh.bnd l q).filter (fun h => decide (h.kind = kind)) := by
  unfold bys Hh.bnd
  rw [List.filter_filter]
theorem bys_filter (kind : Int) (q : Hh.Qq) (l : List Hh) (p : Hh → Bool) : (bys kind q l).filter p = (Hh.bnd l q).filter (fun h => decide (h.kind = kind) && p h) := by
  rw [bys_bnd, List.filter_filter]
  congr 1
  funext h
  exact Bool.and_comm _ _
theorem ext_last {l : List Hh} (q : Hh.Qq) (kind : Int) (hi : Hh.incr (-1) l = true) : extN 1 (-1) (bys kind q l) = Hh.lastN kind (Hh.bnd l q) := by
  rw [ext_most, last_max, bys_bnd]
  intro y hy
  have := (incr_mem hi y (List.mem_filter.1 hy).1).1
  omega
theorem ext_first {l : List Hh} (q : Hh.Qq) (kind : Int) (p : Hh → Bool) (hi : Hh.incr (-1) l = true) : extN (-1) (-1) ((bys kind q l).filter p) = headN ((Hh.bnd l q).filter (fun h => decide (h.kind = kind) && p h)) := by
  rw [bys_filter, ext_least]
  exact ((incr_pair hi).filter _).filter _
theorem ver_same (l : List Hh) (q : Hh.Qq) : verP l q = Hh.ver l q := by
  unfold verP Hh.ver
  by_cases he : Hh.err l = 0
  · rw [if_pos he, if_pos he]
    by_cases ha : Hh.askQ q = true
    · rw [if_pos ha, if_pos ha]
      have hi := (err_zero he).2
      have e1 : ru1 q l = Hh.firstN 1 (Hh.lastN 5 (Hh.bnd l q)) (Hh.bnd l q) := by
        unfold ru1
        rw [ext_last q 5 hi, ext_first q 1 _ hi, first_head]
      have e3 : ru3 q l = Hh.delayN q (Hh.bnd l q) := by
        unfold ru3
        rw [ext_first q 3 _ hi, delay_head]
      have e2 : 0 ≤ ru2 q l ↔ (0 ≤ Hh.firstN 2 (-1) (Hh.bnd l q) ∧ Hh.lastN 4 (Hh.bnd l q) < 0) := by
        unfold ru2
        rw [ext_last q 4 hi, ext_first q 2 _ hi]
        by_cases hl : Hh.lastN 4 (Hh.bnd l q) < 0
        · rw [first_head]
          have : (Hh.bnd l q).filter (fun h => decide (h.kind = 2) && decide (Hh.lastN 4 (Hh.bnd l q) < 0)) = (Hh.bnd l q).filter (fun h => decide (h.kind = 2) && decide (-1 < h.no)) := by
            apply List.filter_congr
            intro x hx
            have := (incr_mem hi x (List.mem_filter.1 hx).1).1
            rw [decide_eq_true hl, decide_eq_true this]
          rw [this]
          exact ⟨fun h => ⟨h, hl⟩, fun h => h.1⟩
        · have : (Hh.bnd l q).filter (fun h => decide (h.kind = 2) && decide (Hh.lastN 4 (Hh.bnd l q) < 0)) = [] := by
            rw [List.filter_eq_nil_iff]
            intro x hx
            simp [hl]
          rw [this]
          constructor
          · intro h; simp [headN] at h
          · intro h; exact absurd h.2 hl
      have e2b : 0 ≤ ru2 q l → ru2 q l = Hh.firstN 2 (-1) (Hh.bnd l q) := by
        intro h
        have hl := (e2.1 h).2
        unfold ru2
        rw [ext_last q 4 hi, ext_first q 2 _ hi, first_head]
        congr 1
        apply List.filter_congr
        intro x hx
        have := (incr_mem hi x (List.mem_filter.1 hx).1).1
        rw [decide_eq_true hl, decide_eq_true this]
      unfold verR Hh.verB
      rw [e1, e3]
      split
      · rfl
      · by_cases h2 : 0 ≤ ru2 q l
        · rw [if_pos h2, if_pos (e2.1 h2), e2b h2]
        · rw [if_neg h2, if_neg (fun h => h2 (e2.2 h))]
    · rw [if_neg ha, if_neg ha]
  · rw [if_neg he, if_neg he]
theorem Verdict_any (v : Value) (l : List Hh) (q : Hh.Qq) (w : World) (hv : IsHs w v l) (hl : l.length ≤ 9223372036854775807) : Calls Try.prog 30 #[v, .int .i64 q.spk, .int .i64 q.beg, .int .i64 q.lang, .int .i64 q.at_, .int .i64 q.known] w (VPost (Hh.ver l q) w) := by
  rw [← ver_same]; exact VerdictP_any v l q w hv hl
end Go.Proofs.Ytninnpcggeofmaa
