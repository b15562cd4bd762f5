/- Plain mathematics of layers 35 and 36: decisions of the house. -/
namespace Go.Proofs.Ytninnpcggeofmaa
set_option linter.unusedVariables false
set_option linter.unusedSimpArgs false

/-- a decision -/
structure Hh where
  no : Int
  kind : Int
  spk : Int
  fst : Int
  lst : Int
  lang : Int
  frm : Int
  unt : Int
  known : Int
  ms : Int
namespace Hh
def nums (h : Hh) : List Int := [h.no, h.kind, h.spk, h.fst, h.lst, h.lang, h.frm, h.unt, h.known, h.ms]
theorem ext_nums {a b : Hh} (h : a.nums = b.nums) : a = b := by
  obtain ⟨a0, a1, a2, a3, a4, a5, a6, a7, a8, a9⟩ := a
  obtain ⟨b0, b1, b2, b3, b4, b5, b6, b7, b8, b9⟩ := b
  simp only [nums, List.cons.injEq] at h
  obtain ⟨rfl, rfl, rfl, rfl, rfl, rfl, rfl, rfl, rfl, rfl, _⟩ := h
  rfl
instance : DecidableEq Hh := fun a b => if h : a.nums = b.nums then .isTrue (ext_nums h) else .isFalse (fun e => h (by rw [e]))
def inn (n lo hi : Int) : Bool := decide (lo ≤ n) && decide (n ≤ hi)
def span (f u : Int) : Bool := decide (0 ≤ f) && decide (f < u) && decide (u ≤ 1099511627776)
def c1 (h : Hh) : Bool := inn h.no 0 1048576 && inn h.kind 1 5
def c2 (h : Hh) : Bool := inn h.spk (-1) 63
def c3 (h : Hh) : Bool := inn h.lang (-1) 31
def c4 (h : Hh) : Bool := span h.fst h.lst && span h.frm h.unt && inn h.known 0 1099511627775
def c5 (h : Hh) : Bool := if h.kind = 3 then inn h.ms 1 1073741824 else decide (h.ms = 0)
/-- a right decision -/
def right (h : Hh) : Bool := c1 h && c2 h && c3 h && c4 h && c5 h
structure Rt (h : Hh) : Prop where
  no : 0 ≤ h.no ∧ h.no ≤ 1048576
  kind : 1 ≤ h.kind ∧ h.kind ≤ 5
  spk : -1 ≤ h.spk ∧ h.spk ≤ 63
  lang : -1 ≤ h.lang ∧ h.lang ≤ 31
  fst : 0 ≤ h.fst ∧ h.fst < h.lst ∧ h.lst ≤ 1099511627776
  frm : 0 ≤ h.frm ∧ h.frm < h.unt ∧ h.unt ≤ 1099511627776
  known : 0 ≤ h.known ∧ h.known ≤ 1099511627775
  ms : (h.kind = 3 → 1 ≤ h.ms ∧ h.ms ≤ 1073741824) ∧ (h.kind ≠ 3 → h.ms = 0)
theorem right_iff (h : Hh) : right h = true ↔ Rt h := by
  unfold right c1 c2 c3 c4 c5 inn span
  constructor
  · intro h1
    simp only [Bool.and_eq_true, decide_eq_true_eq] at h1
    obtain ⟨⟨⟨⟨⟨a1, a2⟩, a3⟩, a4⟩, ⟨⟨a5, a6⟩, a7⟩⟩, a8⟩ := h1
    refine ⟨a1, a2, a3, a4, ⟨a5.1.1, a5.1.2, a5.2⟩, ⟨a6.1.1, a6.1.2, a6.2⟩, a7, fun hk => ?_, fun hk => ?_⟩
    · rw [if_pos hk] at a8; simpa using a8
    · rw [if_neg hk] at a8; simpa using a8
  · rintro ⟨a1, a2, a3, a4, a5, a6, a7, a8, a9⟩
    simp only [Bool.and_eq_true, decide_eq_true_eq]
    refine ⟨⟨⟨⟨⟨a1, a2⟩, a3⟩, a4⟩, ⟨⟨⟨⟨a5.1, a5.2.1⟩, a5.2.2⟩, ⟨⟨a6.1, a6.2.1⟩, a6.2.2⟩⟩, a7⟩⟩, ?_⟩
    by_cases hk : h.kind = 3
    · rw [if_pos hk]; simpa using a8 hk
    · rw [if_neg hk]; simpa using a9 hk
theorem right_ms {h : Hh} (hr : Rt h) : 0 ≤ h.ms ∧ h.ms ≤ 1073741824 := by
  by_cases hk : h.kind = 3
  · have := hr.ms.1 hk; omega
  · have := hr.ms.2 hk; omega
/-- in order -/
def incr : Int → List Hh → Bool
  | _, [] => true
  | last, h :: r => right h && decide (last < h.no) && incr h.no r
def err (l : List Hh) : Int := if 1024 < l.length then 2 else if incr (-1) l = true then 0 else 350
/-- a question -/
structure Qq where
  spk : Int
  beg : Int
  lang : Int
  at_ : Int
  known : Int
def argQ (q : Qq) : Bool := inn q.spk 0 63 && inn q.beg 0 1099511627775 && inn q.lang 0 31 && inn q.at_ 0 1099511627775
def askQ (q : Qq) : Bool := argQ q && inn q.known 0 1099511627775
/-- a right decision covers the word -/
def covs (h : Hh) (q : Qq) : Bool := (decide (h.spk < 0) || decide (h.spk = q.spk)) && (decide (h.lang < 0) || decide (h.lang = q.lang)) && decide (h.fst ≤ q.beg) && decide (q.beg < h.lst) && decide (h.frm ≤ q.at_) && decide (q.at_ < h.unt)
/-- what Covers returns -/
def covE (h : Hh) (q : Qq) : Int := if right h = true then (if argQ q = true then 0 else 1) else 350
def cov (h : Hh) (q : Qq) : Bool := right h && argQ q && covs h q
theorem cov_ok {h : Hh} {q : Qq} (hr : right h = true) (hq : argQ q = true) : cov h q = covs h q := by simp [cov, hr, hq]
end Hh
end Go.Proofs.Ytninnpcggeofmaa
