/- Plain mathematics of HouseEnds. -/
import Derived.Test.YtninnpcggeofmaaPlain7
namespace Go.Proofs.Ytninnpcggeofmaa
set_option linter.unusedVariables false
set_option linter.unusedSimpArgs false

def bgF (x : Hh) : Nat → Int
  | 0 => x.fst - 1
  | 1 => x.fst
  | 2 => x.lst - 1
  | _ => x.lst
def atF (x : Hh) : Nat → Int
  | 0 => x.frm - 1
  | 1 => x.frm
  | 2 => x.unt - 1
  | _ => x.unt
def abtP (x : Hh) (spk lang : Int) : Prop := (x.spk = -1 ∨ x.spk = spk) ∧ (x.lang = -1 ∨ x.lang = lang)
def abtB (x : Hh) (spk lang : Int) : Bool := (x.spk == -1 || x.spk == spk) && (x.lang == -1 || x.lang == lang)
theorem abt_iff (x : Hh) (spk lang : Int) : abtB x spk lang = true ↔ abtP x spk lang := by
  unfold abtB abtP; simp only [Bool.and_eq_true, Bool.or_eq_true, beq_iff_eq]
def midB (i k : Nat) : Bool := (decide (i = 1) || decide (i = 2)) && (decide (k = 1) || decide (k = 2))
theorem inn_iff (n lo hi : Int) : Hh.inn n lo hi = true ↔ lo ≤ n ∧ n ≤ hi := by
  unfold Hh.inn; rw [Bool.and_eq_true, decide_eq_true_eq, decide_eq_true_eq]
theorem ends_arg {x : Hh} {spk lang : Int} (hr : Hh.right x = true) (i k : Nat) (h : Hh.inn (bgF x i) 0 1099511627775 = false ∨ Hh.inn (atF x k) 0 1099511627775 = false) : Hh.covE x ⟨spk, bgF x i, lang, atF x k, 0⟩ = 1 := by
  unfold Hh.covE
  rw [if_pos hr, if_neg]
  simp only [Hh.argQ, Bool.and_eq_true]
  rintro ⟨⟨⟨_, h1⟩, _⟩, h2⟩
  rcases h with h | h
  · rw [h1] at h; cases h
  · rw [h2] at h; cases h
theorem ends_ok {x : Hh} {spk lang : Int} (hr : Hh.right x = true) (hs : Hh.inn spk 0 63 = true) (hl : Hh.inn lang 0 31 = true) (i k : Nat) (hi : i < 4) (hk : k < 4) (h1 : Hh.inn (bgF x i) 0 1099511627775 = true) (h2 : Hh.inn (atF x k) 0 1099511627775 = true) :
    Hh.covE x ⟨spk, bgF x i, lang, atF x k, 0⟩ = 0 ∧ (¬ abtP x spk lang → Hh.cov x ⟨spk, bgF x i, lang, atF x k, 0⟩ = false) ∧ (abtP x spk lang → Hh.cov x ⟨spk, bgF x i, lang, atF x k, 0⟩ = midB i k) := by
  have ha : Hh.argQ ⟨spk, bgF x i, lang, atF x k, 0⟩ = true := by simp only [Hh.argQ, Bool.and_eq_true]; exact ⟨⟨⟨hs, h1⟩, hl⟩, h2⟩
  have R := (Hh.right_iff x).1 hr
  have r1 := R.spk
  have r2 := R.lang
  have r3 := R.fst
  have r4 := R.frm
  refine ⟨by unfold Hh.covE; rw [if_pos hr, if_pos ha], ?_, ?_⟩
  · intro hab
    rw [Hh.cov_ok hr ha]
    cases hc : Hh.covs x ⟨spk, bgF x i, lang, atF x k, 0⟩
    · rfl
    · exfalso
      apply hab
      simp only [Hh.covs, Bool.and_eq_true, Bool.or_eq_true, decide_eq_true_eq] at hc
      obtain ⟨⟨⟨⟨⟨c1, c2⟩, _⟩, _⟩, _⟩, _⟩ := hc
      exact ⟨by omega, by omega⟩
  · intro hab
    rw [Hh.cov_ok hr ha]
    obtain ⟨a1, a2⟩ := hab
    have e1 : (decide (x.spk < 0) || decide (x.spk = spk)) = true := by rw [Bool.or_eq_true, decide_eq_true_eq, decide_eq_true_eq]; omega
    have e2 : (decide (x.lang < 0) || decide (x.lang = lang)) = true := by rw [Bool.or_eq_true, decide_eq_true_eq, decide_eq_true_eq]; omega
    simp only [Hh.covs, e1, e2, Bool.true_and]
    have f1 : (decide (x.fst ≤ bgF x i) && decide (bgF x i < x.lst)) = (decide (i = 1) || decide (i = 2)) := by
      match i, hi with
      | 0, _ => simp [bgF]; omega
      | 1, _ => simp [bgF]; omega
      | 2, _ => simp [bgF]; omega
      | 3, _ => simp [bgF]
    have f2 : (decide (x.frm ≤ atF x k) && decide (atF x k < x.unt)) = (decide (k = 1) || decide (k = 2)) := by
      match k, hk with
      | 0, _ => simp [atF]; omega
      | 1, _ => simp [atF]; omega
      | 2, _ => simp [atF]; omega
      | 3, _ => simp [atF]
    rw [f1, Bool.and_assoc, f2]; rfl
end Go.Proofs.Ytninnpcggeofmaa
