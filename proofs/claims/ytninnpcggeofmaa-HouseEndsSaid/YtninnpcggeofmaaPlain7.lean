/- Plain mathematics of HouseBox. -/
import Derived.Test.YtninnpcggeofmaaPlain
namespace Go.Proofs.Ytninnpcggeofmaa
set_option linter.unusedVariables false
set_option linter.unusedSimpArgs false

def bxQ (a0 a1 a2 a3 b0 b1 b2 b3 : Int) : Nat → Hh.Qq
  | 0 => ⟨b0, a1, a2, a3, 0⟩
  | 1 => ⟨a0, b1, a2, a3, 0⟩
  | 2 => ⟨a0, a1, b2, a3, 0⟩
  | _ => ⟨a0, a1, a2, b3, 0⟩
def bxP (h : Hh) (f : Nat → Hh.Qq) (k : Nat) : Bool := (List.range k).all (fun i => Hh.cov h (f i))
theorem bxP_succ (h : Hh) (f : Nat → Hh.Qq) (k : Nat) : bxP h f (k + 1) = (bxP h f k && Hh.cov h (f k)) := by
  unfold bxP; rw [List.range_succ, List.all_append]; simp
theorem covE_0 {h : Hh} {q : Hh.Qq} (he : Hh.covE h q = 0) : Hh.right h = true ∧ Hh.argQ q = true := by
  unfold Hh.covE at he
  split at he
  · rename_i hr
    split at he
    · rename_i ha; exact ⟨hr, ha⟩
    · exact absurd he (by decide)
  · exact absurd he (by decide)
theorem covE_n {h : Hh} {q : Hh.Qq} (he : ¬ Hh.covE h q = 0) : Hh.cov h q = false := by
  unfold Hh.cov
  cases hr : Hh.right h
  · rfl
  · cases ha : Hh.argQ q
    · rfl
    · exact absurd (by unfold Hh.covE; rw [if_pos hr, if_pos ha]) he
theorem box_plain (h : Hh) (a0 a1 a2 a3 b0 b1 b2 b3 : Int) (ha : Hh.covE h ⟨a0, a1, a2, a3, 0⟩ = 0) (hb : Hh.covE h ⟨b0, b1, b2, b3, 0⟩ = 0) (hx : Hh.cov h ⟨a0, a1, a2, a3, 0⟩ = true) :
    (∀ k, Hh.covE h (bxQ a0 a1 a2 a3 b0 b1 b2 b3 k) = 0) ∧ Hh.cov h ⟨b0, b1, b2, b3, 0⟩ = bxP h (bxQ a0 a1 a2 a3 b0 b1 b2 b3) 4 := by
  obtain ⟨hr, h1⟩ := covE_0 ha
  obtain ⟨_, h2⟩ := covE_0 hb
  rw [Hh.cov_ok hr h1] at hx
  simp only [Hh.argQ, Bool.and_eq_true] at h1 h2
  obtain ⟨⟨⟨x0, x1⟩, x2⟩, x3⟩ := h1
  obtain ⟨⟨⟨y0, y1⟩, y2⟩, y3⟩ := h2
  have hq : ∀ k, Hh.argQ (bxQ a0 a1 a2 a3 b0 b1 b2 b3 k) = true := fun k => by
    unfold bxQ Hh.argQ
    split <;> simp_all
  refine ⟨fun k => by unfold Hh.covE; rw [if_pos hr, if_pos (hq k)], ?_⟩
  rw [Hh.cov_ok hr (by simp only [Hh.argQ, Bool.and_eq_true]; exact ⟨⟨⟨y0, y1⟩, y2⟩, y3⟩)]
  have e : bxP h (bxQ a0 a1 a2 a3 b0 b1 b2 b3) 4 = (((Hh.cov h ⟨b0, a1, a2, a3, 0⟩ && Hh.cov h ⟨a0, b1, a2, a3, 0⟩) && Hh.cov h ⟨a0, a1, b2, a3, 0⟩) && Hh.cov h ⟨a0, a1, a2, b3, 0⟩) := by
    rw [bxP_succ, bxP_succ, bxP_succ, bxP_succ]; simp [bxP, bxQ]
  have k0 := Hh.cov_ok (q := ⟨b0, a1, a2, a3, 0⟩) hr (hq 0)
  have k1 := Hh.cov_ok (q := ⟨a0, b1, a2, a3, 0⟩) hr (hq 1)
  have k2 := Hh.cov_ok (q := ⟨a0, a1, b2, a3, 0⟩) hr (hq 2)
  have k3 := Hh.cov_ok (q := ⟨a0, a1, a2, b3, 0⟩) hr (hq 3)
  rw [e, k0, k1, k2, k3]
  simp only [Hh.covs, Bool.and_eq_true] at hx ⊢
  obtain ⟨⟨⟨⟨⟨z0, z1⟩, z2⟩, z3⟩, z4⟩, z5⟩ := hx
  simp only [z0, z1, z2, z3, z4, z5, Bool.and_true, Bool.true_and]
  generalize (decide (h.spk < 0) || decide (h.spk = b0)) = p0
  generalize (decide (h.lang < 0) || decide (h.lang = b2)) = p1
  generalize decide (h.fst ≤ b1) = p2
  generalize decide (b1 < h.lst) = p3
  generalize decide (h.frm ≤ b3) = p4
  generalize decide (b3 < h.unt) = p5
  revert p0 p1 p2 p3 p4 p5
  decide
end Go.Proofs.Ytninnpcggeofmaa
