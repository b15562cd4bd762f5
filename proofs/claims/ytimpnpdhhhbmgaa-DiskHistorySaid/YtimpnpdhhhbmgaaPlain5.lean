/- Plain law of layer 4 for DiskTogether: the relation of its first loop. -/
import Derived.Test.YtimpnpdhhhbmgaaPlain4
import Derived.Test.YtimpnpdhhhbmgaaActs
namespace Go.Proofs.Ytimpnpdhhhbmgaa
set_option linter.unusedVariables false
set_option linter.unusedSimpArgs false
namespace Dv
def qs (d : Dk) (ac : List Ac) : List Wr := ac.map fun p => qa d.ss.length p.a p.b
theorem qs_len (d : Dk) (ac : List Ac) : (qs d ac).length = ac.length := by simp [qs]
theorem qs_ok {d : Dk} {ac : List Ac} (hn : 1 ≤ d.ss.length) : ∀ q ∈ qs d ac, 0 ≤ q.at_ ∧ q.at_ < (d.ss.length : Int) ∧ q.data.length = 128 := by
  intro q hq
  obtain ⟨p, _, rfl⟩ := List.mem_map.1 hq
  exact qa_ok hn _ _
theorem qs_get {d : Dk} {ac : List Ac} {k : Nat} (hk : k < ac.length) : (qs d ac)[k]'(by rw [qs_len]; exact hk) = qa d.ss.length ac[k].a ac[k].b := by simp [qs]
/-- all the writes waiting -/
def qd (d : Dk) (ac : List Ac) (k : Nat) : Dk := tq d (qs d ac) k
def ta (d : Dk) (a : UInt8) : Int := ((a.toNat % d.ss.length : Nat) : Int)
/-- what the law asks of its disk ahead of the loops -/
def In1 (d : Dk) (ac : List Ac) : Prop := Run d ∧ d.ps = [] ∧ ac.length ≤ 20 ∧ 1 ≤ d.ss.length
def T1 (d : Dk) (ac : List Ac) (k : Nat) (e : Int) (x : Dk) : Prop := (e = 0 ∧ x = tg d (qs d ac) k ∧ (d.left < 0 ∨ (k : Int) ≤ d.left)) ∨ (e = 40 ∧ 0 ≤ d.left ∧ d.left < (k : Int) ∧ x = sy (qd d ac ac.length))
theorem tg_zero {d : Dk} {Q : List Wr} (h : d.ps = []) (hs : d.st = false) : tg d Q 0 = d := by
  cases d
  simp only at h hs
  subst h hs
  unfold tg
  simp [put]
theorem T1_zero {d : Dk} {ac : List Ac} (h : In1 d ac) : T1 d ac 0 0 d := .inl ⟨rfl, (tg_zero h.2.1 h.1.2).symm, by omega⟩
theorem T1_step {d : Dk} {ac : List Ac} (h : In1 d ac) {k : Nat} (hk : k < ac.length) {x : Dk} (ht : T1 d ac k 0 x) :
    wrE x (ta d ac[k].a) [ac[k].b] = 0 ∧ T1 d ac (k + 1) (syE (wr x (ta d ac[k].a) [ac[k].b])) (sy (wr x (ta d ac[k].a) [ac[k].b])) := by
  obtain ⟨h1, h2, h3, h4⟩ := h
  rcases ht with ⟨_, rfl, hl⟩ | ⟨h0, _⟩
  case inr => cases h0
  have hk' : k < (qs d ac).length := by rw [qs_len]; exact hk
  have hg := qs_get (d := d) hk
  obtain ⟨u, e1, e2, e3, e4⟩ := tg_step h1 (by rw [qs_len]; exact h3) (qs_ok h4) hk' hl (b := [ac[k].b]) (by simp) (by rw [hg]; rfl)
  rw [hg] at e1 e2
  have e1' : wrE (tg d (qs d ac) k) (ta d ac[k].a) [ac[k].b] = 0 := e1
  have e2' : wr (tg d (qs d ac) k) (ta d ac[k].a) [ac[k].b] = u := e2
  rw [e2']
  refine ⟨e1', ?_⟩
  rw [qs_len] at e4
  rcases e4 with ⟨q1, q2, q3⟩ | ⟨q1, q2, q3⟩
  · right
    exact ⟨q2, by omega, by omega, q3⟩
  · left
    exact ⟨q2, q3, by omega⟩
theorem T1_end {d : Dk} {ac : List Ac} (h : In1 d ac) {k : Nat} {e : Int} {x : Dk} (hk : k ≤ ac.length) (ht : T1 d ac k e x) (hx : k = ac.length ∨ e ≠ 0) :
    syE (qd d ac ac.length) = e ∧ sy (qd d ac ac.length) = x := by
  obtain ⟨h1, h2, h3, h4⟩ := h
  obtain ⟨e1, e2⟩ := tq_end h1 (Q := qs d ac) (by rw [qs_len]; exact h3) (qs_ok h4)
  rw [qs_len] at e1 e2
  rcases ht with ⟨rfl, rfl, hl⟩ | ⟨rfl, q1, q2, rfl⟩
  · have hk2 : k = ac.length := by
      rcases hx with hx | hx
      · exact hx
      · exact absurd rfl hx
    subst hk2
    exact e1 hl
  · exact ⟨e2 ⟨q1, by omega⟩, rfl⟩
theorem qd_zero {d : Dk} {ac : List Ac} (h : In1 d ac) : qd d ac 0 = d := by
  cases d
  have := h.2.1
  simp only at this
  subst this
  rfl
theorem qd_step {d : Dk} {ac : List Ac} (h : In1 d ac) {k : Nat} (hk : k < ac.length) :
    wrE (qd d ac k) (ta d ac[k].a) [ac[k].b] = 0 ∧ wr (qd d ac k) (ta d ac[k].a) [ac[k].b] = qd d ac (k + 1) := by
  obtain ⟨h1, h2, h3, h4⟩ := h
  have hk' : k < (qs d ac).length := by rw [qs_len]; exact hk
  have hg := qs_get (d := d) hk
  have := tq_step h1 (qs_ok h4) (by rw [qs_len]; exact h3) hk' (b := [ac[k].b]) (by simp) (by rw [hg]; rfl)
  rw [hg] at this
  exact this
end Dv
end Go.Proofs.Ytimpnpdhhhbmgaa
