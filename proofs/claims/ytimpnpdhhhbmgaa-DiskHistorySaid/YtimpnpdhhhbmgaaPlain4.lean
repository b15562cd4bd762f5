/- Plain law of layer 4 for DiskTogether: a sync behind each write is the sync of all. -/
import Derived.Test.YtimpnpdhhhbmgaaPlain3
namespace Go.Proofs.Ytimpnpdhhhbmgaa
set_option linter.unusedVariables false
set_option linter.unusedSimpArgs false
namespace Dv
/-- the disk behind k writes, each synced, that has not stopped -/
def tg (d : Dk) (Q : List Wr) (k : Nat) : Dk := ⟨put d.ss (Q.take k), [], if 0 ≤ d.left then d.left - k else d.left, false⟩
/-- the disk with all the writes waiting -/
def tq (d : Dk) (Q : List Wr) (k : Nat) : Dk := { d with ps := Q.take k }
theorem put_take_128 {d : Dk} {Q : List Wr} (h : Ok d) (hQ : ∀ q ∈ Q, 0 ≤ q.at_ ∧ q.at_ < (d.ss.length : Int) ∧ q.data.length = 128) (k : Nat) : (put d.ss (Q.take k)).any badS = false := by
  rw [any_ss]
  exact put128 (fun q hq => any_ss.1 h.ss q hq) (fun p hp => (hQ p (List.mem_of_mem_take hp)).2.2)
theorem tg_run {d : Dk} {Q : List Wr} (h : Run d) (hQ : ∀ q ∈ Q, 0 ≤ q.at_ ∧ q.at_ < (d.ss.length : Int) ∧ q.data.length = 128) {k : Nat} (hk : d.left < 0 ∨ (k : Int) ≤ d.left) : Run (tg d Q k) := by
  obtain ⟨⟨o1, o2, o3, o4, o5, o6, o7⟩, hst⟩ := id h
  refine ⟨⟨?_, ?_, ?_, ?_, ?_, rfl, put_take_128 h.1 hQ k⟩, rfl⟩
  · simp only [tg, put_len]; exact o1
  · simp only [tg, put_len]; exact o2
  · simp [tg]
  · simp only [tg]; split <;> omega
  · simp only [tg]; split <;> omega
theorem tq_run {d : Dk} {Q : List Wr} (h : Run d) (hQ : ∀ q ∈ Q, 0 ≤ q.at_ ∧ q.at_ < (d.ss.length : Int) ∧ q.data.length = 128) (hn : Q.length ≤ 4096) (k : Nat) : Run (tq d Q k) := by
  obtain ⟨⟨o1, o2, o3, o4, o5, o6, o7⟩, hst⟩ := id h
  refine ⟨⟨o1, o2, ?_, o4, o5, ?_, o7⟩, hst⟩
  · simp only [tq, List.length_take]; omega
  · rw [any_ps]
    intro p hp
    exact hQ p (List.mem_of_mem_take hp)
/-- a write to a running disk -/
theorem wr_go {d : Dk} {a : Int} {b : By} (h : Run d) (ha : 0 ≤ a ∧ a < (d.ss.length : Int)) (hb : b.length ≤ 128) (hp : d.ps.length < 4096) : wrE d a b = 0 ∧ wr d a b = { d with ps := d.ps ++ [⟨a, pad b⟩] } := by
  unfold wrE wr
  rw [if_pos ⟨h, ha⟩, if_pos hb, if_neg (by omega), if_pos ⟨h, ha⟩, if_pos hb, if_neg (by omega)]
  exact ⟨rfl, rfl⟩
theorem tq_step {d : Dk} {Q : List Wr} (h : Run d) (hQ : ∀ q ∈ Q, 0 ≤ q.at_ ∧ q.at_ < (d.ss.length : Int) ∧ q.data.length = 128) (hn : Q.length ≤ 20) {k : Nat} (hk : k < Q.length) {b : By} (hb : b.length ≤ 128) (hq : Q[k].data = pad b) :
    wrE (tq d Q k) Q[k].at_ b = 0 ∧ wr (tq d Q k) Q[k].at_ b = tq d Q (k + 1) := by
  have h1 := hQ Q[k] (List.getElem_mem hk)
  obtain ⟨e1, e2⟩ := wr_go (d := tq d Q k) (a := Q[k].at_) (b := b) (tq_run h hQ (by omega) k) ⟨h1.1, h1.2.1⟩ hb (by simp only [tq, List.length_take]; omega)
  refine ⟨e1, e2.trans ?_⟩
  unfold tq
  simp only [List.take_succ_eq_append_getElem hk, ← hq]
theorem take_get_one {Q : List Wr} {k : Nat} (hk : k < Q.length) : [Q[k]] = [⟨Q[k].at_, Q[k].data⟩] := rfl
/-- a write and a sync -/
theorem tg_step {d : Dk} {Q : List Wr} (h : Run d) (hn : Q.length ≤ 20) (hQ : ∀ q ∈ Q, 0 ≤ q.at_ ∧ q.at_ < (d.ss.length : Int) ∧ q.data.length = 128) {k : Nat} (hk : k < Q.length) (hl : d.left < 0 ∨ (k : Int) ≤ d.left) {b : By} (hb : b.length ≤ 128) (hq : Q[k].data = pad b) :
    ∃ u : Dk, wrE (tg d Q k) Q[k].at_ b = 0 ∧ wr (tg d Q k) Q[k].at_ b = u ∧ Run u ∧ ((d.left = k ∧ syE u = 40 ∧ sy u = sy (tq d Q Q.length)) ∨ (d.left ≠ k ∧ syE u = 0 ∧ sy u = tg d Q (k + 1))) := by
  have h1 := hQ Q[k] (List.getElem_mem hk)
  have hR := tg_run h hQ hl
  obtain ⟨e1, e2⟩ := wr_go (d := tg d Q k) (a := Q[k].at_) (b := b) hR ⟨h1.1, by simp only [tg, put_len]; exact h1.2.1⟩ hb (by simp [tg])
  have hRu : Run (wr (tg d Q k) Q[k].at_ b) := (wr_ok e1).2.2.2.2
  refine ⟨_, e1, rfl, hRu, ?_⟩
  rw [e2] at hRu ⊢
  have hps : (tg d Q k).ps ++ [⟨Q[k].at_, pad b⟩] = [Q[k]] := by rw [← hq]; rfl
  rw [hps] at hRu ⊢
  have hput : put (put d.ss (Q.take k)) [Q[k]] = put d.ss (Q.take (k + 1)) := by rw [List.take_succ_eq_append_getElem hk, put_app]
  by_cases hs : d.left = k
  · left
    have hS : Stops ({ tg d Q k with ps := [Q[k]] } : Dk) := by
      unfold Stops tg
      simp only [List.length_cons, List.length_nil]
      rw [if_pos (by omega)]
      omega
    refine ⟨hs, by unfold syE; rw [if_pos hRu, if_pos hS], ?_⟩
    have hRq := tq_run h hQ (by omega) Q.length
    have hSq : Stops (tq d Q Q.length) := by
      unfold Stops tq
      simp only [List.take_length]
      omega
    unfold sy
    rw [if_pos hRu, if_pos hS, if_pos hRq, if_pos hSq]
    congr 1
    have e3 : (tq d Q Q.length).left.toNat = k := by show d.left.toNat = k; omega
    have e4 : (tg d Q k).left.toNat = 0 := by
      show (if 0 ≤ d.left then d.left - k else d.left).toNat = 0
      rw [if_pos (by omega)]; omega
    rw [e3]
    show halfS _ (tg d Q k).left.toNat = _
    rw [e4]
    unfold halfS
    have e5 : (tq d Q Q.length).ps[k]? = some Q[k] := by
      show (Q.take Q.length)[k]? = _
      rw [List.take_length, List.getElem?_eq_getElem hk]
    rw [e5]
    show (put (put d.ss (Q.take k)) []).set _ (torn _ ((put (put d.ss (Q.take k)) []).getD _ [])) = (put d.ss ((Q.take Q.length).take k)).set _ (torn _ ((put d.ss ((Q.take Q.length).take k)).getD _ []))
    rw [List.take_length]
    rfl
  · right
    have hS : ¬ Stops ({ tg d Q k with ps := [Q[k]] } : Dk) := by
      unfold Stops tg
      simp only [List.length_cons, List.length_nil]
      split <;> omega
    refine ⟨hs, by unfold syE; rw [if_pos hRu, if_neg hS], ?_⟩
    unfold sy
    rw [if_pos hRu, if_neg hS]
    unfold tg
    simp only [hput, List.length_cons, List.length_nil]
    congr 1
    by_cases h0 : 0 ≤ d.left
    · rw [if_pos (by rw [if_pos h0]; omega), if_pos h0, if_pos h0]; omega
    · rw [if_neg (by rw [if_neg h0]; omega), if_neg h0, if_neg h0]
theorem tq_end {d : Dk} {Q : List Wr} (h : Run d) (hn : Q.length ≤ 20) (hQ : ∀ q ∈ Q, 0 ≤ q.at_ ∧ q.at_ < (d.ss.length : Int) ∧ q.data.length = 128) :
    (d.left < 0 ∨ (Q.length : Int) ≤ d.left → syE (tq d Q Q.length) = 0 ∧ sy (tq d Q Q.length) = tg d Q Q.length) ∧ (0 ≤ d.left ∧ d.left < (Q.length : Int) → syE (tq d Q Q.length) = 40) := by
  have hRq := tq_run h hQ (by omega) Q.length
  refine ⟨fun hl => ?_, fun hl => ?_⟩
  · have hS : ¬ Stops (tq d Q Q.length) := by
      unfold Stops tq
      simp only [List.take_length]
      omega
    refine ⟨by unfold syE; rw [if_pos hRq, if_neg hS], ?_⟩
    unfold sy
    rw [if_pos hRq, if_neg hS]
    unfold tq tg
    simp only [List.take_length]
  · have hS : Stops (tq d Q Q.length) := by
      unfold Stops tq
      simp only [List.take_length]
      omega
    unfold syE; rw [if_pos hRq, if_pos hS]
/-- the writes of a script -/
def qa (n : Nat) (a b : UInt8) : Wr := ⟨((a.toNat % n : Nat) : Int), pad [b]⟩
theorem qa_ok {n : Nat} (hn : 1 ≤ n) (a b : UInt8) : 0 ≤ (qa n a b).at_ ∧ (qa n a b).at_ < (n : Int) ∧ (qa n a b).data.length = 128 := by
  refine ⟨by unfold qa; simp only; omega, by unfold qa; simp only; have := Nat.mod_lt a.toNat (show 0 < n by omega); omega, pad_len (by simp)⟩
end Dv
end Go.Proofs.Ytimpnpdhhhbmgaa
