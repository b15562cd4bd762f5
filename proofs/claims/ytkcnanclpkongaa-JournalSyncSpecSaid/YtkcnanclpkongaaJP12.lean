/- Plain mathematics of JournalSyncSpec: a Sync of records of any size. -/
import Derived.Test.YtkcnanclpkongaaJG
import Derived.Test.YtkcnanclpkongaaJPB
import Derived.Test.YtkcnanclpkongaaL7
namespace Go.Proofs.Ytkcnanclpkongaa
open Go.RowKit
set_option linter.unusedVariables false
set_option linter.unusedSimpArgs false
set_option maxRecDepth 20000

theorem wrap64_step (x : Int) : wrap64 (wrap64 x + 1) = wrap64 (x + 1) := by
  unfold wrap64
  omega
namespace Jn
/-- what a Sync wants, the sectors counted as the machine counts them -/
structure AccI (l : Jl) (d : Dk) : Prop where
  okj : OkI l
  okd : Dv.Ok d
  st : d.st = false
  many : l.many = d.ss.length
  ps : d.ps.length = 0
  recs : Records d.ss = old l
  g32 : gnext d.ss < 4294967296
instance (l : Jl) (d : Dk) : Decidable (AccI l d) :=
  decidable_of_iff (OkI l ∧ Dv.Ok d ∧ d.st = false ∧ l.many = d.ss.length ∧ d.ps.length = 0 ∧ Records d.ss = old l ∧ gnext d.ss < 4294967296)
    ⟨fun ⟨a, b, c, d, e, f, g⟩ => ⟨a, b, c, d, e, f, g⟩, fun ⟨a, b, c, d, e, f, g⟩ => ⟨a, b, c, d, e, f, g⟩⟩
/-- the disk with what is to be written, or none where it does not fit -/
def wrtX (l : Jl) (d : Dk) : Dk := if used (old l) + used (news l) ≤ d.ss.length then wrt l d else d0
def syncEX (l : Jl) (d : Dk) : Int :=
  if OkI l then if Dv.Ok d then if d.st = true then 40 else if l.many = d.ss.length ∧ d.ps.length = 0 then
    if Records d.ss = old l ∧ gnext d.ss < 4294967296 then if l.syn = l.rs.length then 0 else Dv.syE (wrtX l d) else 50
  else 1 else 40 else 1
def syncJX (l : Jl) (d : Dk) : Jl := if AccI l d then if l.syn = l.rs.length then l else if Dv.syE (wrtX l d) = 0 then { l with syn := l.rs.length } else j0 else j0
def syncDX (l : Jl) (d : Dk) : Dk := if AccI l d then if l.syn = l.rs.length then d else Dv.sy (wrtX l d) else d0
theorem AccI.err {l : Jl} {d : Dk} (h : AccI l d) : syncEX l d = if l.syn = l.rs.length then 0 else Dv.syE (wrtX l d) := by
  unfold syncEX
  rw [if_pos h.okj, if_pos h.okd, if_neg (by rw [h.st]; simp), if_pos ⟨h.many, h.ps⟩, if_pos ⟨h.recs, h.g32⟩]
/-- the disk when i records and j pieces of the next have been handled -/
def dqA (ss : List By) (left : Int) (g a0 : Nat) (rest : List By) (i j : Nat) : Dk := if a0 + (used (rest.take i) + j) ≤ ss.length then wkD ss left g a0 rest i j else d0
theorem not_ok0 : ¬ Dv.Ok d0 := fun h => by have := h.n1; simp [d0] at this
theorem not_run0 : ¬ Dv.Run d0 := fun h => not_ok0 h.1
theorem wr_bad {d : Dk} {q : Int} {s : By} (h : ¬ (Dv.Run d ∧ Dv.Has d q)) : Dv.wr d q s = d0 ∧ Dv.wrE d q s = 40 := by
  unfold Dv.wr Dv.wrE
  rw [if_neg h, if_neg h]
  exact ⟨rfl, rfl⟩
theorem wk_write2 {ss : List By} {ps : List Wr} {left : Int} (hok : Dv.Ok ⟨ss, ps, left, false⟩) {g a0 : Nat} (hg : g < 4294967296) {rest : List By} {i j : Nat} (hi : i < rest.length) (hj : j < nsec rest[i].length) (hl : a0 + (used (rest.take i) + j) < ss.length) :
    Dv.wrE (wkD ss left g a0 rest i j) ((a0 + used (rest.take i) + j : Nat) : Int) (secJ g (a0 + used (rest.take i)) rest[i] j) = 0 ∧ Dv.wr (wkD ss left g a0 rest i j) ((a0 + used (rest.take i) + j : Nat) : Int) (secJ g (a0 + used (rest.take i)) rest[i] j) = wkD ss left g a0 rest i (j + 1) := by
  have hlen := wkS_len (g := g) (a0 := a0) hi (show j ≤ nsec rest[i].length by omega)
  have hr : Dv.Run ⟨ss, wrs a0 (wkS g a0 rest i j), left, false⟩ := run_wrs hok (wkS_128 hg) (by rw [hlen]; omega)
  have := wr_next hr (secJ_len g (a0 + used (rest.take i)) rest[i] j) (by rw [hlen]; omega)
  rw [hlen, ← Nat.add_assoc] at this
  refine ⟨this.1, ?_⟩
  unfold wkD
  rw [wkS_next hi hj]
  exact this.2
theorem dq_step {ss : List By} {ps : List Wr} {left : Int} (hok : Dv.Ok ⟨ss, ps, left, false⟩) {g a0 : Nat} (hg : g < 4294967296) {rest : List By} {i j : Nat} (hi : i < rest.length) (hj : j < nsec rest[i].length)
    {q : Int} (hq : q = wrap64 ((a0 + used (rest.take i) + j : Nat) : Int)) {s : By} (hs : a0 + (used (rest.take i) + j) < ss.length → s = secJ g (a0 + used (rest.take i)) rest[i] j) :
    Dv.wr (dqA ss left g a0 rest i j) q s = dqA ss left g a0 rest i (j + 1) ∧ (a0 + (used (rest.take i) + j) < ss.length → Dv.wrE (dqA ss left g a0 rest i j) q s = 0) ∧ (¬ a0 + (used (rest.take i) + j) < ss.length → Dv.wrE (dqA ss left g a0 rest i j) q s = 40) := by
  have h4 : ss.length ≤ 4096 := hok.n2
  unfold dqA
  rcases Nat.lt_trichotomy (a0 + (used (rest.take i) + j)) ss.length with h | h | h
  · rw [if_pos (by omega), if_pos (by omega)]
    obtain ⟨h1, h2⟩ := wk_write2 hok hg hi hj h
    have e : q = ((a0 + used (rest.take i) + j : Nat) : Int) := by rw [hq, IntWalk.wrap64_in _ (by omega)]
    rw [e, hs h]
    exact ⟨h2, fun _ => h1, fun h0 => absurd h h0⟩
  · rw [if_pos (by omega), if_neg (by omega)]
    have e : q = ((a0 + used (rest.take i) + j : Nat) : Int) := by rw [hq, IntWalk.wrap64_in _ (by omega)]
    have hb : ¬ (Dv.Run (wkD ss left g a0 rest i j) ∧ Dv.Has (wkD ss left g a0 rest i j) q) := fun hh => by
      have h1 := hh.2.2
      rw [e] at h1
      change ((a0 + used (rest.take i) + j : Nat) : Int) < (ss.length : Int) at h1
      omega
    exact ⟨(wr_bad hb).1, fun h0 => by omega, fun _ => (wr_bad hb).2⟩
  · rw [if_neg (by omega), if_neg (by omega)]
    have hb : ¬ (Dv.Run d0 ∧ Dv.Has d0 q) := fun hh => not_run0 hh.1
    exact ⟨(wr_bad hb).1, fun h0 => by omega, fun _ => (wr_bad hb).2⟩
theorem dq_done {ss : List By} {left : Int} {g a0 : Nat} {rest : List By} {i : Nat} (hi : i < rest.length) : dqA ss left g a0 rest i (nsec rest[i].length) = dqA ss left g a0 rest (i + 1) 0 := by
  unfold dqA
  rw [wkD_done hi, used_take hi]
  simp only [Nat.add_zero]
theorem dq_start {ss : List By} {left : Int} {g a0 : Nat} {rest : List By} (h : a0 ≤ ss.length) : dqA ss left g a0 rest 0 0 = ⟨ss, [], left, false⟩ := by
  unfold dqA
  rw [List.take_zero, if_pos (by simpa [used] using h)]
  unfold wkD
  rw [wkS_zero]
  rfl
theorem dq_end {ss : List By} {left : Int} {g a0 : Nat} {rest : List By} {i : Nat} (hi : rest.length ≤ i) : dqA ss left g a0 rest i 0 = if a0 + used rest ≤ ss.length then ⟨ss, wrs a0 (encG g a0 rest), left, false⟩ else d0 := by
  unfold dqA
  rw [List.take_of_length_le hi, Nat.add_zero]
  split
  · unfold wkD
    rw [wkS_all hi]
  · rfl
theorem piece_sub {b : By} {j : Nat} (hj : j < nsec b.length) : (b.take (min b.length (112 * (j + 1)))).drop (112 * j) = pieceJ b j := by
  unfold pieceJ
  rcases Nat.le_total b.length (112 * (j + 1)) with h | h
  · rw [Nat.min_eq_left h, List.take_length, List.take_of_length_le (by rw [List.length_drop]; omega)]
  · rw [Nat.min_eq_right h, List.drop_take]
    congr 1
    omega
theorem piece_at {b : By} {j : Nat} (hj : j < nsec b.length) : 112 * j ≤ b.length := by
  unfold nsec at hj
  rcases Nat.eq_zero_or_pos j with h | h <;> omega
theorem kind_of {j m : Nat} (hj : j < m) : UInt8.ofNat ((if decide (j = 0) = true then 1 else 0) + (if decide (j + 1 = m) = true then 2 else 0)) = kindJ j m := by
  unfold kindJ
  by_cases h1 : j = 0
  · by_cases h2 : j + 1 = m
    · simp [h1, h2]; subst h1; simp at h2; simp [← h2]
    · subst h1; simp at h2; simp [h2]
  · by_cases h2 : j + 1 = m
    · simp [h1, h2]
    · simp [h1, h2]
end Jn
end Go.Proofs.Ytkcnanclpkongaa
