/- JournalSteps: records added one by one, and what one Sync after the other leaves. -/
import Derived.Test.YtkcnanclpkongaaJP10
namespace Go.Proofs.Ytkcnanclpkongaa
open Go.RowKit
set_option linter.unusedVariables false
set_option linter.unusedSimpArgs false
set_option maxRecDepth 20000

namespace Jn
/-- a record is added where a sector is left for it -/
def add1 (n : Nat) (js : List By) (b : By) : List By := if used js + nsec b.length ≤ n then js ++ [b] else js
def addN (n : Nat) : List By → List By → List By
  | js, [] => js
  | js, b :: r => addN n (add1 n js b) r
theorem addN_append (n : Nat) : ∀ (rs ts js : List By), addN n js (rs ++ ts) = addN n (addN n js rs) ts
  | [], ts, js => rfl
  | b :: r, ts, js => by simp only [List.cons_append, addN]; exact addN_append n r ts _
theorem addN_take {n : Nat} {js rs : List By} {k : Nat} (h : k < rs.length) : addN n js (rs.take (k + 1)) = add1 n (addN n js (rs.take k)) rs[k] := by
  rw [List.take_succ_eq_append_getElem h, addN_append]; rfl
theorem add1_used {n : Nat} {js : List By} {b : By} (h : used js ≤ n) : used (add1 n js b) ≤ n := by
  unfold add1
  split
  · rw [used_append]; simp only [used]; omega
  · exact h
theorem addN_used {n : Nat} : ∀ (rs : List By) {js : List By}, used js ≤ n → used (addN n js rs) ≤ n
  | [], _, h => h
  | b :: r, _, h => addN_used r (add1_used h)
theorem add1_pre (n : Nat) (js : List By) (b : By) : ∃ ws, add1 n js b = js ++ ws := by
  unfold add1
  split
  · exact ⟨[b], rfl⟩
  · exact ⟨[], by simp⟩
theorem addN_pre (n : Nat) : ∀ (rs js : List By), ∃ ws, addN n js rs = js ++ ws
  | [], js => ⟨[], by simp [addN]⟩
  | b :: r, js => by
    obtain ⟨w1, h1⟩ := add1_pre n js b
    obtain ⟨w2, h2⟩ := addN_pre n r (add1 n js b)
    exact ⟨w1 ++ w2, by simp only [addN]; rw [h2, h1, List.append_assoc]⟩
theorem addN_len {n : Nat} {rs js : List By} : js.length ≤ (addN n js rs).length := by
  obtain ⟨ws, h⟩ := addN_pre n rs js
  rw [h, List.length_append]; omega
/-- a Sync of a disk that does not stop -/
theorem sv_run {n g : Nat} {ss ks ws : List By} (h : Sv n g ss ks) (hu : used (ks ++ ws) ≤ n) (hg : g < 4000000000) :
    ∃ ss', syncE ⟨ks ++ ws, n, ks.length⟩ ⟨ss, [], -1, false⟩ = 0 ∧ syncJ ⟨ks ++ ws, n, ks.length⟩ ⟨ss, [], -1, false⟩ = ⟨ks ++ ws, n, (ks ++ ws).length⟩ ∧ syncD ⟨ks ++ ws, n, ks.length⟩ ⟨ss, [], -1, false⟩ = ⟨ss', [], -1, false⟩ ∧ Sv n (g + 1) ss' (ks ++ ws) := by
  have hold : old ⟨ks ++ ws, n, ks.length⟩ = ks := by
    unfold old
    show (ks ++ ws).take ((ks.length : Int).toNat) = ks
    rw [Int.toNat_natCast, List.take_left' rfl]
  have hA : Acc ⟨ks ++ ws, n, ks.length⟩ ⟨ss, [], -1, false⟩ :=
    { okj := h.okj hu, okd := h.ok (by decide) (by decide), st := rfl, many := by show (n : Int) = (ss.length : Int); rw [h.len], ps := rfl, recs := by rw [hold]; exact h.recs,
      g32 := by have := h.gm; show gnext ss < 4294967296; unfold gnext; omega }
  have hgn : gnext ss ≤ g + 1 := by have := h.gm; unfold gnext; omega
  by_cases hs : ws = []
  · subst hs
    have e : (⟨ks ++ [], (n : Int), (ks.length : Int)⟩ : Jl).syn = ((⟨ks ++ [], (n : Int), (ks.length : Int)⟩ : Jl).rs.length : Int) := by
      show (ks.length : Int) = ((ks ++ []).length : Int)
      rw [List.append_nil]
    refine ⟨ss, ?_, ?_, ?_, ⟨h.len, h.l128, by have := h.gm; omega, by rw [List.append_nil]; exact h.recs, hu, h.n1, h.n2⟩⟩
    · rw [hA.err, if_pos e]
    · unfold syncJ; rw [if_pos hA, if_pos e]; rw [List.append_nil]
    · unfold syncD; rw [if_pos hA, if_pos e]
  · have hne : (⟨ks ++ ws, (n : Int), (ks.length : Int)⟩ : Jl).syn ≠ ((⟨ks ++ ws, (n : Int), (ks.length : Int)⟩ : Jl).rs.length : Int) := by
      show (ks.length : Int) ≠ ((ks ++ ws).length : Int)
      rw [List.length_append]
      have := List.length_pos_iff.2 hs
      omega
    obtain ⟨k1, k2, k3, k4, k5, k6, k7, k8⟩ := hA.done hne (nostop rfl)
    refine ⟨(syncD ⟨ks ++ ws, n, ks.length⟩ ⟨ss, [], -1, false⟩).ss, k1, k2, ?_, ?_⟩
    · obtain ⟨sy, hsy⟩ : ∃ y, syncD ⟨ks ++ ws, n, ks.length⟩ ⟨ss, [], -1, false⟩ = y := ⟨_, rfl⟩
      rw [hsy] at k3 k4 k5 ⊢
      obtain ⟨a, b, c, d⟩ := sy
      simp only at k3 k4 k5
      rw [k3, k4, k5, if_neg (by decide)]
    · exact ⟨k6.trans h.len, fun s hs2 => (k7 s hs2).1, gmax_le (fun s hs2 => ⟨Nat.le_trans (k7 s hs2).2.1 hgn, Nat.le_trans (k7 s hs2).2.2 hgn⟩), k8, hu, h.n1, h.n2⟩
/-- a Sync of what is synced changes nothing -/
theorem sv_again {n g : Nat} {ss ks : List By} (h : Sv n g ss ks) (hg : g < 4000000000) :
    syncE ⟨ks, n, ks.length⟩ ⟨ss, [], -1, false⟩ = 0 ∧ syncJ ⟨ks, n, ks.length⟩ ⟨ss, [], -1, false⟩ = ⟨ks, n, ks.length⟩ ∧ syncD ⟨ks, n, ks.length⟩ ⟨ss, [], -1, false⟩ = ⟨ss, [], -1, false⟩ := by
  have hold : old ⟨ks, n, ks.length⟩ = ks := by
    unfold old
    show ks.take ((ks.length : Int).toNat) = ks
    rw [Int.toNat_natCast, List.take_length]
  have hk := h.okj (ws := []) (by rw [List.append_nil]; exact h.us)
  rw [List.append_nil] at hk
  have hA : Acc ⟨ks, n, ks.length⟩ ⟨ss, [], -1, false⟩ :=
    { okj := hk, okd := h.ok (by decide) (by decide), st := rfl, many := by show (n : Int) = (ss.length : Int); rw [h.len], ps := rfl, recs := by rw [hold]; exact h.recs,
      g32 := by have := h.gm; show gnext ss < 4294967296; unfold gnext; omega }
  have e : (⟨ks, (n : Int), (ks.length : Int)⟩ : Jl).syn = ((⟨ks, (n : Int), (ks.length : Int)⟩ : Jl).rs.length : Int) := rfl
  refine ⟨?_, ?_, ?_⟩
  · rw [hA.err, if_pos e]
  · unfold syncJ; rw [if_pos hA, if_pos e]
  · unfold syncD; rw [if_pos hA, if_pos e]
/-- all that JournalSteps asks of its two ways, for 40 sectors -/
theorem steps_facts (a b : List By) : ∃ ja jb s1 s2 s3 : List By, addN 40 [] a = ja ∧ addN 40 ja b = jb ∧ used ja ≤ 40 ∧ used jb ≤ 40 ∧ ja.length ≤ jb.length ∧
    (syncE ⟨jb, 40, 0⟩ ⟨List.replicate 40 Dv.zs, [], -1, false⟩ = 0 ∧ syncJ ⟨jb, 40, 0⟩ ⟨List.replicate 40 Dv.zs, [], -1, false⟩ = ⟨jb, 40, jb.length⟩ ∧ syncD ⟨jb, 40, 0⟩ ⟨List.replicate 40 Dv.zs, [], -1, false⟩ = ⟨s1, [], -1, false⟩ ∧ openE ⟨s1, [], -1, false⟩ = 0 ∧ openJ ⟨s1, [], -1, false⟩ = ⟨jb, 40, jb.length⟩ ∧ s1.length = 40) ∧
    (syncE ⟨ja, 40, 0⟩ ⟨List.replicate 40 Dv.zs, [], -1, false⟩ = 0 ∧ syncJ ⟨ja, 40, 0⟩ ⟨List.replicate 40 Dv.zs, [], -1, false⟩ = ⟨ja, 40, ja.length⟩ ∧ syncD ⟨ja, 40, 0⟩ ⟨List.replicate 40 Dv.zs, [], -1, false⟩ = ⟨s2, [], -1, false⟩ ∧ s2.length = 40) ∧
    (syncE ⟨jb, 40, ja.length⟩ ⟨s2, [], -1, false⟩ = 0 ∧ syncJ ⟨jb, 40, ja.length⟩ ⟨s2, [], -1, false⟩ = ⟨jb, 40, jb.length⟩ ∧ syncD ⟨jb, 40, ja.length⟩ ⟨s2, [], -1, false⟩ = ⟨s3, [], -1, false⟩ ∧ openE ⟨s3, [], -1, false⟩ = 0 ∧ openJ ⟨s3, [], -1, false⟩ = ⟨jb, 40, jb.length⟩ ∧ s3.length = 40) ∧
    (syncE ⟨jb, 40, jb.length⟩ ⟨s3, [], -1, false⟩ = 0 ∧ syncJ ⟨jb, 40, jb.length⟩ ⟨s3, [], -1, false⟩ = ⟨jb, 40, jb.length⟩ ∧ syncD ⟨jb, 40, jb.length⟩ ⟨s3, [], -1, false⟩ = ⟨s3, [], -1, false⟩) := by
  obtain ⟨ja, hja⟩ : ∃ x, addN 40 [] a = x := ⟨_, rfl⟩
  obtain ⟨jb, hjb⟩ : ∃ x, addN 40 ja b = x := ⟨_, rfl⟩
  have hua : used ja ≤ 40 := hja ▸ addN_used a (Nat.zero_le _)
  have hub : used jb ≤ 40 := hjb ▸ addN_used b hua
  have h0 : Sv 40 0 (List.replicate 40 Dv.zs) [] := sv_new (by decide) (by decide)
  obtain ⟨ws, hws⟩ := addN_pre 40 b ja
  rw [hjb] at hws
  obtain ⟨s1, a1, a2, a3, a4⟩ := sv_run (ws := jb) h0 (by simpa using hub) (by decide)
  obtain ⟨s2, b1, b2, b3, b4⟩ := sv_run (ws := ja) h0 (by simpa using hua) (by decide)
  simp only [List.nil_append] at a1 a2 a3 a4 b1 b2 b3 b4
  have b5 : Sv 40 1 s2 ja := b4
  obtain ⟨s3, c1, c2, c3, c4⟩ := sv_run (ws := ws) b5 (by rw [← hws]; exact hub) (by decide)
  rw [← hws] at c1 c2 c3 c4
  obtain ⟨d1, d2, d3⟩ := sv_again c4 (by decide)
  exact ⟨ja, jb, s1, s2, s3, hja, hjb, hua, hub, by rw [hws, List.length_append]; omega, ⟨a1, a2, a3, a4.open_.1, a4.open_.2, a4.len⟩, ⟨b1, b2, b3, b4.len⟩, ⟨c1, c2, c3, c4.open_.1, c4.open_.2, c4.len⟩, d1, d2, d3⟩
end Jn
end Go.Proofs.Ytkcnanclpkongaa
