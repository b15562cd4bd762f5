/- JournalSurvives: what one writing, perhaps stopped, leaves. -/
import Derived.Test.YtkcnanclpkongaaJP9
namespace Go.Proofs.Ytkcnanclpkongaa
open Go.RowKit
set_option linter.unusedVariables false
set_option linter.unusedSimpArgs false
set_option maxRecDepth 20000

namespace Jn
/-- sectors that hold just these records, of generations up to g -/
structure Sv (n g : Nat) (ss : List By) (ks : List By) : Prop where
  len : ss.length = n
  l128 : ∀ s ∈ ss, s.length = 128
  gm : gmax ss ≤ g
  recs : Records ss = ks
  us : used ks ≤ n
  n1 : 1 ≤ n
  n2 : n ≤ 4096
theorem sv_new {n : Nat} (h1 : 1 ≤ n) (h2 : n ≤ 4096) : Sv n 0 (List.replicate n Dv.zs) [] :=
  ⟨List.length_replicate, fun s h => by rw [List.eq_of_mem_replicate h]; rfl, by rw [gmax_new]; exact Nat.le_refl _, recs_new0 n, Nat.zero_le _, h1, h2⟩
theorem Sv.ok {n g : Nat} {ss ks : List By} (h : Sv n g ss ks) {left : Int} (h1 : -1 ≤ left) (h2 : left ≤ 65536) {st : Bool} : Dv.Ok ⟨ss, [], left, st⟩ := by
  have := h.n1; have := h.n2; have := h.len
  exact ok_ss (by omega) (by omega) h.l128 h1 h2
theorem Sv.open_ {n g : Nat} {ss ks : List By} (h : Sv n g ss ks) : openE ⟨ss, [], -1, false⟩ = 0 ∧ openJ ⟨ss, [], -1, false⟩ = ⟨ks, n, ks.length⟩ := by
  have ho := open_ss (ss := ss) (left := -1) (h.ok (by decide) (by decide))
  rw [h.recs, h.len] at ho
  exact ho
theorem Sv.okj {n g : Nat} {ss ks ws : List By} (h : Sv n g ss ks) (hu : used (ks ++ ws) ≤ n) : OkJ ⟨ks ++ ws, n, ks.length⟩ := by
  have := h.n1; have := h.n2
  refine ⟨by show (1 : Int) ≤ n; omega, by show (n : Int) ≤ 4096; omega, by show (0 : Int) ≤ (ks.length : Int); omega, by show (ks.length : Int) ≤ ((ks ++ ws).length : Int); rw [List.length_append]; omega, by show (used (ks ++ ws) : Int) ≤ n; omega⟩
theorem Sv.stop {n g : Nat} {ss ks : List By} (h : Sv n g ss ks) {l : Int} (h1 : 0 ≤ l) (h2 : l ≤ 65536) : Dv.stE ⟨ss, [], -1, false⟩ l = 0 ∧ Dv.stp ⟨ss, [], -1, false⟩ l = ⟨ss, [], l, false⟩ := by
  have hr : Dv.Run ⟨ss, [], -1, false⟩ := ⟨h.ok (by decide) (by decide), rfl⟩
  unfold Dv.stE Dv.stp
  rw [if_pos hr, if_pos hr, if_pos ⟨h1, h2⟩, if_pos ⟨h1, h2⟩]
  exact ⟨rfl, rfl⟩
theorem surv {n g : Nat} {ss ks ws : List By} (h : Sv n g ss ks) (hu : used (ks ++ ws) ≤ n) (hg : g < 4000000000) {left : Int} (l1 : -1 ≤ left) (l2 : left ≤ 65536) :
    (∃ ss' left', syncE ⟨ks ++ ws, n, ks.length⟩ ⟨ss, [], left, false⟩ = 0 ∧ syncJ ⟨ks ++ ws, n, ks.length⟩ ⟨ss, [], left, false⟩ = ⟨ks ++ ws, n, (ks ++ ws).length⟩ ∧ syncD ⟨ks ++ ws, n, ks.length⟩ ⟨ss, [], left, false⟩ = ⟨ss', [], left', false⟩ ∧ Sv n (g + 1) ss' (ks ++ ws)) ∨
    (0 ≤ left ∧ ∃ ss' k, syncE ⟨ks ++ ws, n, ks.length⟩ ⟨ss, [], left, false⟩ = 40 ∧ syncJ ⟨ks ++ ws, n, ks.length⟩ ⟨ss, [], left, false⟩ = j0 ∧ syncD ⟨ks ++ ws, n, ks.length⟩ ⟨ss, [], left, false⟩ = ⟨ss', [], 0, true⟩ ∧ ks.length ≤ k ∧ k < (ks ++ ws).length ∧ Sv n (g + 1) ss' ((ks ++ ws).take k)) := by
  have hold : old ⟨ks ++ ws, n, ks.length⟩ = ks := by
    unfold old
    show (ks ++ ws).take ((ks.length : Int).toNat) = ks
    rw [Int.toNat_natCast, List.take_left' rfl]
  have hnew : news ⟨ks ++ ws, n, ks.length⟩ = ws := by
    unfold news
    show (ks ++ ws).drop ((ks.length : Int).toNat) = ws
    rw [Int.toNat_natCast, List.drop_left' rfl]
  have hA : Acc ⟨ks ++ ws, n, ks.length⟩ ⟨ss, [], left, false⟩ :=
    { okj := h.okj hu, okd := h.ok l1 l2, st := rfl, many := by show (n : Int) = (ss.length : Int); rw [h.len], ps := rfl, recs := by rw [hold]; exact h.recs,
      g32 := by have := h.gm; show gnext ss < 4294967296; unfold gnext; omega }
  have hgn : gnext ss ≤ g + 1 := by have := h.gm; unfold gnext; omega
  by_cases hs : ws = []
  · subst hs
    left
    have e : (⟨ks ++ [], (n : Int), (ks.length : Int)⟩ : Jl).syn = ((⟨ks ++ [], (n : Int), (ks.length : Int)⟩ : Jl).rs.length : Int) := by
      show (ks.length : Int) = ((ks ++ []).length : Int)
      rw [List.append_nil]
    refine ⟨ss, left, ?_, ?_, ?_, ⟨h.len, h.l128, by have := h.gm; omega, by rw [List.append_nil]; exact h.recs, hu, h.n1, h.n2⟩⟩
    · rw [hA.err, if_pos e]
    · unfold syncJ; rw [if_pos hA, if_pos e]; rw [List.append_nil]
    · unfold syncD; rw [if_pos hA, if_pos e]
  · have hne : (⟨ks ++ ws, (n : Int), (ks.length : Int)⟩ : Jl).syn ≠ ((⟨ks ++ ws, (n : Int), (ks.length : Int)⟩ : Jl).rs.length : Int) := by
      show (ks.length : Int) ≠ ((ks ++ ws).length : Int)
      rw [List.length_append]
      have := List.length_pos_iff.2 hs
      omega
    by_cases hst : Dv.Stops (wrt ⟨ks ++ ws, n, ks.length⟩ ⟨ss, [], left, false⟩)
    · right
      obtain ⟨g1, g2⟩ := hA.gens hA.wok
      have hsy : Dv.sy (wrt ⟨ks ++ ws, n, ks.length⟩ ⟨ss, [], left, false⟩) = ⟨Dv.halfS (wrt ⟨ks ++ ws, n, ks.length⟩ ⟨ss, [], left, false⟩) left.toNat, [], 0, true⟩ := by
        unfold Dv.sy; rw [if_pos hA.wok, if_pos hst]; rfl
      have hlen : ((wrt ⟨ks ++ ws, n, ks.length⟩ ⟨ss, [], left, false⟩).ps).length = (what ⟨ks ++ ws, n, ks.length⟩ ⟨ss, [], left, false⟩).length := wrs_len _ _
      have hl0 : 0 ≤ left := hst.1
      have hl1 : left < ((wrt ⟨ks ++ ws, n, ks.length⟩ ⟨ss, [], left, false⟩).ps.length : Int) := hst.2
      obtain ⟨k, k1, k2⟩ := hA.stop (c := left.toNat) (by omega)
      rw [hnew] at k1 k2
      rw [hold] at k2
      rw [hsy] at g1 g2
      refine ⟨hl0, Dv.halfS (wrt ⟨ks ++ ws, n, ks.length⟩ ⟨ss, [], left, false⟩) left.toNat, ks.length + k, ?_, ?_, ?_, by omega, by rw [List.length_append]; omega, ?_⟩
      · rw [hA.err, if_neg hne]; unfold Dv.syE; rw [if_pos hA.wok, if_pos hst]
      · unfold syncJ; rw [if_pos hA, if_neg hne, if_neg (by unfold Dv.syE; rw [if_pos hA.wok, if_pos hst]; decide)]
      · unfold syncD; rw [if_pos hA, if_neg hne]; exact hsy
      · have e : (ks ++ ws).take (ks.length + k) = ks ++ ws.take k := by
          rw [List.take_append, List.take_of_length_le (by omega), Nat.add_sub_cancel_left]
        exact ⟨g1.trans h.len, fun s hs2 => (g2 s hs2).1, gmax_le (fun s hs2 => ⟨by have := (g2 s hs2).2.1; exact Nat.le_trans this hgn, by have := (g2 s hs2).2.2; exact Nat.le_trans this hgn⟩), by rw [k2, e], by
          have h1 := used_mono (ks ++ ws) (show ks.length + k ≤ (ks ++ ws).length by rw [List.length_append]; omega)
          rw [List.take_length] at h1
          omega, h.n1, h.n2⟩
    · left
      obtain ⟨k1, k2, k3, k4, _, k6, k7, k8⟩ := hA.done hne hst
      refine ⟨(syncD ⟨ks ++ ws, n, ks.length⟩ ⟨ss, [], left, false⟩).ss, (syncD ⟨ks ++ ws, n, ks.length⟩ ⟨ss, [], left, false⟩).left, k1, k2, ?_, ?_⟩
      · obtain ⟨sy, hsy⟩ : ∃ y, syncD ⟨ks ++ ws, n, ks.length⟩ ⟨ss, [], left, false⟩ = y := ⟨_, rfl⟩
        rw [hsy] at k3 k4 ⊢
        obtain ⟨a, b, c, d⟩ := sy
        simp only at k3 k4
        rw [k3, k4]
      · exact ⟨k6.trans h.len, fun s hs2 => (k7 s hs2).1, gmax_le (fun s hs2 => ⟨Nat.le_trans (k7 s hs2).2.1 hgn, Nat.le_trans (k7 s hs2).2.2 hgn⟩), k8, hu, h.n1, h.n2⟩
end Jn
end Go.Proofs.Ytkcnanclpkongaa
