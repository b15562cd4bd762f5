/- JournalDamage: what is read after one byte of what was written is turned. -/
import Derived.Test.YtkcnanclpkongaaJP8
namespace Go.Proofs.Ytkcnanclpkongaa
open Go.RowKit
set_option linter.unusedVariables false
set_option linter.unusedSimpArgs false
set_option maxRecDepth 20000

namespace Jn
theorem used_mono (rs : List By) {a b : Nat} (h : a ≤ b) : used (rs.take a) ≤ used (rs.take b) := by
  have e : rs.take b = (rs.take b).take a ++ (rs.take b).drop a := (List.take_append_drop _ _).symm
  have e2 : (rs.take b).take a = rs.take a := by rw [List.take_take, Nat.min_eq_left h]
  rw [e, used_append, e2]
  omega
theorem acc_new {n : Nat} {rs : List By} (h1 : 1 ≤ n) (h2 : n ≤ 4096) (hu : used rs ≤ n) : Acc ⟨rs, n, 0⟩ ⟨List.replicate n Dv.zs, [], -1, false⟩ where
  okj := ⟨by show (1 : Int) ≤ n; omega, by show (n : Int) ≤ 4096; omega, by show (0 : Int) ≤ 0; decide, by show (0 : Int) ≤ (rs.length : Int); omega, by show (used rs : Int) ≤ n; omega⟩
  okd := ok_new h1 h2
  st := rfl
  many := by show (n : Int) = ((List.replicate n Dv.zs).length : Int); rw [List.length_replicate]
  ps := rfl
  recs := by rw [recs_new0]; rfl
  g32 := by unfold gnext; rw [gmax_new]; omega
theorem dmg0 {n : Nat} (h1 : 1 ≤ n) (h2 : n ≤ 4096) : syncE ⟨[], n, 0⟩ ⟨List.replicate n Dv.zs, [], -1, false⟩ = 0 ∧ syncJ ⟨[], n, 0⟩ ⟨List.replicate n Dv.zs, [], -1, false⟩ = ⟨[], n, 0⟩ ∧ syncD ⟨[], n, 0⟩ ⟨List.replicate n Dv.zs, [], -1, false⟩ = ⟨List.replicate n Dv.zs, [], -1, false⟩ := by
  have hA := acc_new (rs := []) h1 h2 (by simp [used])
  refine ⟨?_, ?_, ?_⟩
  · rw [hA.err, if_pos (by rfl)]
  · unfold syncJ; rw [if_pos hA, if_pos (by rfl)]
  · unfold syncD; rw [if_pos hA, if_pos (by rfl)]
theorem dmg {n : Nat} {rs : List By} (h1 : 1 ≤ n) (h2 : n ≤ 4096) (hu : used rs ≤ n) (h0 : 0 < rs.length) :
    ∃ ss : List By, syncE ⟨rs, n, 0⟩ ⟨List.replicate n Dv.zs, [], -1, false⟩ = 0 ∧ syncJ ⟨rs, n, 0⟩ ⟨List.replicate n Dv.zs, [], -1, false⟩ = ⟨rs, n, rs.length⟩ ∧ syncD ⟨rs, n, 0⟩ ⟨List.replicate n Dv.zs, [], -1, false⟩ = ⟨ss, [], -1, false⟩ ∧ ss.length = n ∧ (∀ s ∈ ss, s.length = 128) ∧
      ∀ (κ : Nat) (hκ : κ < used rs) (i : Nat) (x : UInt8) (hi : i < (ss.getD κ []).length), x ≠ (ss.getD κ [])[i] →
        ∃ (b : By) (d1 d2 : Dk) (m : Nat), (ss.getD κ []).set i x = b ∧ Dv.wrE ⟨ss, [], -1, false⟩ (κ : Int) b = 0 ∧ Dv.wr ⟨ss, [], -1, false⟩ (κ : Int) b = d1 ∧ Dv.syE d1 = 0 ∧ Dv.sy d1 = d2 ∧ openE d2 = 0 ∧ openJ d2 = ⟨rs.take m, n, m⟩ ∧ m < rs.length ∧ used (rs.take m) ≤ κ ∧ κ < used (rs.take (m + 1)) ∧ d2.ss.length = n ∧ d1.ss.length = n := by
  have hA := acc_new h1 h2 hu
  have hs : (⟨rs, (n : Int), 0⟩ : Jl).syn ≠ ((⟨rs, (n : Int), 0⟩ : Jl).rs.length : Int) := by show (0 : Int) ≠ (rs.length : Int); omega
  have hst : ¬ Dv.Stops (wrt ⟨rs, n, 0⟩ ⟨List.replicate n Dv.zs, [], -1, false⟩) := nostop rfl
  obtain ⟨k1, k2, -, -, -, k6, k7, -⟩ := hA.done hs hst
  have hold : old ⟨rs, n, 0⟩ = [] := by unfold old; rfl
  have hd : syncD ⟨rs, n, 0⟩ ⟨List.replicate n Dv.zs, [], -1, false⟩ = ⟨Dv.put (List.replicate n Dv.zs) (wrs 0 (what ⟨rs, n, 0⟩ ⟨List.replicate n Dv.zs, [], -1, false⟩)), [], -1, false⟩ := by
    unfold syncD
    rw [if_pos hA, if_neg hs]
    unfold Dv.sy
    rw [if_pos hA.wok, if_neg hst]
    have e : wrt ⟨rs, n, 0⟩ ⟨List.replicate n Dv.zs, [], -1, false⟩ = ⟨List.replicate n Dv.zs, wrs 0 (what ⟨rs, n, 0⟩ ⟨List.replicate n Dv.zs, [], -1, false⟩), -1, false⟩ := by
      unfold wrt; rw [hold]; rfl
    rw [e]
    rfl
  obtain ⟨ss, hss⟩ : ∃ ss, Dv.put (List.replicate n Dv.zs) (wrs 0 (what ⟨rs, n, 0⟩ ⟨List.replicate n Dv.zs, [], -1, false⟩)) = ss := ⟨_, rfl⟩
  rw [hss] at hd
  rw [hd] at k6 k7
  have k6' : ss.length = n := by simpa using k6
  have k7' : ∀ s ∈ ss, s.length = 128 := fun s h => (k7 s h).1
  refine ⟨ss, k1, k2, hd, k6', k7', ?_⟩
  intro κ hκ i x hi hx
  have hκn : κ < ss.length := by omega
  have hgl : ss.getD κ [] = ss[κ] := by simp [List.getD, List.getElem?_eq_getElem hκn]
  have hb : ((ss.getD κ []).set i x).length = 128 := by rw [List.length_set, hgl]; exact k7' _ (List.getElem_mem hκn)
  have hok : Dv.Ok ⟨ss, [], -1, false⟩ := ok_ss (by omega) (by omega) k7' (by decide) (by decide)
  have hrun : Dv.Run ⟨ss, [], -1, false⟩ ∧ Dv.Has ⟨ss, [], -1, false⟩ (κ : Int) := ⟨⟨hok, rfl⟩, by omega, by show (κ : Int) < (ss.length : Int); omega⟩
  obtain ⟨b, hbq⟩ : ∃ b, (ss.getD κ []).set i x = b := ⟨_, rfl⟩
  rw [hbq] at hb
  have hpad : Dv.pad b = b := by unfold Dv.pad; simp [hb]
  have hw1 : Dv.wrE ⟨ss, [], -1, false⟩ (κ : Int) b = 0 := by unfold Dv.wrE; rw [if_pos hrun, if_pos (by omega), if_neg (by simp)]
  have hw2 : Dv.wr ⟨ss, [], -1, false⟩ (κ : Int) b = ⟨ss, [⟨κ, b⟩], -1, false⟩ := by unfold Dv.wr; rw [if_pos hrun, if_pos (by omega), if_neg (by simp), hpad]; rfl
  have hok1 : Dv.Ok ⟨ss, [⟨κ, b⟩], -1, false⟩ := by
    have h3 := hok.ss
    refine ⟨by show 1 ≤ ss.length; omega, by show ss.length ≤ 4096; omega, by show 1 ≤ 4096; decide, by show (-1 : Int) ≤ -1; decide, by show (-1 : Int) ≤ 65536; decide, ?_, h3⟩
    simp only [List.any_cons, List.any_nil, Bool.or_false]
    unfold Dv.badW
    simp [hb]
    omega
  have hns : ¬ Dv.Stops ⟨ss, [⟨κ, b⟩], -1, false⟩ := fun h => by have h3 : (0 : Int) ≤ -1 := h.1; omega
  have hs1 : Dv.syE ⟨ss, [⟨κ, b⟩], -1, false⟩ = 0 := by unfold Dv.syE; rw [if_pos ⟨hok1, rfl⟩, if_neg hns]
  have hs2 : Dv.sy ⟨ss, [⟨κ, b⟩], -1, false⟩ = ⟨ss.set κ b, [], -1, false⟩ := by unfold Dv.sy; rw [if_pos ⟨hok1, rfl⟩, if_neg hns]; rfl
  have hsl : (ss.set κ b).length = n := by rw [List.length_set]; exact k6'
  have h128 : ∀ s ∈ ss.set κ b, s.length = 128 := fun s h => by
    rcases List.mem_or_eq_of_mem_set h with h3 | h3
    · exact k7' s h3
    · rw [h3]; exact hb
  have ho := open_ss (ss := ss.set κ b) (left := -1) (ok_ss (by omega) (by omega) h128 (by decide) (by decide))
  obtain ⟨m, m1, m2, m3, m4⟩ := damage (l := ⟨rs, n, 0⟩) (n := n) (sx := ss.set κ b) (sy := ss) hA rfl hss.symm hκ hi hx (by rw [hbq])
  refine ⟨b, _, _, m, hbq, hw1, hw2, hs1, hs2, ho.1, ?_, m1, m2, m3, hsl, k6'⟩
  rw [ho.2, m4, hsl]
  have : (rs.take m).length = m := by rw [List.length_take]; have : m < rs.length := m1; omega
  show (⟨rs.take m, n, ((rs.take m).length : Nat)⟩ : Jl) = _
  rw [this]
end Jn
end Go.Proofs.Ytkcnanclpkongaa
