/- Both Syncs, records of any size, their results as plain values. -/
import Derived.Test.YtkcnanclpkongaaJ24
namespace Go.Proofs.Ytkcnanclpkongaa
open Go.RowKit
set_option linter.unusedVariables false
set_option linter.unusedSimpArgs false
set_option maxRecDepth 20000

namespace Jn
theorem okj_sm {l : Jl} (h : OkJ l) : Sm l.rs := sm_used (by have h1 := h.2.1; have h2 := h.2.2.2.2; omega)
theorem acc_iff {l : Jl} {d : Dk} (h : OkJ l) : Acc l d ↔ AccI l d :=
  ⟨fun a => ⟨(okI_iff (okj_sm h)).2 h, a.okd, a.st, a.many, a.ps, a.recs, a.g32⟩, fun a => ⟨h, a.okd, a.st, a.many, a.ps, a.recs, a.g32⟩⟩
theorem wrt_eq {l : Jl} {d : Dk} (h : Acc l d) : wrtX l d = wrt l d := by unfold wrtX; rw [if_pos h.used]
theorem eqX {l : Jl} {d : Dk} (h : OkJ l) : syncE l d = syncEX l d ∧ syncJ l d = syncJX l d ∧ syncD l d = syncDX l d := by
  have hI : OkI l := (okI_iff (okj_sm h)).2 h
  by_cases hA : Acc l d
  · have hB := (acc_iff h).1 hA
    refine ⟨by rw [hA.err, hB.err, wrt_eq hA], ?_, ?_⟩
    · unfold syncJ syncJX; rw [if_pos hA, if_pos hB, wrt_eq hA]
    · unfold syncD syncDX; rw [if_pos hA, if_pos hB, wrt_eq hA]
  · have hB := mt (acc_iff h).2 hA
    refine ⟨?_, by unfold syncJ syncJX; rw [if_neg hA, if_neg hB], by unfold syncD syncDX; rw [if_neg hA, if_neg hB]⟩
    unfold syncE syncEX
    rw [if_pos h, if_pos hI]
    by_cases h1 : Dv.Ok d
    · rw [if_pos h1, if_pos h1]
      by_cases h2 : d.st = true
      · rw [if_pos h2, if_pos h2]
      · rw [if_neg h2, if_neg h2]
        by_cases h3 : l.many = d.ss.length ∧ d.ps.length = 0
        · rw [if_pos h3, if_pos h3]
          by_cases h4 : Records d.ss = old l ∧ gnext d.ss < 4294967296
          · exact absurd ⟨h, h1, by simpa using h2, h3.1, h3.2, h4.1, h4.2⟩ hA
          · rw [if_neg h4, if_neg h4]
        · rw [if_neg h3, if_neg h3]
    · rw [if_neg h1, if_neg h1]
theorem syncJX_len (l : Jl) (d : Dk) : (syncJX l d).rs.length ≤ l.rs.length := by
  unfold syncJX
  split
  · split
    · exact Nat.le_refl _
    · split
      · exact Nat.le_refl _
      · exact Nat.zero_le _
  · exact Nat.zero_le _
theorem half_len (d : Dk) (c : Nat) : (Dv.halfS d c).length = d.ss.length := by
  unfold Dv.halfS
  split <;> simp [Dv.put_len]
theorem sy_len (d : Dk) : (Dv.sy d).ss.length ≤ d.ss.length ∧ (Dv.sy d).ps.length = 0 := by
  unfold Dv.sy
  split
  · split
    · exact ⟨Nat.le_of_eq (half_len _ _), rfl⟩
    · exact ⟨Nat.le_of_eq (Dv.put_len _ _), rfl⟩
  · exact ⟨Nat.zero_le _, rfl⟩
theorem syncDX_len (l : Jl) (d : Dk) : (syncDX l d).ss.length ≤ d.ss.length ∧ (syncDX l d).ps.length ≤ d.ps.length := by
  unfold syncDX
  split
  · split
    · exact ⟨Nat.le_refl _, Nat.le_refl _⟩
    · have h := sy_len (wrtX l d)
      refine ⟨Nat.le_trans h.1 ?_, by rw [h.2]; exact Nat.zero_le _⟩
      unfold wrtX
      split
      · exact Nat.le_refl _
      · exact Nat.zero_le _
  · exact ⟨Nat.zero_le _, Nat.zero_le _⟩
end Jn
theorem SyncX_is {v u : Value} {j r : Jl} {d y : Dk} {w : World} {e0 : Int} {n : Nat} {m s : Int} (hv : IsJ w v j) (hs : j.rs.length ≤ 5864062014634 ∧ ∀ k (h : k < j.rs.length), j.rs[k].length ≤ 140737488351232) (hu : IsD w u d) (he : Jn.syncEX j d = e0) (hj : Jn.syncJX j d = r) (hd : Jn.syncDX j d = y) (hn : r.rs.length = n) (hm : r.many = m) (hsy : r.syn = s) :
    Calls Try.prog 21 #[v, u] w fun e w' => ∃ A c A1 c1 A2 c2, e = .returned (.tuple #[.agg #[.slice A n c, .int .i64 m, .int .i64 s], .agg #[.slice A1 y.ss.length c1, .slice A2 y.ps.length c2, .int .i64 y.left, .bool y.st], .int .i64 e0]) ∧ IsJ w' (.agg #[.slice A n c, .int .i64 m, .int .i64 s]) r ∧
      IsD w' (.agg #[.slice A1 y.ss.length c1, .slice A2 y.ps.length c2, .int .i64 y.left, .bool y.st]) y ∧ Below w.heap.size w w' := by
  subst hn hm hsy
  have key : Calls Try.prog 21 #[v, u] w fun e w' => ∃ x z, e = .returned (.tuple #[x, z, .int .i64 e0]) ∧ IsJ w' x r ∧ IsD w' z y ∧ Below w.heap.size w w' := by
    by_cases h : Jn.OkJ j
    · obtain ⟨h1, h2, h3⟩ := Jn.eqX (d := d) h
      refine (Sync_walk hv (Jn.okj_sm h) hu).mono ?_
      rintro e w' ⟨x, z, rfl, hx, hz, hb, _⟩
      rw [h1, he]
      rw [h2, hj] at hx
      rw [h3, hd] at hz
      exact ⟨x, z, rfl, hx, hz, hb⟩
    · refine (Sync_wide hv hs h hu).mono ?_
      rintro e w' ⟨x, z, rfl, hx, hz, hb, _⟩
      rw [he]
      rw [hj] at hx
      rw [hd] at hz
      exact ⟨x, z, rfl, hx, hz, hb⟩
  refine key.mono ?_
  rintro e w' ⟨x, z, rfl, hx, hz, hb⟩
  obtain ⟨A, c, rfl, _⟩ := hx.open_
  obtain ⟨A1, c1, A2, c2, rfl, _, _⟩ := hz.open_
  exact ⟨A, c, A1, c1, A2, c2, rfl, hx, hz, hb⟩
theorem refSyncX_is {v u : Value} {j r : Jl} {d y : Dk} {w : World} {e0 : Int} {n : Nat} {m s : Int} (hv : IsJ w v j) (hs : j.rs.length ≤ 5864062014634 ∧ ∀ k (h : k < j.rs.length), j.rs[k].length ≤ 140737488351232) (hu : IsD w u d) (he : Jn.syncEX j d = e0) (hj : Jn.syncJX j d = r) (hd : Jn.syncDX j d = y) (hn : r.rs.length = n) (hm : r.many = m) (hsy : r.syn = s) :
    Calls Try.prog 22 #[v, u] w fun e w' => ∃ A c A1 c1 A2 c2, e = .returned (.tuple #[.agg #[.slice A n c, .int .i64 m, .int .i64 s], .agg #[.slice A1 y.ss.length c1, .slice A2 y.ps.length c2, .int .i64 y.left, .bool y.st], .int .i64 e0]) ∧ IsJ w' (.agg #[.slice A n c, .int .i64 m, .int .i64 s]) r ∧
      IsD w' (.agg #[.slice A1 y.ss.length c1, .slice A2 y.ps.length c2, .int .i64 y.left, .bool y.st]) y ∧ Below w.heap.size w w' := by
  subst hn hm hsy
  refine (refSync_walk hv hs hu).mono ?_
  rintro e w' ⟨x, z, rfl, hx, hz, hb⟩
  rw [he]
  rw [hj] at hx
  rw [hd] at hz
  obtain ⟨A, c, rfl, _⟩ := hx.open_
  obtain ⟨A1, c1, A2, c2, rfl, _, _⟩ := hz.open_
  exact ⟨A, c, A1, c1, A2, c2, rfl, hx, hz, hb⟩
end Go.Proofs.Ytkcnanclpkongaa
