/- Plain laws of layer 4 for DiskReads: what is read after writes and after a sync. -/
import Derived.Test.YtimpnpdhhhbmgaaPlain
namespace Go.Proofs.Ytimpnpdhhhbmgaa
set_option linter.unusedVariables false
set_option linter.unusedSimpArgs false
namespace Dv
theorem put128 {ss : List By} {ps : List Wr} (h : ∀ q ∈ ss, q.length = 128) (h2 : ∀ p ∈ ps, p.data.length = 128) : ∀ q ∈ put ss ps, q.length = 128 := by
  induction ps generalizing ss with
  | nil => exact h
  | cons p ps ih =>
    show ∀ q ∈ put (put1 ss p) ps, q.length = 128
    refine ih (fun q hq => ?_) (fun q hq => h2 q (by simp [hq]))
    unfold put1 at hq
    rcases List.mem_or_eq_of_mem_set hq with h3 | h3
    · exact h q h3
    · rw [h3]; exact h2 p (by simp)
theorem put_get {ss : List By} {ps : List Wr} {k : Nat} (hk : k < ss.length) (h : ∀ p ∈ ps, 0 ≤ p.at_) : (put ss ps).getD k [] = lastW ps k (ss.getD k []) := by
  induction ps generalizing ss with
  | nil => rfl
  | cons p ps ih =>
    show (put (put1 ss p) ps).getD k [] = lastW ps k (if p.at_ = (k : Int) then p.data else ss.getD k [])
    rw [ih (by unfold put1; rw [List.length_set]; exact hk) (fun q hq => h q (by simp [hq]))]
    congr 1
    unfold put1
    have h0 := h p (by simp)
    by_cases e : p.at_ = (k : Int)
    · rw [if_pos e]
      have : p.at_.toNat = k := by omega
      rw [this]
      simp [List.getD_eq_getElem?_getD, hk]
    · rw [if_neg e]
      have : p.at_.toNat ≠ k := by omega
      simp [List.getD_eq_getElem?_getD, List.getElem?_set_ne this]
/-- a write that is accepted -/
theorem wr_ok {d : Dk} {a : Int} {b : By} (h : wrE d a b = 0) : Run d ∧ Has d a ∧ b.length ≤ 128 ∧ wr d a b = { d with ps := d.ps ++ [⟨a, pad b⟩] } ∧ Run (wr d a b) := by
  unfold wrE at h
  split at h
  · rename_i hr
    split at h
    · rename_i hb
      split at h
      · cases h
      · rename_i hp
        have e : wr d a b = { d with ps := d.ps ++ [⟨a, pad b⟩] } := by unfold wr; rw [if_pos hr, if_pos hb, if_neg hp]
        refine ⟨hr.1, hr.2, hb, e, ?_⟩
        rw [e]
        obtain ⟨⟨o1, o2, o3, o4, o5, o6, o7⟩, hst⟩ := hr.1
        refine ⟨⟨o1, o2, ?_, o4, o5, ?_, o7⟩, hst⟩
        · simp only [List.length_append, List.length_cons, List.length_nil]; omega
        · rw [List.any_append, o6]
          simp only [List.any_cons, List.any_nil, Bool.or_false, Bool.false_or]
          rw [badW_iff]
          exact ⟨hr.2.1, hr.2.2, pad_len hb⟩
    · cases h
  · cases h
theorem has_wr {d : Dk} {a : Int} {b : By} (h : wrE d a b = 0) (o : Int) : Has (wr d a b) o ↔ Has d o := by
  rw [(wr_ok h).2.2.2.1]; rfl
theorem rdE_wr {d : Dk} {a : Int} {b : By} (h : wrE d a b = 0) (o : Int) : rdE (wr d a b) o = rdE d o := by
  have h1 := (wr_ok h).1
  have h2 := (wr_ok h).2.2.2.2
  unfold rdE
  by_cases ho : Has d o
  · rw [if_pos ⟨h2, (has_wr h o).2 ho⟩, if_pos ⟨h1, ho⟩]
  · rw [if_neg (fun q => ho ((has_wr h o).1 q.2)), if_neg (fun q => ho q.2)]
theorem rd_mine {d : Dk} {a : Int} {b : By} (h : wrE d a b = 0) : rdE (wr d a b) a = 0 ∧ rd (wr d a b) a = pad b := by
  obtain ⟨h1, h2, h3, h4, h5⟩ := wr_ok h
  have hh : Run (wr d a b) ∧ Has (wr d a b) a := ⟨h5, (has_wr h a).2 h2⟩
  refine ⟨if_pos hh, ?_⟩
  unfold rd
  rw [if_pos hh, h4]
  show lastW (d.ps ++ [⟨a, pad b⟩]) a _ = pad b
  rw [lastW_app]
  show (if a = a then pad b else _) = pad b
  rw [if_pos rfl]
theorem rd_other {d : Dk} {a o : Int} {b : By} (h : wrE d a b = 0) (hne : a ≠ o) : rd (wr d a b) o = rd d o := by
  obtain ⟨h1, h2, h3, h4, h5⟩ := wr_ok h
  unfold rd
  by_cases ho : Has d o
  · rw [if_pos ⟨h5, (has_wr h o).2 ho⟩, if_pos ⟨h1, ho⟩, h4]
    show lastW (d.ps ++ [⟨a, pad b⟩]) o _ = _
    rw [lastW_app]
    show (if a = o then pad b else _) = _
    rw [if_neg hne]
  · rw [if_neg (fun q => ho ((has_wr h o).1 q.2)), if_neg (fun q => ho q.2)]
theorem pad_take (b : By) : (pad b).take b.length = b := by unfold pad; simp
/-- a write's errors, once another write has been accepted and the sector is there -/
theorem wrE_after {d : Dk} {a o : Int} {b c : By} (h : wrE d a b = 0) (ho : rdE d o = 0) (hc : c.length ≤ 128) : wrE (wr d a b) o c = 0 ∨ wrE (wr d a b) o c = 2 := by
  have h5 := (wr_ok h).2.2.2.2
  have ho' : Has d o := by
    unfold rdE at ho
    split at ho
    · rename_i q; exact q.2
    · cases ho
  unfold wrE
  rw [if_pos ⟨h5, (has_wr h o).2 ho'⟩, if_pos hc]
  split
  · exact .inr rfl
  · exact .inl rfl
/-- a sync of a disk that runs: it stops, or each sector is read as before -/
theorem sy_run {d : Dk} (h : Run d) : (syE d = 40 ∧ (sy d).st = true) ∨ (syE d = 0 ∧ (sy d).ps = [] ∧ Run (sy d) ∧ ∀ k : Nat, k < d.ss.length → rdE d k = 0 ∧ rdE (sy d) k = 0 ∧ rd (sy d) k = rd d k) := by
  by_cases hs : Stops d
  · left
    refine ⟨by unfold syE; rw [if_pos h, if_pos hs], by unfold sy; rw [if_pos h, if_pos hs]⟩
  · right
    have e : sy d = ⟨put d.ss d.ps, [], if 0 ≤ d.left then d.left - d.ps.length else d.left, false⟩ := by unfold sy; rw [if_pos h, if_neg hs]
    obtain ⟨⟨o1, o2, o3, o4, o5, o6, o7⟩, hst⟩ := id h
    have hps := any_ps.1 o6
    have hR : Run (sy d) := by
      rw [e]
      refine ⟨⟨?_, ?_, ?_, ?_, ?_, rfl, ?_⟩, rfl⟩
      · simp only [put_len]; exact o1
      · simp only [put_len]; exact o2
      · simp
      · simp only
        split
        · rename_i q
          have : ¬ d.left < (d.ps.length : Int) := fun q2 => hs ⟨q, q2⟩
          omega
        · exact o4
      · simp only
        split
        · omega
        · exact o5
      · rw [any_ss]
        exact put128 (fun q hq => any_ss.1 o7 q hq) (fun p hp => (hps p hp).2.2)
    refine ⟨by unfold syE; rw [if_pos h, if_neg hs], by rw [e], hR, fun k hk => ?_⟩
    have hk1 : Has d k := ⟨by omega, by omega⟩
    have hk2 : Has (sy d) k := by rw [e]; exact ⟨by omega, by simp only [put_len]; omega⟩
    refine ⟨if_pos ⟨h, hk1⟩, if_pos ⟨hR, hk2⟩, ?_⟩
    unfold rd
    rw [if_pos ⟨hR, hk2⟩, if_pos ⟨h, hk1⟩, e]
    show lastW [] k ((put d.ss d.ps).getD (k : Int).toNat []) = _
    simp only [Int.toNat_natCast]
    rw [← put_get hk (fun p hp => (hps p hp).1)]
    rfl
theorem chk_run {d : Dk} (h : Run d) : chk d = 0 := if_pos h.1
end Dv
end Go.Proofs.Ytimpnpdhhhbmgaa
