/- Plain mathematics of layer 4: disks. No program in sight. Plain facts of the examples. Plain laws of layer 4 for DiskReads: what is read after writes and after a sync. -/
import Derived.Test.YtkcnanclpkongaaBase
namespace Go.Proofs.Ytkcnanclpkongaa
section
set_option linter.unusedVariables false
set_option linter.unusedSimpArgs false
set_option maxRecDepth 20000
namespace Dv
/-- a write that is no write to a disk of n sectors -/
def badW (n : Nat) (p : Wr) : Bool := decide (p.at_ < 0) || decide ((n : Int) ≤ p.at_) || (p.data.length != 128)
def badS (b : By) : Bool := b.length != 128
def anyB {α : Type} (f : α → Bool) (l : List α) : Bool := l.any f
/-- a valid disk -/
structure Ok (d : Dk) : Prop where
  n1 : 1 ≤ d.ss.length
  n2 : d.ss.length ≤ 4096
  p2 : d.ps.length ≤ 4096
  l1 : -1 ≤ d.left
  l2 : d.left ≤ 65536
  ps : d.ps.any (badW d.ss.length) = false
  ss : d.ss.any badS = false
instance (d : Dk) : Decidable (Ok d) :=
  decidable_of_iff (1 ≤ d.ss.length ∧ d.ss.length ≤ 4096 ∧ d.ps.length ≤ 4096 ∧ -1 ≤ d.left ∧ d.left ≤ 65536 ∧ d.ps.any (badW d.ss.length) = false ∧ d.ss.any badS = false)
    ⟨fun ⟨a, b, c, d, e, f, g⟩ => ⟨a, b, c, d, e, f, g⟩, fun ⟨a, b, c, d, e, f, g⟩ => ⟨a, b, c, d, e, f, g⟩⟩
def chk (d : Dk) : Int := if Ok d then 0 else 40
def Run (d : Dk) : Prop := Ok d ∧ d.st = false
instance (d : Dk) : Decidable (Run d) := by unfold Run; infer_instance
def Has (d : Dk) (a : Int) : Prop := 0 ≤ a ∧ a < (d.ss.length : Int)
instance (d : Dk) (a : Int) : Decidable (Has d a) := by unfold Has; infer_instance
theorem chk_eq (d : Dk) : (chk d == 0) = decide (Ok d) := by
  unfold chk; by_cases h : Ok d <;> simp [h]
theorem Ok.w {d : Dk} (h : Ok d) {k : Nat} (hk : k < d.ps.length) : 0 ≤ d.ps[k].at_ ∧ d.ps[k].at_ < (d.ss.length : Int) ∧ d.ps[k].data.length = 128 := by
  have h1 := h.ps
  rw [List.any_eq_false] at h1
  have := h1 _ (List.getElem_mem hk)
  unfold badW at this
  simp at this
  omega
theorem Ok.s {d : Dk} (h : Ok d) {k : Nat} (hk : k < d.ss.length) : d.ss[k].length = 128 := by
  have h1 := h.ss
  rw [List.any_eq_false] at h1
  have := h1 _ (List.getElem_mem hk)
  unfold badS at this
  simpa using this
theorem badW_iff (n : Nat) (p : Wr) : badW n p = false ↔ 0 ≤ p.at_ ∧ p.at_ < (n : Int) ∧ p.data.length = 128 := by
  unfold badW; simp; omega
theorem any_ps {n : Nat} {l : List Wr} : l.any (badW n) = false ↔ ∀ p ∈ l, 0 ≤ p.at_ ∧ p.at_ < (n : Int) ∧ p.data.length = 128 := by
  rw [List.any_eq_false]
  refine forall_congr' fun p => forall_congr' fun hp => ?_
  rw [← badW_iff]; simp
theorem any_ss {l : List By} : l.any badS = false ↔ ∀ b ∈ l, b.length = 128 := by
  rw [List.any_eq_false]
  refine forall_congr' fun p => forall_congr' fun hp => ?_
  unfold badS; simp

/-- the last write to a sector -/
def lastW (ps : List Wr) (a : Int) (b : By) : By := ps.foldl (fun b p => if p.at_ = a then p.data else b) b
theorem lastW_app (ps qs : List Wr) (a : Int) (b : By) : lastW (ps ++ qs) a b = lastW qs a (lastW ps a b) := by unfold lastW; rw [List.foldl_append]
theorem lastW_none {qs : List Wr} {a : Int} {b : By} (h : ∀ p ∈ qs, p.at_ ≠ a) : lastW qs a b = b := by
  induction qs generalizing b with
  | nil => rfl
  | cons q qs ih =>
    show lastW qs a (if q.at_ = a then q.data else b) = b
    rw [if_neg (h q (by simp))]
    exact ih (fun p hp => h p (by simp [hp]))
theorem lastW_take_succ {ps : List Wr} {k : Nat} (hk : k < ps.length) (a : Int) (b : By) : lastW (ps.take (k + 1)) a b = if ps[k].at_ = a then ps[k].data else lastW (ps.take k) a b := by
  rw [List.take_succ_eq_append_getElem hk, lastW_app]; rfl
/-- found from behind: nothing behind it -/
theorem lastW_at {ps : List Wr} {k : Nat} (hk : k < ps.length) {a : Int} {b : By} (h : ∀ j, k < j → (hj : j < ps.length) → ps[j].at_ ≠ a) (he : ps[k].at_ = a) : lastW ps a b = ps[k].data := by
  have h1 : lastW (ps.take (k + 1) ++ ps.drop (k + 1)) a b = ps[k].data := by
    rw [lastW_app, lastW_none (qs := ps.drop (k + 1)), lastW_take_succ hk, if_pos he]
    intro p hp
    obtain ⟨j, hj, rfl⟩ := List.getElem_of_mem hp
    simp only [List.length_drop] at hj
    rw [List.getElem_drop]
    exact h _ (by omega) (by omega)
  rwa [List.take_append_drop] at h1
theorem lastW_no {ps : List Wr} {a : Int} {b : By} (h : ∀ j, (hj : j < ps.length) → ps[j].at_ ≠ a) : lastW ps a b = b :=
  lastW_none fun p hp => by obtain ⟨j, hj, rfl⟩ := List.getElem_of_mem hp; exact h j hj
def rd (d : Dk) (a : Int) : By := if Run d ∧ Has d a then lastW d.ps a (d.ss.getD a.toNat []) else []
def rdE (d : Dk) (a : Int) : Int := if Run d ∧ Has d a then 0 else 40

def pad (b : By) : By := b ++ List.replicate (128 - b.length) 0
theorem pad_len {b : By} (h : b.length ≤ 128) : (pad b).length = 128 := by unfold pad; simp; omega
def wr (d : Dk) (a : Int) (b : By) : Dk := if Run d ∧ Has d a then if b.length ≤ 128 then if d.ps.length = 4096 then d0 else { d with ps := d.ps ++ [⟨a, pad b⟩] } else d0 else d0
def wrE (d : Dk) (a : Int) (b : By) : Int := if Run d ∧ Has d a then if b.length ≤ 128 then if d.ps.length = 4096 then 2 else 0 else 1 else 40

/-- the sectors after some writes -/
def put1 (ss : List By) (p : Wr) : List By := ss.set p.at_.toNat p.data
def put (ss : List By) (ps : List Wr) : List By := ps.foldl put1 ss
theorem put_len (ss : List By) (ps : List Wr) : (put ss ps).length = ss.length := by
  unfold put
  induction ps generalizing ss with
  | nil => rfl
  | cons p ps ih => rw [List.foldl_cons, ih]; simp [put1]
theorem put_succ {ps : List Wr} {k : Nat} (hk : k < ps.length) (ss : List By) : put ss (ps.take (k + 1)) = (put ss (ps.take k)).set ps[k].at_.toNat ps[k].data := by
  rw [List.take_succ_eq_append_getElem hk]; unfold put; rw [List.foldl_append]; rfl
theorem put_app (ss : List By) (ps qs : List Wr) : put ss (ps ++ qs) = put (put ss ps) qs := by unfold put; rw [List.foldl_append]
def torn (d b : By) : By := d.take 64 ++ b.drop 64
def halfS (d : Dk) (k : Nat) : List By := match d.ps[k]? with
  | some p => (put d.ss (d.ps.take k)).set p.at_.toNat (torn p.data ((put d.ss (d.ps.take k)).getD p.at_.toNat []))
  | none => d.ss
def Stops (d : Dk) : Prop := 0 ≤ d.left ∧ d.left < (d.ps.length : Int)
instance (d : Dk) : Decidable (Stops d) := by unfold Stops; infer_instance
def sy (d : Dk) : Dk := if Run d then if Stops d then ⟨halfS d d.left.toNat, [], 0, true⟩ else ⟨put d.ss d.ps, [], if 0 ≤ d.left then d.left - d.ps.length else d.left, false⟩ else d0
def syE (d : Dk) : Int := if Run d then if Stops d then 40 else 0 else 40
def stp (d : Dk) (l : Int) : Dk := if Run d then if 0 ≤ l ∧ l ≤ 65536 then { d with left := l } else d0 else d0
def stE (d : Dk) (l : Int) : Int := if Run d then if 0 ≤ l ∧ l ≤ 65536 then 0 else 1 else 40
def rs (d : Dk) : Dk := ⟨d.ss, [], -1, false⟩
def zs : By := List.replicate 128 0
def nw (n : Int) : Dk := if 1 ≤ n ∧ n ≤ 4096 then ⟨List.replicate n.toNat zs, [], -1, false⟩ else d0
def nwE (n : Int) : Int := if 1 ≤ n ∧ n ≤ 4096 then 0 else 1
def dbl (c : UInt8) : By := [c] ++ List.replicate 63 0 ++ [c] ++ List.replicate 63 0
end Dv
end
section
set_option linter.unusedVariables false
namespace Dv
def sA : Dk := nw 2
def sW : Dk := wr sA 1 [7]
def sS : Dk := stp sW 1
def sS2 : Dk := wr sS 0 (dbl 8)
def sX : Dk := sy sS2
set_option maxRecDepth 100000 in
theorem s_facts : nwE 0 = 1 ∧ nwE 2 = 0 ∧ wrE sA 1 [7] = 0 ∧ rdE sW 1 = 0 ∧ rdE sA 2 = 40 ∧ wrE sA 0 (List.replicate 129 0) = 1 ∧ stE sW 1 = 0 ∧ wrE sS 0 (dbl 8) = 0 ∧ syE sS2 = 40 ∧ sX.st = true := by
  decide +kernel
set_option maxRecDepth 100000 in
theorem s_facts2 : rdE (rs sX) 1 = 0 ∧ rdE (rs sX) 0 = 0 ∧ rdE (rs sW) 1 = 0 ∧ (rd sW 1).length = 128 ∧ (rd sW 1)[0]? = some 7 ∧ (rd (rs sX) 1).length = 128 ∧ (rd (rs sX) 1)[0]? = some 7 ∧ (rd (rs sX) 0).length = 128 ∧ (rd (rs sX) 0)[0]? = some 8 ∧ (rd (rs sX) 0)[64]? = some 0 ∧ (rd (rs sW) 1).length = 128 ∧ (rd (rs sW) 1)[0]? = some 0 ∧ chk d0 = 40 ∧ (rs d0).left = -1 := by
  decide +kernel
end Dv
end
section
set_option linter.unusedVariables false
set_option linter.unusedSimpArgs false
set_option maxRecDepth 20000
namespace Dv
theorem put128 {ss : List By} {ps : List Wr} (h : ∀ q ∈ ss, q.length = 128) (h2 : ∀ p ∈ ps, p.data.length = 128) : ∀ q ∈ put ss ps, q.length = 128 := by
  induction ps generalizing ss with
  | nil => exact h
  | cons p ps ih =>
    show ∀ q ∈ put (put1 ss p) ps, q.length = 128
    refine ih (fun q hq => ?_) (fun q hq => h2 q (by simp [hq]))
    unfold put1 at hq
    rcases List.mem_or_eq_of_mem_set hq with h3 | h3
    · exact h q h3
    · rw [h3]; exact h2 p (by simp)
theorem put_get {ss : List By} {ps : List Wr} {k : Nat} (hk : k < ss.length) (h : ∀ p ∈ ps, 0 ≤ p.at_) : (put ss ps).getD k [] = lastW ps k (ss.getD k []) := by
  induction ps generalizing ss with
  | nil => rfl
  | cons p ps ih =>
    show (put (put1 ss p) ps).getD k [] = lastW ps k (if p.at_ = (k : Int) then p.data else ss.getD k [])
    rw [ih (by unfold put1; rw [List.length_set]; exact hk) (fun q hq => h q (by simp [hq]))]
    congr 1
    unfold put1
    have h0 := h p (by simp)
    by_cases e : p.at_ = (k : Int)
    · rw [if_pos e]
      have : p.at_.toNat = k := by omega
      rw [this]
      simp [List.getD_eq_getElem?_getD, hk]
    · rw [if_neg e]
      have : p.at_.toNat ≠ k := by omega
      simp [List.getD_eq_getElem?_getD, List.getElem?_set_ne this]
/-- a write that is accepted -/
theorem wr_ok {d : Dk} {a : Int} {b : By} (h : wrE d a b = 0) : Run d ∧ Has d a ∧ b.length ≤ 128 ∧ wr d a b = { d with ps := d.ps ++ [⟨a, pad b⟩] } ∧ Run (wr d a b) := by
  unfold wrE at h
  split at h
  · rename_i hr
    split at h
    · rename_i hb
      split at h
      · cases h
      · rename_i hp
        have e : wr d a b = { d with ps := d.ps ++ [⟨a, pad b⟩] } := by unfold wr; rw [if_pos hr, if_pos hb, if_neg hp]
        refine ⟨hr.1, hr.2, hb, e, ?_⟩
        rw [e]
        obtain ⟨⟨o1, o2, o3, o4, o5, o6, o7⟩, hst⟩ := hr.1
        refine ⟨⟨o1, o2, ?_, o4, o5, ?_, o7⟩, hst⟩
        · simp only [List.length_append, List.length_cons, List.length_nil]; omega
        · rw [List.any_append, o6]
          simp only [List.any_cons, List.any_nil, Bool.or_false, Bool.false_or]
          rw [badW_iff]
          exact ⟨hr.2.1, hr.2.2, pad_len hb⟩
    · cases h
  · cases h
theorem has_wr {d : Dk} {a : Int} {b : By} (h : wrE d a b = 0) (o : Int) : Has (wr d a b) o ↔ Has d o := by
  rw [(wr_ok h).2.2.2.1]; rfl
theorem rdE_wr {d : Dk} {a : Int} {b : By} (h : wrE d a b = 0) (o : Int) : rdE (wr d a b) o = rdE d o := by
  have h1 := (wr_ok h).1
  have h2 := (wr_ok h).2.2.2.2
  unfold rdE
  by_cases ho : Has d o
  · rw [if_pos ⟨h2, (has_wr h o).2 ho⟩, if_pos ⟨h1, ho⟩]
  · rw [if_neg (fun q => ho ((has_wr h o).1 q.2)), if_neg (fun q => ho q.2)]
theorem rd_mine {d : Dk} {a : Int} {b : By} (h : wrE d a b = 0) : rdE (wr d a b) a = 0 ∧ rd (wr d a b) a = pad b := by
  obtain ⟨h1, h2, h3, h4, h5⟩ := wr_ok h
  have hh : Run (wr d a b) ∧ Has (wr d a b) a := ⟨h5, (has_wr h a).2 h2⟩
  refine ⟨if_pos hh, ?_⟩
  unfold rd
  rw [if_pos hh, h4]
  show lastW (d.ps ++ [⟨a, pad b⟩]) a _ = pad b
  rw [lastW_app]
  show (if a = a then pad b else _) = pad b
  rw [if_pos rfl]
theorem rd_other {d : Dk} {a o : Int} {b : By} (h : wrE d a b = 0) (hne : a ≠ o) : rd (wr d a b) o = rd d o := by
  obtain ⟨h1, h2, h3, h4, h5⟩ := wr_ok h
  unfold rd
  by_cases ho : Has d o
  · rw [if_pos ⟨h5, (has_wr h o).2 ho⟩, if_pos ⟨h1, ho⟩, h4]
    show lastW (d.ps ++ [⟨a, pad b⟩]) o _ = _
    rw [lastW_app]
    show (if a = o then pad b else _) = _
    rw [if_neg hne]
  · rw [if_neg (fun q => ho ((has_wr h o).1 q.2)), if_neg (fun q => ho q.2)]
theorem pad_take (b : By) : (pad b).take b.length = b := by unfold pad; simp
/-- a write's errors, once another write has been accepted and the sector is there -/
theorem wrE_after {d : Dk} {a o : Int} {b c : By} (h : wrE d a b = 0) (ho : rdE d o = 0) (hc : c.length ≤ 128) : wrE (wr d a b) o c = 0 ∨ wrE (wr d a b) o c = 2 := by
  have h5 := (wr_ok h).2.2.2.2
  have ho' : Has d o := by
    unfold rdE at ho
    split at ho
    · rename_i q; exact q.2
    · cases ho
  unfold wrE
  rw [if_pos ⟨h5, (has_wr h o).2 ho'⟩, if_pos hc]
  split
  · exact .inr rfl
  · exact .inl rfl
/-- a sync of a disk that runs: it stops, or each sector is read as before -/
theorem sy_run {d : Dk} (h : Run d) : (syE d = 40 ∧ (sy d).st = true) ∨ (syE d = 0 ∧ (sy d).ps = [] ∧ Run (sy d) ∧ ∀ k : Nat, k < d.ss.length → rdE d k = 0 ∧ rdE (sy d) k = 0 ∧ rd (sy d) k = rd d k) := by
  by_cases hs : Stops d
  · left
    refine ⟨by unfold syE; rw [if_pos h, if_pos hs], by unfold sy; rw [if_pos h, if_pos hs]⟩
  · right
    have e : sy d = ⟨put d.ss d.ps, [], if 0 ≤ d.left then d.left - d.ps.length else d.left, false⟩ := by unfold sy; rw [if_pos h, if_neg hs]
    obtain ⟨⟨o1, o2, o3, o4, o5, o6, o7⟩, hst⟩ := id h
    have hps := any_ps.1 o6
    have hR : Run (sy d) := by
      rw [e]
      refine ⟨⟨?_, ?_, ?_, ?_, ?_, rfl, ?_⟩, rfl⟩
      · simp only [put_len]; exact o1
      · simp only [put_len]; exact o2
      · simp
      · simp only
        split
        · rename_i q
          have : ¬ d.left < (d.ps.length : Int) := fun q2 => hs ⟨q, q2⟩
          omega
        · exact o4
      · simp only
        split
        · omega
        · exact o5
      · rw [any_ss]
        exact put128 (fun q hq => any_ss.1 o7 q hq) (fun p hp => (hps p hp).2.2)
    refine ⟨by unfold syE; rw [if_pos h, if_neg hs], by rw [e], hR, fun k hk => ?_⟩
    have hk1 : Has d k := ⟨by omega, by omega⟩
    have hk2 : Has (sy d) k := by rw [e]; exact ⟨by omega, by simp only [put_len]; omega⟩
    refine ⟨if_pos ⟨h, hk1⟩, if_pos ⟨hR, hk2⟩, ?_⟩
    unfold rd
    rw [if_pos ⟨hR, hk2⟩, if_pos ⟨h, hk1⟩, e]
    show lastW [] k ((put d.ss d.ps).getD (k : Int).toNat []) = _
    simp only [Int.toNat_natCast]
    rw [← put_get hk (fun p hp => (hps p hp).1)]
    rfl
theorem chk_run {d : Dk} (h : Run d) : chk d = 0 := if_pos h.1
end Dv
end
end Go.Proofs.Ytkcnanclpkongaa
