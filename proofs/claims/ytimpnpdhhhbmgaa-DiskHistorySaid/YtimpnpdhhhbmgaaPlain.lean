/- Plain mathematics of layer 4: disks. No program in sight. -/
import Derived.Test.YtimpnpdhhhbmgaaBase
namespace Go.Proofs.Ytimpnpdhhhbmgaa
set_option linter.unusedVariables false
set_option linter.unusedSimpArgs false
namespace Dv
/-- a write that is no write to a disk of n sectors -/
def badW (n : Nat) (p : Wr) : Bool := decide (p.at_ < 0) || decide ((n : Int) ≤ p.at_) || (p.data.length != 128)
def badS (b : By) : Bool := b.length != 128
def anyB {α : Type} (f : α → Bool) (l : List α) : Bool := l.any f
/-- a valid disk -/
structure Ok (d : Dk) : Prop where
  n1 : 1 ≤ d.ss.length
  n2 : d.ss.length ≤ 4096
  p2 : d.ps.length ≤ 4096
  l1 : -1 ≤ d.left
  l2 : d.left ≤ 65536
  ps : d.ps.any (badW d.ss.length) = false
  ss : d.ss.any badS = false
instance (d : Dk) : Decidable (Ok d) :=
  decidable_of_iff (1 ≤ d.ss.length ∧ d.ss.length ≤ 4096 ∧ d.ps.length ≤ 4096 ∧ -1 ≤ d.left ∧ d.left ≤ 65536 ∧ d.ps.any (badW d.ss.length) = false ∧ d.ss.any badS = false)
    ⟨fun ⟨a, b, c, d, e, f, g⟩ => ⟨a, b, c, d, e, f, g⟩, fun ⟨a, b, c, d, e, f, g⟩ => ⟨a, b, c, d, e, f, g⟩⟩
def chk (d : Dk) : Int := if Ok d then 0 else 40
def Run (d : Dk) : Prop := Ok d ∧ d.st = false
instance (d : Dk) : Decidable (Run d) := by unfold Run; infer_instance
def Has (d : Dk) (a : Int) : Prop := 0 ≤ a ∧ a < (d.ss.length : Int)
instance (d : Dk) (a : Int) : Decidable (Has d a) := by unfold Has; infer_instance
theorem chk_eq (d : Dk) : (chk d == 0) = decide (Ok d) := by
  unfold chk; by_cases h : Ok d <;> simp [h]
theorem Ok.w {d : Dk} (h : Ok d) {k : Nat} (hk : k < d.ps.length) : 0 ≤ d.ps[k].at_ ∧ d.ps[k].at_ < (d.ss.length : Int) ∧ d.ps[k].data.length = 128 := by
  have h1 := h.ps
  rw [List.any_eq_false] at h1
  have := h1 _ (List.getElem_mem hk)
  unfold badW at this
  simp at this
  omega
theorem Ok.s {d : Dk} (h : Ok d) {k : Nat} (hk : k < d.ss.length) : d.ss[k].length = 128 := by
  have h1 := h.ss
  rw [List.any_eq_false] at h1
  have := h1 _ (List.getElem_mem hk)
  unfold badS at this
  simpa using this
theorem badW_iff (n : Nat) (p : Wr) : badW n p = false ↔ 0 ≤ p.at_ ∧ p.at_ < (n : Int) ∧ p.data.length = 128 := by
  unfold badW; simp; omega
theorem any_ps {n : Nat} {l : List Wr} : l.any (badW n) = false ↔ ∀ p ∈ l, 0 ≤ p.at_ ∧ p.at_ < (n : Int) ∧ p.data.length = 128 := by
  rw [List.any_eq_false]
  refine forall_congr' fun p => forall_congr' fun hp => ?_
  rw [← badW_iff]; simp
theorem any_ss {l : List By} : l.any badS = false ↔ ∀ b ∈ l, b.length = 128 := by
  rw [List.any_eq_false]
  refine forall_congr' fun p => forall_congr' fun hp => ?_
  unfold badS; simp

/-- the last write to a sector -/
def lastW (ps : List Wr) (a : Int) (b : By) : By := ps.foldl (fun b p => if p.at_ = a then p.data else b) b
theorem lastW_app (ps qs : List Wr) (a : Int) (b : By) : lastW (ps ++ qs) a b = lastW qs a (lastW ps a b) := by unfold lastW; rw [List.foldl_append]
theorem lastW_none {qs : List Wr} {a : Int} {b : By} (h : ∀ p ∈ qs, p.at_ ≠ a) : lastW qs a b = b := by
  induction qs generalizing b with
  | nil => rfl
  | cons q qs ih =>
    show lastW qs a (if q.at_ = a then q.data else b) = b
    rw [if_neg (h q (by simp))]
    exact ih (fun p hp => h p (by simp [hp]))
theorem lastW_take_succ {ps : List Wr} {k : Nat} (hk : k < ps.length) (a : Int) (b : By) : lastW (ps.take (k + 1)) a b = if ps[k].at_ = a then ps[k].data else lastW (ps.take k) a b := by
  rw [List.take_succ_eq_append_getElem hk, lastW_app]; rfl
/-- found from behind: nothing behind it -/
theorem lastW_at {ps : List Wr} {k : Nat} (hk : k < ps.length) {a : Int} {b : By} (h : ∀ j, k < j → (hj : j < ps.length) → ps[j].at_ ≠ a) (he : ps[k].at_ = a) : lastW ps a b = ps[k].data := by
  have h1 : lastW (ps.take (k + 1) ++ ps.drop (k + 1)) a b = ps[k].data := by
    rw [lastW_app, lastW_none (qs := ps.drop (k + 1)), lastW_take_succ hk, if_pos he]
    intro p hp
    obtain ⟨j, hj, rfl⟩ := List.getElem_of_mem hp
    simp only [List.length_drop] at hj
    rw [List.getElem_drop]
    exact h _ (by omega) (by omega)
  rwa [List.take_append_drop] at h1
theorem lastW_no {ps : List Wr} {a : Int} {b : By} (h : ∀ j, (hj : j < ps.length) → ps[j].at_ ≠ a) : lastW ps a b = b :=
  lastW_none fun p hp => by obtain ⟨j, hj, rfl⟩ := List.getElem_of_mem hp; exact h j hj
def rd (d : Dk) (a : Int) : By := if Run d ∧ Has d a then lastW d.ps a (d.ss.getD a.toNat []) else []
def rdE (d : Dk) (a : Int) : Int := if Run d ∧ Has d a then 0 else 40

def pad (b : By) : By := b ++ List.replicate (128 - b.length) 0
theorem pad_len {b : By} (h : b.length ≤ 128) : (pad b).length = 128 := by unfold pad; simp; omega
def wr (d : Dk) (a : Int) (b : By) : Dk := if Run d ∧ Has d a then if b.length ≤ 128 then if d.ps.length = 4096 then d0 else { d with ps := d.ps ++ [⟨a, pad b⟩] } else d0 else d0
def wrE (d : Dk) (a : Int) (b : By) : Int := if Run d ∧ Has d a then if b.length ≤ 128 then if d.ps.length = 4096 then 2 else 0 else 1 else 40

/-- the sectors after some writes -/
def put1 (ss : List By) (p : Wr) : List By := ss.set p.at_.toNat p.data
def put (ss : List By) (ps : List Wr) : List By := ps.foldl put1 ss
theorem put_len (ss : List By) (ps : List Wr) : (put ss ps).length = ss.length := by
  unfold put
  induction ps generalizing ss with
  | nil => rfl
  | cons p ps ih => rw [List.foldl_cons, ih]; simp [put1]
theorem put_succ {ps : List Wr} {k : Nat} (hk : k < ps.length) (ss : List By) : put ss (ps.take (k + 1)) = (put ss (ps.take k)).set ps[k].at_.toNat ps[k].data := by
  rw [List.take_succ_eq_append_getElem hk]; unfold put; rw [List.foldl_append]; rfl
theorem put_app (ss : List By) (ps qs : List Wr) : put ss (ps ++ qs) = put (put ss ps) qs := by unfold put; rw [List.foldl_append]
def torn (d b : By) : By := d.take 64 ++ b.drop 64
def halfS (d : Dk) (k : Nat) : List By := match d.ps[k]? with
  | some p => (put d.ss (d.ps.take k)).set p.at_.toNat (torn p.data ((put d.ss (d.ps.take k)).getD p.at_.toNat []))
  | none => d.ss
def Stops (d : Dk) : Prop := 0 ≤ d.left ∧ d.left < (d.ps.length : Int)
instance (d : Dk) : Decidable (Stops d) := by unfold Stops; infer_instance
def sy (d : Dk) : Dk := if Run d then if Stops d then ⟨halfS d d.left.toNat, [], 0, true⟩ else ⟨put d.ss d.ps, [], if 0 ≤ d.left then d.left - d.ps.length else d.left, false⟩ else d0
def syE (d : Dk) : Int := if Run d then if Stops d then 40 else 0 else 40
def stp (d : Dk) (l : Int) : Dk := if Run d then if 0 ≤ l ∧ l ≤ 65536 then { d with left := l } else d0 else d0
def stE (d : Dk) (l : Int) : Int := if Run d then if 0 ≤ l ∧ l ≤ 65536 then 0 else 1 else 40
def rs (d : Dk) : Dk := ⟨d.ss, [], -1, false⟩
def zs : By := List.replicate 128 0
def nw (n : Int) : Dk := if 1 ≤ n ∧ n ≤ 4096 then ⟨List.replicate n.toNat zs, [], -1, false⟩ else d0
def nwE (n : Int) : Int := if 1 ≤ n ∧ n ≤ 4096 then 0 else 1
def dbl (c : UInt8) : By := [c] ++ List.replicate 63 0 ++ [c] ++ List.replicate 63 0
end Dv
end Go.Proofs.Ytimpnpdhhhbmgaa
