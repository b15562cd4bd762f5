/- Plain mathematics of layer 1: values, their encodings. No program in sight. -/
namespace Go.Proofs.Ytnnddmhimnekaaa
set_option linter.unusedVariables false
set_option linter.unusedSimpArgs false
namespace Cd

inductive Vl where
  | mk (k n : Int) (s : ByteArray) (l : List Vl)

def Vl.kind : Vl → Int | .mk k _ _ _ => k
def Vl.num : Vl → Int | .mk _ n _ _ => n
def Vl.str : Vl → ByteArray | .mk _ _ s _ => s
def Vl.elems : Vl → List Vl | .mk _ _ _ l => l

mutual
theorem Vl.ind {P : Vl → Prop} (h : ∀ k n s l, (∀ x ∈ l, P x) → P (.mk k n s l)) : ∀ v, P v
  | .mk k n s l => h k n s l (Vl.indL h l)
theorem Vl.indL {P : Vl → Prop} (h : ∀ k n s l, (∀ x ∈ l, P x) → P (.mk k n s l)) : ∀ (l : List Vl), ∀ x ∈ l, P x
  | [], x, hx => by simp at hx
  | y :: r, x, hx => by
    rcases List.mem_cons.1 hx with e | hx
    · rw [e]; exact Vl.ind h y
    · exact Vl.indL h r x hx
end

mutual
def formed : Vl → Bool
  | .mk k n s l => if k = 1 then decide (s.size = 0) && l.isEmpty else if k = 2 then decide (n = 0) && l.isEmpty else if k = 3 then decide (n = 0) && decide (s.size = 0) && formedL l else false
def formedL : List Vl → Bool
  | [] => true
  | x :: r => formed x && formedL r
end
mutual
def depth : Vl → Nat
  | .mk k n s l => if k = 3 then depthL l + 1 else 0
def depthL : List Vl → Nat
  | [] => 0
  | x :: r => max (depth x) (depthL r)
end
def check (v : Vl) : Int := if formed v then (if 16 < depth v then 2 else 0) else 1

def digits (u : Nat) : List UInt8 := if u < 128 then [UInt8.ofNat u] else UInt8.ofNat (u % 128 + 128) :: digits (u / 128)
termination_by u
decreasing_by omega
def uns (n : Int) : Nat := if 0 ≤ n then (2 * n).toNat else (-2 * n - 1).toNat

mutual
def enc : Vl → List UInt8
  | .mk k n s l => if k = 1 then 1 :: digits (uns n) else if k = 2 then 2 :: (digits s.size ++ s.data.toList) else 3 :: (digits l.length ++ encL l)
def encL : List Vl → List UInt8
  | [] => []
  | x :: r => enc x ++ encL r
end

mutual
def same : Vl → Vl → Bool
  | .mk k n s l, .mk k' n' s' l' => decide (k = k') && decide (n = n') && decide (s = s') && sameL l l'
def sameL : List Vl → List Vl → Bool
  | [], [] => true
  | x :: r, y :: t => same x y && sameL r t
  | [], _ :: _ => false
  | _ :: _, [] => false
end

theorem formedL_all (l : List Vl) : formedL l = l.all formed := by
  induction l with
  | nil => rfl
  | cons x r ih => rw [formedL, ih, List.all_cons]
theorem formedL_take (l : List Vl) (k : Nat) (h : k < l.length) : formedL (l.take (k + 1)) = (formedL (l.take k) && formed l[k]) := by
  rw [formedL_all, formedL_all, List.take_succ_eq_append_getElem h, List.all_append]; simp
theorem formedL_no (l : List Vl) (k : Nat) (h : k < l.length) (hf : formed l[k] = false) : formedL l = false := by
  rw [formedL_all, List.all_eq_false]
  exact ⟨l[k], List.getElem_mem h, by simp [hf]⟩
theorem depthL_append (a b : List Vl) : depthL (a ++ b) = max (depthL a) (depthL b) := by
  induction a with
  | nil => simp [depthL]
  | cons x a ih => simp only [List.cons_append, depthL, ih]; omega
theorem depthL_take (l : List Vl) (k : Nat) (h : k < l.length) : depthL (l.take (k + 1)) = max (depthL (l.take k)) (depth l[k]) := by
  rw [List.take_succ_eq_append_getElem h, depthL_append]; simp [depthL]
theorem encL_append (a b : List Vl) : encL (a ++ b) = encL a ++ encL b := by
  induction a with
  | nil => rfl
  | cons x a ih => simp only [List.cons_append, encL, ih, List.append_assoc]
theorem encL_take (l : List Vl) (k : Nat) (h : k < l.length) : encL (l.take (k + 1)) = encL (l.take k) ++ enc l[k] := by
  rw [List.take_succ_eq_append_getElem h, encL_append]; simp [encL]

theorem sameL_iff {l l' : List Vl} (ih : ∀ x ∈ l, ∀ y, same x y = true ↔ x = y) : sameL l l' = true ↔ l = l' := by
  induction l generalizing l' with
  | nil => cases l' <;> simp [sameL]
  | cons x r ihr =>
    cases l' with
    | nil => simp [sameL]
    | cons y t =>
      rw [sameL, Bool.and_eq_true, ih x (by simp), ihr (fun z hz => ih z (by simp [hz]))]
      simp
theorem same_iff (a : Vl) : ∀ b, same a b = true ↔ a = b := by
  induction a using Vl.ind with
  | h k n s l ih =>
    intro b
    cases b with
    | mk k' n' s' l' =>
      rw [same, Bool.and_eq_true, Bool.and_eq_true, Bool.and_eq_true, sameL_iff ih]
      simp [and_assoc]
theorem same_refl (a : Vl) : same a a = true := (same_iff a a).2 rfl
end Cd
end Go.Proofs.Ytnnddmhimnekaaa
