/- Plain mathematics of layer 1: values with few parts. -/
import Derived.Test.YtnnddmhimnekaaaPlain2
namespace Go.Proofs.Ytnnddmhimnekaaa
set_option linter.unusedVariables false
set_option linter.unusedSimpArgs false
namespace Cd
mutual
def raw : Vl → Prop
  | .mk k n s l => l.length ≤ 9223372036854775807 ∧ s.size ≤ 9223372036854775807 ∧ (-9223372036854775808 ≤ n ∧ n ≤ 9223372036854775807) ∧ rawL l
def rawL : List Vl → Prop
  | [] => True
  | x :: r => raw x ∧ rawL r
end
theorem rawL_iff (l : List Vl) : rawL l ↔ ∀ x ∈ l, raw x := by
  induction l with
  | nil => simp [rawL]
  | cons x r ih => rw [rawL, ih]; simp
theorem raw_mk {k n : Int} {s : ByteArray} {l : List Vl} : raw (.mk k n s l) ↔ l.length ≤ 9223372036854775807 ∧ s.size ≤ 9223372036854775807 ∧ (-9223372036854775808 ≤ n ∧ n ≤ 9223372036854775807) ∧ ∀ x ∈ l, raw x := by
  rw [raw, rawL_iff]
/-- the parts counted, within so many lists -/
def cnt : Nat → Vl → Nat
  | 0, _ => 1000
  | d + 1, .mk k n s l => if 150 < l.length then 1000 else l.foldl (fun m x => if m ≤ 1000 then m + cnt d x else m) (1 + s.size / 200)
def cntL (d m : Nat) (l : List Vl) : Nat := l.foldl (fun m x => if m ≤ 1000 then m + cnt d x else m) m
theorem cnt_0 (x : Vl) : cnt 0 x = 1000 := by rw [cnt]
theorem cnt_s (d : Nat) (k n : Int) (s : ByteArray) (l : List Vl) : cnt (d + 1) (.mk k n s l) = if 150 < l.length then 1000 else cntL d (1 + s.size / 200) l := by rw [cnt]; rfl
theorem cntL_snoc (d m : Nat) (l : List Vl) (x : Vl) : cntL d m (l ++ [x]) = if cntL d m l ≤ 1000 then cntL d m l + cnt d x else cntL d m l := by
  rw [cntL, List.foldl_append]; rfl
theorem cntL_take (d m : Nat) (l : List Vl) (k : Nat) (h : k < l.length) : cntL d m (l.take (k + 1)) = if cntL d m (l.take k) ≤ 1000 then cntL d m (l.take k) + cnt d l[k] else cntL d m (l.take k) := by
  rw [List.take_succ_eq_append_getElem h, cntL_snoc]
theorem cntL_stop (d m : Nat) (l : List Vl) (h : 1000 < m) : cntL d m l = m := by
  induction l with
  | nil => rfl
  | cons x r ih => rw [cntL, List.foldl_cons, if_neg (by omega)]; exact ih
theorem cntL_stop_take (d m : Nat) (l : List Vl) (k : Nat) (h : 1000 < cntL d m (l.take k)) : cntL d m l = cntL d m (l.take k) := by
  conv => lhs; rw [← List.take_append_drop k l]
  rw [cntL, List.foldl_append]
  exact cntL_stop d _ _ h
theorem cntL_bd (d B : Nat) (hB : ∀ x, raw x → cnt d x ≤ B) (m : Nat) (l : List Vl) (hr : ∀ x ∈ l, raw x) : cntL d m l ≤ max m (1000 + B) := by
  induction l generalizing m with
  | nil => simp [cntL]; omega
  | cons x r ih =>
    rw [cntL, List.foldl_cons]
    have h1 := hB x (hr x (by simp))
    by_cases h : m ≤ 1000
    · rw [if_pos h]
      have := ih (m + cnt d x) (fun y hy => hr y (by simp [hy]))
      rw [cntL] at this
      omega
    · rw [if_neg h]
      have := ih m (fun y hy => hr y (by simp [hy]))
      rw [cntL] at this
      omega
theorem cnt_bd (d : Nat) : ∀ x, raw x → cnt d x ≤ 46116860184273881 + 1000 * d := by
  induction d with
  | zero => intro x _; rw [cnt_0]; omega
  | succ d ih =>
    intro x hx
    cases x with
    | mk k n s l =>
      rw [raw_mk] at hx
      rw [cnt_s]
      by_cases h : 150 < l.length
      · rw [if_pos h]; omega
      · rw [if_neg h]
        have := cntL_bd d _ ih (1 + s.size / 200) l hx.2.2.2
        omega
def fewB (x : Vl) : Bool := decide (cnt 21 x ≤ 200)

/-- few parts: all of it is bearable -/
theorem cntL_ge (d m : Nat) (l : List Vl) : m ≤ cntL d m l := by
  induction l generalizing m with
  | nil => exact Nat.le_refl _
  | cons x r ih =>
    rw [cntL, List.foldl_cons]
    by_cases h : m ≤ 1000
    · rw [if_pos h]; have := ih (m + cnt d x); rw [cntL] at this; omega
    · rw [if_neg h]; have := ih m; rw [cntL] at this; omega
theorem digits_len0 (u : Nat) (h : u < 18446744073709551616) : (digits u).length ≤ 10 := by
  have key : ∀ (k : Nat) (u : Nat), u < 128 ^ (k + 1) → (digits u).length ≤ k + 1 := by
    intro k
    induction k with
    | zero => intro u hu; rw [digits, if_pos (by omega)]; simp
    | succ k ih =>
      intro u hu
      by_cases h : u < 128
      · rw [digits, if_pos h]; simp
      · rw [digits, if_neg h, List.length_cons]
        have := ih (u / 128) (by rw [Nat.pow_succ] at hu; omega)
        omega
  exact key 9 u (Nat.lt_of_lt_of_le h (by decide))
theorem uns_lt0 {n : Int} (h1 : -9223372036854775808 ≤ n) (h2 : n ≤ 9223372036854775807) : uns n < 18446744073709551616 := by
  unfold uns; split <;> omega
/-- what few parts mean, list by list -/
theorem fewL (d : Nat) (ih : ∀ x, raw x → cnt d x ≤ 200 → fits x ∧ depth x ≤ d ∧ (enc x).length ≤ 211 * cnt d x) (m : Nat) (l : List Vl) (hr : ∀ x ∈ l, raw x) (h : cntL d m l ≤ 200) :
    (∀ x ∈ l, fits x) ∧ depthL l ≤ d ∧ (encL l).length + 211 * m ≤ 211 * cntL d m l := by
  induction l generalizing m with
  | nil => simp [depthL, encL, cntL]
  | cons x r ihr =>
    rw [cntL, List.foldl_cons] at h
    have hm : m ≤ 1000 := by
      by_cases hm : m ≤ 1000
      · exact hm
      · rw [if_neg hm] at h
        have := cntL_ge d m r
        rw [cntL] at this
        omega
    rw [if_pos hm] at h
    have hge := cntL_ge d (m + cnt d x) r
    have h' : cntL d (m + cnt d x) r ≤ 200 := h
    obtain ⟨a1, a2, a3⟩ := ih x (hr x (by simp)) (by omega)
    obtain ⟨b1, b2, b3⟩ := ihr (m + cnt d x) (fun y hy => hr y (by simp [hy])) h'
    have e : cntL d m (x :: r) = cntL d (m + cnt d x) r := by rw [cntL, List.foldl_cons, if_pos hm]; rfl
    refine ⟨fun y hy => ?_, by rw [depthL]; omega, ?_⟩
    · rcases List.mem_cons.1 hy with rfl | hy
      · exact a1
      · exact b1 y hy
    · rw [e, encL, List.length_append]
      omega
theorem few_all (d : Nat) : ∀ x, raw x → cnt d x ≤ 200 → fits x ∧ depth x ≤ d ∧ (enc x).length ≤ 211 * cnt d x := by
  induction d with
  | zero => intro x _ h; rw [cnt_0] at h; omega
  | succ d ih =>
    intro x hx h
    cases x with
    | mk k n s l =>
      rw [raw_mk] at hx
      obtain ⟨_, _, hn, hl⟩ := hx
      rw [cnt_s] at h ⊢
      by_cases hlen : 150 < l.length
      · rw [if_pos hlen] at h; omega
      · rw [if_neg hlen] at h ⊢
        have hge := cntL_ge d (1 + s.size / 200) l
        obtain ⟨h1, h2, h3⟩ := fewL d ih _ l hl h
        refine ⟨fits_mk.2 ⟨by omega, by omega, hn, h1⟩, ?_, ?_⟩
        · by_cases hk : k = 3
          · subst hk; rw [depth_3]; omega
          · rw [depth_0 n s l hk]; omega
        · have hd1 := digits_len0 (uns n) (uns_lt0 hn.1 hn.2)
          have hd2 := digits_len0 s.size (by omega)
          have hd3 := digits_len0 l.length (by omega)
          have hss : s.data.toList.length = s.size := by simp
          rw [enc]
          by_cases k1 : k = 1
          · rw [if_pos k1, List.length_cons]; omega
          · rw [if_neg k1]
            by_cases k2 : k = 2
            · rw [if_pos k2, List.length_cons, List.length_append, hss]; omega
            · rw [if_neg k2, List.length_cons, List.length_append]; omega
theorem few_ok {x : Vl} (hr : raw x) (h : fewB x = true) : fits x ∧ depth x ≤ 1000 ∧ (enc x).length ≤ 42200 := by
  have hc : cnt 21 x ≤ 200 := by simpa [fewB] using h
  obtain ⟨h1, h2, h3⟩ := few_all 21 x hr hc
  exact ⟨h1, by omega, by omega⟩
end Cd
end Go.Proofs.Ytnnddmhimnekaaa
