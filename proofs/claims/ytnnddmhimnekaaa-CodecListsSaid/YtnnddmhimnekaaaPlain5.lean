/- Plain mathematics of layer 1: encoding and decoding are inverse to each other. -/
import Derived.Test.YtnnddmhimnekaaaPlain3
import Derived.Test.YtnnddmhimnekaaaPlain4
namespace Go.Proofs.Ytnnddmhimnekaaa
set_option linter.unusedVariables false
set_option linter.unusedSimpArgs false
namespace Cd
theorem digits_a {u : Nat} (h : u < 128) : digits u = [UInt8.ofNat u] := by rw [digits, if_pos h]
theorem digits_b {u : Nat} (h : ¬ u < 128) : digits u = UInt8.ofNat (u % 128 + 128) :: digits (u / 128) := by rw [digits, if_neg h]
theorem toNat_of (n : Nat) (h : n < 256) : (UInt8.ofNat n).toNat = n := by
  rw [UInt8.toNat_ofNat']; omega
theorem pow7 (i : Nat) : 2 ^ (7 * (i + 1)) = 2 ^ (7 * i) * 128 := by rw [show 7 * (i + 1) = 7 * i + 7 by omega, Nat.pow_add]
theorem numD_digits (u : Nat) : ∀ (i acc : Nat) (r : List UInt8), (i = 0 ∨ 0 < u) → u * 2 ^ (7 * i) < 18446744073709551616 → numD i acc (digits u ++ r) = some (acc + u * 2 ^ (7 * i), r) := by
  induction u using Nat.strongRecOn with
  | ind u ih =>
    intro i acc r h0 hb
    have hp : 0 < 2 ^ (7 * i) := Nat.pow_pos (by omega)
    by_cases h : u < 128
    · rw [digits_a h, List.singleton_append, numD, toNat_of u (by omega)]
      have hc : (i = 0 ∨ u ≠ 0) ∧ (i < 9 ∨ u ≤ 1) := by
        refine ⟨by omega, ?_⟩
        by_cases h9 : i < 9
        · exact .inl h9
        · right
          have h1 : 2 ^ (7 * 9) ≤ 2 ^ (7 * i) := Nat.pow_le_pow_right (by omega) (by omega)
          have h2 : (2 : Nat) ^ (7 * 9) = 9223372036854775808 := by decide
          by_cases h3 : u ≤ 1
          · exact h3
          · have : 2 * 2 ^ (7 * i) ≤ u * 2 ^ (7 * i) := Nat.mul_le_mul_right _ (by omega)
            omega
      rw [if_pos hc, if_pos h, Nat.mod_eq_of_lt h]
    · have hdm : u = u % 128 + 128 * (u / 128) := by omega
      have hmul : u * 2 ^ (7 * i) = u % 128 * 2 ^ (7 * i) + u / 128 * 2 ^ (7 * (i + 1)) := by
        rw [pow7]
        conv => lhs; rw [hdm, Nat.add_mul]
        congr 1
        rw [Nat.mul_comm 128, Nat.mul_assoc, Nat.mul_comm 128]
      have hi9 : i < 9 := by
        by_cases h9 : i < 9
        · exact h9
        · exfalso
          have h1 : 2 ^ (7 * 9) ≤ 2 ^ (7 * i) := Nat.pow_le_pow_right (by omega) (by omega)
          have h2 : (2 : Nat) ^ (7 * 9) = 9223372036854775808 := by decide
          have : 128 * 2 ^ (7 * i) ≤ u * 2 ^ (7 * i) := Nat.mul_le_mul_right _ (by omega)
          omega
      rw [digits_b h, List.cons_append, numD, toNat_of _ (by omega), if_pos ⟨by omega, by omega⟩, if_neg (by omega), ih (u / 128) (by omega) (i + 1) _ r (.inr (by omega)) (by omega), show (u % 128 + 128) % 128 = u % 128 by omega, hmul, Nat.add_assoc]
theorem ofNat_toNat8 (c : UInt8) : UInt8.ofNat c.toNat = c := by simp
theorem numD_inv {bs : List UInt8} : ∀ {i acc n : Nat} {r : List UInt8}, numD i acc bs = some (n, r) → ∃ u, bs = digits u ++ r ∧ n = acc + u * 2 ^ (7 * i) ∧ (i = 0 ∨ 0 < u) := by
  induction bs with
  | nil => intro i acc n r h; simp [numD] at h
  | cons c bs ih =>
    intro i acc n r h
    have hc := c.toNat_lt
    rw [numD] at h
    by_cases hcond : (i = 0 ∨ c.toNat ≠ 0) ∧ (i < 9 ∨ c.toNat ≤ 1)
    · rw [if_pos hcond] at h
      by_cases h1 : c.toNat < 128
      · rw [if_pos h1] at h
        simp only [Option.some.injEq, Prod.mk.injEq] at h
        obtain ⟨rfl, rfl⟩ := h
        refine ⟨c.toNat, ?_, by rw [Nat.mod_eq_of_lt h1], by omega⟩
        rw [digits_a h1, ofNat_toNat8]; rfl
      · rw [if_neg h1] at h
        obtain ⟨u, h2, h3, h4⟩ := ih h
        have hu : 0 < u := by omega
        refine ⟨c.toNat % 128 + 128 * u, ?_, ?_, by omega⟩
        · rw [digits_b (by omega), show (c.toNat % 128 + 128 * u) % 128 + 128 = c.toNat by omega, show (c.toNat % 128 + 128 * u) / 128 = u by omega, ofNat_toNat8, h2]; rfl
        · rw [h3, pow7, Nat.add_mul, Nat.add_assoc]
          congr 2
          rw [Nat.mul_comm 128, Nat.mul_assoc, Nat.mul_comm 128]
    · rw [if_neg hcond] at h; cases h
theorem num0 (u : Nat) (r : List UInt8) (h : u < 18446744073709551616) : numD 0 0 (digits u ++ r) = some (u, r) := by
  have := numD_digits u 0 0 r (.inl rfl) (by simpa using h)
  simpa using this
theorem num0_inv {bs : List UInt8} {n : Nat} {r : List UInt8} (h : numD 0 0 bs = some (n, r)) : bs = digits n ++ r ∧ n < 18446744073709551616 := by
  obtain ⟨u, h1, h2, _⟩ := numD_inv h
  simp at h2
  subst h2
  exact ⟨h1, (numD_bd h (by omega) (by decide)).1⟩
theorem lenD_yes (u : Nat) (r : List UInt8) (h : u < 18446744073709551616) (hr : u ≤ r.length) : lenD (digits u ++ r) = some (u, r) := by
  unfold lenD; rw [num0 u r h]; simp [hr]
theorem lenD_inv {bs : List UInt8} {n : Nat} {r : List UInt8} (h : lenD bs = some (n, r)) : bs = digits n ++ r ∧ n < 18446744073709551616 ∧ n ≤ r.length := by
  unfold lenD at h
  cases hn : numD 0 0 bs with
  | none => rw [hn] at h; cases h
  | some p =>
    obtain ⟨m, t⟩ := p
    rw [hn] at h
    simp only at h
    by_cases hle : m ≤ t.length
    · rw [if_pos hle] at h
      simp only [Option.some.injEq, Prod.mk.injEq] at h
      obtain ⟨rfl, rfl⟩ := h
      obtain ⟨h1, h2⟩ := num0_inv hn
      exact ⟨h1, h2, hle⟩
    · rw [if_neg hle] at h; cases h
theorem sgnD_uns (n : Int) : sgnD (uns n) = n := by
  unfold sgnD uns
  by_cases h : 0 ≤ n
  · rw [if_pos h, if_pos (by omega)]; omega
  · rw [if_neg h, if_neg (by omega)]; omega
theorem uns_sgnD (u : Nat) : uns (sgnD u) = u := by
  unfold sgnD uns
  by_cases h : u % 2 = 0
  · rw [if_pos h, if_pos (by omega)]; omega
  · rw [if_neg h, if_neg (by omega)]; omega
theorem sgnD_rng {u : Nat} (h : u < 18446744073709551616) : -9223372036854775808 ≤ sgnD u ∧ sgnD u ≤ 9223372036854775807 := by
  unfold sgnD; split <;> omega
theorem valD_a (d : Nat) (c : UInt8) (bs : List UInt8) (hc : c.toNat = 1) : valD d (c :: bs) = (match numD 0 0 bs with
      | some (u, r) => some (.mk 1 (sgnD u) ByteArray.empty [], r)
      | none => none) := by
  cases d <;> (rw [valD.eq_def]; simp only [if_pos hc]; rfl)
theorem valD_b (d : Nat) (c : UInt8) (bs : List UInt8) (hc : c.toNat = 2) : valD d (c :: bs) = (match lenD bs with
      | some (n, r) => some (.mk 2 0 ⟨(r.take n).toArray⟩ [], r.drop n)
      | none => none) := by
  cases d <;> (rw [valD.eq_def]; simp only [if_neg (show ¬ c.toNat = 1 by omega), if_pos hc]; rfl)
theorem valD_c (d : Nat) (c : UInt8) (bs : List UInt8) (hc : c.toNat = 3) : valD (d + 1) (c :: bs) = (match lenD bs with
        | some (n, r) => (match repD (valD d) n r with
          | some (l, t) => some (.mk 3 0 ByteArray.empty l, t)
          | none => none)
        | none => none) := by
  rw [valD.eq_def]; simp only [if_neg (show ¬ c.toNat = 1 by omega), if_neg (show ¬ c.toNat = 2 by omega), if_pos hc]; rfl
theorem valD_c0 (c : UInt8) (bs : List UInt8) (hc : c.toNat = 3) : valD 0 (c :: bs) = none := by
  rw [valD.eq_def]; simp only [if_neg (show ¬ c.toNat = 1 by omega), if_neg (show ¬ c.toNat = 2 by omega), if_pos hc]
theorem valD_d (d : Nat) (c : UInt8) (bs : List UInt8) (h1 : c.toNat ≠ 1) (h2 : c.toNat ≠ 2) (h3 : c.toNat ≠ 3) : valD d (c :: bs) = none := by
  cases d <;> (rw [valD.eq_def]; simp only [if_neg h1, if_neg h2, if_neg h3])
theorem enc_pos (v : Vl) : 1 ≤ (enc v).length := by
  cases v with
  | mk k n s l =>
    rw [enc]
    split
    · simp
    · split <;> simp
theorem encL_ge (l : List Vl) : l.length ≤ (encL l).length := by
  induction l with
  | nil => simp
  | cons x r ih => rw [encL, List.length_cons, List.length_append]; have := enc_pos x; omega
theorem repD_enc (d : Nat) (l : List Vl) (r : List UInt8) (h : ∀ x ∈ l, ∀ r, valD d (enc x ++ r) = some (x, r)) : repD (valD d) l.length (encL l ++ r) = some (l, r) := by
  induction l with
  | nil => rfl
  | cons x t ih =>
    rw [List.length_cons, repD, encL, List.append_assoc, h x (by simp)]
    simp only
    rw [ih (fun y hy => h y (by simp [hy]))]
theorem str_take (s : ByteArray) (r : List UInt8) : (⟨((s.data.toList ++ r).take s.size).toArray⟩ : ByteArray) = s := by
  have hl : s.data.toList.length = s.size := by simp
  rw [List.take_append_of_le_length (by omega), List.take_of_length_le (by omega)]
theorem valD_enc (v : Vl) : ∀ (d : Nat) (r : List UInt8), formed v = true → depth v ≤ d → fits v → valD d (enc v ++ r) = some (v, r) := by
  induction v using Vl.ind with
  | h k n s l ih =>
    intro d r hf hd hfit
    obtain ⟨f1, f2, f3, f4⟩ := fits_mk.1 hfit
    by_cases hk : k < 1 ∨ 3 < k
    · rw [formed_bad hk] at hf; cases hf
    · by_cases k1 : k = 1
      · subst k1
        rw [formed_1] at hf
        simp at hf
        rw [enc, if_pos rfl, List.cons_append, valD_a d 1 _ rfl, num0 _ _ (uns_lt0 f3.1 f3.2)]
        simp only [sgnD_uns]
        obtain ⟨rfl, rfl⟩ := hf
        rfl
      · by_cases k2 : k = 2
        · subst k2
          rw [formed_2] at hf
          simp at hf
          have hl : s.data.toList.length = s.size := by simp
          rw [enc, if_neg (by omega), if_pos rfl, List.cons_append, List.append_assoc, valD_b d 2 _ rfl, lenD_yes _ _ (by omega) (by rw [List.length_append]; omega)]
          simp only [str_take]
          obtain ⟨rfl, rfl⟩ := hf
          rw [List.drop_append_of_le_length (by omega), List.drop_of_length_le (by omega)]; rfl
        · obtain rfl : k = 3 := by omega
          rw [formed_3, formedL_all] at hf
          simp at hf
          rw [depth_3] at hd
          obtain ⟨⟨rfl, rfl⟩, hf⟩ := hf
          cases d with
          | zero => omega
          | succ d =>
            have hall : ∀ x ∈ l, ∀ r, valD d (enc x ++ r) = some (x, r) := fun x hx r => by
              refine ih x hx d r (hf x hx) ?_ (f4 x hx)
              obtain ⟨i, hi, rfl⟩ := List.getElem_of_mem hx
              have := depthL_le l i hi
              omega
            rw [enc, if_neg (by omega), if_neg (by omega), List.cons_append, List.append_assoc, valD_c d 3 _ rfl, lenD_yes _ _ (by omega) (by have := encL_ge l; rw [List.length_append]; omega)]
            simp only
            rw [repD_enc d l r hall]
/-- what was decoded is well-formed, and its encoding is what was read -/
def Dec (d : Nat) (bs : List UInt8) (v : Vl) (r : List UInt8) : Prop := formed v = true ∧ depth v ≤ d ∧ bs = enc v ++ r ∧ (bs.length ≤ 1000000 → fits v)
theorem repD_inv (d : Nat) (ih : ∀ bs v r, valD d bs = some (v, r) → Dec d bs v r) : ∀ (n : Nat) (bs : List UInt8) (l : List Vl) (r : List UInt8), repD (valD d) n bs = some (l, r) →
    l.length = n ∧ formedL l = true ∧ depthL l ≤ d ∧ bs = encL l ++ r ∧ (bs.length ≤ 1000000 → ∀ x ∈ l, fits x)
  | 0, bs, l, r, h => by
    simp only [repD, Option.some.injEq, Prod.mk.injEq] at h
    obtain ⟨rfl, rfl⟩ := h
    exact ⟨rfl, rfl, by simp [depthL], rfl, by simp⟩
  | n + 1, bs, l, r, h => by
    simp only [repD] at h
    cases hv : valD d bs with
    | none => rw [hv] at h; cases h
    | some p =>
      obtain ⟨x, t⟩ := p
      rw [hv] at h
      simp only at h
      cases hr : repD (valD d) n t with
      | none => rw [hr] at h; cases h
      | some q =>
        obtain ⟨l', t'⟩ := q
        rw [hr] at h
        simp only [Option.some.injEq, Prod.mk.injEq] at h
        obtain ⟨rfl, rfl⟩ := h
        obtain ⟨a1, a2, a3, a4⟩ := ih _ _ _ hv
        obtain ⟨b1, b2, b3, b4, b5⟩ := repD_inv d ih n t l' t' hr
        have hlen : bs.length = (enc x).length + t.length := by rw [a3, List.length_append]
        refine ⟨by simp [b1], by rw [formedL, a1, b2]; rfl, by rw [depthL]; omega, by rw [a3, b4, encL, List.append_assoc], fun hb y hy => ?_⟩
        rcases List.mem_cons.1 hy with rfl | hy
        · exact a4 hb
        · exact b5 (by omega) y hy
theorem valD_inv (d : Nat) : ∀ bs v r, valD d bs = some (v, r) → Dec d bs v r := by
  have leaf : ∀ (d : Nat) (c : UInt8) (bs : List UInt8) (v : Vl) (r : List UInt8), c.toNat ≠ 3 → valD d (c :: bs) = some (v, r) → Dec d (c :: bs) v r := by
    intro d c bs v r h3 h
    by_cases h1 : c.toNat = 1
    · obtain rfl : c = 1 := by rw [← ofNat_toNat8 c, h1]; rfl
      rw [valD_a d 1 bs rfl] at h
      cases hn : numD 0 0 bs with
      | none => rw [hn] at h; cases h
      | some p =>
        obtain ⟨u, t⟩ := p
        rw [hn] at h
        simp only [Option.some.injEq, Prod.mk.injEq] at h
        obtain ⟨rfl, rfl⟩ := h
        obtain ⟨e, hu⟩ := num0_inv hn
        refine ⟨by rw [formed_1]; rfl, by rw [depth_0 _ _ _ (by omega)]; omega, by rw [enc, if_pos rfl, uns_sgnD, e]; rfl, fun _ => fits_mk.2 ⟨by simp, Nat.zero_le _, sgnD_rng hu, by simp⟩⟩
    · by_cases h2 : c.toNat = 2
      · obtain rfl : c = 2 := by rw [← ofNat_toNat8 c, h2]; rfl
        rw [valD_b d 2 bs rfl] at h
        cases hn : lenD bs with
        | none => rw [hn] at h; cases h
        | some p =>
          obtain ⟨u, t⟩ := p
          rw [hn] at h
          simp only [Option.some.injEq, Prod.mk.injEq] at h
          obtain ⟨rfl, rfl⟩ := h
          obtain ⟨e, hu, hle⟩ := lenD_inv hn
          have hsz : (⟨(t.take u).toArray⟩ : ByteArray).size = u := by simp [ByteArray.size]; omega
          refine ⟨by rw [formed_2]; rfl, by rw [depth_0 _ _ _ (by omega)]; omega, ?_, fun hb => fits_mk.2 ⟨by simp, ?_, by omega, by simp⟩⟩
          · rw [enc, if_neg (by omega), if_pos rfl, hsz, e]
            simp [List.append_assoc]
          · rw [hsz, e] at *
            simp at hb; omega
      · rw [valD_d d c bs h1 h2 h3] at h; cases h
  induction d with
  | zero =>
    intro bs v r h
    cases bs with
    | nil => rw [valD.eq_def] at h; cases h
    | cons c bs =>
      by_cases h3 : c.toNat = 3
      · rw [valD_c0 c bs h3] at h; cases h
      · exact leaf 0 c bs v r h3 h
  | succ d ih =>
    intro bs v r h
    cases bs with
    | nil => rw [valD.eq_def] at h; cases h
    | cons c bs =>
      by_cases h3 : c.toNat = 3
      · obtain rfl : c = 3 := by rw [← ofNat_toNat8 c, h3]; rfl
        rw [valD_c d 3 bs rfl] at h
        cases hn : lenD bs with
        | none => rw [hn] at h; cases h
        | some p =>
          obtain ⟨u, t⟩ := p
          rw [hn] at h
          simp only at h
          cases hr : repD (valD d) u t with
          | none => rw [hr] at h; cases h
          | some q =>
            obtain ⟨l, t'⟩ := q
            rw [hr] at h
            simp only [Option.some.injEq, Prod.mk.injEq] at h
            obtain ⟨rfl, rfl⟩ := h
            obtain ⟨e, hu, hle⟩ := lenD_inv hn
            obtain ⟨b1, b2, b3, b4, b5⟩ := repD_inv d ih u t l t' hr
            have hlen : bs.length = (digits u).length + t.length := by rw [e, List.length_append]
            refine ⟨by rw [formed_3, b2]; rfl, by rw [depth_3]; omega, ?_, fun hb => ?_⟩
            · rw [enc, if_neg (by omega), if_neg (by omega), b1, e, b4]
              simp [List.append_assoc]
            · simp at hb
              exact fits_mk.2 ⟨by omega, Nat.zero_le _, by omega, b5 (by omega)⟩
      · exact leaf (d + 1) c bs v r h3 h
end Cd
end Go.Proofs.Ytnnddmhimnekaaa
