/- Plain mathematics of layer 47: no ends are cheaper, none with the same cost come before; a proving list bounds every cost. -/
import Derived.Test.YtdcndhfjfllehaaW15
namespace Go.Proofs.Ytdcndhfjfllehaa
open Go.RowKit
set_option linter.unusedVariables false
set_option linter.unusedSimpArgs false
namespace Bk
theorem ok.pos {sp rm : Int} {ws : List Int} (h : ok sp rm ws) : pos sp ws := ⟨h.1, fun x hx => (h.2 x hx).1⟩
theorem sm_mem {sp : Int} {l : List Int} (h : pos sp l) {x : Int} (hx : x ∈ l) : sp + x ≤ sm sp l := by
  induction l with
  | nil => simp at hx
  | cons y r ih =>
    have h1 := sm_nonneg h.tail
    have h2 := h.2 y (by simp)
    have h3 := h.1
    rcases List.mem_cons.1 hx with rfl | hx
    · simp only [sm]; omega
    · have := ih h.tail hx
      simp only [sm]; omega
/-- a line that fits has no word that is too wide -/
theorem lc_fit {sp rm : Int} {ws : List Int} (h : pos sp ws) {t : Nat} {c : Int} (hc : lc sp rm ws t = some c) : 1 ≤ t ∧ t ≤ ws.length ∧ ∀ x ∈ ws.take t, x ≤ rm := by
  rw [lc_eq h] at hc
  unfold lcS at hc
  split at hc
  · rename_i h1
    refine ⟨h1.1, h1.2.1, fun x hx => ?_⟩
    have := sm_mem (l := ws.take t) (sp := sp) ⟨h.1, fun y hy => h.2 y (List.mem_of_mem_take hy)⟩ hx
    omega
  · cases hc
theorem cst_inv {sp rm : Int} {at0 : Nat} {ws : List Int} {e : Int} {r : List Int} {c : Int} (h : cst sp rm at0 ws (e :: r) = some c) :
    ∃ t c1 c2, e = ((at0 + t : Nat) : Int) ∧ lc sp rm ws t = some c1 ∧ cst sp rm (at0 + t) (ws.drop t) r = some c2 ∧ c = c1 + c2 := by
  rcases Int.lt_or_le (at0 : Int) e with hlt | hle
  · cases hlc : lc sp rm ws (e - at0).toNat with
    | none => rw [cst_none hlc] at h; cases h
    | some c1 =>
      rw [cst_some hlt hlc] at h
      obtain ⟨c2, h1, h2⟩ := Option.map_eq_some_iff.1 h
      refine ⟨(e - at0).toNat, c1, c2, by omega, hlc, ?_, h2.symm⟩
      rw [show at0 + (e - (at0 : Int)).toNat = e.toNat by omega]
      exact h1
  · rw [cst_le hle] at h; cases h
theorem cst_make {sp rm : Int} {at0 t : Nat} {ws r : List Int} {c1 c2 : Int} (ht : 1 ≤ t) (h1 : lc sp rm ws t = some c1) (h2 : cst sp rm (at0 + t) (ws.drop t) r = some c2) :
    cst sp rm at0 ws (((at0 + t : Nat) : Int) :: r) = some (c1 + c2) := by
  have e : (((at0 + t : Nat) : Int) - (at0 : Int)).toNat = t := by omega
  rw [cst_some (by omega) (by rw [e]; exact h1), e, Int.toNat_natCast, h2]
  rfl
/-- ends that are right: no word is too wide -/
theorem cst_fit {sp rm : Int} {es : List Int} : ∀ {at0 : Nat} {ws : List Int} {c : Int}, pos sp ws → cst sp rm at0 ws es = some c → ∀ x ∈ ws, x ≤ rm := by
  induction es with
  | nil =>
    intro at0 ws c hp h x hx
    rw [cst] at h
    cases ws with
    | nil => simp at hx
    | cons y r => simp at h
  | cons e r ih =>
    intro at0 ws c hp h x hx
    obtain ⟨t, c1, c2, _, h1, h2, _⟩ := cst_inv h
    rw [← List.take_append_drop t ws] at hx
    rcases List.mem_append.1 hx with hx | hx
    · exact (lc_fit hp h1).2.2 x hx
    · exact ih (hp.drop t) h2 x hx
theorem cst_wide {sp rm : Int} {ws es : List Int} (hp : pos sp ws) (hw : wide ws rm = true) : cst sp rm 0 ws es = none := by
  cases h : cst sp rm 0 ws es with
  | none => rfl
  | some c =>
    obtain ⟨x, hx, h1⟩ := List.any_eq_true.1 hw
    have := cst_fit hp h x hx
    simp at h1; omega
/-- a proving list bounds every cost -/
theorem prv_le {sp rm : Int} {xs h : List Int} (hp : Prv sp rm xs h) {es : List Int} : ∀ {k : Nat} {c : Int}, pos sp xs → k ≤ xs.length → cst sp rm k (xs.drop k) es = some c → at_ h k ≤ c := by
  induction es with
  | nil =>
    intro k c hps hk h1
    rw [cst] at h1
    split at h1
    · rename_i h2
      injection h1 with h1
      have h3 : (xs.drop k).length = 0 := by rw [List.isEmpty_iff.1 h2]; rfl
      have h4 : k = xs.length := by simp at h3; omega
      rw [h4, hp.last]; omega
    · cases h1
  | cons e r ih =>
    intro k c hps hk h1
    obtain ⟨t, c1, c2, he, h2, h3, h4⟩ := cst_inv h1
    have hb := lc_fit (hps.drop k) h2
    rw [List.length_drop] at hb
    rw [List.drop_drop] at h3
    have h5 := ih hps (by omega) h3
    have h6 := hp.le k (k + t) (by omega) (by omega) c1 (by rw [show k + t - k = t by omega]; exact h2)
    omega
/-- the least cost of the rest, behind a line -/
theorem at_tail {sp rm : Int} {ws : List Int} {t : Nat} (h1 : 1 ≤ t) (h2 : t ≤ ws.length) : at_ (tab sp rm ws.tail) (t - 1) = at_ (tab sp rm (ws.drop t)) 0 := by
  cases ws with
  | nil => simp at h2; omega
  | cons x r =>
    rw [List.tail_cons, tab_at sp rm r (t - 1) (by simp at h2; omega)]
    obtain ⟨s, rfl⟩ : ∃ s, t = s + 1 := ⟨t - 1, by omega⟩
    rfl
theorem tab_line {sp rm : Int} {ws : List Int} (ho : ok sp rm ws) {t : Nat} {c : Int} (h : lc sp rm ws t = some c) : at_ (tab sp rm ws) 0 ≤ c + at_ (tab sp rm (ws.drop t)) 0 := by
  have hb := lc_fit ho.pos h
  have hne : ws ≠ [] := by rintro rfl; simp at hb; omega
  have := (fst_spec ho hne).le t c (lc_mem.1 h)
  rwa [at_tail hb.1 hb.2.1] at this
theorem tab_lt {sp rm : Int} {ws : List Int} (ho : ok sp rm ws) {t : Nat} {c : Int} (h : lc sp rm ws t = some c) (hlt : t < fst sp rm ws) : at_ (tab sp rm ws) 0 < c + at_ (tab sp rm (ws.drop t)) 0 := by
  have hb := lc_fit ho.pos h
  have hne : ws ≠ [] := by rintro rfl; simp at hb; omega
  have := (fst_spec ho hne).lt t c (lc_mem.1 h) hlt
  rwa [at_tail hb.1 hb.2.1] at this
theorem tab_fst {sp rm : Int} {ws : List Int} (ho : ok sp rm ws) (hne : ws ≠ []) : ∃ c, lc sp rm ws (fst sp rm ws) = some c ∧ at_ (tab sp rm ws) 0 = c + at_ (tab sp rm (ws.drop (fst sp rm ws))) 0 := by
  obtain ⟨c, h1, h2⟩ := (fst_spec ho hne).mem
  have hb := fst_bd ho hne
  refine ⟨c, lc_mem.2 h1, ?_⟩
  rwa [at_tail hb.1 hb.2] at h2
theorem tab_nil (sp rm : Int) : at_ (tab sp rm []) 0 = 0 := rfl
/-- the table proves -/
theorem prv_tab {sp rm : Int} {xs : List Int} (hr : Rt xs sp rm) (ho : ok sp rm xs) : Prv sp rm xs (tab sp rm xs) := by
  refine ⟨tab_len sp rm xs, ?_, fun i hi => ⟨tab_nonneg xs ho i, ?_⟩, fun i j h1 h2 c hc => ?_⟩
  · rw [tab_at sp rm xs xs.length (Nat.le_refl _), List.drop_length]; rfl
  · have := tab_bd hr.r xs ho i
    have := hr.len
    omega
  · have h3 := tab_line (ho.drop i) hc
    rw [List.drop_drop, show i + (j - i) = j by omega] at h3
    rwa [tab_at sp rm xs i (by omega), tab_at sp rm xs j h2]
/-- no ends that are right have a lesser cost -/
theorem tab_least {sp rm : Int} {xs es : List Int} {c : Int} (hr : Rt xs sp rm) (ho : ok sp rm xs) (h : cst sp rm 0 xs es = some c) : at_ (tab sp rm xs) 0 ≤ c :=
  prv_le (prv_tab hr ho) hr.pos (Nat.zero_le _) h
theorem tab_le {sp rm : Int} {es : List Int} : ∀ {ws : List Int} {at0 : Nat} {c : Int}, ok sp rm ws → cst sp rm at0 ws es = some c → at_ (tab sp rm ws) 0 ≤ c := by
  induction es with
  | nil =>
    intro ws at0 c ho h
    rw [cst] at h
    cases ws with
    | nil => simp at h; subst h; exact Int.le_refl _
    | cons y r => simp at h
  | cons e r ih =>
    intro ws at0 c ho h
    obtain ⟨t, c1, c2, he, h2, h3, h4⟩ := cst_inv h
    have h5 := ih (ho.drop t) h3
    have h6 := tab_line ho h2
    omega
end Bk
/-- the ends that are found have the least cost -/
theorem cst_ends {sp rm : Int} (n : Nat) : ∀ (ws : List Int) (at0 : Nat), ws.length ≤ n → Bk.ok sp rm ws → Bk.cst sp rm at0 ws (endsI sp rm at0 ws) = some (Bk.at_ (Bk.tab sp rm ws) 0) := by
  induction n with
  | zero =>
    intro ws at0 hl ho
    have : ws = [] := List.eq_nil_of_length_eq_zero (by omega)
    subst this; rfl
  | succ n ih =>
    intro ws at0 hl ho
    by_cases hne : ws = []
    · subst hne; rfl
    · have hb := Bk.fst_bd ho hne
      obtain ⟨c, h1, h2⟩ := Bk.tab_fst ho hne
      unfold endsI
      rw [Bk.ends_cons at0 ws ho hne, List.map_cons, h2]
      exact Bk.cst_make hb.1 h1 (ih (ws.drop (Bk.fst sp rm ws)) (at0 + Bk.fst sp rm ws) (by rw [List.length_drop]; omega) (ho.drop _))
/-- no ends with that cost come before -/
theorem ends_first {sp rm : Int} {es : List Int} : ∀ {ws : List Int} {at0 : Nat}, Bk.ok sp rm ws → Bk.cst sp rm at0 ws es = some (Bk.at_ (Bk.tab sp rm ws) 0) → lexL es (endsI sp rm at0 ws) = false := by
  induction es with
  | nil =>
    intro ws at0 ho h
    rw [Bk.cst] at h
    cases ws with
    | nil => rfl
    | cons y r => simp at h
  | cons e r ih =>
    intro ws at0 ho h
    obtain ⟨t, c1, c2, he, h2, h3, h4⟩ := Bk.cst_inv h
    have hb := Bk.lc_fit ho.pos h2
    have hne : ws ≠ [] := by rintro rfl; simp at hb; omega
    have h5 := Bk.tab_le (ho.drop t) h3
    have h6 := Bk.tab_line ho h2
    have h7 : ¬ t < Bk.fst sp rm ws := fun hlt => by
      have := Bk.tab_lt ho h2 hlt
      omega
    unfold endsI
    rw [Bk.ends_cons at0 ws ho hne, List.map_cons, lexL]
    split
    · rename_i h8
      have h9 : t = Bk.fst sp rm ws := by
        rw [he] at h8
        have : ((at0 + t : Nat) : Int) = ((at0 + Bk.fst sp rm ws : Nat) : Int) := h8
        omega
      subst h9
      refine ih (ho.drop _) ?_
      rw [h3]
      congr 1
      omega
    · rename_i h8
      rw [decide_eq_false_iff_not, he]
      show ¬ ((at0 + t : Nat) : Int) < ((at0 + Bk.fst sp rm ws : Nat) : Int)
      omega
theorem endsI_shift {sp rm : Int} (ws : List Int) (d : Nat) (ho : Bk.ok sp rm ws) : endsI sp rm d ws = (endsI sp rm 0 ws).map (· + (d : Int)) := by
  unfold endsI
  have := Bk.ends_shift ws.length ws 0 d (Nat.le_refl _) ho
  rw [Nat.zero_add] at this
  rw [this, List.map_map, List.map_map]
  apply List.map_congr_left
  intro x hx
  simp
/-- all words on one line -/
theorem one_line {sp rm : Int} {ws : List Int} (ho : Bk.ok sp rm ws) {c : Int} (hne : ws ≠ []) (h : Bk.lc sp rm ws ws.length = some c) : Bk.at_ (Bk.tab sp rm ws) 0 = 0 ∧ endsI sp rm 0 ws = [(ws.length : Int)] := by
  have hp := ho.pos
  have h0 := h
  rw [Bk.lc_eq hp] at h0
  unfold Bk.lcS at h0
  split at h0
  · rename_i hc
    rw [if_pos rfl] at h0
    injection h0 with h0
    have hle := Bk.tab_line ho h
    rw [List.drop_length] at hle
    have hz : Bk.at_ (Bk.tab sp rm []) 0 = 0 := rfl
    have hnn := Bk.tab_nonneg ws ho 0
    have h1 : Bk.at_ (Bk.tab sp rm ws) 0 = 0 := by omega
    refine ⟨h1, ?_⟩
    obtain ⟨c2, h2, h3⟩ := Bk.tab_fst ho hne
    have hb := Bk.fst_bd ho hne
    have hnn2 := Bk.tab_nonneg (ws.drop (Bk.fst sp rm ws)) (ho.drop _) 0
    have hf : Bk.fst sp rm ws = ws.length := by
      rcases Nat.lt_or_ge (Bk.fst sp rm ws) ws.length with hlt | hge
      · exfalso
        rw [Bk.lc_eq hp] at h2
        unfold Bk.lcS at h2
        split at h2
        · rename_i hd
          rw [if_neg (by omega)] at h2
          injection h2 with h2
          have hs := Bk.sm_lt hp hlt (Nat.le_refl _)
          rw [List.take_length] at hs
          have hq : Bk.sm sp ws ≤ rm + sp := by
            have := hc.2.2
            rwa [List.take_length] at this
          have hq2 : Bk.sm sp ws ≤ rm + sp := hq
          have hpos : 0 < rm + sp - Bk.sm sp (ws.take (Bk.fst sp rm ws)) := by omega
          have := Int.mul_pos hpos hpos
          omega
        · cases h2
      · omega
    unfold endsI
    rw [Bk.ends_cons 0 ws ho hne, hf, List.drop_length, Bk.ends_nil, Nat.zero_add]
    rfl
  · cases h0
end Go.Proofs.Ytdcndhfjfllehaa
