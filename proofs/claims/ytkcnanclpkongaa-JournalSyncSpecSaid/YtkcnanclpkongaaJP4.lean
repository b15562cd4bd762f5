/- Plain mathematics of layer 5: what a Sync writes, and which records are read off it. No program in sight. -/
import Derived.Test.YtkcnanclpkongaaJC
import Derived.Test.YtkcnanclpkongaaPA
namespace Go.Proofs.Ytkcnanclpkongaa
set_option linter.unusedVariables false
set_option linter.unusedSimpArgs false
namespace Jn
def kindJ (j m : Nat) : UInt8 := if j = 0 then (if j + 1 = m then 3 else 1) else (if j + 1 = m then 2 else 0)
def pieceJ (b : By) (j : Nat) : By := (b.drop (112 * j)).take 112
/-- the sector of piece j of a record that begins at a -/
def secJ (g a : Nat) (b : By) (j : Nat) : By := sec g (a + j) (kindJ j (nsec b.length)) (pieceJ b j)
def encR (g a : Nat) (b : By) : List By := (List.range (nsec b.length)).map (secJ g a b)
def encG (g : Nat) : Nat → List By → List By
  | _, [] => []
  | a, b :: r => encR g a b ++ encG g (a + nsec b.length) r
theorem piece_le (b : By) (j : Nat) : (pieceJ b j).length ≤ 112 := by unfold pieceJ; rw [List.length_take]; omega
theorem piece_len (b : By) (j : Nat) : (pieceJ b j).length = min 112 (b.length - 112 * j) := by unfold pieceJ; rw [List.length_take, List.length_drop]
theorem piece_full {b : By} {j : Nat} (h : j + 1 < nsec b.length) : (pieceJ b j).length = 112 := by
  rw [piece_len]; unfold nsec at h; omega
theorem piece_pos {b : By} {j : Nat} (h : j < nsec b.length) (h0 : j ≠ 0) : (pieceJ b j).length ≠ 0 := by
  rw [piece_len]; unfold nsec at h; omega
theorem take_piece (b : By) (j : Nat) : b.take (112 * j) ++ pieceJ b j = b.take (112 * (j + 1)) := by
  unfold pieceJ
  rw [Nat.mul_add, List.take_add]
theorem take_all {b : By} {j : Nat} (h : nsec b.length ≤ j) : b.take (112 * j) = b := by
  refine List.take_of_length_le ?_
  unfold nsec at h; omega
theorem kind_odd (j m : Nat) : kindJ j m % 2 = 1 ↔ j = 0 := by
  unfold kindJ; split <;> split <;> simp_all <;> decide
theorem kind_end (j m : Nat) : 2 ≤ kindJ j m ↔ j + 1 = m := by
  unfold kindJ; split <;> split <;> simp_all <;> decide
theorem kind_le (j m : Nat) : kindJ j m ≤ 3 := by
  unfold kindJ; split <;> split <;> decide
theorem kind_even (j m : Nat) : kindJ j m % 2 = 0 ↔ j ≠ 0 := by
  unfold kindJ; split <;> split <;> simp_all <;> decide
theorem kind_lt (j m : Nat) : kindJ j m < 2 ↔ j + 1 ≠ m := by
  unfold kindJ; split <;> split <;> simp_all <;> decide
theorem secJ_len (g a : Nat) (b : By) (j : Nat) : (secJ g a b j).length = 128 := sec_len (piece_le b j)
theorem secJ_gen {g : Nat} (hg : g < 4294967296) (a : Nat) (b : By) (j : Nat) : gen (secJ g a b j) = g := sec_gen hg _ _ _
theorem secJ_gnT {g : Nat} (hg : g < 4294967296) (a : Nat) (b : By) (j : Nat) : gnT (secJ g a b j) = g := sec_gnT hg (piece_le b j) _ _
theorem secJ_kd (g a : Nat) (b : By) (j : Nat) : kd (secJ g a b j) = kindJ j (nsec b.length) := sec_kd (piece_le b j) _ _ _
theorem secJ_pc (g a : Nat) (b : By) (j : Nat) : pc (secJ g a b j) = pieceJ b j := sec_pc (piece_le b j) _ _ _
theorem gd_secJ {g a : Nat} {b : By} {j : Nat} (hg0 : 0 < g) (hg : g < 4294967296) (hk : a + j < 65536) (hj : j < nsec b.length) : Gd (secJ g a b j) (a + j) := by
  refine gd_sec hg0 hg hk (piece_le b j) (kind_le _ _) ?_ ?_
  · rintro ⟨h1, h2⟩
    rw [kind_lt] at h1
    exact h2 (piece_full (by omega))
  · rintro ⟨h1, h2⟩
    rw [kind_even] at h1
    exact piece_pos hj h1 h2
/-- the sectors from a on hold the first e pieces of b -/
def Holds (l : List By) (g a : Nat) (b : By) (e : Nat) : Prop := ∀ j, j < e → l[a + j]? = some (secJ g a b j)
theorem goes_secJ {l : List By} {g a : Nat} {b : By} {j e : Nat} (h : Holds l g a b e) (hj : j < e) (hn : j < nsec b.length) (hg0 : 0 < g) (hg : g < 4294967296) (hk : a + j < 65536) :
    ∃ hl : a + j < l.length, Goes l a j l[a + j] ∧ l[a + j] = secJ g a b j := by
  have h1 := h j hj
  obtain ⟨hl, h2⟩ := List.getElem?_eq_some_iff.1 h1
  have h0 := h 0 (by omega)
  refine ⟨hl, ?_, h2⟩
  rw [h2]
  refine ⟨gd_secJ hg0 hg hk hn, ?_, ?_⟩
  · rw [secJ_kd]; exact kind_odd _ _
  · rw [secJ_gen hg, List.getD_eq_getElem?_getD]
    rw [Nat.add_zero] at h0
    rw [h0]
    exact (secJ_gen hg a b 0).symm
theorem rec1_holds {l : List By} {g a : Nat} {b : By} (hg0 : 0 < g) (hg : g < 4294967296) : ∀ e, Holds l g a b e → e < nsec b.length → a + e ≤ 65536 → rec1 l a (l.length - a - e) e (b.take (112 * e)) = recA l a
  | 0, _, _, _ => by unfold recA; simp
  | e + 1, h, he, hk => by
    have ih := rec1_holds hg0 hg e (fun j hj => h j (by omega)) (by omega) (by omega)
    obtain ⟨hl, h1, h2⟩ := goes_secJ h (j := e) (by omega) (by omega) hg0 hg (by omega)
    have := recA_at hl _ ih h1 (by rw [h2, secJ_kd, kind_end]; omega)
    rw [h2, secJ_pc, take_piece] at this
    exact this
theorem recA_holds {l : List By} {g a : Nat} {b : By} (hg0 : 0 < g) (hg : g < 4294967296) (h : Holds l g a b (nsec b.length)) (hk : a + nsec b.length ≤ 65536) : recA l a = some (b, nsec b.length) := by
  have hp := nsec_pos b.length
  obtain ⟨e, he⟩ : ∃ e, nsec b.length = e + 1 := ⟨nsec b.length - 1, by omega⟩
  have ih := rec1_holds (l := l) (a := a) hg0 hg e (fun j hj => h j (by omega)) (by omega) (by omega)
  obtain ⟨hl, h1, h2⟩ := goes_secJ h (j := e) (by omega) (by omega) hg0 hg (by omega)
  have := recA_end hl ih h1 (by rw [h2, secJ_kd, kind_end]; omega)
  rw [this, h2, secJ_pc, take_piece, ← he, take_all (Nat.le_refl _)]
theorem recA_torn {l : List By} {g a : Nat} {b : By} {e : Nat} (hg0 : 0 < g) (hg : g < 4294967296) (h : Holds l g a b e) (he : e < nsec b.length) (hk : a + e ≤ 65536) (hbad : ∀ s, l[a + e]? = some s → ¬ Gd s (a + e)) : recA l a = none := by
  have ih := rec1_holds hg0 hg e h he hk
  rcases Nat.lt_or_ge (a + e) l.length with hl | hl
  · refine recA_stop hl ih (fun hg => hbad _ (List.getElem?_eq_getElem hl) hg.1)
  · exact recA_over hl ih
/-- every record that is read takes as many sectors as its length says -/
theorem rec1_nsec {l : List By} (hs : ∀ s ∈ l, s.length = 128) {a : Nat} : ∀ (f n : Nat) (out : By) {b : By} {m : Nat}, out.length = 112 * n → rec1 l a f n out = some (b, m) → m = nsec b.length
  | 0, _, _, _, _, _, h => by cases h
  | f + 1, n, out, b, m, ho, h => by
    unfold rec1 at h
    split at h
    · cases h
    · rename_i s hsl
      have hm := List.mem_of_getElem? hsl
      split at h
      · rename_i hgo
        have hf := hgo.1.form
        have hp := pc_len (hs s hm) hf.l1
        split at h
        · injection h with h
          injection h with h1 h2
          subst h1 h2
          rw [List.length_append, ho, hp]
          have := hf.l1
          unfold nsec
          by_cases hn : n = 0
          · subst hn; omega
          · have hodd : kd s % 2 = 0 := by
              have h3 := mt hgo.2.1.1 hn
              have h4 : (kd s % 2).toNat = 0 ∨ (kd s % 2).toNat = 1 := by simp; omega
              rcases h4 with h4 | h4
              · exact UInt8.toNat_inj.1 (by simpa using h4)
              · exact absurd (UInt8.toNat_inj.1 (by simpa using h4)) h3
            have h0 : ln s ≠ 0 := fun h0 => hf.l3 ⟨hodd, h0⟩
            omega
        · rename_i hk
          have h112 : ln s = 112 := by
            by_cases h5 : ln s = 112
            · exact h5
            · exact absurd ⟨UInt8.not_le.1 hk, h5⟩ hf.l2
          exact rec1_nsec hs f (n + 1) _ (by rw [List.length_append, ho, hp, h112]; omega) h
      · cases h
theorem recA_nsec {l : List By} (hs : ∀ s ∈ l, s.length = 128) {a : Nat} {b : By} {m : Nat} (h : recA l a = some (b, m)) : m = nsec b.length := rec1_nsec hs _ _ _ rfl h
theorem rec1_congr {l l' : List By} {a : Nat} (ha0 : l'.getD a [] = l.getD a []) : ∀ (f n : Nat) (out : By) {b : By} {m : Nat}, rec1 l a f n out = some (b, m) → (∀ i, i < a + m → l'[i]? = l[i]?) → rec1 l' a f n out = some (b, m)
  | 0, _, _, _, _, h, _ => by cases h
  | f + 1, n, out, b, m, h, hag => by
    have hb := (rec1_bound _ _ _ h).1
    have he := hag (a + n) (by omega)
    unfold rec1 at h ⊢
    rw [he]
    split at h
    · cases h
    · rename_i s hsl
      have hgo : Goes l' a n s ↔ Goes l a n s := by unfold Goes; rw [ha0]
      simp only [hgo]
      split at h
      · rename_i h1
        rw [if_pos h1]
        split at h
        · rename_i h2
          rw [if_pos h2]
          exact h
        · rename_i h2
          rw [if_neg h2]
          exact rec1_congr ha0 f _ _ h hag
      · cases h
theorem recA_congr {l l' : List By} (hlen : l'.length = l.length) {a : Nat} {b : By} {m : Nat} (h : recA l a = some (b, m)) (hag : ∀ i, i < a + m → l'[i]? = l[i]?) : recA l' a = some (b, m) := by
  have hb := recA_bound h
  unfold recA at h ⊢
  rw [hlen]
  refine rec1_congr ?_ _ _ _ h hag
  rw [List.getD_eq_getElem?_getD, List.getD_eq_getElem?_getD, hag a (by omega)]
theorem recs_cons {l : List By} {f a last : Nat} {b : By} {r : List By} (h : recs l f a last = b :: r) : ∃ f' m, f = f' + 1 ∧ recA l a = some (b, m) ∧ ¬ gen (l.getD a []) < last ∧ recs l f' (a + m) (gen (l.getD a [])) = r := by
  cases f with
  | zero => cases h
  | succ f =>
    unfold recs at h
    split at h
    · cases h
    · rename_i b' m hr
      split at h
      · cases h
      · rename_i hl
        injection h with h1 h2
        subst h1
        exact ⟨f, m, rfl, hr, hl, h2⟩
/-- what lies ahead of the first change is read as before -/
theorem recs_pre {l l' : List By} (hlen : l'.length = l.length) (hs : ∀ s ∈ l, s.length = 128) {G : Nat} (hG : ∀ s ∈ l, gen s ≤ G) : ∀ (r1 r2 : List By) (f a last : Nat), recs l f a last = r1 ++ r2 → last ≤ G → l.length + 1 ≤ f + a → a ≤ l.length → (∀ i, i < a + used r1 → l'[i]? = l[i]?) →
    ∃ f' last', last' ≤ G ∧ l.length + 1 ≤ f' + (a + used r1) ∧ a + used r1 ≤ l.length ∧ recs l' f a last = r1 ++ recs l' f' (a + used r1) last' ∧ recs l f' (a + used r1) last' = r2
  | [], r2, f, a, last, h, hl, hf, ha, hag => ⟨f, last, hl, by simpa [used] using hf, by simpa [used] using ha, by simp [used], by simpa [used] using h⟩
  | b :: r1, r2, f, a, last, h, hl, hf, ha, hag => by
    obtain ⟨f1, m, rfl, hr, hgl, hrest⟩ := recs_cons h
    have hm := recA_nsec hs hr
    have hb := recA_bound hr
    have hu : used (b :: r1) = m + used r1 := by rw [hm]; rfl
    rw [hu] at hag ⊢
    have hag0 := hag a (by omega)
    have hget : l'.getD a [] = l.getD a [] := by rw [List.getD_eq_getElem?_getD, List.getD_eq_getElem?_getD, hag0]
    have hr' := recA_congr hlen hr (fun i hi => hag i (by omega))
    have hga : gen (l.getD a []) ≤ G := by
      rw [List.getD_eq_getElem?_getD, List.getElem?_eq_getElem (show a < l.length by omega)]
      exact hG _ (List.getElem_mem _)
    obtain ⟨f', last', h1, h2, h3, h4, h5⟩ := recs_pre hlen hs hG r1 r2 f1 (a + m) (gen (l.getD a [])) hrest hga (by omega) (by omega) (fun i hi => hag i (by omega))
    refine ⟨f', last', h1, by omega, by omega, ?_, by rw [← Nat.add_assoc]; exact h5⟩
    rw [recs_some hr' (by rw [hget]; exact hgl), hget, h4, ← Nat.add_assoc]
    rfl
theorem encR_get {g a : Nat} {b : By} {i : Nat} (h : i < nsec b.length) : (encR g a b)[i]? = some (secJ g a b i) := by
  unfold encR
  rw [List.getElem?_map, List.getElem?_range h]; rfl
theorem encR_len (g a : Nat) (b : By) : (encR g a b).length = nsec b.length := by unfold encR; simp
theorem encG_len (g : Nat) : ∀ (a : Nat) (l : List By), (encG g a l).length = used l
  | _, [] => rfl
  | a, b :: r => by simp only [encG, used, List.length_append, encR_len, encG_len g]
theorem encG_append (g : Nat) : ∀ (a : Nat) (l r : List By), encG g a (l ++ r) = encG g a l ++ encG g (a + used l) r
  | a, [], r => by simp [encG, used]
  | a, b :: l, r => by simp only [encG, used, List.cons_append, encG_append g, List.append_assoc, Nat.add_assoc]
/-- the sectors from a on hold the first c of what is written -/
def HoldsG (l : List By) (a : Nat) (ws : List By) (c : Nat) : Prop := ∀ i, i < c → l[a + i]? = ws[i]?
theorem HoldsG.first {l : List By} {g a : Nat} {b : By} {r : List By} {c : Nat} (h : HoldsG l a (encG g a (b :: r)) c) {e : Nat} (he : e ≤ nsec b.length) (hc : e ≤ c) : Holds l g a b e := fun j hj => by
  rw [h j (by omega)]
  unfold encG
  rw [List.getElem?_append_left (by rw [encR_len]; omega)]
  exact encR_get (by omega)
theorem HoldsG.rest {l : List By} {g a : Nat} {b : By} {r : List By} {c : Nat} (h : HoldsG l a (encG g a (b :: r)) c) : HoldsG l (a + nsec b.length) (encG g (a + nsec b.length) r) (c - nsec b.length) := fun j hj => by
  have h1 := h (nsec b.length + j) (by omega)
  unfold encG at h1
  rw [List.getElem?_append_right (by rw [encR_len]; omega), encR_len, Nat.add_sub_cancel_left] at h1
  rw [Nat.add_assoc]
  exact h1
/-- what has just been written is read whole -/
theorem recs_new {l : List By} {g : Nat} (hg0 : 0 < g) (hg : g < 4294967296) (hl6 : l.length ≤ 65536) : ∀ (news : List By) (f a last c : Nat), last ≤ g → l.length + 1 ≤ f + a → HoldsG l a (encG g a news) c → used news ≤ c → a + used news ≤ l.length →
    ∃ f', l.length + 1 ≤ f' + (a + used news) ∧ recs l f a last = news ++ recs l f' (a + used news) (if news = [] then last else g)
  | [], f, a, last, c, _, hf, _, _, _ => ⟨f, by simpa [used] using hf, by simp [used]⟩
  | b :: r, f, a, last, c, hl, hf, hh, hc, ha => by
    have hu : used (b :: r) = nsec b.length + used r := rfl
    rw [hu] at hc ha ⊢
    have hp := nsec_pos b.length
    have hH := hh.first (Nat.le_refl _) (by omega)
    have hr := recA_holds hg0 hg hH (by omega)
    have hga : gen (l.getD a []) = g := by
      have h0 := hH 0 (by omega)
      rw [Nat.add_zero] at h0
      rw [List.getD_eq_getElem?_getD, h0]
      exact secJ_gen hg a b 0
    obtain ⟨f1, hf1⟩ : ∃ f1, f = f1 + 1 := ⟨f - 1, by omega⟩
    subst hf1
    obtain ⟨f', h1, h2⟩ := recs_new hg0 hg hl6 r f1 (a + nsec b.length) g _ (Nat.le_refl _) (by omega) hh.rest (by omega) (by omega)
    refine ⟨f', by omega, ?_⟩
    rw [recs_some hr (by rw [hga]; omega), hga, h2, ← Nat.add_assoc]
    simp
/-- no record behind: the sector there is of an older generation -/
theorem recs_old {l : List By} {f a g : Nat} (h : ∀ s, l[a]? = some s → gen s < g) : recs l f a g = [] := by
  cases hl : l[a]? with
  | none =>
    refine recs_none ?_
    unfold recA
    have : l.length ≤ a := List.getElem?_eq_none_iff.1 hl
    rw [show l.length - a = 0 by omega]; rfl
  | some s =>
    refine recs_less ?_
    rw [List.getD_eq_getElem?_getD, hl]
    exact h s hl
/-- what was written up to a bad sector: the records ahead of it are read, no more -/
theorem split_used {c : Nat} : ∀ (news : List By), c < used news → ∃ k, ∃ hk : k < news.length, used (news.take k) ≤ c ∧ c < used (news.take k) + nsec news[k].length
  | [], h => absurd h (by simp [used])
  | b :: r, h => by
    have hu : used (b :: r) = nsec b.length + used r := rfl
    rcases Nat.lt_or_ge c (nsec b.length) with h1 | h1
    · exact ⟨0, by simp, by simp [used], by simpa [used] using h1⟩
    · obtain ⟨k, hk, h2, h3⟩ := split_used (c := c - nsec b.length) r (by omega)
      refine ⟨k + 1, by simp; omega, ?_, ?_⟩
      · simp only [List.take_succ_cons, used]; omega
      · simp only [List.take_succ_cons, used, List.getElem_cons_succ]; omega
theorem HoldsG.app {l : List By} {g a : Nat} {n1 n2 : List By} {c : Nat} (h : HoldsG l a (encG g a (n1 ++ n2)) c) : HoldsG l a (encG g a n1) (min c (used n1)) ∧ HoldsG l (a + used n1) (encG g (a + used n1) n2) (c - used n1) := by
  rw [encG_append] at h
  have hlen := encG_len g a n1
  refine ⟨fun i hi => ?_, fun i hi => ?_⟩
  · rw [h i (by omega), List.getElem?_append_left (by omega)]
  · have := h (used n1 + i) (by omega)
    rw [List.getElem?_append_right (by omega), hlen, Nat.add_sub_cancel_left] at this
    rw [Nat.add_assoc]; exact this
theorem recs_bad {l : List By} {g : Nat} (hg0 : 0 < g) (hg : g < 4294967296) (hl6 : l.length ≤ 65536) {news : List By} {f a last c : Nat} (hl : last ≤ g) (hf : l.length + 1 ≤ f + a) (hh : HoldsG l a (encG g a news) c) (hc : c < used news) (ha : a + used news ≤ l.length)
    (hbad : ∀ s, l[a + c]? = some s → ¬ Gd s (a + c)) : ∃ k, ∃ hk : k < news.length, used (news.take k) ≤ c ∧ c < used (news.take k) + nsec news[k].length ∧ recs l f a last = news.take k := by
  obtain ⟨k, hk, h1, h2⟩ := split_used news hc
  refine ⟨k, hk, h1, h2, ?_⟩
  have hsp : news = news.take k ++ news[k] :: news.drop (k + 1) := by rw [← List.drop_eq_getElem_cons hk, List.take_append_drop]
  have hu : used (news.take k) + nsec news[k].length ≤ used news := by
    conv => rhs; rw [hsp, used_append]
    simp [used]
  rw [hsp] at hh
  obtain ⟨hA, hB⟩ := hh.app
  rw [Nat.min_eq_right h1] at hA
  obtain ⟨f', h3, h4⟩ := recs_new hg0 hg hl6 (news.take k) f a last _ hl hf hA (Nat.le_refl _) (by omega)
  rw [h4]
  have hT := recA_torn hg0 hg (hB.first (e := c - used (news.take k)) (by omega) (Nat.le_refl _)) (by omega) (by omega) (by rw [show a + used (news.take k) + (c - used (news.take k)) = a + c by omega]; exact hbad)
  rw [recs_none hT, List.append_nil]
end Jn
end Go.Proofs.Ytkcnanclpkongaa
