/- Plain laws of layer 16: one more amendment; the steps are the value. -/
import Derived.Test.YtcifhigeieoogaaPlain2
namespace Go.Proofs.Ytcifhigeieoogaa
set_option linter.unusedVariables false
set_option linter.unusedSimpArgs false
namespace Vn
theorem addE_zero {l : List Am} {x : Am} (h : addE l x = 0) : err l = 0 ∧ right x = true ∧ has l x.no = false ∧ l.length ≠ 4096 := by
  unfold addE at h
  split at h
  · rename_i h1
    split at h
    · rename_i h2
      split at h
      · cases h
      · rename_i h3
        split at h
        · cases h
        · rename_i h4
          exact ⟨h1, h2, by simpa using h3, h4⟩
    · cases h
  · rename_i h1; exact absurd h h1
theorem pos_split {l : List Am} (n : Int) (hp : l.Pairwise (fun a b => a.no < b.no)) : (∀ y ∈ l.take (pos l n), y.no < n) ∧ (∀ y ∈ l.drop (pos l n), n ≤ y.no) := by
  induction l with
  | nil => simp
  | cons a r ih =>
    rw [List.pairwise_cons] at hp
    obtain ⟨h1, h2⟩ := ih hp.2
    by_cases ha : a.no < n
    · have e : pos (a :: r) n = pos r n + 1 := by unfold pos; rw [List.filter_cons, if_pos (by simpa using ha), List.length_cons]
      rw [e, List.take_succ_cons, List.drop_succ_cons]
      exact ⟨fun y hy => by rcases List.mem_cons.1 hy with rfl | hy; exact ha; exact h1 y hy, h2⟩
    · have e : pos (a :: r) n = 0 := by
        unfold pos
        rw [List.length_eq_zero_iff, List.filter_eq_nil_iff]
        intro y hy
        rcases List.mem_cons.1 hy with rfl | hy
        · simpa using ha
        · have := hp.1 y hy; simp; omega
      rw [e]
      refine ⟨by simp, fun y hy => ?_⟩
      rcases List.mem_cons.1 (by simpa using hy : y ∈ a :: r) with rfl | hy
      · omega
      · have := hp.1 y hy; omega
theorem mem_ins (l : List Am) (x y : Am) : y ∈ ins l x ↔ y = x ∨ y ∈ l := by
  unfold ins
  rw [List.mem_append, List.mem_cons]
  constructor
  · rintro (h | h | h)
    · exact .inr (List.mem_of_mem_take h)
    · exact .inl h
    · exact .inr (List.mem_of_mem_drop h)
  · rintro (h | h)
    · exact .inr (.inl h)
    · rw [← List.take_append_drop (pos l x.no) l, List.mem_append] at h
      rcases h with h | h
      · exact .inl h
      · exact .inr (.inr h)
theorem ins_len (l : List Am) (x : Am) : (ins l x).length = l.length + 1 := by
  unfold ins
  have : pos l x.no ≤ l.length := List.length_filter_le _ _
  simp; omega
theorem inc_ins {l : List Am} {x : Am} (hp : l.Pairwise (fun a b => a.no < b.no)) (hh : has l x.no = false) : (ins l x).Pairwise (fun a b => a.no < b.no) := by
  obtain ⟨h1, h2⟩ := pos_split x.no hp
  have h3 : ∀ y ∈ l.drop (pos l x.no), x.no < y.no := fun y hy => by
    have := h2 y hy
    have hne : ¬ y.no = x.no := fun e => by
      unfold has at hh
      rw [List.any_eq_false] at hh
      exact hh y (List.mem_of_mem_drop hy) (by simpa using e)
    omega
  unfold ins
  rw [List.pairwise_append, List.pairwise_cons]
  refine ⟨hp.sublist (List.take_sublist _ _), ⟨h3, hp.sublist (List.drop_sublist _ _)⟩, fun a ha b hb => ?_⟩
  have h4 := h1 a ha
  rcases List.mem_cons.1 hb with rfl | hb
  · exact h4
  · have := h3 b hb; omega
theorem ok_ins {l : List Am} {x : Am} (h : addE l x = 0) : Ok (ins l x) := by
  obtain ⟨he, hr, hh, hl⟩ := addE_zero h
  have ho := (err_iff l).1 he
  refine ⟨by rw [ins_len]; have := ho.len; omega, fun y hy => ?_, inc_ins ho.inc hh⟩
  rcases (mem_ins l x y).1 hy with rfl | hy
  · exact hr
  · exact ho.rt y hy
theorem addL_ok {l : List Am} {x : Am} (h : addE l x = 0) : addL l x = ins l x := by unfold addL; rw [if_pos h]
theorem addL_no {l : List Am} {x : Am} (h : addE l x ≠ 0) : addL l x = [] := by unfold addL; rw [if_neg h]
theorem vl_eq {l m : List Am} (hl : Ok l) (hm : Ok m) {key t kn : Int} (h : ∀ y, cnt key t kn y = true → (y ∈ l ↔ y ∈ m)) : vl l key t kn = vl m key t kn := by
  unfold vl
  rw [Best_uniq hm.inc (best_is hl.inc key t kn) (best_is hm.inc key t kn) h]
/-- what does not count changes nothing -/
theorem vl_ins_no {l : List Am} {x : Am} (h : addE l x = 0) {key t kn : Int} (hx : cnt key t kn x = false) : vl (ins l x) key t kn = vl l key t kn :=
  vl_eq (ok_ins h) ((err_iff l).1 (addE_zero h).1) fun y hy => by
    rw [mem_ins]
    constructor
    · rintro (rfl | h2)
      · rw [hx] at hy; cases hy
      · exact h2
    · exact .inr
theorem cnt_known {key t kn : Int} {x : Am} (h : kn < x.known) : cnt key t kn x = false := by unfold cnt; rw [decide_eq_false (show ¬ x.known ≤ kn by omega)]; simp
theorem cnt_at {key t kn : Int} {x : Am} (h : t < x.at_) : cnt key t kn x = false := by unfold cnt; rw [decide_eq_false (show ¬ x.at_ ≤ t by omega)]; simp
theorem cnt_key {key t kn : Int} {x : Am} (h : key ≠ x.key) : cnt key t kn x = false := by unfold cnt; rw [decide_eq_false (show ¬ x.key = key from fun e => h e.symm)]; simp
theorem valE_ins {l : List Am} {x : Am} (h : addE l x = 0) (key t kn : Int) : valE (ins l x) key t kn = valE l key t kn := by
  unfold valE
  rw [if_pos ((err_iff _).2 (ok_ins h)), if_pos (addE_zero h).1]
theorem val_ins {l : List Am} {x : Am} (h : addE l x = 0) {key t kn : Int} (hv : vl (ins l x) key t kn = vl l key t kn) : val (ins l x) key t kn = val l key t kn := by
  unfold val
  rw [valE_ins h, hv]
/-- another one counts -/
theorem vl_ins_other {l : List Am} {x : Am} (h : addE l x = 0) {key t kn : Int} {y : Am} (hy : y ∈ l) (hc : cnt key t kn y = true) (hlt : x.at_ < y.at_ ∨ x.at_ = y.at_ ∧ x.no < y.no) : vl (ins l x) key t kn = vl l key t kn := by
  have ho := (err_iff l).1 (addE_zero h).1
  have h1 := best_is ho.inc key t kn
  cases hb : best l key t kn with
  | none => rw [hb] at h1; rw [h1 y hy] at hc; cases hc
  | some m =>
    rw [hb] at h1
    obtain ⟨m1, m2, m3⟩ := h1
    have h2 : Best (ins l x) key t kn (some m) := by
      refine ⟨(mem_ins l x m).2 (.inr m1), m2, fun z hz hzc => ?_⟩
      rcases (mem_ins l x z).1 hz with rfl | hz
      · have := m3 y hy hc; omega
      · exact m3 z hz hzc
    unfold vl
    rw [Best_uniq (ok_ins h).inc (best_is (ok_ins h).inc key t kn) h2 (fun _ _ => Iff.rfl), hb]
/-- the new one counts -/
theorem vl_ins_new {l : List Am} {x : Am} (h : addE l x = 0) {key t kn : Int} (hc : cnt key t kn x = true) (hno : ∀ y ∈ l, cnt key t kn y = true → ¬ (x.at_ < y.at_ ∨ x.at_ = y.at_ ∧ x.no < y.no)) : vl (ins l x) key t kn = (x.value, !x.gone) := by
  have h2 : Best (ins l x) key t kn (some x) := by
    refine ⟨(mem_ins l x x).2 (.inl rfl), hc, fun z hz hzc => ?_⟩
    rcases (mem_ins l x z).1 hz with rfl | hz
    · exact .inr ⟨rfl, Int.le_refl _⟩
    · have := hno z hz hzc; omega
  unfold vl
  rw [Best_uniq (ok_ins h).inc (best_is (ok_ins h).inc key t kn) h2 (fun _ _ => Iff.rfl)]
  rfl
theorem cnt_iff {key t kn : Int} {x : Am} : cnt key t kn x = true ↔ x.key = key ∧ x.known ≤ kn ∧ x.at_ ≤ t := by
  unfold cnt; simp [and_assoc]
theorem rt_ok {l : List Am} (h1 : l.length ≤ 30) (h2 : err l = 0) : Ok l := (err_iff l).1 h2

/- the steps are the value -/
/-- the last step up to a time -/
def lastS (t : Int) (z : St) (s : List St) : St := s.foldl (fun b x => if x.at_ ≤ t then x else b) z
theorem lastS_app (t : Int) (z : St) (s r : List St) : lastS t z (s ++ r) = lastS t (lastS t z s) r := by unfold lastS; rw [List.foldl_append]
theorem lastS_far {t : Int} {r : List St} (z : St) (h : ∀ y ∈ r, t < y.at_) : lastS t z r = z := by
  unfold lastS
  induction r with
  | nil => rfl
  | cons a r ih =>
    rw [List.foldl_cons, if_neg (by have := h a (by simp); omega)]
    exact ih (fun y hy => h y (by simp [hy]))
theorem lastS_step {s : List St} (hinc : s.Pairwise (fun x y => x.at_ < y.at_)) (t : Int) (z : St) : lastS t z s = lastS (t - 1) z s ∨ ∃ x ∈ s, x.at_ = t ∧ lastS t z s = x := by
  induction s generalizing z with
  | nil => exact .inl rfl
  | cons a r ih =>
    rw [List.pairwise_cons] at hinc
    show lastS t (if a.at_ ≤ t then a else z) r = lastS (t - 1) (if a.at_ ≤ t - 1 then a else z) r ∨ ∃ x ∈ a :: r, x.at_ = t ∧ lastS t (if a.at_ ≤ t then a else z) r = x
    by_cases h1 : a.at_ ≤ t - 1
    · rw [if_pos h1, if_pos (by omega)]
      rcases ih hinc.2 a with h | ⟨x, hx, h⟩
      · exact .inl h
      · exact .inr ⟨x, by simp [hx], h⟩
    · rw [if_neg h1]
      by_cases h2 : a.at_ ≤ t
      · rw [if_pos h2]
        exact .inr ⟨a, by simp, by omega, lastS_far a (fun y hy => by have := hinc.1 y hy; omega)⟩
      · rw [if_neg h2]
        rcases ih hinc.2 z with h | ⟨x, hx, h⟩
        · exact .inl h
        · exact .inr ⟨x, by simp [hx], h⟩
theorem hist_val {l : List Am} (hl : ∀ x ∈ l, right x = true) {key kn : Int} {s : List St} (h : Hist l key kn s) {t : Int} (ht : -1 ≤ t) : ((lastS t ⟨0, 0, false⟩ s).value, (lastS t ⟨0, 0, false⟩ s).ok) = vl l key t kn := by
  obtain ⟨n, hn⟩ : ∃ n : Nat, (n : Int) = t + 1 := ⟨(t + 1).toNat, by omega⟩
  induction n generalizing t with
  | zero =>
    have e : t = -1 := by omega
    subst e
    have : lastS (-1) ⟨0, 0, false⟩ s = ⟨0, 0, false⟩ := by
      have h0 : ∀ x ∈ s, 0 ≤ x.at_ := fun x hx => ((h.mem x).1 hx).1
      clear h
      unfold lastS
      induction s with
      | nil => rfl
      | cons a r ih =>
        rw [List.foldl_cons, if_neg (by have := h0 a (by simp); omega)]
        exact ih (fun x hx => h0 x (by simp [hx]))
    rw [this, vl_neg hl]
  | succ n ih =>
    have ih := ih (t := t - 1) (by omega) (by omega)
    have hcases : lastS t ⟨0, 0, false⟩ s = lastS (t - 1) ⟨0, 0, false⟩ s ∨ ∃ x ∈ s, x.at_ = t ∧ lastS t ⟨0, 0, false⟩ s = x := by
      exact lastS_step h.inc t _
    rcases hcases with hc | ⟨x, hx, hxt, hc⟩
    · rw [hc, ih]
      -- no step at t
      apply Classical.byContradiction
      intro hne
      have hm := (h.mem ⟨t, (vl l key t kn).1, (vl l key t kn).2⟩).2 ⟨by show 0 ≤ t; omega, rfl, fun e => hne e.symm⟩
      have : lastS t ⟨0, 0, false⟩ s = ⟨t, (vl l key t kn).1, (vl l key t kn).2⟩ := by
        obtain ⟨i, hi, he⟩ := List.getElem_of_mem hm
        have h1 : s = s.take i ++ s[i] :: s.drop (i + 1) := by rw [← List.drop_eq_getElem_cons hi, List.take_append_drop]
        rw [h1, lastS_app]
        show lastS t (if s[i].at_ ≤ t then s[i] else _) (s.drop (i + 1)) = _
        rw [he, if_pos (by show t ≤ t; omega)]
        have h2 : ∀ y ∈ s.drop (i + 1), t < y.at_ := fun y hy => by
          obtain ⟨j, hj, rfl⟩ := List.getElem_of_mem hy
          rw [List.getElem_drop]
          rw [List.length_drop] at hj
          have := List.pairwise_iff_getElem.1 h.inc i (i + 1 + j) hi (by omega) (by omega)
          rw [he] at this
          exact this
        exact lastS_far _ h2
      rw [this] at hc
      have h6 : ((lastS (t - 1) ⟨0, 0, false⟩ s).value, (lastS (t - 1) ⟨0, 0, false⟩ s).ok) = vl l key t kn := by rw [← hc]
      rw [ih] at h6
      exact hne h6
    · rw [hc]
      have := ((h.mem x).1 hx).2.1
      rwa [hxt] at this
end Vn
end Go.Proofs.Ytcifhigeieoogaa
