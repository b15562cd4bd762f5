/- Walks of Same and of slices.EqualFunc at it. -/
import Derived.Test.YtnnddmhimnekaaaW6
namespace Go.Proofs.Ytnnddmhimnekaaa
open Go.RowKit
set_option linter.unusedVariables false
set_option linter.unusedSimpArgs false

theorem wpList_fn2 {P : Program} {X : World} {ops : Array Oper} {rest : List Oper} {o : Oper} {a : Act} {Q : Exit → Act → World → Prop} (hgd : o.guard = none) (fv p q : Operand) (ts : Array TypeId)
    (ho : o.op = .call { callee := .value fv, args := #[p, q], argTypes := ts }) (g : FuncId) (lb : List Value) (hf : a.eval fv = .func (.func g) #[] lb.toArray) (vp vq : Value) (hp : a.eval p = vp) (hq : a.eval q = vq)
    (eg : ∀ args w, (callFunc g args).run P w = .ok (.enter g args) w) {R : Ending → World → Prop} (hc : Calls P g (vp :: vq :: lb).toArray X R) (hR : ∀ e w', R e w' → ∃ v, e = .returned v ∧ wpList P ops Q rest (a.put o.dst v) w') :
    wpList P ops Q (o :: rest) a X :=
  wpList_plain hgd fun K hK => by
    have h := step_fn2 (ops := ops) (E := True) (K := K) (Q := Q) hgd fv p q ts ho g lb hf vp vq hp hq eg hc (fun e w' h => by
      obtain ⟨v, rfl, hk⟩ := hR e w' h
      exact ⟨v, rfl, hK _ _ hk⟩)
    rwa [if_pos (by simp [Region.wanted, hgd])] at h

theorem sameL_len {l l' : List Cd.Vl} (h : l.length ≠ l'.length) : Cd.sameL l l' = false := by
  induction l generalizing l' with
  | nil => cases l' with
    | nil => simp at h
    | cons => rfl
  | cons x r ih => cases l' with
    | nil => rfl
    | cons y t => rw [Cd.sameL, ih (by simpa using h), Bool.and_false]
theorem sameL_take {l l' : List Cd.Vl} (k : Nat) (h : k < l.length) (h' : k < l'.length) : Cd.sameL (l.take (k + 1)) (l'.take (k + 1)) = (Cd.sameL (l.take k) (l'.take k) && Cd.same l[k] l'[k]) := by
  induction l generalizing l' k with
  | nil => simp at h
  | cons x r ih =>
    cases l' with
    | nil => simp at h'
    | cons y t =>
      cases k with
      | zero => simp [Cd.sameL]
      | succ k =>
        have := ih (l' := t) k (by simpa using h) (by simpa using h')
        simp only [List.take_succ_cons, Cd.sameL, List.getElem_cons_succ, this, Bool.and_assoc]
theorem sameL_no {l l' : List Cd.Vl} (k : Nat) (h : k < l.length) (h' : k < l'.length) (hn : Cd.same l[k] l'[k] = false) : Cd.sameL l l' = false := by
  induction l generalizing l' k with
  | nil => simp at h
  | cons x r ih =>
    cases l' with
    | nil => rfl
    | cons y t =>
      cases k with
      | zero => simp only [List.getElem_cons_zero] at hn; simp [Cd.sameL, hn]
      | succ k => rw [Cd.sameL, ih k (by simpa using h) (by simpa using h') (by simpa using hn), Bool.and_false]

def SamePost (r : Bool) (w : World) (e : Ending) (w' : World) : Prop := e = .returned (.bool r) ∧ Below w.heap.size w w'
def SameC (a : Cd.Vl) : Prop := ∀ (b : Cd.Vl) (x y : Value) (P Q : Nat → Prop) (w : World), Cd.fits b → IsV P w x a → IsV Q w y b → Calls Try.prog 21 #[x, y] w (SamePost (Cd.same a b) w)

set_option maxRecDepth 100000 in
set_option maxHeartbeats 2000000 in
theorem equalFunc_any (l l' : List Cd.Vl) (A A2 : Option Addr) (c c2 : Nat) (P Q : Nat → Prop) (w : World) (hv : IsVs P w (.slice A l.length c) l) (hv2 : IsVs Q w (.slice A2 l'.length c2) l') (hl : l.length ≤ 1000000) (hl2 : l'.length ≤ 1000000)
    (hf : ∀ x ∈ l', Cd.fits x) (ih : ∀ x ∈ l, SameC x) :
    Calls Try.prog 35 #[.slice A l.length c, .slice A2 l'.length c2, .func (.func 21) #[] #[]] w (SamePost (Cd.sameL l l') w) := by
  have HV := Lib.hid hv
  have HV2 := Lib.hid hv2
  have HFt := Lib.hid hf
  have HI := Lib.hid ih
  clear hv hv2 ih hf
  by_cases hne : l.length = l'.length
  rotate_left
  · have HR := Lib.hid (sameL_len hne)
    have hnb : ((l.length : Int) != (l'.length : Int)) = true := by simp; omega
    go_enter Try.func35, Try.ntmps35
    go_wp2_with (fail)
    go_ret
    exact ⟨ret_bool HR.out.symm, Below.refl _ _⟩
  have hnb : ((l.length : Int) != (l'.length : Int)) = false := by simp [hne]
  have h1 : l.length ≤ l'.length := by omega
  have h2 : l'.length ≤ l.length := by omega
  clear hne
  go_enter Try.func35, Try.ntmps35
  go_wp2_with (fail)
  go_loopw [17] (fun i wr => ∃ k : Nat, k ≤ l.length ∧ i = .int .i64 k ∧ Hid (Cd.sameL (l.take k) (l'.take k) = true) ∧ Hid (Below w.heap.size w wr)) (fun i _ => l.length - (intOf i).toNat)
  case atStart => exact ⟨0, Nat.zero_le _, rfl, Lib.hid (by simp [Cd.sameL]), Below.refl _ _⟩
  case round =>
    obtain ⟨k, hk, rfl, HS, BR⟩ := hrel
    by_cases hlt : k < l.length
    · have hlt2 : k < l'.length := by omega
      obtain ⟨b, off, A', c', rfl, hb, _, x0, x1, x2, x3, HE⟩ := isVs_at (HV.out.under BR.out) hlt
      obtain ⟨b2, off2, A3, c3, rfl, hb2, _, y0, y1, y2, y3, HE2⟩ := isVs_at (HV2.out.under BR.out) hlt2
      have HC := Lib.hid (HI.out l[k] (List.getElem_mem hlt) l'[k])
      have HFk := Lib.hid (HFt.out l'[k] (List.getElem_mem hlt2))
      have HT := Lib.hid (sameL_take (l := l) (l' := l') k hlt hlt2)
      have HN := Lib.hid (sameL_no (l := l) (l' := l') k hlt hlt2)
      generalize l[k] = x at *
      generalize l'[k] = y at *
      have HA := fun o o' => Lib.hid (blw2 wr o o')
      have y0' := World.cell?_alloc_lt wr (.cells #[.int .i64 x.kind, .int .i64 x.num, .string x.str, .slice A' x.elems.length c'] 24) ⟨b2, off2 + k * 4, none⟩ hb2
      go_wp2_with (fail)
      refine (HC.out _ _ P Q _ HFk.out (HE.out.under (blw2 _ _ _)) (HE2.out.under (blw2 _ _ _))).mono ?_
      rintro e w2 ⟨rfl, hb2'⟩
      have B2 := Lib.hid ((BR.out.up (blw2 _ _ _)).up hb2')
      clear hb2'
      cases hs : Cd.same x y
      · have HR := Lib.hid (HN.out hs)
        clear hs
        go_wp2_with (fail)
        go_ret
        exact ⟨ret_bool HR.out.symm, B2.out⟩
      · have HS2 := Lib.hid (show Cd.sameL (l.take (k + 1)) (l'.take (k + 1)) = true by rw [HT.out, HS.out, hs]; rfl)
        clear hs
        go_wp2_with (fail)
        go_roundw
        case rel => exact ⟨k + 1, by omega, by go_num, HS2, B2⟩
        case measure => first | omega | (simp [intOf]; done) | (simp [intOf]; omega)
    · have HR := Lib.hid (show Cd.sameL l l' = true by have := HS.out; rwa [List.take_of_length_le (by omega), List.take_of_length_le (by omega)] at this)
      go_wp2_with (fail)
      go_ret
      exact ⟨ret_bool HR.out.symm, BR.out⟩

set_option maxRecDepth 100000 in
set_option maxHeartbeats 2000000 in
theorem same_mk (k n : Int) (s : ByteArray) (l : List Cd.Vl) (k' n' : Int) (s' : ByteArray) (l' : List Cd.Vl) (A A2 : Option Addr) (c c2 : Nat) (P Q : Nat → Prop) (w : World)
    (hv : IsVs P w (.slice A l.length c) l) (hv2 : IsVs Q w (.slice A2 l'.length c2) l') (hl : l.length ≤ 1000000) (hl2 : l'.length ≤ 1000000) (hf : ∀ x ∈ l', Cd.fits x) (ih : ∀ x ∈ l, SameC x) :
    Calls Try.prog 21 #[.agg #[.int .i64 k, .int .i64 n, .string s, .slice A l.length c], .agg #[.int .i64 k', .int .i64 n', .string s', .slice A2 l'.length c2]] w (SamePost (Cd.same (.mk k n s l) (.mk k' n' s' l')) w) := by
  have HV := Lib.hid hv
  have HV2 := Lib.hid hv2
  have HFt := Lib.hid hf
  have HI := Lib.hid ih
  clear hv hv2 ih hf
  by_cases h1 : k = k'
  rotate_left
  · have HR := Lib.hid (show Cd.same (.mk k n s l) (.mk k' n' s' l') = false by simp [Cd.same, h1])
    have hb1 : (k == k') = false := by simp [h1]
    clear h1
    go_enter Try.func21, Try.ntmps21
    go_wp2_with (fail)
    go_ret
    exact ⟨ret_bool HR.out.symm, blw2 _ _ _⟩
  by_cases h2 : n = n'
  rotate_left
  · have HR := Lib.hid (show Cd.same (.mk k n s l) (.mk k' n' s' l') = false by simp [Cd.same, h2])
    have hb1 : (k == k') = true := by simp [h1]
    have hb2 : (n == n') = false := by simp [h2]
    clear h1 h2
    go_enter Try.func21, Try.ntmps21
    go_wp2_with (fail)
    go_ret
    exact ⟨ret_bool HR.out.symm, blw2 _ _ _⟩
  by_cases h3 : s = s'
  rotate_left
  · have HR := Lib.hid (show Cd.same (.mk k n s l) (.mk k' n' s' l') = false by simp [Cd.same, h3])
    have hb1 : (k == k') = true := by simp [h1]
    have hb2 : (n == n') = true := by simp [h2]
    have hb3 : (s.toList == s'.toList) = false := by
      rw [beq_eq_false_iff_ne, ByteArray.toList_eq, ByteArray.toList_eq]
      intro e
      apply h3
      cases s; cases s'
      congr
      exact Array.ext' e
    clear h1 h2 h3
    go_enter Try.func21, Try.ntmps21
    go_wp2_with (fail)
    go_ret
    exact ⟨ret_bool HR.out.symm, blw2 _ _ _⟩
  have HR := Lib.hid (show Cd.same (.mk k n s l) (.mk k' n' s' l') = Cd.sameL l l' by simp [Cd.same, h1, h2, h3])
  have hb1 : (k == k') = true := by simp [h1]
  have hb2 : (n == n') = true := by simp [h2]
  have hb3 : (s.toList == s'.toList) = true := by simp [h3]
  clear h1 h2 h3
  go_enter Try.func21, Try.ntmps21
  go_wp2_with (fail)
  refine (equalFunc_any l l' A A2 c c2 P Q _ (HV.out.under (blw2 _ _ _)) (HV2.out.under (blw2 _ _ _)) hl hl2 HFt.out HI.out).mono ?_
  rintro e w2 ⟨rfl, hb⟩
  have B2 := Lib.hid ((blw2 w _ _).up hb)
  clear hb
  go_wp2_with (fail)
  go_ret
  exact ⟨ret_bool HR.out.symm, B2.out⟩

theorem Same_any (a : Cd.Vl) : Cd.fits a → SameC a := by
  induction a using Cd.Vl.ind with
  | h k n s l ih =>
    intro hfa b x y P Q w hfb hx hy
    obtain ⟨A, c, rfl, hl⟩ := hx.opens
    obtain ⟨A2, c2, rfl, hl2⟩ := hy.opens
    obtain ⟨f1, _, _, f4⟩ := Cd.fits_mk.1 hfa
    cases b with
    | mk k' n' s' l' =>
      obtain ⟨g1, _, _, g4⟩ := Cd.fits_mk.1 hfb
      exact same_mk k n s l k' n' s' l' A A2 c c2 P Q w hl hl2 f1 g1 g4 (fun z hz => ih z hz (f4 z hz))

end Go.Proofs.Ytnnddmhimnekaaa
