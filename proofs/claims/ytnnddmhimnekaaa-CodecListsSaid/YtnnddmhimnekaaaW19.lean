/- Walks of the reference's Same, count, Few; few; Int, Text, List. -/
import Derived.Test.YtnnddmhimnekaaaW18
import Derived.Test.YtnnddmhimnekaaaW7
import Derived.Test.YtnnddmhimnekaaaPlain4
namespace Go.Proofs.Ytnnddmhimnekaaa
open Go.RowKit
set_option linter.unusedVariables false
set_option linter.unusedSimpArgs false

theorem cell_under {W w' : World} {a : Addr} {v : Value} (hb : Below W.heap.size W w') (h : W.cell? a = some v) : w'.cell? a = some v := (hb.cell (cell_lt h)).trans h
theorem cell_drew {W : World} {a : Addr} {v : Value} (h : W.cell? a = some v) : W.drew.cell? a = some v := h

def RSameC (a : Cd.Vl) : Prop := ∀ (b : Cd.Vl) (x y : Value) (P Q : Nat → Prop) (w : World), Cd.fits b → IsV P w x a → IsV Q w y b → Calls Try.prog 20 #[x, y] w (SamePost (Cd.same a b) w)

theorem four_pair (w : World) (a b c d a' b' c' d' : Value) : Four ((w.alloc (.cells #[a, b, c, d] 24)).alloc (.cells #[a', b', c', d'] 24)) w.heap.size a b c d ∧ Four ((w.alloc (.cells #[a, b, c, d] 24)).alloc (.cells #[a', b', c', d'] 24)) (w.heap.size + 1) a' b' c' d' := by
  refine ⟨(Four.new w a b c d).alloc _, ?_⟩
  have := Four.new (w.alloc (.cells #[a, b, c, d] 24)) a' b' c' d'
  simpa using this

set_option maxRecDepth 100000 in
set_option maxHeartbeats 4000000 in
theorem refSame_mk (k n : Int) (s : ByteArray) (l : List Cd.Vl) (k' n' : Int) (s' : ByteArray) (l' : List Cd.Vl) (A A2 : Option Addr) (c c2 : Nat) (P Q : Nat → Prop) (w : World)
    (hv : IsVs P w (.slice A l.length c) l) (hv2 : IsVs Q w (.slice A2 l'.length c2) l') (hl : l.length ≤ 1000000) (hl2 : l'.length ≤ 1000000) (hf : ∀ x ∈ l', Cd.fits x) (ih : ∀ x ∈ l, RSameC x) :
    Calls Try.prog 20 #[.agg #[.int .i64 k, .int .i64 n, .string s, .slice A l.length c], .agg #[.int .i64 k', .int .i64 n', .string s', .slice A2 l'.length c2]] w (SamePost (Cd.same (.mk k n s l) (.mk k' n' s' l')) w) := by
  have HV := Lib.hid hv
  have HV2 := Lib.hid hv2
  have HFt := Lib.hid hf
  have HI := Lib.hid ih
  clear hv hv2 ih hf
  by_cases h1 : k = k'
  rotate_left
  · have HR := Lib.hid (show Cd.same (.mk k n s l) (.mk k' n' s' l') = false by simp [Cd.same, h1])
    have hb1 : (k != k') = true := by simp [h1]
    clear h1
    go_enter Try.func20, Try.ntmps20
    go_wp2_with (fail)
    go_ret
    exact ⟨ret_bool HR.out.symm, blw2 _ _ _⟩
  by_cases h2 : n = n'
  rotate_left
  · have HR := Lib.hid (show Cd.same (.mk k n s l) (.mk k' n' s' l') = false by simp [Cd.same, h2])
    have hb1 : (k != k') = false := by simp [h1]
    have hb2 : (n != n') = true := by simp [h2]
    clear h1 h2
    go_enter Try.func20, Try.ntmps20
    go_wp2_with (fail)
    go_ret
    exact ⟨ret_bool HR.out.symm, blw2 _ _ _⟩
  by_cases h3 : s = s'
  rotate_left
  · have HR := Lib.hid (show Cd.same (.mk k n s l) (.mk k' n' s' l') = false by simp [Cd.same, h3])
    have hb1 : (k != k') = false := by simp [h1]
    have hb2 : (n != n') = false := by simp [h2]
    have hb3 : (s.toList != s'.toList) = true := by
      rw [bne_iff_ne, ByteArray.toList_eq, ByteArray.toList_eq]
      intro e
      apply h3
      cases s; cases s'
      congr
      exact Array.ext' e
    have hb4 : (s.toList == s'.toList) = false := by
      rw [beq_eq_false_iff_ne]; exact bne_iff_ne.1 hb3
    clear h1 h2 h3
    go_enter Try.func20, Try.ntmps20
    go_wp2_with (fail)
    go_ret
    exact ⟨ret_bool HR.out.symm, blw2 _ _ _⟩
  have HR := Lib.hid (show Cd.same (.mk k n s l) (.mk k' n' s' l') = Cd.sameL l l' by simp [Cd.same, h1, h2, h3])
  have hb1 : (k != k') = false := by simp [h1]
  have hb2 : (n != n') = false := by simp [h2]
  have hb3 : (s.toList != s'.toList) = false := by simp [h3]
  have hb4 : (s.toList == s'.toList) = true := by simp [h3]
  clear h1 h2 h3
  by_cases hll : l.length = l'.length
  rotate_left
  · have HL := Lib.hid (sameL_len hll)
    have hb5 : ((l.length : Int) != (l'.length : Int)) = true := by rw [bne_iff_ne]; omega
    have hb6 : (l.length != l'.length) = true := by rw [bne_iff_ne]; omega
    clear hll
    go_enter Try.func20, Try.ntmps20
    go_wp2_with (fail)
    go_ret
    exact ⟨ret_bool (by rw [HR.out, HL.out]), blw2 _ _ _⟩
  have hb5 : ((l.length : Int) != (l'.length : Int)) = false := by simp [hll]
  have hb6 : (l.length != l'.length) = false := by simp [hll]
  have HLL := Lib.hid hll
  have hll1 : l.length ≤ l'.length := by omega
  have hll2 : l'.length ≤ l.length := by omega
  clear hll
  go_enter Try.func20, Try.ntmps20
  go_wp2_with (fail)
  have F0 := Lib.hid (four_pair w (.int .i64 k) (.int .i64 n) (.string s) (.slice A l.length c) (.int .i64 k') (.int .i64 n') (.string s') (.slice A2 l'.length c2))
  go_loopw [5] (fun i wr => ∃ j : Nat, j ≤ l.length ∧ i = .int .i64 j ∧ Hid (Cd.sameL (l.take j) (l'.take j) = true) ∧ Hid (Below w.heap.size w wr) ∧ Hid (Four wr w.heap.size (.int .i64 k) (.int .i64 n) (.string s) (.slice A l.length c)) ∧ Hid (Four wr (w.heap.size + 1) (.int .i64 k') (.int .i64 n') (.string s') (.slice A2 l'.length c2))) (fun i _ => l.length - (intOf i).toNat)
  case atStart => exact ⟨0, Nat.zero_le _, rfl, Lib.hid (by simp [Cd.sameL]), Lib.hid (blw2 _ _ _), F0.out.1, F0.out.2⟩
  case round =>
    obtain ⟨j, hj, rfl, HS, BR, HF, HF2⟩ := hrel
    clear F0
    have hc3 := HF.out.c3
    have hc4 := HF2.out.c3
    by_cases hlt : j < l.length
    · have hlt2 : j < l'.length := by omega
      obtain ⟨b, off, A', c', rfl, hb, _, e0, e1, e2, e3, HE⟩ := isVs_at (HV.out.under BR.out) hlt
      obtain ⟨b2, off2, A3, c3, rfl, hb2, _, g0, g1, g2, g3, HE2⟩ := isVs_at (HV2.out.under BR.out) hlt2
      have HC := Lib.hid (HI.out l[j] (List.getElem_mem hlt) l'[j])
      have HT := Lib.hid (sameL_take j hlt hlt2)
      have HN := Lib.hid (sameL_no j hlt hlt2)
      have HFx := Lib.hid (HFt.out l'[j] (List.getElem_mem hlt2))
      have hj0 : (0 : Int) ≤ (j : Int) := by omega
      have hj1 : (j : Int) < (l.length : Int) := by omega
      have hj2 : (j : Int) < (l'.length : Int) := by omega
      generalize l[j] = x at *
      generalize l'[j] = y at *
      generalize x.kind = xk at *
      generalize x.num = xn at *
      generalize x.str = xs at *
      generalize x.elems.length = xl at *
      generalize y.kind = yk at *
      generalize y.num = yn at *
      generalize y.str = ys at *
      generalize y.elems.length = yl at *
      go_wp2_with (fail)
      go_region_held3 (fun X => X.cell? ⟨w.heap.size, 3, none⟩ = some (.slice (some ⟨b, off, none⟩) l.length c) ∧ X.cell? ⟨w.heap.size + 1, 3, none⟩ = some (.slice (some ⟨b2, off2, none⟩) l'.length c2) ∧
          X.cell? ⟨b, off + j * 4, none⟩ = some (.int .i64 xk) ∧ X.cell? ⟨b, off + j * 4 + 1, none⟩ = some (.int .i64 xn) ∧ X.cell? ⟨b, off + j * 4 + 1 + 1, none⟩ = some (.string xs) ∧ X.cell? ⟨b, off + j * 4 + 1 + 1 + 1, none⟩ = some (.slice A' xl c') ∧
          X.cell? ⟨b2, off2 + j * 4, none⟩ = some (.int .i64 yk) ∧ X.cell? ⟨b2, off2 + j * 4 + 1, none⟩ = some (.int .i64 yn) ∧ X.cell? ⟨b2, off2 + j * 4 + 1 + 1, none⟩ = some (.string ys) ∧ X.cell? ⟨b2, off2 + j * 4 + 1 + 1 + 1, none⟩ = some (.slice A3 yl c3))
        (first
          | exact ⟨cell_under HB2.out hc3, cell_under HB2.out hc4, cell_under HB2.out e0, cell_under HB2.out e1, cell_under HB2.out e2, cell_under HB2.out e3, cell_under HB2.out g0, cell_under HB2.out g1, cell_under HB2.out g2, cell_under HB2.out g3⟩
          | exact ⟨cell_drew hc3, cell_drew hc4, cell_drew e0, cell_drew e1, cell_drew e2, cell_drew e3, cell_drew g0, cell_drew g1, cell_drew g2, cell_drew g3⟩)
        ((go_at_call 20
          refine (HC.out _ _ P Q _ HFx.out HE.out.drew HE2.out.drew).mono ?_
          rintro e w2 ⟨rfl, hb2⟩
          have HB2 := Lib.hid hb2
          clear hb2))
      have B2 := Lib.hid ((below_drew BR.out).up HB2.out)
      have HG := Lib.hid (HF.out.drew.under HB2.out)
      have HG2 := Lib.hid (HF2.out.drew.under HB2.out)
      cases hs : Cd.same x y
      · have HQ := Lib.hid (HN.out hs)
        clear hs
        go_wp2_with (fail)
        go_ret
        exact ⟨ret_bool (by rw [HR.out, HQ.out]), B2.out⟩
      · have HS2 := Lib.hid (show Cd.sameL (l.take (j + 1)) (l'.take (j + 1)) = true by rw [HT.out, HS.out, hs]; rfl)
        clear hs
        go_wp2_with (fail)
        go_roundw
        case rel => exact ⟨j + 1, by omega, by go_num, HS2, B2, HG, HG2⟩
        case measure => first | omega | (simp [intOf]; done) | (simp [intOf]; omega)
    · have HQ := Lib.hid (show Cd.sameL l l' = true by have := HS.out; rwa [List.take_of_length_le (by omega), List.take_of_length_le (by omega)] at this)
      go_wp2_with (fail)
      go_ret
      exact ⟨ret_bool (by rw [HR.out, HQ.out]), BR.out⟩

theorem refSame_any (a : Cd.Vl) : Cd.fits a → RSameC a := by
  induction a using Cd.Vl.ind with
  | h k n s l ih =>
    intro hfa b x y P Q w hfb hx hy
    obtain ⟨A, c, rfl, hl⟩ := hx.opens
    obtain ⟨A2, c2, rfl, hl2⟩ := hy.opens
    obtain ⟨f1, _, _, f4⟩ := Cd.fits_mk.1 hfa
    cases b with
    | mk k' n' s' l' =>
      obtain ⟨g1, _, _, g4⟩ := Cd.fits_mk.1 hfb
      exact refSame_mk k n s l k' n' s' l' A A2 c c2 P Q w hl hl2 f1 g1 g4 (fun z hz => ih z hz (f4 z hz))

end Go.Proofs.Ytnnddmhimnekaaa
