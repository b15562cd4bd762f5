/- Walks of possible, lines; the iterator of lines. -/
import Derived.Test.YtdcndhfjfllehaaW7
namespace Go.Proofs.Ytdcndhfjfllehaa
open Go.RowKit
set_option linter.unusedVariables false
set_option linter.unusedSimpArgs false
attribute [local go_sem] Oper.semAt_some

theorem max_ex {xs : List Int} (h : 0 < xs.length) : ∃ m, MaxP xs m := by
  induction xs with
  | nil => simp at h
  | cons x r ih =>
    by_cases hr : 0 < r.length
    · obtain ⟨m, h1, h2⟩ := ih hr
      by_cases hx : m ≤ x
      · exact ⟨x, fun y hy => by
          rcases List.mem_cons.1 hy with rfl | hy
          · exact Int.le_refl _
          · have := h1 y hy; omega, by simp⟩
      · exact ⟨m, fun y hy => by
          rcases List.mem_cons.1 hy with rfl | hy
          · omega
          · exact h1 y hy, by simp [h2]⟩
    · obtain rfl : r = [] := List.eq_nil_of_length_eq_zero (by omega)
      exact ⟨x, by simp, by simp⟩
theorem MaxP.uniq {xs : List Int} {m n : Int} (h : MaxP xs m) (k : MaxP xs n) : m = n := by
  have := h.1 n k.2; have := k.1 m h.2; omega
theorem MaxP.wide {xs : List Int} {m rm : Int} (h : MaxP xs m) : Bk.wide xs rm = decide (rm < m) := by
  rw [Bool.eq_iff_iff]
  unfold Bk.wide
  rw [List.any_eq_true, decide_eq_true_eq]
  constructor
  · rintro ⟨x, hx, h1⟩
    have := h.1 x hx
    simp at h1; omega
  · intro h1
    exact ⟨m, h.2, by simpa using h1⟩
theorem Max_is (v : Value) (xs : List Int) (m : Int) (w : World) (hv : IsInts w v xs) (hl : xs.length ≤ 9223372036854775807) (hm : MaxP xs m) :
    Calls Try.prog 29 #[v] w fun e w' => e = .returned (.int .i64 m) ∧ w' = w := by
  have hne : 0 < xs.length := List.length_pos_iff.2 (by intro e; subst e; exact absurd hm.2 (by simp))
  refine (Max_any v xs w hv hl hne).mono ?_
  rintro e w' ⟨n, hn, rfl, rfl⟩
  rw [hm.uniq hn]
  exact ⟨rfl, rfl⟩

set_option maxHeartbeats 2000000 in
theorem possible_any (xs : List Int) (A : Option Addr) (cap : Nat) (sp rm : Int) (w : World) (hv : IsInts w (.slice A xs.length cap) xs) (hl : xs.length ≤ 9223372036854775807) :
    Calls Try.prog 23 #[.agg #[.slice A xs.length cap, .int .i64 sp, .int .i64 rm]] w fun e w' => e = .returned (.bool (!Bk.wide xs rm)) ∧ Below w.heap.size w w' := by
  have HV := Lib.hid hv
  have B0 := Lib.hid (al1 w (.cells #[.slice A xs.length cap, .int .i64 sp, .int .i64 rm] 42))
  clear hv
  by_cases h0 : xs.length = 0
  · have HW := Lib.hid (show Bk.wide xs rm = false by rw [List.eq_nil_of_length_eq_zero h0]; rfl)
    have hb : ((xs.length : Int) == 0) = true := by rw [beq_iff_eq]; omega
    clear h0
    go_enter Try.func23, Try.ntmps23
    go_wp2
    go_quiet (fail)
    go_wp2
    go_ret
    exact ⟨ret_bool (by rw [HW.out]; rfl), below_drewN B0.out _⟩
  · obtain ⟨m, hm⟩ := max_ex (xs := xs) (by omega)
    have HM := Lib.hid hm
    have hb : ((xs.length : Int) == 0) = false := by rw [beq_eq_false_iff_ne]; omega
    have HW := Lib.hid (MaxP.wide (rm := rm) hm)
    clear h0 hm
    by_cases hle : m ≤ rm
    · have hd : decide (m ≤ rm) = true := by simpa using hle
      have HD := Lib.hid (show decide (rm < m) = false by simp; omega)
      clear hle
      go_enter Try.func23, Try.ntmps23
      go_wp2
      go_quiet ((go_at_call 29; exact Calls.quiet_of_same (Max_is _ xs m _ (HV.out.below (below_drewN B0.out _)) hl HM.out)))
      go_wp2
      go_ret
      exact ⟨ret_bool (by rw [HW.out, HD.out]; rfl), below_drewN B0.out _⟩
    · have hd : decide (m ≤ rm) = false := by simpa using hle
      have HD := Lib.hid (show decide (rm < m) = true by simp; omega)
      clear hle
      go_enter Try.func23, Try.ntmps23
      go_wp2
      go_quiet ((go_at_call 29; exact Calls.quiet_of_same (Max_is _ xs m _ (HV.out.below (below_drewN B0.out _)) hl HM.out)))
      go_wp2
      go_ret
      exact ⟨ret_bool (by rw [HW.out, HD.out]; rfl), below_drewN B0.out _⟩

set_option maxHeartbeats 400000 in
theorem linesF_any (A : Option Addr) (n cap : Nat) (sp rm : Int) (i : Int) (w : World) :
    Calls Try.prog 30 #[.agg #[.slice A n cap, .int .i64 sp, .int .i64 rm], .int .i64 i] w fun e w' => e = .returned (.func (.func 36) #[] #[.pointer (some ⟨w.heap.size, 0, none⟩), .pointer (some ⟨w.heap.size + 1, 0, none⟩)]) ∧ (w.alloc (.cells #[.slice A n cap, .int .i64 sp, .int .i64 rm] 42)).alloc (.cells #[.int .i64 i] 3) = w' := by
  go_enter Try.func30, Try.ntmps30
  go_wp2
  go_ret
  exact ⟨rfl, rfl⟩

namespace Bk
theorem lines_at {sp rm : Int} {ws : List Int} (h : pos sp ws) {t : Nat} (ht : t + 1 ≤ ws.length) (hs : sm sp (ws.take (t + 1)) ≤ rm + sp) :
    ∃ hl : t < (lines sp rm ws).length, (lines sp rm ws)[t] = (t + 1, if t + 1 = ws.length then 0 else (rm + sp - sm sp (ws.take (t + 1))) * (rm + sp - sm sp (ws.take (t + 1)))) := by
  have h1 : lc sp rm ws (t + 1) = some (if t + 1 = ws.length then 0 else (rm + sp - sm sp (ws.take (t + 1))) * (rm + sp - sm sp (ws.take (t + 1)))) := by
    rw [lc_eq h, lcS_some (by omega) ht hs]
  have hm := lc_mem.1 h1
  obtain ⟨k, hk, he⟩ := List.getElem_of_mem hm
  have h2 := lines_get hk
  rw [he] at h2
  simp at h2
  subst h2
  exact ⟨hk, he⟩
theorem lines_end {sp rm : Int} {ws : List Int} (h : pos sp ws) {t : Nat} (hs : ¬ (t + 1 ≤ ws.length ∧ sm sp (ws.take (t + 1)) ≤ rm + sp)) : (lines sp rm ws).length ≤ t := by
  rcases Nat.lt_or_ge t (lines sp rm ws).length with hlt | hge
  · exfalso
    have hg := lines_get hlt
    have : lc sp rm ws (t + 1) = some ((lines sp rm ws)[t]).2 := lc_mem.2 (by rw [← hg]; exact List.getElem_mem hlt)
    rw [lc_eq h, lcS] at this
    split at this
    · rename_i h1; exact hs ⟨h1.2.1, h1.2.2⟩
    · cases this
  · exact hge
end Bk

def protB (bt bi n0 : Nat) : Nat → Prop := fun b => b = bt ∨ b = bi ∨ b < n0
theorem istep_drewN {B : Nat} (w : World) (n : Nat) : IStep B w (w.drewN n) := ⟨rfl, rfl, rfl, Nat.le_refl _, fun _ _ h _ => h⟩
theorem istep_drew {B : Nat} (w : World) : IStep B w w.drew := ⟨rfl, rfl, rfl, Nat.le_refl _, fun _ _ h _ => h⟩
theorem rstep_drew {B : Nat} {Pr : Nat → Prop} (w : World) : RStep B Pr w w.drew := ⟨rfl, rfl, rfl, Nat.le_refl _, fun _ _ h _ => h⟩
def encP (i : Nat) (p : Nat × Int) : Array Value := #[.int .i64 ((i : Int) + (p.1 : Int)), .int .i64 p.2]

set_option maxHeartbeats 4000000 in
set_option maxRecDepth 100000 in
theorem lines_iter (bt bi : Nat) (xs : List Int) (A : Option Addr) (cap i : Nat) (sp rm : Int) (w0 W : World) (t0 : W.cell? ⟨bt, 0, none⟩ = some (.slice A xs.length cap)) (t1 : W.cell? ⟨bt, 1, none⟩ = some (.int .i64 sp)) (t2 : W.cell? ⟨bt, 2, none⟩ = some (.int .i64 rm))
    (ti : W.cell? ⟨bi, 0, none⟩ = some (.int .i64 i)) (hv : IsInts w0 (.slice A xs.length cap) xs) (hb0 : Below w0.heap.size w0 W) (hr : Bk.Rt xs sp rm) (hi : i ≤ xs.length) :
    Iter Try.prog 36 #[.pointer (some ⟨bt, 0, none⟩), .pointer (some ⟨bi, 0, none⟩)] (encP i) (Bk.lines sp rm (xs.drop i)) (protB bt bi w0.heap.size) W := by
  intro l J Jx hJ hJx hY h0
  obtain ⟨A', cap', e, hrow⟩ := hv
  injection e with e1 e2 e3
  subst e1 e3
  have HR := Lib.hid hrow
  have HRt := Lib.hid hr
  have T0 := Lib.hid t0
  have T1 := Lib.hid t1
  have T2 := Lib.hid t2
  have TI := Lib.hid ti
  have HY := Lib.hid hY
  have HJ := Lib.hid hJ
  have HJx := Lib.hid hJx
  have hn := hr.len
  obtain ⟨hs1, hs2⟩ := hr.s
  obtain ⟨hr1, hr2⟩ := hr.r
  have HDL := Lib.hid (show (xs.drop i).length = xs.length - i by simp)
  clear hrow hr hY hJ hJx
  refine callsIn_of_wp Try.func36 rfl trivial ?_ rfl
  simp only [Try.ntmps36, List.size_toArray, List.length_cons, List.length_nil, Nat.reduceAdd, Nat.reduceSub, Array.replicate_succ, Array.replicate_zero, List.push_toArray, List.append_toArray, List.nil_append, List.cons_append]
  gi_wp2
  clear t0 t1 t2 ti
  gi_loopw [4, 5, 6] (fun lf j _ wr => ∃ t : Nat, i + t ≤ xs.length ∧ t ≤ (Bk.lines sp rm (xs.drop i)).length ∧ j = .int .i64 ((i : Int) + (t : Int)) ∧ lf = .int .i64 (rm + sp - Bk.sm sp ((xs.drop i).take t)) ∧ 0 ≤ rm + sp - Bk.sm sp ((xs.drop i).take t) ∧ J t wr ∧ RStep W.heap.size (protB bt bi w0.heap.size) W wr) (fun _ j _ _ => xs.length - (intOf j).toNat)
  case atStart => exact ⟨0, by omega, by omega, by simp, by simp [Bk.sm], by simp [Bk.sm]; omega, h0, RStep.refl _ _ _⟩
  case round =>
    obtain ⟨t, ht, htl, rfl, rfl, hlf, hj, hs⟩ := hrel
    have t0 := hs.cell (.inl rfl) T0.out
    have t1 := hs.cell (.inl rfl) T1.out
    have t2 := hs.cell (.inl rfl) T2.out
    have hp0 := Bk.sm_nonneg (sp := sp) (l := (xs.drop i).take t) ⟨hs1, fun x hx => (HRt.out.w x (List.mem_of_mem_drop (List.mem_of_mem_take hx))).1⟩
    by_cases hlt : i + t < xs.length
    · obtain ⟨b, off, rfl, hbb, hc0⟩ := ints_at HR.out hlt
      have hc := hs.cell (.inr (.inr hbb)) ((hb0.cell (p := ⟨b, off + (i + t), none⟩) hbb).trans hc0)
      have hc' : wr.cell? ⟨b, off + ((i : Int) + (t : Int)).toNat, none⟩ = some (.int .i64 xs[i + t]) := by rw [show ((i : Int) + (t : Int)).toNat = i + t by omega]; exact hc
      have hx := HRt.out.w xs[i + t] (List.getElem_mem hlt)
      have HT := Lib.hid (show Bk.sm sp ((xs.drop i).take (t + 1)) = Bk.sm sp ((xs.drop i).take t) + (sp + xs[i + t]) by
        rw [Bk.sm_take sp _ t (by simp; omega), List.getElem_drop])
      obtain ⟨hx1, hx2⟩ := hx
      have k1 : IntKind.i64.wrap (sp + xs[i + t]) = sp + xs[i + t] := by rw [IntKind.wrap_i64]; omega
      have k2 : IntKind.i64.wrap (rm + sp - Bk.sm sp ((xs.drop i).take t) - (sp + xs[i + t])) = rm + sp - Bk.sm sp ((xs.drop i).take t) - (sp + xs[i + t]) := by rw [IntKind.wrap_i64]; omega
      clear hc0 hc'
      have HLf0 := Lib.hid (show rm + sp - Bk.sm sp ((xs.drop i).take (t + 1)) = rm + sp - Bk.sm sp ((xs.drop i).take t) - (sp + xs[i + t]) by rw [HT.out]; omega)
      generalize hdd : rm + sp - Bk.sm sp ((xs.drop i).take t) - (sp + xs[i + t]) = d at *
      have HLf := HLf0
      clear HLf0
      by_cases hneg : d < 0
      · have HE := Lib.hid (Bk.lines_end (rm := rm) (HRt.out.pos.drop i) (t := t) (fun h => by have := h.2; have := HLf.out; omega))
        gi_wp2
        gi_region
        gi_wp2
        refine bodyPost_ret (results_none rfl _ _ _) rfl ?_
        exact ⟨⟨_, rfl⟩, .inl (by rw [show (Bk.lines sp rm (xs.drop i)).length = t by have := HE.out; omega]; exact HJ.out _ _ _ hj (istep_drew wr))⟩
      · obtain ⟨hl, hle⟩ := Bk.lines_at (rm := rm) (HRt.out.pos.drop i) (t := t) (by rw [HDL.out]; omega) (by have := HLf.out; omega)
        have HNx := Lib.hid HLf.out
        have hsq := sq_bd (d := d) (by omega) (by omega)
        obtain ⟨hsq1, hsq2⟩ := hsq
        have HLE := Lib.hid hle
        by_cases hend : i + t + 1 = xs.length
        · clear hle
          have hle := HLE.out
          have hbe : ((i : Int) + (t : Int) + 1 == (xs.length : Int)) = true := by rw [beq_iff_eq]; omega
          have HEL := Lib.hid (show encP i (Bk.lines sp rm (xs.drop i))[t] = #[.int .i64 ((i : Int) + (t : Int) + 1), .int .i64 0] from by
            rw [hle, if_pos (by rw [HDL.out]; omega)]; simp only [encP]; rw [show (i : Int) + ((t + 1 : Nat) : Int) = (i : Int) + (t : Int) + 1 by omega])
          obtain ⟨fn, tmps, assign, body, hy, hR⟩ := HY.out t hl wr.drew (HJ.out _ _ _ hj (istep_drew wr))
          rw [HEL.out] at hy
          have HRr := Lib.hid hR
          clear hR hle hend
          gi_wp2
          gi_region
          gi_wp2
          refine ⟨rfl, HRr.out.mono ?_⟩
          rintro e W3 (⟨rfl, hJ3, hs3⟩ | ⟨rfl, hJx3⟩)
          · gi_wp2
            go_roundw
            case rel => exact ⟨t + 1, by omega, hl, by go_num, by rw [HNx.out], by rw [HNx.out]; omega, hJ3, (hs.trans (rstep_drew wr)).trans hs3⟩
            case measure => first | omega | (simp [intOf]; omega)
          · gi_wp2
            refine bodyPost_ret (results_none rfl _ _ _) rfl ?_
            exact ⟨⟨_, rfl⟩, .inr ⟨_, hl, hJx3⟩⟩
        · clear hle
          have hle := HLE.out
          have hbe : ((i : Int) + (t : Int) + 1 == (xs.length : Int)) = false := by rw [beq_eq_false_iff_ne]; omega
          have HEL := Lib.hid (show encP i (Bk.lines sp rm (xs.drop i))[t] = #[.int .i64 ((i : Int) + (t : Int) + 1), .int .i64 (d * d)] from by
            rw [hle, if_neg (by rw [HDL.out]; omega), HLf.out]; simp only [encP]; rw [show (i : Int) + ((t + 1 : Nat) : Int) = (i : Int) + (t : Int) + 1 by omega])
          obtain ⟨fn, tmps, assign, body, hy, hR⟩ := HY.out t hl wr.drew (HJ.out _ _ _ hj (istep_drew wr))
          rw [HEL.out] at hy
          have HRr := Lib.hid hR
          clear hR hle hend
          gi_wp2
          gi_region
          gi_wp2
          refine ⟨rfl, HRr.out.mono ?_⟩
          rintro e W3 (⟨rfl, hJ3, hs3⟩ | ⟨rfl, hJx3⟩)
          · gi_wp2
            go_roundw
            case rel => exact ⟨t + 1, by omega, hl, by go_num, by rw [HNx.out], by rw [HNx.out]; omega, hJ3, (hs.trans (rstep_drew wr)).trans hs3⟩
            case measure => first | omega | (simp [intOf]; omega)
          · gi_wp2
            refine bodyPost_ret (results_none rfl _ _ _) rfl ?_
            exact ⟨⟨_, rfl⟩, .inr ⟨_, hl, hJx3⟩⟩
    · have HE := Lib.hid (Bk.lines_end (rm := rm) (HRt.out.pos.drop i) (t := t) (fun h => by have := h.1; rw [HDL.out] at this; omega))
      gi_wp2
      go_end0
      exact ⟨⟨_, rfl⟩, .inl (by rw [show (Bk.lines sp rm (xs.drop i)).length = t by have := HE.out; omega]; exact hj)⟩

end Go.Proofs.Ytdcndhfjfllehaa
