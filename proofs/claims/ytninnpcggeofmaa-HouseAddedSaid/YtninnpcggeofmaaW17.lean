/- Walk of the iterator that Standing hands to Collect. -/
import Derived.Test.YtninnpcggeofmaaW16
namespace Go.Proofs.Ytninnpcggeofmaa
open Go.RowKit
set_option linter.unusedVariables false
set_option linter.unusedSimpArgs false
attribute [local go_sem] frozen_new

theorem std1_any (x : Hh) (bk : Nat) (t : Int) (W : World) (tk : W.cell? ⟨bk, 0, none⟩ = some (.int .i64 t)) : Calls Try.prog 45 #[vH x, .pointer (some ⟨bk, 0, none⟩)] W (BPost (decide (x.known ≤ t)) W) := by
  have HB0 := Lib.hid (BoxH.new W x)
  have HW := Lib.hid (al1 W (.cells #[.int .i64 x.no, .int .i64 x.kind, .int .i64 x.spk, .int .i64 x.fst, .int .i64 x.lst, .int .i64 x.lang, .int .i64 x.frm, .int .i64 x.unt, .int .i64 x.known, .int .i64 x.ms] 24))
  have q8 := HB0.out.c8
  have lk := cell_lt tk
  dsimp only at lk
  have hvv : vH x = vH x := rfl
  unfold vH
  clear hvv
  go_enter Try.func45, Try.ntmps45
  go_wp2_with (fail)
  go_ret
  exact ⟨rfl, HW.out⟩
theorem std1_is {x : Hh} {t : Int} {b : Bool} (h : decide (x.known ≤ t) = b) (bk : Nat) (W : World) (tk : W.cell? ⟨bk, 0, none⟩ = some (.int .i64 t)) : Calls Try.prog 45 #[vH x, .pointer (some ⟨bk, 0, none⟩)] W (BPost b W) := by
  subst h; exact std1_any x bk t W tk

def protT (bl bp bk n0 : Nat) : Nat → Prop := fun b => b = bl ∨ b = bp ∨ b = bk ∨ b < n0
set_option maxHeartbeats 4000000 in
set_option maxRecDepth 100000 in
theorem that_iter (bl bp bk : Nat) (l : List Hh) (A : Option Addr) (cap : Nat) (t : Int) (w0 W : World) (tl : W.cell? ⟨bl, 0, none⟩ = some (.slice A l.length cap)) (tp : W.cell? ⟨bp, 0, none⟩ = some (.func (.func 45) #[] #[.pointer (some ⟨bk, 0, none⟩)]))
    (tk : W.cell? ⟨bk, 0, none⟩ = some (.int .i64 t))
    (hv : IsHs w0 (.slice A l.length cap) l) (hb0 : Below w0.heap.size w0 W) (hl : l.length ≤ 1024) :
    Iter Try.prog 66 #[.pointer (some ⟨bl, 0, none⟩), .pointer (some ⟨bp, 0, none⟩)] encV (Hh.stand l t) (protT bl bp bk w0.heap.size) W := by
  intro la J Jx hJ hJx hY h0
  obtain ⟨A', cap', e, hrow⟩ := hv
  injection e with e1 e2 e3
  subst e1 e3
  have HR := Lib.hid hrow
  have TK := Lib.hid tk
  have TP := Lib.hid tp
  have HY := Lib.hid hY
  have HJ := Lib.hid hJ
  have HJx := Lib.hid hJx
  have HB0 := Lib.hid hb0
  clear hrow hY hJ hJx hb0 tk tp
  refine callsIn_of_wp Try.func66 rfl trivial ?_ rfl
  simp only [Try.ntmps66, List.size_toArray, List.length_cons, List.length_nil, Nat.reduceAdd, Nat.reduceSub, Array.replicate_succ, Array.replicate_zero, List.push_toArray, List.append_toArray, List.nil_append, List.cons_append]
  gi_wp2
  clear tl
  gi_loopw [8] (fun i wr => ∃ k : Nat, k ≤ l.length ∧ i = .int .i64 k ∧ J ((Hh.stand (l.take k) t).length) wr ∧ RStep W.heap.size (protT bl bp bk w0.heap.size) W wr) (fun i _ => l.length - (intOf i).toNat)
  case atStart => exact ⟨0, by omega, rfl, h0, RStep.refl _ _ _⟩
  case round =>
    obtain ⟨k, hk, rfl, hj, hs⟩ := hrel
    have HS := Lib.hid hs
    have HJk := Lib.hid hj
    by_cases hlt : k < l.length
    · obtain ⟨b, off, rfl, hat⟩ := hs_at HR.out hlt
      have HX := Lib.hid (hat.keepR HB0.out hs (fun b hb => .inr (.inr (.inr hb))))
      have HNO := Lib.hid (fun hp => filter_no (fun h : Hh => decide (h.known ≤ t)) l k hlt hp)
      have HYES := Lib.hid (fun hp => filter_yes (fun h : Hh => decide (h.known ≤ t)) l k hlt hp)
      have HAT := Lib.hid (fun hp => filter_at (fun h : Hh => decide (h.known ≤ t)) l k hlt hp)
      generalize l[k] = x at *
      have tp := hs.cell (.inr (.inl rfl)) TP.out
      have tk := hs.cell (.inr (.inr (.inl rfl))) TK.out
      have TKr := Lib.hid tk
      have lp := cell_lt tp
      have lk := cell_lt tk
      dsimp only at lp lk
      have HN := Lib.hid (BoxH.new wr x)
      have HA := Lib.hid (al1 wr (.cells #[.int .i64 x.no, .int .i64 x.kind, .int .i64 x.spk, .int .i64 x.fst, .int .i64 x.lst, .int .i64 x.lang, .int .i64 x.frm, .int .i64 x.unt, .int .i64 x.known, .int .i64 x.ms] 24))
      clear hat hs hj
      have q0 := HX.out.c0
      have q1 := HX.out.c1
      have q2 := HX.out.c2
      have q3 := HX.out.c3
      have q4 := HX.out.c4
      have q5 := HX.out.c5
      have q6 := HX.out.c6
      have q7 := HX.out.c7
      have q8 := HX.out.c8
      have q9 := HX.out.c9
      have TK2 := Lib.hid (HA.out.cell (p := ⟨bk, 0, none⟩) lk |>.trans tk)
      cases hn : decide (x.known ≤ t)
      · have HF := Lib.hid (HNO.out hn)
        have HC := Lib.hid (std1_is hn bk _ TK2.out)
        clear hn HYES HAT
        gi_wp2_with (fail)
        refine inC HC.out ?_
        rintro e w2 ⟨rfl, hb2⟩
        have HB2 := Lib.hid (HA.out.up hb2)
        clear hb2 q0 q1 q2 q3 q4 q5 q6 q7 q8 q9 tp tk HC
        gi_wp2
        refine ⟨fun _ h => (by cases h), ?_⟩
        gi_wp2
        go_roundw
        case rel => exact ⟨k + 1, by omega, by go_num, by rw [show (Hh.stand (l.take (k + 1)) t).length = (Hh.stand (l.take k) t).length from HF.out]; exact HJ.out _ _ _ HJk.out (IStep.of_below HB2.out), HS.out.trans (RStep.of_below HB2.out)⟩
        case measure => first | omega | (simp [intOf]; omega)
      · have HF := Lib.hid (HYES.out hn)
        obtain ⟨hlt2, hget⟩ := HAT.out hn
        have HC := Lib.hid (std1_is hn bk _ TK2.out)
        clear hn HYES HAT HNO
        gi_wp2_with (fail)
        refine inC HC.out ?_
        rintro e w2 ⟨rfl, hb2⟩
        have HB2 := Lib.hid (HA.out.up hb2)
        have HN2 := Lib.hid (HN.out.upb hb2)
        clear hb2 q0 q1 q2 q3 q4 q5 q6 q7 q8 q9 tp tk HC
        have q0 := HN2.out.c0
        have q1 := HN2.out.c1
        have q2 := HN2.out.c2
        have q3 := HN2.out.c3
        have q4 := HN2.out.c4
        have q5 := HN2.out.c5
        have q6 := HN2.out.c6
        have q7 := HN2.out.c7
        have q8 := HN2.out.c8
        have q9 := HN2.out.c9
        obtain ⟨fn, tmps, assign, body, hy, hR⟩ := HY.out _ hlt2 w2 (HJ.out _ _ _ HJk.out (IStep.of_below HB2.out))
        rw [show (Hh.stand l t)[((l.take k).filter (fun h : Hh => decide (h.known ≤ t))).length]'hlt2 = x from hget] at hy
        simp only [encV, vH] at hy
        have HRr := Lib.hid hR
        clear hR hget
        gi_wp2
        refine ⟨rfl, HRr.out.mono ?_⟩
        rintro e W3 (⟨rfl, hJ3, hs3⟩ | ⟨rfl, hJx3⟩)
        · gi_wp2
          go_roundw
          case rel => exact ⟨k + 1, by omega, by go_num, by rw [show (Hh.stand (l.take (k + 1)) t).length = (Hh.stand (l.take k) t).length + 1 from HF.out]; exact hJ3, (HS.out.trans (RStep.of_below HB2.out)).trans hs3⟩
          case measure => first | omega | (simp [intOf]; omega)
        · gi_wp2
          refine bodyPost_ret (results_none rfl _ _ _) rfl ?_
          exact ⟨⟨_, rfl⟩, .inr ⟨_, hlt2, hJx3⟩⟩
    · have HE := Lib.hid (show Hh.stand (l.take k) t = Hh.stand l t by rw [List.take_of_length_le (by omega)])
      gi_wp2
      go_end0
      exact ⟨⟨_, rfl⟩, .inl (by rw [← HE.out]; exact HJk.out)⟩

end Go.Proofs.Ytninnpcggeofmaa
