/- Walks of the program's small verdict functions: noOf, Compare, binding and its iterator. -/
import Derived.Test.YtninnpcggeofmaaW8
import Derived.Test.YtninnpcggeofmaaMarks
import Derived.Test.YtninnpcggeofmaaRound
namespace Go.Proofs.Ytninnpcggeofmaa
open Go.RowKit
set_option linter.unusedVariables false
set_option linter.unusedSimpArgs false
attribute [local go_sem] frozen_new Oper.semAt_some

theorem noOf_any (h : Hh) (w : World) : Calls Try.prog 56 #[vH h] w fun e w' => e = .returned (.int .i64 h.no) ∧ Below w.heap.size w w' := by
  have HB0 := BoxH.new w h
  have q0 := HB0.c0
  clear HB0
  have hvv : vH h = vH h := rfl
  unfold vH
  clear hvv
  go_enter Try.func56, Try.ntmps56
  go_wp2_with (fail)
  go_ret
  exact ⟨rfl, al1 w _⟩
theorem isNaN_any (a : Int) (w : World) : Calls Try.prog 62 #[.int .i64 a] w fun e w' => e = .returned (.bool false) ∧ w = w' := by
  have h : (a != a) = false := by simp
  go_enter Try.func62, Try.ntmps62
  go_wp2_with (fail)
  go_ret
  exact ⟨rfl, rfl⟩
def cmpI (a b : Int) : Int := if a < b then -1 else if b < a then 1 else 0
theorem compare_any (a b : Int) (w : World) : Calls Try.prog 39 #[.int .i64 a, .int .i64 b] w fun e w' => e = .returned (.int .i64 (cmpI a b)) ∧ w = w' := by
  have key : ∀ x, cmpI a b = x → (decide (a < b) = true ∧ x = -1 ∨ decide (a < b) = false ∧ decide (b < a) = true ∧ x = 1 ∨ decide (a < b) = false ∧ decide (b < a) = false ∧ x = 0) := by
    intro x hx
    unfold cmpI at hx
    by_cases h1 : a < b
    · rw [if_pos h1] at hx; exact .inl ⟨decide_eq_true h1, hx.symm⟩
    · rw [if_neg h1] at hx
      by_cases h2 : b < a
      · rw [if_pos h2] at hx; exact .inr (.inl ⟨decide_eq_false h1, decide_eq_true h2, hx.symm⟩)
      · rw [if_neg h2] at hx; exact .inr (.inr ⟨decide_eq_false h1, decide_eq_false h2, hx.symm⟩)
  obtain ⟨x, hx⟩ : ∃ x, cmpI a b = x := ⟨_, rfl⟩
  rw [hx]
  rcases key x hx with ⟨h1, rfl⟩ | ⟨h1, h2, rfl⟩ | ⟨h1, h2, rfl⟩
  all_goals
    clear key hx
    go_enter Try.func39, Try.ntmps39
    go_wp2_with (fail)
    refine (isNaN_any _ _).mono ?_
    rintro e _ ⟨rfl, rfl⟩
    go_wp2_with (fail)
    refine (isNaN_any _ _).mono ?_
    rintro e _ ⟨rfl, rfl⟩
    go_wp2_with (fail)
    go_ret
    exact ⟨rfl, rfl⟩

def wordV (q : Hh.Qq) : Value := .agg #[.int .i64 q.spk, .int .i64 q.beg, .int .i64 q.lang, .int .i64 q.at_, .int .i64 q.known]
theorem binding_any (q : Hh.Qq) (A : Option Addr) (n c : Nat) (kind : Int) (w : World) : Calls Try.prog 53 #[wordV q, .slice A n c, .int .i64 kind] w fun e w' => e = .returned (.func (.func 71) #[] #[.pointer (some ⟨w.heap.size + 1, 0, none⟩), .pointer (some ⟨w.heap.size + 1 + 1, 0, none⟩), .pointer (some ⟨w.heap.size, 0, none⟩)]) ∧
    (((w.alloc (.cells #[.int .i64 q.spk, .int .i64 q.beg, .int .i64 q.lang, .int .i64 q.at_, .int .i64 q.known] 72)).alloc (.cells #[.slice A n c] 22)).alloc (.cells #[.int .i64 kind] 3)) = w' := by
  unfold wordV
  go_enter Try.func53, Try.ntmps53
  go_wp2_with (fail)
  go_ret
  exact ⟨rfl, rfl⟩

def bys (kind : Int) (q : Hh.Qq) (l : List Hh) : List Hh := l.filter (fun h => decide (h.kind = kind) && Hh.binds q h)
theorem filter_at {α : Type} (p : α → Bool) (l : List α) (k : Nat) (h : k < l.length) (hp : p l[k] = true) : ∃ h2 : ((l.take k).filter p).length < (l.filter p).length, (l.filter p)[((l.take k).filter p).length] = l[k] := by
  have e : l.filter p = (l.take k).filter p ++ l[k] :: (l.drop (k + 1)).filter p := by
    conv => lhs; rw [← List.take_append_drop k l, List.drop_eq_getElem_cons h, List.filter_append, List.filter_cons, if_pos hp]
  have hlen : ((l.take k).filter p).length < (l.filter p).length := by rw [e]; simp
  refine ⟨hlen, ?_⟩
  have : (l.filter p)[((l.take k).filter p).length]? = some l[k] := by rw [e, List.getElem?_append_right (Nat.le_refl _)]; simp
  rw [List.getElem?_eq_getElem hlen] at this
  exact Option.some.inj this
theorem filter_yes {α : Type} (p : α → Bool) (l : List α) (k : Nat) (h : k < l.length) (hp : p l[k] = true) : ((l.take (k + 1)).filter p).length = ((l.take k).filter p).length + 1 := by
  rw [List.take_succ_eq_append_getElem h, List.filter_append]; simp [hp]
theorem filter_no {α : Type} (p : α → Bool) (l : List α) (k : Nat) (h : k < l.length) (hp : p l[k] = false) : ((l.take (k + 1)).filter p).length = ((l.take k).filter p).length := by
  rw [List.take_succ_eq_append_getElem h, List.filter_append]; simp [hp]
theorem bys_at (kind : Int) (q : Hh.Qq) (l : List Hh) (k : Nat) (h : k < l.length) (hp : (decide (l[k].kind = kind) && Hh.binds q l[k]) = true) : ∃ h2 : (bys kind q (l.take k)).length < (bys kind q l).length, (bys kind q l)[(bys kind q (l.take k)).length] = l[k] := filter_at _ l k h hp
theorem bys_yes (kind : Int) (q : Hh.Qq) (l : List Hh) (k : Nat) (h : k < l.length) (hp : (decide (l[k].kind = kind) && Hh.binds q l[k]) = true) : (bys kind q (l.take (k + 1))).length = (bys kind q (l.take k)).length + 1 := filter_yes _ l k h hp
theorem bys_no (kind : Int) (q : Hh.Qq) (l : List Hh) (k : Nat) (h : k < l.length) (hp : (decide (l[k].kind = kind) && Hh.binds q l[k]) = false) : (bys kind q (l.take (k + 1))).length = (bys kind q (l.take k)).length := filter_no _ l k h hp
def protW (bl bk bw n0 : Nat) : Nat → Prop := fun b => b = bl ∨ b = bk ∨ b = bw ∨ b < n0
def encV (h : Hh) : Array Value := #[vH h]
theorem HAt.keepR {w0 W wr : World} {B : Nat} {Pr : Nat → Prop} {b o : Nat} {h : Hh} (hh : HAt w0 b o h) (hb : Below w0.heap.size w0 W) (hs : RStep B Pr W wr) (hp : ∀ b, b < w0.heap.size → Pr b) : HAt wr b o h := by
  have h1 := hh.below hb
  have k : ∀ {i v}, W.cell? ⟨b, i, none⟩ = some v → wr.cell? ⟨b, i, none⟩ = some v := fun h => hs.cell (hp b hh.lt) h
  exact ⟨Nat.lt_of_lt_of_le h1.lt hs.size, k h1.c0, k h1.c1, k h1.c2, k h1.c3, k h1.c4, k h1.c5, k h1.c6, k h1.c7, k h1.c8, k h1.c9⟩
theorem Covers_is {h : Hh} {q : Hh.Qq} {b : Bool} {x : Int} (h1 : Hh.cov h q = b) (h2 : Hh.covE h q = x) (w : World) : Calls Try.prog 23 #[vH h, .int .i64 q.spk, .int .i64 q.beg, .int .i64 q.lang, .int .i64 q.at_] w fun e w' => e = .returned (.tuple #[.bool b, .int .i64 x]) ∧ Below w.heap.size w w' := by
  subst h1 h2; exact Covers_any h q w

set_option maxHeartbeats 4000000 in
set_option maxRecDepth 100000 in
theorem binding_iter (bl bk bw : Nat) (l : List Hh) (A : Option Addr) (cap : Nat) (kind : Int) (q : Hh.Qq) (w0 W : World) (tl : W.cell? ⟨bl, 0, none⟩ = some (.slice A l.length cap)) (tk : W.cell? ⟨bk, 0, none⟩ = some (.int .i64 kind))
    (t0 : W.cell? ⟨bw, 0, none⟩ = some (.int .i64 q.spk)) (t1 : W.cell? ⟨bw, 1, none⟩ = some (.int .i64 q.beg)) (t2 : W.cell? ⟨bw, 2, none⟩ = some (.int .i64 q.lang)) (t3 : W.cell? ⟨bw, 3, none⟩ = some (.int .i64 q.at_)) (t4 : W.cell? ⟨bw, 4, none⟩ = some (.int .i64 q.known))
    (hv : IsHs w0 (.slice A l.length cap) l) (hb0 : Below w0.heap.size w0 W) (hl : l.length ≤ 1024) :
    Iter Try.prog 71 #[.pointer (some ⟨bl, 0, none⟩), .pointer (some ⟨bk, 0, none⟩), .pointer (some ⟨bw, 0, none⟩)] encV (bys kind q l) (protW bl bk bw w0.heap.size) W := by
  intro la J Jx hJ hJx hY h0
  obtain ⟨A', cap', e, hrow⟩ := hv
  injection e with e1 e2 e3
  subst e1 e3
  have HR := Lib.hid hrow
  have TL := Lib.hid tl
  have TK := Lib.hid tk
  have T0 := Lib.hid t0
  have T1 := Lib.hid t1
  have T2 := Lib.hid t2
  have T3 := Lib.hid t3
  have T4 := Lib.hid t4
  have HY := Lib.hid hY
  have HJ := Lib.hid hJ
  have HJx := Lib.hid hJx
  have HB0 := Lib.hid hb0
  clear hrow hY hJ hJx hb0 t0 t1 t2 t3 t4 tk
  refine callsIn_of_wp Try.func71 rfl trivial ?_ rfl
  simp only [Try.ntmps71, List.size_toArray, List.length_cons, List.length_nil, Nat.reduceAdd, Nat.reduceSub, Array.replicate_succ, Array.replicate_zero, List.push_toArray, List.append_toArray, List.nil_append, List.cons_append]
  gi_wp2
  clear tl
  gi_loopw [11] (fun i wr => ∃ k : Nat, k ≤ l.length ∧ i = .int .i64 k ∧ J ((bys kind q (l.take k)).length) wr ∧ RStep W.heap.size (protW bl bk bw w0.heap.size) W wr) (fun i _ => l.length - (intOf i).toNat)
  case atStart => exact ⟨0, by omega, rfl, h0, RStep.refl _ _ _⟩
  case round =>
    obtain ⟨k, hk, rfl, hj, hs⟩ := hrel
    have HS := Lib.hid hs
    have HJk := Lib.hid hj
    by_cases hlt : k < l.length
    · obtain ⟨b, off, rfl, hat⟩ := hs_at HR.out hlt
      have HX := Lib.hid (hat.keepR HB0.out hs (fun b hb => .inr (.inr (.inr hb))))
      have HNO := Lib.hid (fun hp => bys_no kind q l k hlt hp)
      have HYES := Lib.hid (fun hp => bys_yes kind q l k hlt hp)
      have HAT := Lib.hid (fun hp => bys_at kind q l k hlt hp)
      generalize l[k] = x at *
      have tk := hs.cell (.inr (.inl rfl)) TK.out
      have t0 := hs.cell (.inr (.inr (.inl rfl))) T0.out
      have t1 := hs.cell (.inr (.inr (.inl rfl))) T1.out
      have t2 := hs.cell (.inr (.inr (.inl rfl))) T2.out
      have t3 := hs.cell (.inr (.inr (.inl rfl))) T3.out
      have t4 := hs.cell (.inr (.inr (.inl rfl))) T4.out
      have lk := cell_lt tk
      have lw := cell_lt t0
      dsimp only at lk lw
      have HN := Lib.hid (BoxH.new wr x)
      have HA := Lib.hid (al1 wr (.cells #[.int .i64 x.no, .int .i64 x.kind, .int .i64 x.spk, .int .i64 x.fst, .int .i64 x.lst, .int .i64 x.lang, .int .i64 x.frm, .int .i64 x.unt, .int .i64 x.known, .int .i64 x.ms] 24))
      clear hat hs hj
      have q0 := HX.out.c0
      have q1 := HX.out.c1
      have q2 := HX.out.c2
      have q3 := HX.out.c3
      have q4 := HX.out.c4
      have q5 := HX.out.c5
      have q6 := HX.out.c6
      have q7 := HX.out.c7
      have q8 := HX.out.c8
      have q9 := HX.out.c9
      by_cases he : x.kind = kind
      · have hed : (x.kind != kind) = false := by rw [bne_eq_false_iff_eq]; exact he
        by_cases hn : q.known < x.known
        · have hnd : decide (q.known < x.known) = true := decide_eq_true hn
          have HF := Lib.hid (HNO.out (by simp [Hh.binds]; omega))
          clear he hn HYES HAT
          gi_wp2
          go_roundw
          case rel => exact ⟨k + 1, by omega, by go_num, by rw [HF.out]; exact HJ.out _ _ _ HJk.out (IStep.of_below HA.out), HS.out.trans (RStep.of_below HA.out)⟩
          case measure => first | omega | (simp [intOf]; omega)
        · have hnd : decide (q.known < x.known) = false := decide_eq_false hn
          cases hc : Hh.cov x q
          · have HF := Lib.hid (HNO.out (by simp [Hh.binds, hc]))
            have HC := Lib.hid (fun W => Covers_is hc rfl W)
            clear he hn HYES HAT hc
            gi_wp2_with (fail)
            refine inC (HC.out _) ?_
            rintro e w2 ⟨rfl, hb2⟩
            have HB2 := Lib.hid (HA.out.up hb2)
            clear hb2 q0 q1 q2 q3 q4 q5 q6 q7 q8 q9 t0 t1 t2 t3 t4 tk
            gi_wp2
            refine ⟨fun _ h => (by cases h), ?_⟩
            gi_wp2
            go_roundw
            case rel => exact ⟨k + 1, by omega, by go_num, by rw [HF.out]; exact HJ.out _ _ _ HJk.out (IStep.of_below HB2.out), HS.out.trans (RStep.of_below HB2.out)⟩
            case measure => first | omega | (simp [intOf]; omega)
          · have hpp : (decide (x.kind = kind) && Hh.binds q x) = true := by simp [Hh.binds, hc, he]; omega
            have HF := Lib.hid (HYES.out hpp)
            obtain ⟨hlt2, hget⟩ := HAT.out hpp
            have HC := Lib.hid (fun W => Covers_is hc rfl W)
            clear he hn HYES HAT hc hpp HNO
            gi_wp2_with (fail)
            refine inC (HC.out _) ?_
            rintro e w2 ⟨rfl, hb2⟩
            have HB2 := Lib.hid (HA.out.up hb2)
            have HN2 := Lib.hid (HN.out.upb hb2)
            clear hb2 q0 q1 q2 q3 q4 q5 q6 q7 q8 q9 t0 t1 t2 t3 t4 tk
            have q0 := HN2.out.c0
            have q1 := HN2.out.c1
            have q2 := HN2.out.c2
            have q3 := HN2.out.c3
            have q4 := HN2.out.c4
            have q5 := HN2.out.c5
            have q6 := HN2.out.c6
            have q7 := HN2.out.c7
            have q8 := HN2.out.c8
            have q9 := HN2.out.c9
            obtain ⟨fn, tmps, assign, body, hy, hR⟩ := HY.out _ hlt2 w2 (HJ.out _ _ _ HJk.out (IStep.of_below HB2.out))
            rw [hget] at hy
            simp only [encV, vH] at hy
            have HRr := Lib.hid hR
            clear hR hget
            gi_wp2
            refine ⟨rfl, HRr.out.mono ?_⟩
            rintro e W3 (⟨rfl, hJ3, hs3⟩ | ⟨rfl, hJx3⟩)
            · gi_wp2
              go_roundw
              case rel => exact ⟨k + 1, by omega, by go_num, by rw [HF.out]; exact hJ3, (HS.out.trans (RStep.of_below HB2.out)).trans hs3⟩
              case measure => first | omega | (simp [intOf]; omega)
            · gi_wp2
              refine bodyPost_ret (results_none rfl _ _ _) rfl ?_
              exact ⟨⟨_, rfl⟩, .inr ⟨_, hlt2, hJx3⟩⟩
      · have hed : (x.kind != kind) = true := by rw [bne_iff_ne]; exact he
        have HF := Lib.hid (HNO.out (by simp [he]))
        clear he HYES HAT
        gi_wp2
        go_roundw
        case rel => exact ⟨k + 1, by omega, by go_num, by rw [HF.out]; exact HJ.out _ _ _ HJk.out (IStep.of_below HA.out), HS.out.trans (RStep.of_below HA.out)⟩
        case measure => first | omega | (simp [intOf]; omega)
    · have HE := Lib.hid (show bys kind q (l.take k) = bys kind q l by rw [List.take_of_length_le (by omega)])
      gi_wp2
      go_end0
      exact ⟨⟨_, rfl⟩, .inl (by rw [← HE.out]; exact HJk.out)⟩

end Go.Proofs.Ytninnpcggeofmaa
