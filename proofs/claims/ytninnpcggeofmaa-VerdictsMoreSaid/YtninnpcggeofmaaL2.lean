/- The statement VerdictsReason, walked. -/
import Derived.Test.YtninnpcggeofmaaW15
namespace Go.Proofs.Ytninnpcggeofmaa
open Go.RowKit
set_option linter.unusedVariables false
set_option linter.unusedSimpArgs false
attribute [local go_sem] frozen_new

theorem headN_mem {ys : List Hh} (h : 0 ≤ headN ys) : ∃ x ∈ ys, x.no = headN ys := by
  cases ys with
  | nil => simp [headN] at h
  | cons x r => exact ⟨x, by simp, rfl⟩
def fB (q : Hh.Qq) (a : Int) (x : Hh) : Bool := (decide (a = 2) && (decide (x.kind = 1) || decide (x.kind = 2))) || (decide (a = 1) && decide (x.kind = 3) && decide (q.at_ < q.beg + x.ms))
theorem ver_reason {l : List Hh} {q : Hh.Qq} (he : Hh.err l = 0) (ha : Hh.askQ q = true) :
    (Hh.ver l q).e = 0 ∧ (((Hh.ver l q).v = 0 ∧ (Hh.ver l q).no = -1) ∨ (((Hh.ver l q).v = 1 ∨ (Hh.ver l q).v = 2) ∧ 0 ≤ (Hh.ver l q).no ∧ ∃ x ∈ Hh.bnd l q, x.no = (Hh.ver l q).no ∧ fB q (Hh.ver l q).v x = true)) := by
  rw [Hh.ver, if_pos he, if_pos ha]
  unfold Hh.verB
  split
  · rename_i h
    refine ⟨rfl, .inr ⟨.inr rfl, h, ?_⟩⟩
    rw [first_head] at h ⊢
    obtain ⟨x, hx, hn⟩ := headN_mem h
    have h2 := List.mem_filter.1 hx
    simp at h2
    exact ⟨x, h2.1, hn, by simp [fB, h2.2.1]⟩
  · split
    · rename_i h0 h
      refine ⟨rfl, .inr ⟨.inr rfl, h.1, ?_⟩⟩
      have h1 := h.1
      rw [first_head] at h1 ⊢
      obtain ⟨x, hx, hn⟩ := headN_mem h1
      have h2 := List.mem_filter.1 hx
      simp at h2
      exact ⟨x, h2.1, hn, by simp [fB, h2.2.1]⟩
    · split
      · rename_i h0 h1 h
        refine ⟨rfl, .inr ⟨.inl rfl, h, ?_⟩⟩
        rw [delay_head] at h ⊢
        obtain ⟨x, hx, hn⟩ := headN_mem h
        have h2 := List.mem_filter.1 hx
        simp at h2
        exact ⟨x, h2.1, hn, by simp [fB, h2.2.1, h2.2.2]⟩
      · exact ⟨rfl, .inl ⟨rfl, rfl⟩⟩
def fF (q : Hh.Qq) (a b : Int) (ys : List Hh) : Bool := ys.foldl (fun f x => if x.no = b then fB q a x else f) false
theorem fF_snoc (q : Hh.Qq) (a b : Int) (ys : List Hh) (x : Hh) : fF q a b (ys ++ [x]) = if x.no = b then fB q a x else fF q a b ys := by
  unfold fF; rw [List.foldl_append]; rfl
theorem fold_far (q : Hh.Qq) (a b : Int) (ys : List Hh) (h : ∀ y ∈ ys, y.no ≠ b) (f : Bool) : ys.foldl (fun f x => if x.no = b then fB q a x else f) f = f := by
  induction ys generalizing f with
  | nil => rfl
  | cons y r ih => rw [List.foldl_cons, if_neg (h y (by simp))]; exact ih (fun z hz => h z (by simp [hz])) f
theorem fF_hit (q : Hh.Qq) (a : Int) (x : Hh) (ys : List Hh) (hp : ys.Pairwise (fun a b => a.no < b.no)) (hx : x ∈ ys) : fF q a x.no ys = fB q a x := by
  unfold fF
  generalize false = f
  induction ys generalizing f with
  | nil => simp at hx
  | cons y r ih =>
    rw [List.pairwise_cons] at hp
    rw [List.foldl_cons]
    rcases List.mem_cons.1 hx with rfl | hx
    · rw [if_pos rfl]
      exact fold_far q a x.no r (fun z hz => by have := hp.1 z hz; omega) _
    · have := hp.1 x hx
      rw [if_neg (by omega)]
      exact ih hp.2 hx f
theorem bnd_bnd (l : List Hh) (q : Hh.Qq) : Hh.bnd (Hh.bnd l q) q = Hh.bnd l q := by
  unfold Hh.bnd; rw [List.filter_filter]; congr 1; funext x; simp
theorem err_bnd {l : List Hh} (q : Hh.Qq) (he : Hh.err l = 0) : Hh.err (Hh.bnd l q) = 0 := by
  obtain ⟨h1, h2⟩ := err_zero he
  refine err_ok (Nat.le_trans (List.length_filter_le _ _) h1) (incr_of (fun x hx => incr_mem h2 x (List.mem_filter.1 hx).1) ((incr_pair h2).filter _))
theorem ver_bnd {l : List Hh} {q : Hh.Qq} (he : Hh.err l = 0) : Hh.ver (Hh.bnd l q) q = Hh.ver l q := by
  unfold Hh.ver; rw [if_pos he, if_pos (err_bnd q he), bnd_bnd]

set_option maxHeartbeats 8000000 in
set_option maxRecDepth 100000 in
theorem VerdictsReason_any (v : Value) (l : List Hh) (q : Hh.Qq) (w : World) (hv : IsHs w v l) (hl : l.length ≤ 9223372036854775807) : Calls Try.prog 9 #[v, askV q] w fun e w' => e = .returned (.bool true) ∧ Below w.heap.size w w' := by
  have HV := Lib.hid hv
  obtain ⟨A, cap, rfl, hrow⟩ := id hv
  have HR := Lib.hid hrow
  have HA0 := Lib.hid (BoxA.new w q)
  have HB0 := Lib.hid (al1 w (.cells #[.int .i64 q.spk, .int .i64 q.beg, .int .i64 q.lang, .int .i64 q.at_, .int .i64 q.known] 48))
  have haa : askV q = askV q := rfl
  unfold askV
  clear haa hv hrow
  go_enter Try.func9, Try.ntmps9
  go_wp2_with (fail)
  refine (sane36_any _).mono ?_
  rintro e w1 ⟨rfl, b1⟩
  have HB := Lib.hid (HB0.out.up b1)
  have HA := Lib.hid (HA0.out.upb b1)
  clear b1 HB0 HA0
  have q0 := HA.out.c0
  have q1 := HA.out.c1
  have q2 := HA.out.c2
  have q3 := HA.out.c3
  have q4 := HA.out.c4
  go_wp2_with (fail)
  cases hrg : rgB l q
  · refine (right36_is (q := q) hrg (HV.out.upb HB.out) hl).mono ?_
    rintro e w2 ⟨rfl, b2⟩
    go_wp2_with (fail)
    go_ret
    exact ⟨rfl, HB.out.up b2⟩
  refine (right36_is (q := q) hrg (HV.out.upb HB.out) hl).mono ?_
  rintro e w2 ⟨rfl, b2⟩
  obtain ⟨h30, he, hask, harg, hinc⟩ := rgB_t hrg
  have HB2 := Lib.hid (HB.out.up b2)
  have HA2 := Lib.hid (HA.out.upb b2)
  have HE := Lib.hid he
  have HARG := Lib.hid harg
  have HRT := Lib.hid (show ∀ x ∈ l, Hh.right x = true from fun x hx => (incr_mem hinc x hx).2)
  have HPW := Lib.hid ((incr_pair hinc).filter (Hh.binds q))
  have hbeg : 0 ≤ q.beg ∧ q.beg ≤ 1099511627775 := by
    simp only [Hh.argQ, Bool.and_eq_true] at harg
    exact inn_t harg.1.1.2
  obtain ⟨he0, hre⟩ := ver_reason (q := q) he hask
  have HVC := Lib.hid (fun (W : World) (hv : IsHs W (.slice A l.length cap) l) => verdict36_any _ l q W hv hl ⟨rfl, rfl, he0⟩)
  have HVB := Lib.hid (fun (W : World) (u : Value) (hv : IsHs W u (Hh.bnd l q)) => verdict36_any u (Hh.bnd l q) q W hv (Nat.le_trans (List.length_filter_le _ _) hl) (by rw [ver_bnd he]; exact ⟨rfl, rfl, he0⟩))
  have HRE := Lib.hid hre
  obtain ⟨a, ha⟩ : ∃ a, (Hh.ver l q).v = a := ⟨_, rfl⟩
  obtain ⟨b, hb⟩ : ∃ b, (Hh.ver l q).no = b := ⟨_, rfl⟩
  rw [ha, hb] at HVC HVB HRE
  clear b2 HB HA q0 q1 q2 q3 q4 hrg he hask harg hinc he0 hre ha hb
  have q0 := HA2.out.c0
  have q1 := HA2.out.c1
  have q2 := HA2.out.c2
  have q3 := HA2.out.c3
  have q4 := HA2.out.c4
  go_wp2_with (fail)
  refine (HVC.out _ (HV.out.upb HB2.out)).mono ?_
  rintro e w3 ⟨rfl, b3⟩
  have HB3 := Lib.hid (HB2.out.up b3)
  have HA3 := Lib.hid (HA2.out.upb b3)
  clear b3 q0 q1 q2 q3 q4 HB2 HA2 HVC
  have t1 : decide (a < 0) = false := by rw [decide_eq_false_iff_not]; rcases HRE.out with ⟨h, _⟩ | ⟨h | h, _⟩ <;> omega
  have t2 : decide (2 < a) = false := by rw [decide_eq_false_iff_not]; rcases HRE.out with ⟨h, _⟩ | ⟨h | h, _⟩ <;> omega
  have t3 : (!((a == 0) == (b == -1))) = false := by
    rcases HRE.out with ⟨h, h2⟩ | ⟨h, h2, _⟩
    · rw [h, h2]; rfl
    · have e1 : (a == 0) = false := by rw [beq_eq_false_iff_ne]; rcases h with h | h <;> omega
      have e2 : (b == -1) = false := by rw [beq_eq_false_iff_ne]; omega
      rw [e1, e2]; rfl
  go_wp2_with (fail)
  clear t1 t2 t3
  go_loopw [8, 9, 49] (fun r f i wr => ∃ k : Nat, k ≤ l.length ∧ i = .int .i64 k ∧ f = .bool (fF q a b (Hh.bnd (l.take k) q)) ∧ Hid (OwnHs wr w3.heap.size r (Hh.bnd (l.take k) q)) ∧ Hid (Below w3.heap.size w3 wr)) (fun _ _ i _ => l.length - (intOf i).toNat)
  case atStart => exact ⟨0, Nat.zero_le _, rfl, rfl, ownH_none _ _, Below.refl _ _⟩
  case round =>
    obtain ⟨k, hk, rfl, rfl, HO, HK⟩ := hrel
    have HAr := Lib.hid (HA3.out.upb HK.out)
    have q0 := HAr.out.c0
    have q1 := HAr.out.c1
    have q2 := HAr.out.c2
    have q3 := HAr.out.c3
    have q4 := HAr.out.c4
    by_cases hlt : k < l.length
    · obtain ⟨bb, off, rfl, hatt⟩ := hs_at HR.out hlt
      have HX := Lib.hid (hatt.below (HB3.out.up HK.out))
      have HS := Lib.hid (bnd_snoc l q k hlt)
      have hrx := HRT.out _ (List.getElem_mem hlt)
      have hgl : (Hh.bnd (l.take k) q).length ≤ 1000000 := by
        have h1 := List.length_filter_le (Hh.binds q) (l.take k)
        have h2 : (l.take k).length ≤ k := List.length_take_le _ _
        unfold Hh.bnd; omega
      generalize l[k] = x at *
      have hms := Hh.right_ms ((Hh.right_iff x).1 hrx)
      have HBI := Lib.hid (fun W => binds36_any x q W hrx HARG.out)
      have lq := cell_lt q0
      dsimp only at lq
      clear hatt hrx
      have h0 := HX.out.c0
      have h1 := HX.out.c1
      have h2 := HX.out.c2
      have h3 := HX.out.c3
      have h4 := HX.out.c4
      have h5 := HX.out.c5
      have h6 := HX.out.c6
      have h7 := HX.out.c7
      have h8 := HX.out.c8
      have h9 := HX.out.c9
      have HN := Lib.hid (BoxH.new wr x)
      have HAn := Lib.hid (HAr.out.upb (al1 wr (.cells #[.int .i64 x.no, .int .i64 x.kind, .int .i64 x.spk, .int .i64 x.fst, .int .i64 x.lst, .int .i64 x.lang, .int .i64 x.frm, .int .i64 x.unt, .int .i64 x.known, .int .i64 x.ms] 24)))
      have HKn := Lib.hid (HK.out.up (al1 wr (.cells #[.int .i64 x.no, .int .i64 x.kind, .int .i64 x.spk, .int .i64 x.fst, .int .i64 x.lst, .int .i64 x.lang, .int .i64 x.frm, .int .i64 x.unt, .int .i64 x.known, .int .i64 x.ms] 24)))
      have HOn := Lib.hid (ownH_below HO.out (al1 wr (.cells #[.int .i64 x.no, .int .i64 x.kind, .int .i64 x.spk, .int .i64 x.fst, .int .i64 x.lst, .int .i64 x.lang, .int .i64 x.frm, .int .i64 x.unt, .int .i64 x.known, .int .i64 x.ms] 24)))
      go_wp2_with (fail)
      refine (HBI.out _).mono ?_
      rintro e w5 ⟨rfl, b5⟩
      have HN5 := Lib.hid (HN.out.upb b5)
      have HA5 := Lib.hid (HAn.out.upb b5)
      have HK5 := Lib.hid (HKn.out.up b5)
      have HO5 := Lib.hid (ownH_below HOn.out b5)
      have HOW := Lib.hid (fun g hg => (ownH_at HO.out g hg).2)
      clear b5 HN HAn HKn HOn HAr HX HBI q0 q1 q2 q3 q4 h0 h1 h2 h3 h4 h5 h6 h7 h8 h9 HO HK lq
      cases hbi : Hh.binds q x
      · have HE2 := Lib.hid (show Hh.bnd (l.take (k + 1)) q = Hh.bnd (l.take k) q by rw [HS.out, if_neg (by rw [hbi]; simp)])
        clear hbi
        go_wp2_with (fail)
        go_roundw
        case rel => exact ⟨k + 1, by omega, by go_num, by rw [HE2.out], by rw [HE2.out]; exact HO5, HK5⟩
        case measure => first | omega | (simp [intOf]; omega)
      have HE2 := Lib.hid (show Hh.bnd (l.take (k + 1)) q = Hh.bnd (l.take k) q ++ [x] by rw [HS.out, if_pos hbi])
      have HFS := Lib.hid (show fF q a b (Hh.bnd (l.take (k + 1)) q) = if x.no = b then fB q a x else fF q a b (Hh.bnd (l.take k) q) by rw [HE2.out, fF_snoc])
      generalize fF q a b (Hh.bnd (l.take k) q) = f at *
      clear hbi HS
      have h0 := HN5.out.c0
      have h1 := HN5.out.c1
      have h2 := HN5.out.c2
      have h3 := HN5.out.c3
      have h4 := HN5.out.c4
      have h5 := HN5.out.c5
      have h6 := HN5.out.c6
      have h7 := HN5.out.c7
      have h8 := HN5.out.c8
      have h9 := HN5.out.c9
      have hw03 : w.heap.size < w3.heap.size := (Array.getElem?_eq_some_iff.1 HA3.out).1
      have hw05 : w.heap.size < w5.heap.size := (Array.getElem?_eq_some_iff.1 HA5.out).1
      have hwr : IntKind.i64.wrap (q.beg + x.ms) = q.beg + x.ms := by rw [IntKind.wrap_i64]; omega

      cases d0 : (x.no == b)
      · have e0 := Lib.hid (show ¬ x.no = b by simpa using d0)
        go_wp2_with (at_builtin; go_must (refine wpList_pushH rfl (.tmp 63) (.tmp 65) rfl w3.heap.size _ _ rfl HO5.out x w5.heap.size rfl rfl hgl HK5.out.size ?_); intro v1 w6 hown1 hg1 hat1; have HO6 := Lib.hid hown1; have HK6 := Lib.hid (HK5.out.grown hg1 HK5.out.size (fun g hg => (ownH_at HO5.out g hg).1)); have hgg := fun b o (hb : b < w3.heap.size) => (hg1.block b (by have := HK5.out.size; omega) (fun e => by have := (ownH_at HO5.out b e.symm).1; omega)); have HX6 := Lib.hid (show BoxH w6 wr.heap.size x from (hg1.block _ HN5.out.lt (fun e => by have := HOW.out _ e.symm; omega)).trans HN5.out); have HA6 := Lib.hid (show BoxA w6 w.heap.size q from (hg1.block _ hw05 (fun e => by have := (ownH_at HO5.out _ e.symm).1; omega)).trans HA5.out); have x0 := HX6.out.c0; have x1 := HX6.out.c1; have x9 := HX6.out.c9; have q1 := HA6.out.c1; have q3 := HA6.out.c3; clear hown1 hg1 hat1 hgg)
        go_roundw
        case rel => exact ⟨k + 1, by omega, by go_num, by rw [HFS.out]; simp [fB, e0.out], by rw [HE2.out]; exact HO6, HK6⟩
        case measure => first | omega | (simp [intOf]; omega)
      · have e0 := Lib.hid (show x.no = b by simpa using d0)
        cases d1 : (a == 2)
        · have e1 := Lib.hid (show ¬ a = 2 by simpa using d1)
          cases d4 : (a == 1)
          · have e4 := Lib.hid (show ¬ a = 1 by simpa using d4)
            go_wp2_with (at_builtin; go_must (refine wpList_pushH rfl (.tmp 63) (.tmp 65) rfl w3.heap.size _ _ rfl HO5.out x w5.heap.size rfl rfl hgl HK5.out.size ?_); intro v1 w6 hown1 hg1 hat1; have HO6 := Lib.hid hown1; have HK6 := Lib.hid (HK5.out.grown hg1 HK5.out.size (fun g hg => (ownH_at HO5.out g hg).1)); have hgg := fun b o (hb : b < w3.heap.size) => (hg1.block b (by have := HK5.out.size; omega) (fun e => by have := (ownH_at HO5.out b e.symm).1; omega)); have HX6 := Lib.hid (show BoxH w6 wr.heap.size x from (hg1.block _ HN5.out.lt (fun e => by have := HOW.out _ e.symm; omega)).trans HN5.out); have HA6 := Lib.hid (show BoxA w6 w.heap.size q from (hg1.block _ hw05 (fun e => by have := (ownH_at HO5.out _ e.symm).1; omega)).trans HA5.out); have x0 := HX6.out.c0; have x1 := HX6.out.c1; have x9 := HX6.out.c9; have q1 := HA6.out.c1; have q3 := HA6.out.c3; clear hown1 hg1 hat1 hgg)
            go_roundw
            case rel => exact ⟨k + 1, by omega, by go_num, by rw [HFS.out]; simp [fB, e0.out, e1.out, e4.out], by rw [HE2.out]; exact HO6, HK6⟩
            case measure => first | omega | (simp [intOf]; omega)
          · have e4 := Lib.hid (show a = 1 by simpa using d4)
            cases d5 : (x.kind == 3)
            · have e5 := Lib.hid (show ¬ x.kind = 3 by simpa using d5)
              go_wp2_with (at_builtin; go_must (refine wpList_pushH rfl (.tmp 63) (.tmp 65) rfl w3.heap.size _ _ rfl HO5.out x w5.heap.size rfl rfl hgl HK5.out.size ?_); intro v1 w6 hown1 hg1 hat1; have HO6 := Lib.hid hown1; have HK6 := Lib.hid (HK5.out.grown hg1 HK5.out.size (fun g hg => (ownH_at HO5.out g hg).1)); have hgg := fun b o (hb : b < w3.heap.size) => (hg1.block b (by have := HK5.out.size; omega) (fun e => by have := (ownH_at HO5.out b e.symm).1; omega)); have HX6 := Lib.hid (show BoxH w6 wr.heap.size x from (hg1.block _ HN5.out.lt (fun e => by have := HOW.out _ e.symm; omega)).trans HN5.out); have HA6 := Lib.hid (show BoxA w6 w.heap.size q from (hg1.block _ hw05 (fun e => by have := (ownH_at HO5.out _ e.symm).1; omega)).trans HA5.out); have x0 := HX6.out.c0; have x1 := HX6.out.c1; have x9 := HX6.out.c9; have q1 := HA6.out.c1; have q3 := HA6.out.c3; clear hown1 hg1 hat1 hgg)
              go_roundw
              case rel => exact ⟨k + 1, by omega, by go_num, by rw [HFS.out]; simp [fB, e0.out, e1.out, e4.out, e5.out], by rw [HE2.out]; exact HO6, HK6⟩
              case measure => first | omega | (simp [intOf]; omega)
            · have e5 := Lib.hid (show x.kind = 3 by simpa using d5)
              by_cases e6 : q.at_ < q.beg + x.ms
              rotate_left
              · have d6 : decide (q.at_ < q.beg + x.ms) = false := decide_eq_false e6
                replace e6 := Lib.hid e6
                go_wp2_with (at_builtin; go_must (refine wpList_pushH rfl (.tmp 63) (.tmp 65) rfl w3.heap.size _ _ rfl HO5.out x w5.heap.size rfl rfl hgl HK5.out.size ?_); intro v1 w6 hown1 hg1 hat1; have HO6 := Lib.hid hown1; have HK6 := Lib.hid (HK5.out.grown hg1 HK5.out.size (fun g hg => (ownH_at HO5.out g hg).1)); have hgg := fun b o (hb : b < w3.heap.size) => (hg1.block b (by have := HK5.out.size; omega) (fun e => by have := (ownH_at HO5.out b e.symm).1; omega)); have HX6 := Lib.hid (show BoxH w6 wr.heap.size x from (hg1.block _ HN5.out.lt (fun e => by have := HOW.out _ e.symm; omega)).trans HN5.out); have HA6 := Lib.hid (show BoxA w6 w.heap.size q from (hg1.block _ hw05 (fun e => by have := (ownH_at HO5.out _ e.symm).1; omega)).trans HA5.out); have x0 := HX6.out.c0; have x1 := HX6.out.c1; have x9 := HX6.out.c9; have q1 := HA6.out.c1; have q3 := HA6.out.c3; clear hown1 hg1 hat1 hgg)
                go_roundw
                case rel => exact ⟨k + 1, by omega, by go_num, by rw [HFS.out]; simp [fB, e0.out, e1.out, e4.out, e5.out, e6.out], by rw [HE2.out]; exact HO6, HK6⟩
                case measure => first | omega | (simp [intOf]; omega)
              · have d6 : decide (q.at_ < q.beg + x.ms) = true := decide_eq_true e6
                replace e6 := Lib.hid e6
                go_wp2_with (at_builtin; go_must (refine wpList_pushH rfl (.tmp 63) (.tmp 65) rfl w3.heap.size _ _ rfl HO5.out x w5.heap.size rfl rfl hgl HK5.out.size ?_); intro v1 w6 hown1 hg1 hat1; have HO6 := Lib.hid hown1; have HK6 := Lib.hid (HK5.out.grown hg1 HK5.out.size (fun g hg => (ownH_at HO5.out g hg).1)); have hgg := fun b o (hb : b < w3.heap.size) => (hg1.block b (by have := HK5.out.size; omega) (fun e => by have := (ownH_at HO5.out b e.symm).1; omega)); have HX6 := Lib.hid (show BoxH w6 wr.heap.size x from (hg1.block _ HN5.out.lt (fun e => by have := HOW.out _ e.symm; omega)).trans HN5.out); have HA6 := Lib.hid (show BoxA w6 w.heap.size q from (hg1.block _ hw05 (fun e => by have := (ownH_at HO5.out _ e.symm).1; omega)).trans HA5.out); have x0 := HX6.out.c0; have x1 := HX6.out.c1; have x9 := HX6.out.c9; have q1 := HA6.out.c1; have q3 := HA6.out.c3; clear hown1 hg1 hat1 hgg)
                go_roundw
                case rel => exact ⟨k + 1, by omega, by go_num, by rw [HFS.out]; simp [fB, e0.out, e1.out, e4.out, e5.out, e6.out], by rw [HE2.out]; exact HO6, HK6⟩
                case measure => first | omega | (simp [intOf]; omega)
        · have e1 := Lib.hid (show a = 2 by simpa using d1)
          cases d2 : (x.kind == 1)
          · have e2 := Lib.hid (show ¬ x.kind = 1 by simpa using d2)
            cases d3 : (x.kind == 2)
            · have e3 := Lib.hid (show ¬ x.kind = 2 by simpa using d3)
              have e4 := Lib.hid (show ¬ a = 1 by have := e1.out; omega)
              have d4 : (a == 1) = false := by simpa using e4.out
              go_wp2_with (at_builtin; go_must (refine wpList_pushH rfl (.tmp 63) (.tmp 65) rfl w3.heap.size _ _ rfl HO5.out x w5.heap.size rfl rfl hgl HK5.out.size ?_); intro v1 w6 hown1 hg1 hat1; have HO6 := Lib.hid hown1; have HK6 := Lib.hid (HK5.out.grown hg1 HK5.out.size (fun g hg => (ownH_at HO5.out g hg).1)); have hgg := fun b o (hb : b < w3.heap.size) => (hg1.block b (by have := HK5.out.size; omega) (fun e => by have := (ownH_at HO5.out b e.symm).1; omega)); have HX6 := Lib.hid (show BoxH w6 wr.heap.size x from (hg1.block _ HN5.out.lt (fun e => by have := HOW.out _ e.symm; omega)).trans HN5.out); have HA6 := Lib.hid (show BoxA w6 w.heap.size q from (hg1.block _ hw05 (fun e => by have := (ownH_at HO5.out _ e.symm).1; omega)).trans HA5.out); have x0 := HX6.out.c0; have x1 := HX6.out.c1; have x9 := HX6.out.c9; have q1 := HA6.out.c1; have q3 := HA6.out.c3; clear hown1 hg1 hat1 hgg)
              go_roundw
              case rel => exact ⟨k + 1, by omega, by go_num, by rw [HFS.out]; simp [fB, e0.out, e1.out, e2.out, e3.out, e4.out], by rw [HE2.out]; exact HO6, HK6⟩
              case measure => first | omega | (simp [intOf]; omega)
            · have e3 := Lib.hid (show x.kind = 2 by simpa using d3)
              go_wp2_with (at_builtin; go_must (refine wpList_pushH rfl (.tmp 63) (.tmp 65) rfl w3.heap.size _ _ rfl HO5.out x w5.heap.size rfl rfl hgl HK5.out.size ?_); intro v1 w6 hown1 hg1 hat1; have HO6 := Lib.hid hown1; have HK6 := Lib.hid (HK5.out.grown hg1 HK5.out.size (fun g hg => (ownH_at HO5.out g hg).1)); have hgg := fun b o (hb : b < w3.heap.size) => (hg1.block b (by have := HK5.out.size; omega) (fun e => by have := (ownH_at HO5.out b e.symm).1; omega)); have HX6 := Lib.hid (show BoxH w6 wr.heap.size x from (hg1.block _ HN5.out.lt (fun e => by have := HOW.out _ e.symm; omega)).trans HN5.out); have HA6 := Lib.hid (show BoxA w6 w.heap.size q from (hg1.block _ hw05 (fun e => by have := (ownH_at HO5.out _ e.symm).1; omega)).trans HA5.out); have x0 := HX6.out.c0; have x1 := HX6.out.c1; have x9 := HX6.out.c9; have q1 := HA6.out.c1; have q3 := HA6.out.c3; clear hown1 hg1 hat1 hgg)
              go_roundw
              case rel => exact ⟨k + 1, by omega, by go_num, by rw [HFS.out]; simp [fB, e0.out, e1.out, e2.out, e3.out], by rw [HE2.out]; exact HO6, HK6⟩
              case measure => first | omega | (simp [intOf]; omega)
          · have e2 := Lib.hid (show x.kind = 1 by simpa using d2)
            go_wp2_with (at_builtin; go_must (refine wpList_pushH rfl (.tmp 63) (.tmp 65) rfl w3.heap.size _ _ rfl HO5.out x w5.heap.size rfl rfl hgl HK5.out.size ?_); intro v1 w6 hown1 hg1 hat1; have HO6 := Lib.hid hown1; have HK6 := Lib.hid (HK5.out.grown hg1 HK5.out.size (fun g hg => (ownH_at HO5.out g hg).1)); have hgg := fun b o (hb : b < w3.heap.size) => (hg1.block b (by have := HK5.out.size; omega) (fun e => by have := (ownH_at HO5.out b e.symm).1; omega)); have HX6 := Lib.hid (show BoxH w6 wr.heap.size x from (hg1.block _ HN5.out.lt (fun e => by have := HOW.out _ e.symm; omega)).trans HN5.out); have HA6 := Lib.hid (show BoxA w6 w.heap.size q from (hg1.block _ hw05 (fun e => by have := (ownH_at HO5.out _ e.symm).1; omega)).trans HA5.out); have x0 := HX6.out.c0; have x1 := HX6.out.c1; have x9 := HX6.out.c9; have q1 := HA6.out.c1; have q3 := HA6.out.c3; clear hown1 hg1 hat1 hgg)
            go_roundw
            case rel => exact ⟨k + 1, by omega, by go_num, by rw [HFS.out]; simp [fB, e0.out, e1.out, e2.out], by rw [HE2.out]; exact HO6, HK6⟩
            case measure => first | omega | (simp [intOf]; omega)
    · have HT := Lib.hid (show Hh.bnd (l.take k) q = Hh.bnd l q by rw [List.take_of_length_le (by omega)])
      have HO2 := Lib.hid (show OwnHs wr w3.heap.size _ (Hh.bnd l q) from HT.out ▸ HO.out)
      rw [HT.out]
      obtain ⟨A2, c2, rfl⟩ := ownH_slice HO2.out
      have HB6 := Lib.hid (HB3.out.up HK.out)
      rcases HRE.out with ⟨ea, eb⟩ | ⟨ea, hb0, x, hx, hxn, hfx⟩
      · have d0 : (a == 0) = true := by simpa using ea
        have HS3 := Lib.hid (OwnHs.hs HO2.out)
        clear HO HO2
        generalize hn : (Hh.bnd l q).length = n at HS3 ⊢
        have HN3 := Lib.hid hn
        clear hn
        rcases Nat.eq_zero_or_pos n with rfl | hp
        · go_wp2_with (fail)
          refine (HVB.out _ _ HS3.out).mono ?_
          rintro e w7 ⟨rfl, b7⟩
          have HB7 := Lib.hid (HB6.out.up b7)
          clear b7 q0 q1 q2 q3 q4 HK HAr HS3
          go_wp2_with (fail)
          go_ret
          exact ⟨rfl, HB7.out⟩
        · have dl1 : decide (0 < n) = true := by rw [decide_eq_true_eq]; exact hp
          have dl2 : decide (0 < (n : Int)) = true := by rw [decide_eq_true_eq]; omega
          clear hp
          go_wp2_with (fail)
          refine (HVB.out _ _ HS3.out).mono ?_
          rintro e w7 ⟨rfl, b7⟩
          have HB7 := Lib.hid (HB6.out.up b7)
          clear b7 q0 q1 q2 q3 q4 HK HAr HS3
          go_wp2_with (fail)
          go_ret
          exact ⟨rfl, HB7.out⟩
      · have d0 : (a == 0) = false := by rw [beq_eq_false_iff_ne]; omega
        have hft : fF q a b (Hh.bnd l q) = true := by rw [← hxn]; exact (fF_hit q a x _ HPW.out hx).trans hfx
        rw [hft]
        have hp := List.length_pos_of_mem hx
        have HS3 := Lib.hid (OwnHs.hs HO2.out)
        clear HO HO2
        generalize hn : (Hh.bnd l q).length = n at hp HS3 ⊢
        have HN3 := Lib.hid hn
        have dl1 : decide (0 < n) = true := by rw [decide_eq_true_eq]; exact hp
        have dl2 : decide (0 < (n : Int)) = true := by rw [decide_eq_true_eq]; omega
        clear hp hn
        go_wp2_with (fail)
        refine (HVB.out _ _ HS3.out).mono ?_
        rintro e w7 ⟨rfl, b7⟩
        have HB7 := Lib.hid (HB6.out.up b7)
        clear b7 q0 q1 q2 q3 q4 HK HAr HS3
        go_wp2_with (fail)
        go_ret
        exact ⟨rfl, HB7.out⟩

end Go.Proofs.Ytninnpcggeofmaa
