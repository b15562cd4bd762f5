/- The statement VerdictsHeld, walked. -/
import Derived.Test.YtninnpcggeofmaaW15
namespace Go.Proofs.Ytninnpcggeofmaa
open Go.RowKit
set_option linter.unusedVariables false
set_option linter.unusedSimpArgs false
attribute [local go_sem] frozen_new

def mxM (l : List Hh) : Int := l.foldl (fun m h => max m h.ms) 0
theorem mxM_snoc (l : List Hh) (k : Nat) (h : k < l.length) : mxM (l.take (k + 1)) = max (mxM (l.take k)) l[k].ms := by
  unfold mxM; rw [List.take_succ_eq_append_getElem h, List.foldl_append]; rfl
theorem foldM_le (l : List Hh) : ∀ z : Int, z ≤ l.foldl (fun m h => max m h.ms) z ∧ ∀ x ∈ l, x.ms ≤ l.foldl (fun m h => max m h.ms) z := by
  induction l with
  | nil => intro z; exact ⟨Int.le_refl _, fun x hx => by simp at hx⟩
  | cons a r ih =>
    intro z
    obtain ⟨h1, h2⟩ := ih (max z a.ms)
    rw [List.foldl_cons]
    refine ⟨by omega, fun x hx => ?_⟩
    rcases List.mem_cons.1 hx with rfl | hx
    · omega
    · exact h2 x hx
theorem foldM_bd (l : List Hh) (b : Int) (hm : ∀ x ∈ l, x.ms ≤ b) : ∀ z : Int, z ≤ b → l.foldl (fun m h => max m h.ms) z ≤ b := by
  induction l with
  | nil => intro z hz; exact hz
  | cons a r ih =>
    intro z hz
    have := hm a (by simp)
    rw [List.foldl_cons]
    exact ih (fun x hx => hm x (by simp [hx])) _ (by omega)
/-- late enough nothing is held -/
theorem ver_late {l : List Hh} {q : Hh.Qq} (he : Hh.err l = 0) (ha : Hh.askQ q = true) (hl : ∀ x ∈ l, q.beg + x.ms ≤ q.at_) : (Hh.ver l q).e = 0 ∧ ((Hh.ver l q).v != 1) = true := by
  rw [Hh.ver, if_pos he, if_pos ha]
  have hd : Hh.delayN q (Hh.bnd l q) = -1 := by
    rw [delay_head]
    have : (Hh.bnd l q).filter (fun h => decide (h.kind = 3) && decide (q.at_ < q.beg + h.ms)) = [] := by
      rw [List.filter_eq_nil_iff]
      intro x hx
      have := hl x (List.mem_filter.1 hx).1
      simp; omega
    rw [this]; rfl
  unfold Hh.verB
  rw [hd]
  split
  · exact ⟨rfl, rfl⟩
  · split
    · exact ⟨rfl, rfl⟩
    · rw [if_neg (by omega)]; exact ⟨rfl, rfl⟩

set_option maxHeartbeats 4000000 in
set_option maxRecDepth 100000 in
theorem VerdictsHeld_any (v : Value) (l : List Hh) (q : Hh.Qq) (w : World) (hv : IsHs w v l) (hl : l.length ≤ 9223372036854775807) : Calls Try.prog 11 #[v, askV q] w fun e w' => e = .returned (.bool true) ∧ Below w.heap.size w w' := by
  have HV := Lib.hid hv
  obtain ⟨A, cap, rfl, hrow⟩ := id hv
  have HR := Lib.hid hrow
  have HA0 := Lib.hid (BoxA.new w q)
  have HB0 := Lib.hid (al1 w (.cells #[.int .i64 q.spk, .int .i64 q.beg, .int .i64 q.lang, .int .i64 q.at_, .int .i64 q.known] 48))
  have haa : askV q = askV q := rfl
  unfold askV
  clear haa hv hrow
  go_enter Try.func11, Try.ntmps11
  go_wp2_with (fail)
  refine (sane36_any _).mono ?_
  rintro e w1 ⟨rfl, b1⟩
  have HB := Lib.hid (HB0.out.up b1)
  have HA := Lib.hid (HA0.out.upb b1)
  clear b1 HB0 HA0
  have q0 := HA.out.c0
  have q1 := HA.out.c1
  have q2 := HA.out.c2
  have q3 := HA.out.c3
  have q4 := HA.out.c4
  go_wp2_with (fail)
  cases hrg : rgB l q
  · refine (right36_is (q := q) hrg (HV.out.upb HB.out) hl).mono ?_
    rintro e w2 ⟨rfl, b2⟩
    go_wp2_with (fail)
    go_ret
    exact ⟨rfl, HB.out.up b2⟩
  refine (right36_is (q := q) hrg (HV.out.upb HB.out) hl).mono ?_
  rintro e w2 ⟨rfl, b2⟩
  obtain ⟨h30, he, hask, harg, hinc⟩ := rgB_t hrg
  have HB2 := Lib.hid (HB.out.up b2)
  have HA2 := Lib.hid (HA.out.upb b2)
  have HE := Lib.hid he
  have HASK := Lib.hid hask
  have HMS := Lib.hid (show ∀ x ∈ l, 0 ≤ x.ms ∧ x.ms ≤ 1073741824 from fun x hx => Hh.right_ms ((Hh.right_iff x).1 (incr_mem hinc x hx).2))
  have hbeg : 0 ≤ q.beg ∧ q.beg ≤ 1099511627775 := by
    simp only [Hh.argQ, Bool.and_eq_true] at harg
    exact inn_t harg.1.1.2
  have hat : 0 ≤ q.at_ ∧ q.at_ ≤ 1099511627775 := by
    simp only [Hh.argQ, Bool.and_eq_true] at harg
    exact inn_t harg.2
  clear b2 HB HA q0 q1 q2 q3 q4 hrg he hask harg hinc
  go_wp2_with (fail)
  go_loopw [5, 20] (fun m i wr => ∃ k : Nat, k ≤ l.length ∧ i = .int .i64 k ∧ m = .int .i64 (mxM (l.take k)) ∧ Hid (Below w2.heap.size w2 wr)) (fun _ i _ => l.length - (intOf i).toNat)
  case atStart => exact ⟨0, Nat.zero_le _, rfl, rfl, Below.refl _ _⟩
  case round =>
    obtain ⟨k, hk, rfl, rfl, HK⟩ := hrel
    by_cases hlt : k < l.length
    · obtain ⟨b, off, rfl, hatt⟩ := hs_at HR.out hlt
      have HX := Lib.hid (hatt.below (HB2.out.up HK.out))
      have HS := Lib.hid (mxM_snoc l k hlt)
      have HK2 := fun o => Lib.hid (HK.out.up (al1 wr o))
      generalize l[k] = x at *
      generalize mxM (l.take k) = z at *
      clear hatt
      have q0 := HX.out.c0
      have q1 := HX.out.c1
      have q2 := HX.out.c2
      have q3 := HX.out.c3
      have q4 := HX.out.c4
      have q5 := HX.out.c5
      have q6 := HX.out.c6
      have q7 := HX.out.c7
      have q8 := HX.out.c8
      have q9 := HX.out.c9
      rcases Int.lt_or_le z x.ms with hx2 | hx2
      all_goals
        go_wp2_with (fail)
        go_roundw
        case rel => exact ⟨k + 1, by omega, by go_num, by congr 1; have := HS.out; omega, HK2 _⟩
        case measure => first | omega | (simp [intOf]; omega)
    · obtain rfl : k = l.length := by omega
      rw [List.take_length]
      have hm0 := (foldM_le l 0).1
      have HML := Lib.hid (fun x hx => (foldM_le l 0).2 x hx)
      have hm1 := foldM_bd l 1073741824 (fun x hx => (HMS.out x hx).2) 0 (by omega)
      have HMX := Lib.hid (show mxM l = l.foldl (fun m h => max m h.ms) 0 from rfl)
      rw [← HMX.out] at hm0 hm1
      have HML2 := Lib.hid (show ∀ x ∈ l, x.ms ≤ mxM l from HML.out)
      generalize hmm : mxM l = M at *
      clear HMX HML hmm
      have HA3 := Lib.hid (HA2.out.upb HK.out)
      have HB3 := Lib.hid (HB2.out.up HK.out)
      have q0 := HA3.out.c0
      have q1 := HA3.out.c1
      have q2 := HA3.out.c2
      have q3 := HA3.out.c3
      have q4 := HA3.out.c4
      have lq := cell_lt q0
      dsimp only at lq
      have hw : IntKind.i64.wrap (q.beg + M) = q.beg + M := by rw [IntKind.wrap_i64]; omega
      rcases Int.lt_or_le q.at_ (q.beg + M) with hx2 | hx2
      · skip
        have HL := Lib.hid (show ∀ x ∈ l, q.beg + x.ms ≤ q.beg + M from fun x hx => by have := HML2.out x hx; omega)
        have HB4 := fun o => Lib.hid (HB3.out.up (al1 wr o))
        go_wp2_with (fail)
        cases htm : Hh.inn (q.beg + M) 0 1099511627775
        · refine (refTime_is htm _).mono ?_
          rintro e _ ⟨rfl, rfl⟩
          go_wp2_with (fail)
          go_ret
          exact ⟨rfl, (HB4 _).out⟩
        · refine (refTime_is htm _).mono ?_
          rintro e _ ⟨rfl, rfl⟩
          have hask2 : Hh.askQ ⟨q.spk, q.beg, q.lang, q.beg + M, q.known⟩ = true := by
            have := HASK.out
            simp only [Hh.askQ, Hh.argQ, Bool.and_eq_true] at this ⊢
            exact ⟨⟨this.1.1, htm⟩, this.2⟩
          obtain ⟨he0, hv1⟩ := ver_late (q := ⟨q.spk, q.beg, q.lang, q.beg + M, q.known⟩) HE.out hask2 HL.out
          have HC := Lib.hid (fun (W : World) (hv : IsHs W (.slice A l.length cap) l) => verdict36_any _ l ⟨q.spk, q.beg, q.lang, q.beg + M, q.known⟩ W hv hl ⟨rfl, rfl, he0⟩)
          generalize (Hh.ver l ⟨q.spk, q.beg, q.lang, q.beg + M, q.known⟩).v = a at *
          generalize (Hh.ver l ⟨q.spk, q.beg, q.lang, q.beg + M, q.known⟩).no = b at *
          clear he0 htm hask2
          go_wp2_with (fail)
          refine (HC.out _ (HV.out.upb (HB4 _).out)).mono ?_
          rintro e w5 ⟨rfl, b5⟩
          have HB5 := Lib.hid ((HB4 _).out.up b5)
          clear b5 q0 q1 q2 q3 q4 HB4
          go_wp2_with (fail)
          go_ret
          exact ⟨rfl, HB5.out⟩
      · skip
        have HL := Lib.hid (show ∀ x ∈ l, q.beg + x.ms ≤ q.at_ from fun x hx => by have := HML2.out x hx; omega)
        have HB4 := fun o => Lib.hid (HB3.out.up (al1 wr o))
        go_wp2_with (fail)
        cases htm : Hh.inn (q.at_) 0 1099511627775
        · refine (refTime_is htm _).mono ?_
          rintro e _ ⟨rfl, rfl⟩
          go_wp2_with (fail)
          go_ret
          exact ⟨rfl, (HB4 _).out⟩
        · refine (refTime_is htm _).mono ?_
          rintro e _ ⟨rfl, rfl⟩
          have hask2 : Hh.askQ ⟨q.spk, q.beg, q.lang, q.at_, q.known⟩ = true := by
            have := HASK.out
            simp only [Hh.askQ, Hh.argQ, Bool.and_eq_true] at this ⊢
            exact ⟨⟨this.1.1, htm⟩, this.2⟩
          obtain ⟨he0, hv1⟩ := ver_late (q := ⟨q.spk, q.beg, q.lang, q.at_, q.known⟩) HE.out hask2 HL.out
          have HC := Lib.hid (fun (W : World) (hv : IsHs W (.slice A l.length cap) l) => verdict36_any _ l ⟨q.spk, q.beg, q.lang, q.at_, q.known⟩ W hv hl ⟨rfl, rfl, he0⟩)
          generalize (Hh.ver l ⟨q.spk, q.beg, q.lang, q.at_, q.known⟩).v = a at *
          generalize (Hh.ver l ⟨q.spk, q.beg, q.lang, q.at_, q.known⟩).no = b at *
          clear he0 htm hask2
          go_wp2_with (fail)
          refine (HC.out _ (HV.out.upb (HB4 _).out)).mono ?_
          rintro e w5 ⟨rfl, b5⟩
          have HB5 := Lib.hid ((HB4 _).out.up b5)
          clear b5 q0 q1 q2 q3 q4 HB4
          go_wp2_with (fail)
          go_ret
          exact ⟨rfl, HB5.out⟩

end Go.Proofs.Ytninnpcggeofmaa
