/- Walk of the reference's Withdrawn. -/
import Derived.Test.YtofllhbcediafaaW15
namespace Go.Proofs.Ytofllhbcediafaa
open Go.RowKit
set_option linter.unusedVariables false
set_option linter.unusedSimpArgs false

theorem quiet_more {P : Program} {f : FuncId} {args : Array Value} {w : World} {a n : Nat} {v : Value}
    (h : Calls P f args (w.drewN (a + n)) fun e w' => e = .returned v ∧ w.drewN (a + n) = w') : Calls P f args (w.drewN (a + n)) fun e w'' => e = .returned v ∧ ∃ m, w'' = w.drewN (a + m) :=
  h.mono fun _ _ hh => ⟨hh.1, n, hh.2.symm⟩
theorem lostW_ofN (i : Nat) (t : Int) (x : List Pl.Life) : (Pl.lostW i t x).length = ofN t x := by
  unfold ofN
  induction x with
  | nil => rfl
  | cons y r ih =>
    simp only [Pl.lostW, List.filter_cons]
    split <;> simp [ih]
theorem lostF_ofN (l : List (List Pl.Life)) (s : List Int) (k : Nat) (h : k < l.length) (h' : k < s.length) : (Pl.lostF 0 (l.take (k + 1)) s).length = (Pl.lostF 0 (l.take k) s).length + ofN s[k] l[k] := by
  rw [Pl.lostF_take l s k h h', List.length_append, lostW_ofN]
theorem lostF_bd {l : List (List Pl.Life)} {ds : List Int} (s : List Int) (hR : Right l ds) (k : Nat) : (Pl.lostF 0 (l.take k) s).length ≤ 16384 := by
  have := lostF_len 0 (l.take k) s (fun j hj => by rw [List.getElem_take]; exact hR.most j (by simp at hj; omega))
  have h2 := List.length_take_le k l
  have h3 := hR.few
  have h4 : (l.take k).length ≤ l.length := by simp; omega
  omega

set_option maxHeartbeats 1000000 in
theorem refWithdrawn_any (v u x : Value) (l : List (List Pl.Life)) (ds s : List Int) (w : World) (hv : IsWords w v l) (hu : IsInts w u ds) (hx : IsInts w x s) (hl : l.length ≤ 9223372036854775807) (hl3 : s.length ≤ 9223372036854775807) :
    Calls Try.prog 19 #[v, u, x] w fun e w' => e = .returned (.tuple #[.int .i64 (wdN l ds s), .int .i64 (wdE l ds s)]) ∧ ∃ m, w' = w.drewN m := by
  have HV := Lib.hid hv
  have HU := Lib.hid hu
  have HX := Lib.hid hx
  obtain ⟨A, cap, vs, rfl, hlen, hr, hvs⟩ := hv
  obtain ⟨A2, cap2, rfl, hr2⟩ := hu
  obtain ⟨A3, cap3, rfl, hr3⟩ := hx
  have HLEN := Lib.hid hlen
  have HR := Lib.hid hr
  have HVS := Lib.hid hvs
  have HR3 := Lib.hid hr3
  clear hr hvs hlen hr2 hr3
  by_cases he : Pl.err l ds = 0
  rotate_left
  · have hne : (Pl.err l ds != 0) = true := by simp [he]
    have HA := Lib.hid (show wdE l ds s = Pl.err l ds by simp [wdE, he])
    have HB := Lib.hid (show wdN l ds s = 0 by simp [wdN, HA.out, he])
    clear he
    go_enter Try.func19, Try.ntmps19
    go_wp2_with (fail)
    refine (refCheck_any _ _ l ds _ HV.out HU.out hl).mono ?_
    rintro e w1 ⟨rfl, m, rfl⟩
    go_wp2_with (fail)
    go_ret2
    exact ⟨by rw [HA.out, HB.out]; rfl, _, rfl⟩
  have HE := Lib.hid he
  have HRt := Lib.hid (right_of he)
  have hfew := HRt.out.few
  clear he
  cases hi : Pl.inTime l ds s
  · have HA := Lib.hid (show wdE l ds s = 500 by simp [wdE, HE.out, hi])
    have HB := Lib.hid (show wdN l ds s = 0 by simp [wdN, HA.out])
    go_enter Try.func19, Try.ntmps19
    go_wp2_with (fail)
    refine (refCheck_any _ _ l ds _ HV.out HU.out hl).mono ?_
    rintro e w1 ⟨rfl, m, rfl⟩
    rw [HE.out]
    go_wp2_with (fail)
    refine (refInTime_any _ _ _ l ds s _ (HV.out.drewN m) (HU.out.drewN m) (HX.out.drewN m) HRt.out hl3).mono ?_
    rintro e w2 ⟨rfl, n, rfl⟩
    rw [hi]
    go_wp2_with (fail)
    go_ret2
    exact ⟨by rw [HA.out, HB.out]; rfl, _, rfl⟩
  · have HA := Lib.hid (show wdE l ds s = 0 by simp [wdE, HE.out, hi])
    have HB := Lib.hid (show wdN l ds s = (Pl.lostF 0 l s).length by simp [wdN, HA.out, Pl.withdrawn])
    have hsl : s.length = l.length := by
      simp only [Pl.inTime, Bool.and_eq_true, decide_eq_true_eq] at hi; exact hi.1
    have hs1 : s.length ≤ l.length := by omega
    have hs2 : l.length ≤ s.length := by omega
    clear hsl
    go_enter Try.func19, Try.ntmps19
    go_wp2_with (fail)
    refine (refCheck_any _ _ l ds _ HV.out HU.out hl).mono ?_
    rintro e w1 ⟨rfl, m0, rfl⟩
    rw [HE.out]
    go_wp2_with (fail)
    refine (refInTime_any _ _ _ l ds s _ (HV.out.drewN m0) (HU.out.drewN m0) (HX.out.drewN m0) HRt.out hl3).mono ?_
    rintro e w2 ⟨rfl, n, rfl⟩
    rw [hi]
    go_wp2_with (fail)
    clear hi
    go_loopw [9, 10] (fun n i wr => ∃ k m : Nat, k ≤ l.length ∧ i = .int .i64 k ∧ n = .int .i64 ((Pl.lostF 0 (l.take k) s).length : Nat) ∧ wr = w.drewN m) (fun _ i _ => l.length - (intOf i).toNat)
    case atStart => exact ⟨0, _, Nat.zero_le _, rfl, rfl, rfl⟩
    case round =>
      obtain ⟨k, m, hk, rfl, rfl, rfl⟩ := hrel
      by_cases hlt : k < l.length
      · have k1 : k < s.length := by omega
        have hb1 := lostF_bd s HRt.out k
        have hb2 := lostF_bd s HRt.out (k + 1)
        have HS := Lib.hid (lostF_ofN l s k hlt k1)
        have hof : ofN s[k] l[k] ≤ 16384 := by have := HS.out; omega
        have hx16 := HRt.out.most k hlt
        obtain ⟨b, off, A4, c4, rfl, _, hc, hr4⟩ := words_at HLEN.out HR.out HVS.out hlt
        obtain ⟨b3, off3, rfl, _, hc3⟩ := ints_at HR3.out k1
        have HX4 := Lib.hid (show IsLives w (.slice A4 l[k].length c4) l[k] from ⟨_, _, rfl, hr4⟩)
        clear hr4
        generalize (Pl.lostF 0 (l.take k) s).length = q at *
        generalize l[k] = y at *
        generalize s[k] = t at *
        go_wp2_with (fail)
        have hwr : IntKind.i64.wrap ((q : Int) + (ofN t y : Int)) = (q : Int) + (ofN t y : Int) := IntWalk.i64_in _ (by omega)
        go_quiet ((go_at_call 31; exact quiet_more (of_any _ y t _ (IsLives.drewN HX4.out _) (by omega))))
        go_wp2_with (fail)
        go_roundw
        case rel => exact ⟨k + 1, _, by omega, by go_num, by rw [HS.out]; go_num, rfl⟩
        case measure => first | omega | (simp [intOf]; done) | (simp [intOf]; omega)
      · have HF := Lib.hid (show ((Pl.lostF 0 (l.take k) s).length : Int) = wdN l ds s by rw [HB.out, List.take_of_length_le (by omega)])
        go_wp2_with (fail)
        go_ret2
        exact ⟨by rw [HA.out, ← HF.out]; rfl, _, rfl⟩

end Go.Proofs.Ytofllhbcediafaa
