/- Walks of the statements PortionsFair and PortionsMore. -/
import Derived.Test.YtagbdjdphghflaaL1
import Derived.Test.YtagbdjdphghflaaPlain2
namespace Go.Proofs.Ytagbdjdphghflaa
open Go.RowKit

theorem total_snoc (l : List Int) (x : Int) : Pl.total (l ++ [x]) = Pl.total l + x := by
  induction l with
  | nil => simp [Pl.total]
  | cons a l ih => simp only [List.cons_append, Pl.total, ih]; omega
theorem total_take (l : List Int) (k : Nat) (h : k < l.length) : Pl.total (l.take (k + 1)) = Pl.total (l.take k) + l[k] := by
  rw [List.take_succ_eq_append_getElem h, total_snoc]
theorem total_bd (l : List Int) (h : ∀ x ∈ l, 0 ≤ x ∧ x ≤ 1099511627777) : 0 ≤ Pl.total l ∧ Pl.total l ≤ 1099511627777 * l.length := by
  induction l with
  | nil => simp [Pl.total]
  | cons a l ih =>
    have h1 := h a (by simp)
    have h2 := ih (fun x hx => h x (by simp [hx]))
    simp only [Pl.total, List.length_cons]; omega
theorem total_take_bd (l : List Int) (h : ∀ x ∈ l, 0 ≤ x ∧ x ≤ 1099511627777) (hl : l.length ≤ 100) (k : Nat) : 0 ≤ Pl.total (l.take k) ∧ Pl.total (l.take k) ≤ 109951162777700 := by
  have h1 := total_bd (l.take k) (fun x hx => h x (List.mem_of_mem_take hx))
  have h2 : (l.take k).length ≤ 100 := by rw [List.length_take]; omega
  omega
theorem most_le (l : List Int) (m M : Int) (hm : m ≤ M) (h : ∀ x ∈ l, x ≤ M) : Pl.most l m ≤ M := by
  induction l generalizing m with
  | nil => simpa [Pl.most] using hm
  | cons a l ih => exact ih (max m a) (by have := h a (by simp); omega) (fun x hx => h x (by simp [hx]))

/-- every portion, by its place -/
structure Fair (c : Int) (xs l : List Int) (n : Int) : Prop where
  len : l.length = xs.length
  at_ : ∀ i (h1 : i < xs.length) (h2 : i < l.length), 0 ≤ l[i] ∧ l[i] ≤ xs[i] ∧ (xs[i] ≤ n → l[i] = xs[i]) ∧ l[i] ≤ n + 1 ∧ (n < xs[i] → n ≤ l[i])
  all : Pl.total l = min c (Pl.total xs)

theorem fair_of (c : Int) (xs : List Int) (he : Pl.err c xs = 0) : Fair c xs (Pl.divide c xs) (Pl.level c xs) := by
  have H0 := err_ok he
  have hd : ∀ x ∈ xs, 0 ≤ x := fun x hx => (H0.2.2.1.2 x hx).1
  exact ⟨Pl.divide_length c xs, fun i h1 h2 => Pl.divide_fair c xs H0.1 hd i h1 h2, Pl.divide_total c xs H0.1 hd⟩

set_option maxHeartbeats 2000000 in
set_option maxRecDepth 100000 in
theorem PortionsFair_any (c : Int) (v : Value) (xs : List Int) (w : World) (hv : IsInts w v xs) (hl : xs.length ≤ 9223372036854775807) :
    Calls Try.prog 5 #[.int .i64 c, v] w fun e w' => e = .returned (.bool true) ∧ Below w.heap.size w w' := by
  have HV := Lib.hid hv
  obtain ⟨A, cap, rfl, hr⟩ := hv
  clear hr
  by_cases he : Pl.err c xs = 0
  · have HE := Lib.hid he
    have H0 := err_ok he
    have HS := Lib.hid H0.2.2.1
    have h32 := H0.2.2.2
    have hc0 := H0.1
    have hc1 := H0.2.1
    have hlv := level_bd c xs HS.out hc0
    have HF := Lib.hid (fair_of c xs he)
    have HLR := Lib.hid (show levelR c xs = Pl.level c xs by simp [levelR, he])
    clear he H0
    obtain ⟨dl, hdle⟩ : ∃ dl, Pl.divide c xs = dl := ⟨_, rfl⟩
    rw [hdle] at HF
    have HDE := Lib.hid hdle
    clear hdle
    generalize Pl.level c xs = n at HF HLR hlv
    obtain ⟨hn0, hn1, _⟩ := hlv
    have hdl := HF.out.len
    have HDL := Lib.hid hdl
    have hxb : ∀ x ∈ xs, 0 ≤ x ∧ x ≤ 1099511627777 := fun x hx => by have := HS.out.2 x hx; omega
    have hlb : ∀ x ∈ dl, 0 ≤ x ∧ x ≤ 1099511627777 := fun x hx => by
      obtain ⟨i, hi, rfl⟩ := List.getElem_of_mem hx
      have h1 := HF.out.at_ i (by omega) hi
      have h2 := HS.out.2 xs[i] (List.getElem_mem (by omega))
      omega
    have HXB := Lib.hid hxb
    have HLB := Lib.hid hlb
    clear hxb hlb hdl
    go_enter Try.func5, Try.ntmps5
    go_wp2_with (fail)
    refine (sane_any _).mono ?_
    rintro e w1 ⟨rfl, hb1⟩
    go_wp2_with (fail)
    refine (divided_yes c _ xs _ (HV.out.below hb1) hl HE.out).mono ?_
    rintro e w2 ⟨⟨x, rfl, hx⟩, hb2⟩
    rw [HDE.out] at hx
    obtain ⟨A3, cap3, rfl, hr3⟩ := hx
    have hw2 := hb1.up hb2
    clear hb1 hb2
    go_wp2_with (fail)
    refine (Level_any c _ xs _ (HV.out.below hw2) hl).mono ?_
    rintro e w3 ⟨rfl, hb3⟩
    rw [HE.out, HLR.out]
    have HW := Lib.hid (hw2.up hb3)
    obtain ⟨A', cap', hA', hr'⟩ := HV.out.below (hw2.up hb3)
    cases hA'
    have HR := Lib.hid hr'
    have HR3 := Lib.hid (hr3.below hb3)
    clear hr' hr3 hw2 hb3
    go_wp2_with (fail)
    go_loopw [10, 11, 12, 43] (fun s a m i wr => ∃ k : Nat, k ≤ xs.length ∧ i = .int .i64 k ∧ s = .int .i64 (Pl.total (dl.take k)) ∧ a = .int .i64 (Pl.total (xs.take k)) ∧ m = .int .i64 (Pl.most (dl.take k) 0) ∧ ∃ q, wr = w3.drewN q) (fun _ _ _ i _ => xs.length - (intOf i).toNat)
    case atStart => exact ⟨0, Nat.zero_le _, rfl, rfl, rfl, rfl, 0, rfl⟩
    case round =>
      obtain ⟨k, hk, rfl, rfl, rfl, rfl, q, rfl⟩ := hrel
      have hkd : k < xs.length → k < dl.length := fun h => by have := HDL.out; omega
      have hb1 := total_take_bd dl HLB.out (by have := HDL.out; omega) k
      have hb2 := total_take_bd xs HXB.out (by omega) k
      have hb3 := (Pl.le_most (dl.take k) 0).1
      have hb4 := most_le (dl.take k) 0 (n + 1) (by omega) (fun x hx => by
        obtain ⟨i, hi, rfl⟩ := List.getElem_of_mem (List.mem_of_mem_take hx)
        exact (HF.out.at_ i (by have := HDL.out; omega) hi).2.2.2.1)
      by_cases hlt : k < xs.length
      · have hkd' := hkd hlt
        obtain ⟨b, off, rfl, _, hc⟩ := ints_at HR.out hlt
        obtain ⟨b2, off2, rfl, _, hc2⟩ := ints_at HR3.out hkd'
        obtain ⟨f1, f2, f3, f4, f5⟩ := HF.out.at_ k hlt hkd'
        have H1 := Lib.hid (total_take dl k hkd')
        have H2 := Lib.hid (total_take xs k hlt)
        have H3 := Lib.hid (Pl.most_take dl k 0 hkd')
        have hx1 := HS.out.2 xs[k] (List.getElem_mem hlt)
        generalize dl[k] = d at hc2 f1 f2 f3 f4 f5 H1 H3
        generalize xs[k] = x at hc f2 f3 f5 H2 hx1
        generalize Pl.total (dl.take k) = t1 at hb1 H1 ⊢
        generalize Pl.total (xs.take k) = t2 at hb2 H2 ⊢
        generalize Pl.most (dl.take k) 0 = m at hb3 hb4 H3 ⊢
        clear hkd
        by_cases hx : x ≤ n
        · have hne : (d != x) = false := by simpa using f3 hx
          have HD := Lib.hid (f3 hx)
          clear f3 f5
          by_cases hm : m ≤ d
          all_goals
            go_wp2
            go_quiet (fail)
            go_wp2
            go_roundw
            case rel => exact ⟨k + 1, by omega, by go_num, by rw [H1.out], by rw [H2.out], by rw [H3.out]; congr 1; omega, _, rfl⟩
            case measure => first | omega | (simp [intOf]; omega)
        · clear f3
          have f6 := f5 (by omega)
          clear f5
          by_cases hm : m ≤ d
          all_goals
            go_wp2
            go_quiet (fail)
            go_wp2
            go_roundw
            case rel => exact ⟨k + 1, by omega, by go_num, by rw [H1.out], by rw [H2.out], by rw [H3.out]; congr 1; omega, _, rfl⟩
            case measure => first | omega | (simp [intOf]; omega)
      · have e1 : dl.take k = dl := List.take_of_length_le (by have := HDL.out; omega)
        have e2 : xs.take k = xs := List.take_of_length_le (by omega)
        rw [e1] at hb1 hb3 hb4 ⊢
        rw [e2] at hb2 ⊢
        clear e1 e2 hkd
        have HT := Lib.hid HF.out.all
        generalize Pl.total dl = t1 at hb1 HT ⊢
        generalize Pl.total xs = t2 at hb2 HT ⊢
        generalize Pl.most dl 0 = m at hb3 hb4 ⊢
        by_cases hct : c ≤ t2
        · have hq1 : (t1 == c) = true := by have := HT.out; simp; omega
          go_wp2_with (fail)
          go_loop [114] (fun i => ∃ k : Nat, k ≤ xs.length ∧ i = .int .i64 k) (fun i => xs.length - (intOf i).toNat)
          case atStart => exact ⟨0, Nat.zero_le _, rfl⟩
          case round =>
            obtain ⟨j, hj, rfl⟩ := hrel
            by_cases hlt2 : j < xs.length
            · have hjd : j < dl.length := by have := HDL.out; omega
              obtain ⟨b, off, rfl, _, hc⟩ := ints_at HR.out hlt2
              obtain ⟨b2, off2, rfl, _, hc2⟩ := ints_at HR3.out hjd
              obtain ⟨f1, f2, f3, f4, f5⟩ := HF.out.at_ j hlt2 hjd
              generalize dl[j] = d at hc2 f1 f2 f3 f4 f5
              generalize xs[j] = x at hc f2 f3 f5
              by_cases hx : d < x
              · have hnx : n < x := by
                  rcases Int.lt_or_le n x with h | h
                  · exact h
                  · have := f3 h; omega
                have f6 := f5 hnx
                clear f3 f5
                go_wp2
                go_round
                case rel => exact ⟨j + 1, by omega, by go_num⟩
                case measure => first | omega | (simp [intOf]; omega)
              · clear f3 f5
                go_wp2
                go_round
                case rel => exact ⟨j + 1, by omega, by go_num⟩
                case measure => first | omega | (simp [intOf]; omega)
            · go_wp2
              go_ret
              exact ⟨rfl, below_drewN HW.out _⟩
        · have hq1 : (t1 == t2) = true := by have := HT.out; simp; omega
          go_wp2_with (fail)
          go_loop [114] (fun i => ∃ k : Nat, k ≤ xs.length ∧ i = .int .i64 k) (fun i => xs.length - (intOf i).toNat)
          case atStart => exact ⟨0, Nat.zero_le _, rfl⟩
          case round =>
            obtain ⟨j, hj, rfl⟩ := hrel
            by_cases hlt2 : j < xs.length
            · have hjd : j < dl.length := by have := HDL.out; omega
              obtain ⟨b, off, rfl, _, hc⟩ := ints_at HR.out hlt2
              obtain ⟨b2, off2, rfl, _, hc2⟩ := ints_at HR3.out hjd
              obtain ⟨f1, f2, f3, f4, f5⟩ := HF.out.at_ j hlt2 hjd
              generalize dl[j] = d at hc2 f1 f2 f3 f4 f5
              generalize xs[j] = x at hc f2 f3 f5
              by_cases hx : d < x
              · have hnx : n < x := by
                  rcases Int.lt_or_le n x with h | h
                  · exact h
                  · have := f3 h; omega
                have f6 := f5 hnx
                clear f3 f5
                go_wp2
                go_round
                case rel => exact ⟨j + 1, by omega, by go_num⟩
                case measure => first | omega | (simp [intOf]; omega)
              · clear f3 f5
                go_wp2
                go_round
                case rel => exact ⟨j + 1, by omega, by go_num⟩
                case measure => first | omega | (simp [intOf]; omega)
            · go_wp2
              go_ret
              exact ⟨rfl, below_drewN HW.out _⟩
  · go_enter Try.func5, Try.ntmps5
    go_wp2_with (fail)
    refine (sane_any _).mono ?_
    rintro e w1 ⟨rfl, hb1⟩
    go_wp2_with (fail)
    refine (divided_no c _ xs _ (HV.out.below hb1) hl he).mono ?_
    rintro e w2 ⟨rfl, hb2⟩
    go_wp2_with (fail)
    go_ret
    exact ⟨rfl, hb1.up hb2⟩

end Go.Proofs.Ytagbdjdphghflaa
