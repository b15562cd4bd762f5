/- The statement PlanWhy, walked. -/
import Derived.Test.YtofllhbcediafaaL1
import Derived.Test.YtofllhbcediafaaPlain6
namespace Go.Proofs.Ytofllhbcediafaa
open Go.RowKit
set_option linter.unusedVariables false
set_option linter.unusedSimpArgs false

theorem rightB_facts {l : List (List Pl.Life)} {ds : List Int} (h : rightB l ds = true) : l.length ≤ 100 ∧ Pl.err l ds = 0 := by
  simp only [rightB, Bool.and_eq_true, decide_eq_true_eq] at h
  exact ⟨h.1.1, h.2⟩
theorem Right.due {l : List (List Pl.Life)} {ds : List Int} (h : Right l ds) (i : Nat) (hi : i < ds.length) : 0 ≤ Pl.at_ ds i ∧ Pl.at_ ds i < 1099511627776 := by
  have := h.word i (by have := h.len; omega) hi
  simp only [Pl.wordOk, Bool.and_eq_true, decide_eq_true_eq] at this
  rw [Pl.at_eq ds i hi]
  omega
theorem ok_iff {l : List (List Pl.Life)} {ds : List Int} (h : Right l ds) (he : Pl.err l ds = 0) : okL l ds = true ↔ ∀ i (hi : i < l.length), Pl.born l[i] ≤ Pl.at_ (Pl.shown ds) i := by
  rw [← Pl.shown_inTime l ds h.len (fun i hi => (h.due i hi).1)]
  simp [okL, he]
theorem not_ok {l : List (List Pl.Life)} {ds : List Int} (h : Right l ds) (he : Pl.err l ds = 0) (hn : okL l ds = false) : ∃ i k, ∃ hi : i < l.length, i ≤ k ∧ k < l.length ∧ Pl.at_ ds k < Pl.born l[i] := by
  have hc : ¬ ∀ i (hi : i < l.length), Pl.born l[i] ≤ Pl.at_ (Pl.shown ds) i := by
    intro hc
    rw [(ok_iff h he).2 hc] at hn
    cases hn
  simp only [Classical.not_forall] at hc
  obtain ⟨i, hi, hc⟩ := hc
  have hl := h.len
  obtain ⟨b, hb, e, _⟩ := Pl.shown_best ds i (by omega)
  exact ⟨i, b, hi, hb.lo, by have := hb.hi; omega, by rw [← e]; omega⟩

/-- the times, read in place -/
theorem ints_at' {w : World} {A : Option Addr} {xs : List Int} (h : RowAt w A (xs.map (Value.int .i64))) {k : Nat} (hk : k < xs.length) :
    ∃ b off, A = some ⟨b, off, none⟩ ∧ b < w.heap.size ∧ w.cell? ⟨b, off + k, none⟩ = some (.int .i64 (Pl.at_ xs k)) := by
  rw [Pl.at_eq xs k hk]; exact ints_at h hk
theorem isInts_at {w : World} {A : Option Addr} {n c : Nat} {xs : List Int} (h : IsInts w (.slice A n c) xs) {k : Nat} (hk : k < xs.length) :
    ∃ b off, A = some ⟨b, off, none⟩ ∧ b < w.heap.size ∧ w.cell? ⟨b, off + k, none⟩ = some (.int .i64 (Pl.at_ xs k)) := by
  obtain ⟨A', c', e, hr⟩ := h
  injection e with e1 e2 e3
  subst e1
  exact ints_at' hr hk
/-- the first life of a word, read in place -/
theorem isWords_born {w : World} {A : Option Addr} {n c : Nat} {l : List (List Pl.Life)} (h : IsWords w (.slice A n c) l) {k : Nat} (hk : k < l.length) (h0 : 0 < l[k].length) :
    ∃ b off b2 off2 c2, A = some ⟨b, off, none⟩ ∧ w.cell? ⟨b, off + k, none⟩ = some (.slice (some ⟨b2, off2, none⟩) l[k].length c2) ∧ w.cell? ⟨b2, off2, none⟩ = some (.int .i64 (Pl.born l[k])) := by
  obtain ⟨A', c', vs, e, hlen, hr, hvs⟩ := h
  injection e with e1 e2 e3
  subst e1
  obtain ⟨b, off, A4, c4, rfl, _, hc, hr4⟩ := words_at hlen hr hvs hk
  obtain ⟨b4, off4, rfl, _, hc4, _⟩ := lives_at hr4 h0
  simp only [Nat.zero_mul, Nat.add_zero] at hc4
  rw [← Pl.born_eq l[k] h0] at hc4
  exact ⟨b, off, b4, off4, c4, rfl, hc, hc4⟩

def noPair (l : List (List Pl.Life)) (ds : List Int) (i : Nat) : Prop := ∀ I K (h : I < l.length), I < i → I ≤ K → K < l.length → Pl.born l[I] ≤ Pl.at_ ds K
def noK (l : List (List Pl.Life)) (ds : List Int) (i k : Nat) : Prop := ∀ K (h : i < l.length), i ≤ K → K < k → Pl.born l[i] ≤ Pl.at_ ds K

set_option maxHeartbeats 4000000 in
set_option maxRecDepth 100000 in
theorem PlanWhy_any (v u : Value) (l : List (List Pl.Life)) (ds : List Int) (w : World) (hv : IsWords w v l) (hu : IsInts w u ds) (hl : l.length ≤ 9223372036854775807) (hl2 : ds.length ≤ 9223372036854775807) :
    Calls Try.prog 6 #[v, u] w fun e w' => e = .returned (.bool true) ∧ Below w.heap.size w w' := by
  have HV := Lib.hid hv
  have HU := Lib.hid hu
  obtain ⟨A, cap, vs, rfl, hlen, hr, hvs⟩ := hv
  obtain ⟨A2, cap2, rfl, hr2⟩ := hu
  clear hr hvs hlen hr2
  go_enter Try.func6, Try.ntmps6
  go_wp2_with (fail)
  refine (sane_any _).mono ?_
  rintro e w1 ⟨rfl, hb1⟩
  have B1 := Lib.hid hb1
  clear hb1
  go_wp2_with (fail)
  refine (right_any _ _ l ds _ (HV.out.below B1.out) (HU.out.below B1.out) hl hl2).mono ?_
  rintro e w2 ⟨rfl, m, hm⟩
  have B2 : Hid (Below w.heap.size w w2) := by rw [hm]; exact below_drewN B1.out m
  clear hm B1
  cases hrb : rightB l ds
  · go_wp2_with (fail)
    go_ret
    exact ⟨rfl, B2.out⟩
  obtain ⟨h100, he⟩ := rightB_facts hrb
  have HE := Lib.hid he
  have HRt := Lib.hid (right_of he)
  have hd1 : ds.length ≤ l.length := by have := HRt.out.len; omega
  have hd2 : l.length ≤ ds.length := by have := HRt.out.len; omega
  clear he hrb
  go_wp2_with (fail)
  refine (Latest_any _ _ l ds _ (HV.out.below B2.out) (HU.out.below B2.out) hl hl2).mono ?_
  rintro e w3 hP
  obtain ⟨A3, c3, A4, c4, rfl, H3, H4, X2⟩ := hP.gets
  have B3 := Lib.hid (B2.out.up X2.out)
  clear hP X2 B2
  rw [HE.out]
  have HV3 := Lib.hid (HV.out.below B3.out)
  have HU3 := Lib.hid (HU.out.below B3.out)
  cases hok : okL l ds
  · have HW := Lib.hid (not_ok HRt.out HE.out hok)
    have e3 : (laS l ds).length = 0 := by simp [laS, hok]
    have e4 : (laY l ds).length = 0 := by simp [laY, hok]
    rw [e3, e4]
    clear e3 e4 H3 H4 hok
    go_wp2_with (fail)
    go_loopw [34] (fun c wr => ∃ i q : Nat, i ≤ l.length ∧ c = .int .i64 i ∧ Hid (noPair l ds i) ∧ wr = w3.drewN q) (fun c _ => l.length - (intOf c).toNat)
    case atStart => exact ⟨0, 0, Nat.zero_le _, rfl, fun I K h h0 => by omega, rfl⟩
    case round =>
      obtain ⟨i, q, hi, rfl, HN, rfl⟩ := hrel
      by_cases hlt : i < l.length
      · obtain ⟨wo, hwo⟩ : ∃ wo, w3.drewN q = wo := ⟨_, rfl⟩
        have BO : Hid (Below w.heap.size w wo) := by rw [← hwo]; exact below_drewN B3.out q
        have HVo : Hid (IsWords wo (.slice A l.length cap) l) := by rw [← hwo]; exact HV3.out.drewN q
        have HUo : Hid (IsInts wo (.slice A2 ds.length cap2) ds) := by rw [← hwo]; exact HU3.out.drewN q
        have HQ : Hid (∃ q, wo = w3.drewN q) := ⟨q, hwo.symm⟩
        rw [hwo]
        clear hwo
        go_wp2_with (fail)
        go_loopw [10] (fun c wr => ∃ k q : Nat, i ≤ k ∧ k ≤ l.length ∧ c = .int .i64 k ∧ Hid (noK l ds i k) ∧ wr = wo.drewN q) (fun c _ => l.length - (intOf c).toNat)
        case atStart => exact ⟨i, 0, Nat.le_refl _, hi, rfl, fun K h h0 h1 => by omega, rfl⟩
        case round =>
          obtain ⟨k, q, hik, hk, rfl, HK, rfl⟩ := hrel
          by_cases hkl : k < l.length
          · have h0 := HRt.out.some_ i hlt
            obtain ⟨b, off, b2, off2, c2, rfl, hc1, hc2⟩ := isWords_born HVo.out hlt h0
            obtain ⟨b3, off3, rfl, _, hc3⟩ := isInts_at HUo.out (show k < ds.length by omega)
            by_cases g : Pl.at_ ds k < Pl.born l[i]
            · have d1 : decide (Pl.at_ ds k < Pl.born l[i]) = true := by simp [g]
              clear HN HK HW
              generalize Pl.born l[i] = bo at *
              generalize l[i].length = xl at *
              generalize Pl.at_ ds k = d at *
              go_wp2_with (fail)
              go_quiet (fail)
              go_wp2_with (fail)
              go_ret
              exact ⟨rfl, below_drewN BO.out _⟩
            · have d1 : decide (Pl.at_ ds k < Pl.born l[i]) = false := by simp; omega
              have HK2 := Lib.hid (show noK l ds i (k + 1) from fun K h h1 h2 => by
                by_cases e : K = k
                · subst e; omega
                · exact HK.out K h h1 (by omega))
              clear HN HK HW
              generalize Pl.born l[i] = bo at *
              generalize l[i].length = xl at *
              generalize Pl.at_ ds k = d at *
              go_wp2_with (fail)
              go_quiet (fail)
              go_wp2_with (fail)
              go_roundw
              case rel => exact ⟨k + 1, _, by omega, by omega, by go_num, HK2, rfl⟩
              case measure => first | omega | (simp [intOf]; done) | (simp [intOf]; omega)
          · have HN2 := Lib.hid (show noPair l ds (i + 1) from fun I K h h1 h2 h3 => by
              by_cases e : I = i
              · subst e; exact HK.out K h h2 (by omega)
              · exact HN.out I K h (by omega) h2 h3)
            go_wp2_with (fail)
            go_roundw
            case rel =>
              obtain ⟨q0, hq0⟩ := HQ.out
              exact ⟨i + 1, q0 + q, by omega, by go_num, HN2, by rw [hq0, World.drewN_drewN]⟩
            case measure => first | omega | (simp [intOf]; done) | (simp [intOf]; omega)
      · exfalso
        obtain ⟨I, K, h1, h2, h3, h4⟩ := HW.out
        have := HN.out I K h1 (by omega) h2 h3
        omega
  · have e3 : laS l ds = Pl.shown ds := by simp [laS, hok]
    have e4 : laY l ds = Pl.whys ds := by simp [laY, hok]
    have n3 : (Pl.shown ds).length = l.length := by rw [Pl.shown_len]; omega
    have n4 : (Pl.whys ds).length = l.length := by rw [Pl.whys_len]; omega
    have HOK := Lib.hid ((ok_iff HRt.out HE.out).1 hok)
    rw [e3, n3] at H3
    rw [e4, n4] at H4
    rw [e3, e4, n3, n4]
    have N3 := Lib.hid n3
    have N4 := Lib.hid n4
    clear hok e3 e4 n3 n4
    go_wp2_with (fail)
    go_loopw [77] (fun c wr => ∃ i q : Nat, i ≤ l.length ∧ c = .int .i64 i ∧ wr = w3.drewN q) (fun c _ => l.length - (intOf c).toNat)
    case atStart => exact ⟨0, 0, Nat.zero_le _, rfl, rfl⟩
    case round =>
      obtain ⟨i, q, hi, rfl, rfl⟩ := hrel
      by_cases hlt : i < l.length
      · obtain ⟨wo, hwo⟩ : ∃ wo, w3.drewN q = wo := ⟨_, rfl⟩
        have BO : Hid (Below w.heap.size w wo) := by rw [← hwo]; exact below_drewN B3.out q
        have HVo : Hid (IsWords wo (.slice A l.length cap) l) := by rw [← hwo]; exact HV3.out.drewN q
        have HUo : Hid (IsInts wo (.slice A2 ds.length cap2) ds) := by rw [← hwo]; exact HU3.out.drewN q
        have H3o : Hid (IsInts wo (.slice A3 l.length c3) (Pl.shown ds)) := by rw [← hwo]; exact H3.out.drewN q
        have H4o : Hid (IsInts wo (.slice A4 l.length c4) (Pl.whys ds)) := by rw [← hwo]; exact H4.out.drewN q
        have HQ : Hid (∃ q, wo = w3.drewN q) := ⟨q, hwo.symm⟩
        rw [hwo]
        clear hwo
        obtain ⟨b, hb, hs, hy⟩ := Pl.shown_best ds i (by omega)
        have HB := Lib.hid hb
        have hbl : b < l.length := by have := hb.hi; omega
        have hib := hb.lo
        have h0 := HRt.out.some_ i hlt
        obtain ⟨b1, off1, b2, off2, c2, rfl, hc1, hc2⟩ := isWords_born HVo.out hlt h0
        obtain ⟨b3, off3, rfl, _, hc3⟩ := isInts_at HUo.out (show b < ds.length by omega)
        obtain ⟨b4, off4, rfl, _, hc4⟩ := isInts_at H3o.out (show i < (Pl.shown ds).length by rw [N3.out]; omega)
        obtain ⟨b5, off5, rfl, _, hc5⟩ := isInts_at H4o.out (show i < (Pl.whys ds).length by rw [N4.out]; omega)
        have hbo := HOK.out i hlt
        rw [hs] at hc4 hbo
        rw [hy] at hc5
        clear hb hs hy
        have hle := fun j hj1 hj2 => Lib.hid (HB.out.le j hj1 hj2)
        have HLT := Lib.hid HB.out.lt
        have HLE := Lib.hid HB.out.le
        clear hle HB
        have ht : ∃ t, Pl.at_ ds b = t := ⟨_, rfl⟩
        obtain ⟨t, ht⟩ := ht
        rw [ht] at hc3 hc4 hbo HLT HLE
        clear ht
        have d1 : decide (b < i) = false := by simp; omega
        have d2 : decide (l.length ≤ b) = false := by simp; omega
        have d3 : (t != t) = false := by simp
        have d4 : decide (t < Pl.born l[i]) = false := by simp; omega
        generalize Pl.born l[i] = bo at *
        generalize l[i].length = xl at *
        go_wp2_with (fail)
        go_quiet (fail)
        go_wp2_with (fail)
        rename_i nq
        clear d1 d2 d3 d4 hbo hc3 hc1 hc2
        go_loopw [13] (fun c wr => ∃ k q : Nat, i ≤ k ∧ k ≤ l.length ∧ c = .int .i64 k ∧ wr = wo.drewN q) (fun c _ => l.length - (intOf c).toNat)
        case atStart => exact ⟨i, _, Nat.le_refl _, hi, rfl, rfl⟩
        case round =>
          obtain ⟨k, q, hik, hk, rfl, rfl⟩ := hrel
          by_cases hkl : k < l.length
          · obtain ⟨b6, off6, hA, _, hc6⟩ := isInts_at HUo.out (show k < ds.length by omega)
            cases hA
            have hkt := HLE.out k hik (by omega)
            have hkn := HLT.out k hik
            generalize Pl.at_ ds k = d at *
            have d1 : decide (d < t) = false := by simp; omega
            by_cases g : d = t
            · have d2 : (d == t) = true := by simp [g]
              have d3 : decide (k < b) = false := by simp; omega
              clear g hkn
              go_wp2_with (fail)
              go_quiet (fail)
              go_wp2_with (fail)
              go_roundw
              case rel => exact ⟨k + 1, _, by omega, by omega, by go_num, rfl⟩
              case measure => first | omega | (simp [intOf]; done) | (simp [intOf]; omega)
            · have d2 : (d == t) = false := by simp [g]
              clear g hkn
              go_wp2_with (fail)
              go_quiet (fail)
              go_wp2_with (fail)
              go_roundw
              case rel => exact ⟨k + 1, _, by omega, by omega, by go_num, rfl⟩
              case measure => first | omega | (simp [intOf]; done) | (simp [intOf]; omega)
          · go_wp2_with (fail)
            go_roundw
            case rel =>
              obtain ⟨q0, hq0⟩ := HQ.out
              exact ⟨i + 1, q0 + q, by omega, by go_num, by rw [hq0, World.drewN_drewN]⟩
            case measure => first | omega | (simp [intOf]; done) | (simp [intOf]; omega)
      · go_wp2_with (fail)
        go_ret
        exact ⟨rfl, below_drewN B3.out q⟩

end Go.Proofs.Ytofllhbcediafaa
