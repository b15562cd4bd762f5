/- Walk of the reference's Prove. -/
import Derived.Test.YtchjjcmlekknfaaW4
import Derived.Deep.RegionHeld3
namespace Go.Proofs.Ytchjjcmlekknfaa
open Go.RowKit
set_option linter.unusedVariables false
set_option linter.unusedSimpArgs false

theorem hs_take (q : Sc.Qs) {k n : Nat} (h : k ≤ n) : (Sc.hs q n).take (k + 1) = (Sc.hs q n).take k ++ [Sc.H q k] := by
  have hl := Sc.hs_len q n
  rw [List.take_succ_eq_append_getElem (show k < (Sc.hs q n).length by omega), ← at_get, Sc.hs_at q h]
theorem bestTake {r d : List Int} {m f : Int} (h : Sc.errQ r d m f = 0) {k : Nat} (hk : k ≤ r.length) : (Sc.best (Sc.mkQ (r.take k) (d.take k) m f) 0 0).2 = Sc.H (Sc.mkQ r d m f) k := by
  rw [Sc.best_done (Sc.ok_of (Sc.errQ_take k h))]
  have e : (Sc.mkQ (r.take k) (d.take k) m f).r.length = k := by show (r.take k).length = k; rw [List.length_take]; omega
  rw [e, Sc.H_take (Nat.le_refl k)]
theorem best_call {r d : List Int} {m f : Int} (h : Sc.errQ r d m f = 0) {k : Nat} (hk : k ≤ r.length) {v u : Value} {w : World} (hv : IsInts w v (r.take k)) (hu : IsInts w u (d.take k)) :
    Calls Try.prog 31 #[v, u, .int .i64 m, .int .i64 f, .int .i64 0, .int .i64 0] w fun e w' => ∃ v', e = .returned (.tuple #[v', .int .i64 (Sc.H (Sc.mkQ r d m f) k)]) ∧ Below w.heap.size w w' := by
  have hB := refBest_any (Sc.mkQ (r.take k) (d.take k) m f) (Sc.ok_of (Sc.errQ_take k h)) k 0 v u 0 w (by show 0 + k = (r.take k).length; rw [List.length_take]; omega) hv hu (Int.le_refl 0) (by decide)
  have hm : m = ((Sc.mkQ (r.take k) (d.take k) m f).m : Int) := by have := (Sc.errQ_zero h).2.2.1; show m = (m.toNat : Int); omega
  rw [← hm] at hB
  refine hB.mono ?_
  rintro e w2 ⟨g, cg, rfl, ho, hb⟩
  exact ⟨_, by rw [bestTake h hk], hb⟩
theorem ints_take {W : World} {A : Option Addr} {n c : Nat} {l : List Int} (h : IsInts W (.slice A n c) l) (k c' n' : Nat) (hk : n' = (l.take k).length) : IsInts W (.slice A n' c') (l.take k) := by
  subst hk
  obtain ⟨A', c'', e, hr⟩ := h
  injection e with e1 e2 e3
  subst e1
  refine ⟨_, c', rfl, fun hne => ?_⟩
  obtain ⟨b', off', e', hb, hc⟩ := hr (by intro h0; apply hne; have : l = [] := by simpa using h0
                                          rw [this]; simp)
  refine ⟨b', off', e', hb, fun i hi => ?_⟩
  have := hc i (by simp at hi ⊢; omega)
  rw [this]; simp
theorem nil_ints {W : World} {A : Option Addr} {c : Nat} {l : List Int} (h : l = []) : IsInts W (.slice A 0 c) l := by subst h; exact ⟨A, c, rfl, RowAt.nil⟩

set_option maxHeartbeats 4000000 in
set_option maxRecDepth 100000 in
theorem refProve_any (v u : Value) (r d : List Int) (m f : Int) (w : World) (hv : IsInts w v r) (hu : IsInts w u d) (hl : r.length ≤ 9223372036854775807) (hl2 : d.length ≤ 9223372036854775807) (hc1 : ∀ A n c, v = .slice A n c → n ≤ c) (hc2 : ∀ A n c, u = .slice A n c → n ≤ c) :
    Calls Try.prog 15 #[v, u, .int .i64 m, .int .i64 f] w (PPost r d m f w) := by
  have HV := Lib.hid hv
  have HU := Lib.hid hu
  obtain ⟨A, c, rfl, hr⟩ := id hv
  obtain ⟨A2, c2, rfl, hr2⟩ := id hu
  have hcc := hc1 _ _ _ rfl
  have hcc2 := hc2 _ _ _ rfl
  clear hv hu hc1 hc2
  by_cases h0 : Sc.errQ r d m f = 0
  rotate_left
  · have HG := Lib.hid (show pL r d m f = [] from if_neg h0)
    obtain ⟨e0, he0⟩ : ∃ e, Sc.errQ r d m f = e := ⟨_, rfl⟩
    have hb0 : (e0 == 0) = false := by rw [← he0]; simpa using h0
    have HE := Lib.hid he0
    clear h0 he0 hr hr2
    go_enter Try.func15, Try.ntmps15
    go_wp2_with (fail)
    refine (refError_is HE.out HV.out HU.out hl hl2).mono ?_
    rintro e _ ⟨rfl, n, rfl⟩
    go_wp2_with (fail)
    go_ret2
    exact ⟨none, 0, by rw [HG.out, HE.out]; rfl, by rw [HG.out]; exact IsInts.nil, below_drewN (Below.refl _ w) n⟩
  have HG := Lib.hid (show pL r d m f = Sc.hs (Sc.mkQ r d m f) r.length from if_pos h0)
  have HE := Lib.hid h0
  have HN := Lib.hid (Sc.errQ_zero h0)
  have hrn := HN.out.1
  have HL := Lib.hid HN.out.2.1
  have hdn : d.length ≤ 64 := by have := HL.out; omega
  clear h0
  have main : ∀ (hA : r = [] ∨ ∃ b off b2 off2, A = some ⟨b, off, none⟩ ∧ A2 = some ⟨b2, off2, none⟩), Calls Try.prog 15 #[.slice A r.length c, .slice A2 d.length c2, .int .i64 m, .int .i64 f] w (PPost r d m f w) := by
    intro hA
    rcases hA with hA | ⟨b, off, b2, off2, rfl, rfl⟩
    · have hA2 : d = [] := List.eq_nil_of_length_eq_zero (by have := HL.out; rw [hA] at this; simp at this; omega)
      subst hA hA2
      clear hr hr2
      simp only [List.length_nil] at *
      go_enter Try.func15, Try.ntmps15
      go_wp2_with (fail)
      refine (refError_is HE.out HV.out HU.out (by omega) (by omega)).mono ?_
      rintro e _ ⟨rfl, n, rfl⟩
      go_wp2_with (fail)
      have HB0 := Lib.hid (show Below w.heap.size w ((w.drewN n).alloc (.cells #[] 3)) from (below_drewN (Below.refl _ w) n).up (al1 _ _))
      have HO0 := Lib.hid (own_empty (w.drewN n) w.heap.size (Nat.le_refl _))
      go_loopw [11, 12] (fun hv i wr => ∃ k : Nat, k ≤ 0 + 1 ∧ i = .int .i64 k ∧ Hid (OwnInts wr w.heap.size hv ((Sc.hs (Sc.mkQ ([] : List Int) ([] : List Int) m f) 0).take k)) ∧ Hid (Below w.heap.size w wr)) (fun _ i _ => 0 + 1 - (intOf i).toNat)
      case atStart => exact ⟨0, by omega, rfl, HO0, HB0⟩
      case round =>
        obtain ⟨k, hk, rfl, HO, HB⟩ := hrel
        by_cases hlt : k ≤ 0
        · have dk : decide ((k : Int) ≤ (0 : Int)) = true := by rw [decide_eq_true_eq]; omega
          have hkc : (k : Int) ≤ (c : Int) := by omega
          have hkc2 : (k : Int) ≤ (c2 : Int) := by omega
          obtain rfl : k = 0 := by omega
          have HS := Lib.hid (hs_take (Sc.mkQ ([] : List Int) ([] : List Int) m f) hlt)
          have hgl : ((Sc.hs (Sc.mkQ ([] : List Int) ([] : List Int) m f) 0).take 0).length ≤ 1000000 := by have := List.length_take_le 0 (Sc.hs (Sc.mkQ ([] : List Int) ([] : List Int) m f) 0); omega
          have HBd := Lib.hid (show Below w.heap.size w wr.drew from below_drewN HB.out 1)
          go_wp2_with (fail)
          go_region_held3 (fun X => True)
            (first | exact trivial)
            (first
              | (go_at_call 31
                 refine (best_call (r := ([] : List Int)) (d := ([] : List Int)) HE.out (k := 0) (by simp) (nil_ints (by simp)) (nil_ints (by simp))).mono ?_
                 rintro e w5 ⟨v5, rfl, b5⟩
                 have HB5 := Lib.hid (HBd.out.up b5)
                 have HO5 := Lib.hid (own_below (show OwnInts wr.drew _ _ _ from HO.out) b5)
                 clear b5))
          all_goals
            go_wp2_with (at_builtin; go_must (refine wpList_push rfl (.tmp 42) (.tmp 44) rfl w.heap.size _ _ rfl HO5.out (Sc.H (Sc.mkQ ([] : List Int) ([] : List Int) m f) 0) w5.heap.size rfl rfl hgl HB5.out.size ?_); intro v1 w3 hown1 hg1 hat1; have HO1 := Lib.hid hown1; have HG1 := Lib.hid hg1; clear hown1 hg1 hat1)
            go_roundw
            case rel => exact ⟨0 + 1, by omega, by rfl, by rw [HS.out]; exact HO1, Lib.hid (HB5.out.grown HG1.out HB5.out.size (fun g hg => (World.ownsRow.lt HO5.out g hg).1))⟩
            case measure => first | omega | (simp [intOf]; done) | (simp [intOf]; omega)
        · have dk : decide ((k : Int) ≤ (0 : Int)) = false := by rw [decide_eq_false_iff_not]; omega
          have HT := Lib.hid (show (Sc.hs (Sc.mkQ ([] : List Int) ([] : List Int) m f) 0).take k = Sc.hs (Sc.mkQ ([] : List Int) ([] : List Int) m f) 0 from List.take_of_length_le (by rw [Sc.hs_len]; omega))
          rw [HT.out] at HO
          obtain ⟨A5, c5, rfl⟩ := own_slice HO.out
          go_wp2_with (fail)
          go_ret2
          exact ⟨A5, c5, by rw [HG.out, HE.out]; rfl, by rw [HG.out]; exact HO.out.ints, HB.out⟩
    · have hc0 : ¬ c = 0 ∨ r = [] := by
        by_cases h : r = []
        · exact .inr h
        · have := List.length_pos_iff.2 h
          exact .inl (by omega)
      go_enter Try.func15, Try.ntmps15
      go_wp2_with (fail)
      refine (refError_is HE.out HV.out HU.out (by omega) (by omega)).mono ?_
      rintro e _ ⟨rfl, n, rfl⟩
      go_wp2_with (fail)
      have HB0 := Lib.hid (show Below w.heap.size w ((w.drewN n).alloc (.cells #[] 3)) from (below_drewN (Below.refl _ w) n).up (al1 _ _))
      have HO0 := Lib.hid (own_empty (w.drewN n) w.heap.size (Nat.le_refl _))
      go_loopw [11, 12] (fun hv i wr => ∃ k : Nat, k ≤ r.length + 1 ∧ i = .int .i64 k ∧ Hid (OwnInts wr w.heap.size hv ((Sc.hs (Sc.mkQ r d m f) r.length).take k)) ∧ Hid (Below w.heap.size w wr)) (fun _ i _ => r.length + 1 - (intOf i).toNat)
      case atStart => exact ⟨0, by omega, rfl, HO0, HB0⟩
      case round =>
        obtain ⟨k, hk, rfl, HO, HB⟩ := hrel
        by_cases hlt : k ≤ r.length
        · have dk : decide ((k : Int) ≤ (r.length : Nat)) = true := by rw [decide_eq_true_eq]; omega
          have hkc : (k : Int) ≤ (c : Int) := by omega
          have hkc2 : (k : Int) ≤ (c2 : Int) := by have := HL.out; omega
          have hkd : k ≤ d.length := by have := HL.out; omega
          have HS := Lib.hid (hs_take (Sc.mkQ r d m f) hlt)
          have hgl : ((Sc.hs (Sc.mkQ r d m f) r.length).take k).length ≤ 1000000 := by have := List.length_take_le k (Sc.hs (Sc.mkQ r d m f) r.length); omega
          have HBd := Lib.hid (show Below w.heap.size w wr.drew from below_drewN HB.out 1)
          go_wp2_with (fail)
          go_region_held3 (fun X => True)
            (first | exact trivial)
            (first
              | (go_at_call 31
                 refine (best_call (r := r) (d := d) HE.out (k := k) (by simpa using hlt) (ints_take (HV.out.below HBd.out) k _ k (by rw [List.length_take]; omega)) (ints_take (HU.out.below HBd.out) k _ k (by rw [List.length_take]; omega))).mono ?_
                 rintro e w5 ⟨v5, rfl, b5⟩
                 have HB5 := Lib.hid (HBd.out.up b5)
                 have HO5 := Lib.hid (own_below (show OwnInts wr.drew _ _ _ from HO.out) b5)
                 clear b5))
          all_goals
            go_wp2_with (at_builtin; go_must (refine wpList_push rfl (.tmp 42) (.tmp 44) rfl w.heap.size _ _ rfl HO5.out (Sc.H (Sc.mkQ r d m f) k) w5.heap.size rfl rfl hgl HB5.out.size ?_); intro v1 w3 hown1 hg1 hat1; have HO1 := Lib.hid hown1; have HG1 := Lib.hid hg1; clear hown1 hg1 hat1)
            go_roundw
            case rel => exact ⟨k + 1, by omega, by go_num, by rw [HS.out]; exact HO1, Lib.hid (HB5.out.grown HG1.out HB5.out.size (fun g hg => (World.ownsRow.lt HO5.out g hg).1))⟩
            case measure => first | omega | (simp [intOf]; done) | (simp [intOf]; omega)
        · have dk : decide ((k : Int) ≤ (r.length : Nat)) = false := by rw [decide_eq_false_iff_not]; omega
          have HT := Lib.hid (show (Sc.hs (Sc.mkQ r d m f) r.length).take k = Sc.hs (Sc.mkQ r d m f) r.length from List.take_of_length_le (by rw [Sc.hs_len]; omega))
          rw [HT.out] at HO
          obtain ⟨A5, c5, rfl⟩ := own_slice HO.out
          go_wp2_with (fail)
          go_ret2
          exact ⟨A5, c5, by rw [HG.out, HE.out]; rfl, by rw [HG.out]; exact HO.out.ints, HB.out⟩
  refine main ?_
  by_cases hne : r = []
  · exact .inl hne
  · refine .inr ?_
    have h1 := List.length_pos_iff.2 hne
    obtain ⟨b, off, e, _⟩ := hr (by intro h; rw [List.map_eq_nil_iff] at h; exact hne h)
    obtain ⟨b2, off2, e2, _⟩ := hr2 (by intro h; rw [List.map_eq_nil_iff] at h; exact hne (List.eq_nil_of_length_eq_zero (by have := HL.out; rw [h] at this; simpa using this)))
    exact ⟨b, off, b2, off2, e, e2⟩
end Go.Proofs.Ytchjjcmlekknfaa
