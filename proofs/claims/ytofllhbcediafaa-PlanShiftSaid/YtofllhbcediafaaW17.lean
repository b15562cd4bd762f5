/- Walk of the reference's Latest. -/
import Derived.Test.YtofllhbcediafaaW16
import Derived.Test.YtofllhbcediafaaPush
import Derived.Test.YtofllhbcediafaaPlain5
namespace Go.Proofs.Ytofllhbcediafaa
open Go.RowKit
set_option linter.unusedVariables false
set_option linter.unusedSimpArgs false

/-- both rows so far -/
structure Two (w W : World) (ds : List Int) (k : Nat) (a b : Value) : Prop where
  s : OwnInts W w.heap.size a ((Pl.shown ds).take k)
  y : OwnInts W w.heap.size b ((Pl.whys ds).take k)
  ne : a.ownBlock ≠ b.ownBlock
  sa : a.ownBlock ≠ none
  sb : b.ownBlock ≠ none
  below : Below w.heap.size w W

theorem Two.drewN {w W : World} {ds : List Int} {k : Nat} {a b : Value} (h : Two w W ds k a b) (n : Nat) : Two w (W.drewN n) ds k a b :=
  ⟨h.s, h.y, h.ne, h.sa, h.sb, below_drewN h.below n⟩
theorem Two.alloc {w W : World} {ds : List Int} {k : Nat} {a b : Value} (h : Two w W ds k a b) (o : Obj) : Two w (W.alloc o) ds k a b :=
  ⟨World.ownsRow.alloc h.s _, World.ownsRow.alloc h.y _, h.ne, h.sa, h.sb, h.below.alloc h.below.size _⟩
theorem own_at {W : World} {base : Nat} {v : Value} {xs : List Int} (h : OwnInts W base v xs) : ∀ g, v.ownBlock = some g → base ≤ g ∧ g < W.heap.size := World.ownsRow.lt h

/-- the first push, then the second -/
theorem Two.step {w W W1 W2 : World} {ds : List Int} {k b : Nat} {a y a' y' : Value} (h : Two w W ds k a y) (hk : k < ds.length) (hb : Pl.Best ds k ds.length b)
    (h1 : OwnInts W1 w.heap.size a' ((Pl.shown ds).take k ++ [Pl.at_ ds b])) (g1 : W.grownBy W1 a.ownBlock) (t1 : a'.ownBlock = a.ownBlock ∨ a'.ownBlock = some (W.heap.size + 1))
    (h2 : OwnInts W2 w.heap.size y' ((Pl.whys ds).take k ++ [(b : Int)])) (g2 : W1.grownBy W2 y.ownBlock) (t2 : y'.ownBlock = y.ownBlock ∨ y'.ownBlock = some (W1.heap.size + 1)) :
    Two w W2 ds (k + 1) a' y' := by
  have e1 : (Pl.shown ds).take (k + 1) = (Pl.shown ds).take k ++ [Pl.at_ ds b] := by
    rw [List.take_succ_eq_append_getElem (by rw [Pl.shown_len]; exact hk), (Pl.of_best ds k b hk hb).1]
  have e2 : (Pl.whys ds).take (k + 1) = (Pl.whys ds).take k ++ [(b : Int)] := by
    rw [List.take_succ_eq_append_getElem (by rw [Pl.whys_len]; exact hk), (Pl.of_best ds k b hk hb).2]
  have hya : y.ownBlock ≠ a'.ownBlock := by
    rcases t1 with t | t <;> rw [t]
    · exact h.ne.symm
    · intro e; have := (own_at h.y _ e).2; omega
  have ha' : a'.ownBlock ≠ none := by
    rcases t1 with t | t <;> rw [t]
    · exact h.sa
    · simp
  have hy' : y'.ownBlock ≠ none := by
    rcases t2 with t | t <;> rw [t]
    · exact h.sb
    · simp
  have hne : a'.ownBlock ≠ y'.ownBlock := by
    rcases t2 with t | t <;> rw [t]
    · exact hya.symm
    · intro e; have := (own_at h1 _ e).2; omega
  have b1 : Below w.heap.size w W1 := h.below.grown g1 h.below.size (fun g hg => (own_at h.s g hg).1)
  refine ⟨?_, by rw [e2]; exact h2, hne, ha', hy', b1.grown g2 b1.size (fun g hg => (own_at h.y g hg).1)⟩
  rw [e1]
  exact World.ownsRow.kept h1 g2 (.inr hya.symm)

theorem Two.keepY {w W W1 : World} {ds : List Int} {k : Nat} {a y : Value} (h : Two w W ds k a y) (g1 : W.grownBy W1 a.ownBlock) : OwnInts W1 w.heap.size y ((Pl.whys ds).take k) := World.ownsRow.kept h.y g1 (.inr h.ne.symm)
theorem Two.keepB {w W W1 : World} {ds : List Int} {k : Nat} {a y : Value} (h : Two w W ds k a y) (g1 : W.grownBy W1 a.ownBlock) : Below w.heap.size w W1 := h.below.grown g1 h.below.size (fun g hg => (own_at h.s g hg).1)
theorem two_start (w : World) (ds : List Int) (m : Nat) : Two w (((w.drewN m).alloc (.cells #[] 3)).alloc (.cells #[] 3)) ds 0 (.slice (some ⟨w.heap.size, 0, none⟩) 0 0) (.slice (some ⟨w.heap.size + 1, 0, none⟩) 0 0) := by
  refine ⟨?_, ?_, by simp [Value.ownBlock], by simp [Value.ownBlock], by simp [Value.ownBlock], ?_⟩
  · exact World.ownsRow.alloc (own_empty (w.drewN m) w.heap.size (Nat.le_refl _)) _
  · have := own_empty ((w.drewN m).alloc (.cells #[] 3)) w.heap.size (by simp)
    simpa using this
  · exact ((below_drewN (Below.refl _ w) m).alloc (Nat.le_refl _) _).alloc (by simp) _

set_option maxHeartbeats 2000000 in
theorem refLatest_any (v u : Value) (l : List (List Pl.Life)) (ds : List Int) (w : World) (hv : IsWords w v l) (hu : IsInts w u ds) (hl : l.length ≤ 9223372036854775807) :
    Calls Try.prog 12 #[v, u] w (LaPost l ds w) := by
  have HV := Lib.hid hv
  have HU := Lib.hid hu
  obtain ⟨A, cap, vs, rfl, hlen, hr, hvs⟩ := hv
  obtain ⟨A2, cap2, rfl, hr2⟩ := hu
  have HR2 := Lib.hid hr2
  clear hr hvs hlen hr2
  by_cases he : Pl.err l ds = 0
  rotate_left
  · have hne : (Pl.err l ds != 0) = true := by simp [he]
    have HO := Lib.hid (show okL l ds = false by simp [okL, he])
    clear he
    go_enter Try.func12, Try.ntmps12
    go_wp2_with (fail)
    refine (refCheck_any _ _ l ds _ HV.out HU.out hl).mono ?_
    rintro e w1 ⟨rfl, m, rfl⟩
    go_wp2_with (fail)
    refine bodyPost_ret (v := .tuple #[.slice none 0 0, .slice none 0 0, .bool false, .int .i64 (Pl.err l ds)]) (by simp [results, Try.results12, go_sem]) rfl ?_
    exact LaPost.no HO.out rfl (below_drewN (Below.refl _ w) m)
  have HE := Lib.hid he
  have HRt := Lib.hid (right_of he)
  have hfew := HRt.out.few
  have hd1 : ds.length ≤ l.length := by have := HRt.out.len; omega
  have hd2 : l.length ≤ ds.length := by have := HRt.out.len; omega
  clear he
  go_enter Try.func12, Try.ntmps12
  go_wp2_with (fail)
  refine (refCheck_any _ _ l ds _ HV.out HU.out hl).mono ?_
  rintro e w1 ⟨rfl, m, rfl⟩
  rw [HE.out]
  go_wp2_with (fail)
  go_loopw [9, 10, 11] (fun a b i wr => ∃ k : Nat, k ≤ l.length ∧ i = .int .i64 k ∧ Two w wr ds k a b) (fun _ _ i _ => l.length - (intOf i).toNat)
  case atStart => exact ⟨0, Nat.zero_le _, rfl, two_start w ds m⟩
  case round =>
    obtain ⟨k, hk, rfl, hT⟩ := hrel
    obtain ⟨wo, rfl⟩ : ∃ wo : World, wo = wr := ⟨_, rfl⟩
    have HT := Lib.hid hT
    clear hT
    by_cases hlt : k < l.length
    · go_wp2_with (fail)
      go_loopw [12, 13] (fun b j wr => ∃ (i best q : Nat), k ≤ i ∧ i ≤ l.length ∧ k ≤ best ∧ best < l.length ∧ j = .int .i64 i ∧ b = .int .i64 best ∧ Hid (Pl.Best ds k (max i (k + 1)) best) ∧ wr = wo.drewN q) (fun _ j _ => l.length - (intOf j).toNat)
      case atStart => exact ⟨k, k, 0, Nat.le_refl _, by omega, Nat.le_refl _, hlt, rfl, rfl, by rw [show max k (k + 1) = k + 1 by omega]; exact Pl.Best.one ds k, rfl⟩
      case round =>
        obtain ⟨i, best, q, hi1, hi2, hb1, hb2, rfl, rfl, HB, rfl⟩ := hrel
        by_cases hin : i < l.length
        · have hid : i < ds.length := by omega
          have hbd : best < ds.length := by omega
          obtain ⟨b, off, rfl, hbb, hc⟩ := ints_at HR2.out hid
          obtain ⟨b2, off2, hA, _, hc2⟩ := ints_at HR2.out hbd
          cases hA
          replace hc := (HT.out.below.cell (p := ⟨b, off + i, none⟩) hbb).trans hc
          replace hc2 := (HT.out.below.cell (p := ⟨b, off + best, none⟩) hbb).trans hc2
          by_cases g : ds[i] < ds[best]
          · have HF := Lib.hid (show Pl.Best ds k (max (i + 1) (k + 1)) i by
              have hne : i ≠ k := by
                rintro rfl
                have h1 := HB.out.hi
                have h2 := HB.out.lo
                have h3 : best = i := by omega
                subst h3
                omega
              have := HB.out
              rw [show max i (k + 1) = i by omega] at this
              rw [show max (i + 1) (k + 1) = i + 1 by omega]
              exact this.turn (by rw [Pl.at_eq _ _ hid, Pl.at_eq _ _ hbd]; exact g))
            clear HB
            generalize ds[i] = x at *
            generalize ds[best] = y at *
            go_wp2_with (fail)
            go_quiet (fail)
            go_wp2_with (fail)
            go_roundw
            case rel => exact ⟨i + 1, i, _, by omega, by omega, by omega, by omega, by go_num, rfl, HF, rfl⟩
            case measure => first | omega | (simp [intOf]; done) | (simp [intOf]; omega)
          · have HF := Lib.hid (show Pl.Best ds k (max (i + 1) (k + 1)) best by
              have := HB.out
              by_cases hne : i = k
              · subst hne
                rw [show max i (i + 1) = i + 1 by omega] at this
                rwa [show max (i + 1) (i + 1) = i + 1 by omega]
              · rw [show max i (k + 1) = i by omega] at this
                rw [show max (i + 1) (k + 1) = i + 1 by omega]
                exact this.more (by rw [Pl.at_eq _ _ hid, Pl.at_eq _ _ hbd]; omega))
            clear HB
            generalize ds[i] = x at *
            generalize ds[best] = y at *
            go_wp2_with (fail)
            go_quiet (fail)
            go_wp2_with (fail)
            go_roundw
            case rel => exact ⟨i + 1, best, _, by omega, by omega, by omega, by omega, by go_num, rfl, HF, rfl⟩
            case measure => first | omega | (simp [intOf]; done) | (simp [intOf]; omega)
        · have hbd : best < ds.length := by omega
          have HB2 := Lib.hid (show Pl.Best ds k ds.length best by have := HB.out; rwa [show max i (k + 1) = ds.length by omega] at this)
          clear HB
          obtain ⟨b, off, rfl, hbb, hc⟩ := ints_at HR2.out hbd
          replace hc := (HT.out.below.cell (p := ⟨b, off + best, none⟩) hbb).trans hc
          have HX := Lib.hid (Pl.at_eq ds best hbd)
          rw [← HX.out] at hc
          obtain ⟨W0, hW0⟩ : ∃ W0, wo.drewN q = W0 := ⟨_, rfl⟩
          have hT2 := HT.out.drewN q
          have hc' : (wo.drewN q).cell? ⟨b, off + best, none⟩ = some (.int .i64 (Pl.at_ ds best)) := hc
          rw [hW0] at hT2 hc' ⊢
          clear hW0 hc HT
          have HT2 := Lib.hid hT2
          clear hT2
          have hl1 : ((Pl.shown ds).take k).length ≤ 1000000 := by have := List.length_take_le k (Pl.shown ds); omega
          have hl2 : ((Pl.whys ds).take k).length ≤ 1000000 := by have := List.length_take_le k (Pl.whys ds); omega
          go_wp2_with (first
            | (at_builtin; refine wpList_push rfl (.tmp 46) (.tmp 51) rfl w.heap.size _ _ rfl HT2.out.s (Pl.at_ ds best) _ rfl rfl hl1 HT2.out.below.size ?_; intro v1 w1 hown1 hg1 hat1; have HO1 := Lib.hid hown1; have HG1 := Lib.hid hg1; have HA1 := Lib.hid hat1; clear hown1 hg1 hat1)
            | (at_builtin; refine wpList_push rfl (.tmp 53) (.tmp 55) rfl w.heap.size _ _ rfl (HT2.out.keepY HG1.out) (best : Int) _ rfl rfl hl2 (HT2.out.keepB HG1.out).size ?_; intro v2 w2 hown2 hg2 hat2; have HO2 := Lib.hid hown2; have HG2 := Lib.hid hg2; have HA2 := Lib.hid hat2; clear hown2 hg2 hat2))
          go_roundw
          case rel => exact ⟨k + 1, by omega, by go_num, HT2.out.step (by omega) HB2.out HO1.out HG1.out HA1.out HO2.out HG2.out HA2.out⟩
          case measure => first | omega | (simp [intOf]; done) | (simp [intOf]; omega)
    · have HS := Lib.hid (show OwnInts wo w.heap.size u9 (Pl.shown ds) by have := HT.out.s; rwa [List.take_of_length_le (by rw [Pl.shown_len]; omega)] at this)
      have HY := Lib.hid (show OwnInts wo w.heap.size u10 (Pl.whys ds) by have := HT.out.y; rwa [List.take_of_length_le (by rw [Pl.whys_len]; omega)] at this)
      have HB := Lib.hid HT.out.below
      clear HT
      go_wp2_with (fail)
      refine (refInTime_any _ _ _ l ds (Pl.shown ds) _ (HV.out.below HB.out) (HU.out.below HB.out) HS.out.ints HRt.out (by rw [Pl.shown_len]; omega)).mono ?_
      rintro e w2 ⟨rfl, n, rfl⟩
      cases hi : Pl.inTime l ds (Pl.shown ds)
      · have HO := Lib.hid (show okL l ds = false by simp [okL, hi])
        go_wp2_with (fail)
        refine bodyPost_ret (v := .tuple #[.slice none 0 0, .slice none 0 0, .bool false, .int .i64 0]) (by simp [results, Try.results12, go_sem]) rfl ?_
        exact LaPost.no HO.out HE.out.symm (below_drewN HB.out n)
      · have HO := Lib.hid (show okL l ds = true by simp [okL, hi, HE.out])
        go_wp2_with (fail)
        refine bodyPost_ret (v := .tuple #[u9, u10, .bool true, .int .i64 0]) (by simp [results, Try.results12, go_sem]) rfl ?_
        exact LaPost.yes HO.out (HS.out.ints.drewN n) (HY.out.ints.drewN n) (below_drewN HB.out n)

end Go.Proofs.Ytofllhbcediafaa
