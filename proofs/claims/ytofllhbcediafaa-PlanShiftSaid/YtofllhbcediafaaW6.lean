/- Walks of lost and of its iterator. -/
import Derived.Test.YtofllhbcediafaaW5
import Derived.Test.YtofllhbcediafaaPlain3
import Derived.Shelf.RegionOpen
namespace Go.Proofs.Ytofllhbcediafaa
open Go.RowKit
set_option linter.unusedVariables false
attribute [local go_sem] Oper.semAt_some

theorem cell_lt {w : World} {a : Addr} {v : Value} (h : w.cell? a = some v) : a.block < w.heap.size := by
  unfold World.cell? at h
  rcases Nat.lt_or_ge a.block w.heap.size with h1 | h1
  · exact h1
  · simp [Array.getElem?_eq_none h1] at h
theorem cell_al {w : World} {a : Addr} {v : Value} (h : w.cell? a = some v) (o : Obj) : (w.alloc o).cell? a = some v := (World.cell?_alloc_lt w o a (cell_lt h)).trans h

def protL (bd bn n0 : Nat) : Nat → Prop := fun b => b = bd ∨ b = bn ∨ b < n0

theorem istep_alloc {B : Nat} (A : World) (o : Obj) : IStep B A (A.alloc o) := IStep.of_below ((Below.refl _ A).alloc (Nat.le_refl _) _)
theorem istep_drewN {B : Nat} {A A' : World} (h : IStep B A A') (n : Nat) : IStep B A (A'.drewN n) := ⟨h.os, h.tape, h.output, h.size, h.block⟩
theorem istep_drew {B : Nat} {A A' : World} (h : IStep B A A') : IStep B A A'.drew := ⟨h.os, h.tape, h.output, h.size, h.block⟩

set_option maxHeartbeats 2000000 in
theorem lost1_iter (bl bs : Nat) (A A2 : Option Addr) (cap cap2 : Nat) (l : List (List Pl.Life)) (s : List Int) (w0 W : World) (hbl : W.cell? ⟨bl, 0, none⟩ = some (.slice A l.length cap)) (hbs : W.cell? ⟨bs, 0, none⟩ = some (.slice A2 s.length cap2))
    (hv : IsWords w0 (.slice A l.length cap) l) (hs : IsInts w0 (.slice A2 s.length cap2) s) (hb0 : Below w0.heap.size w0 W) (hl : l.length ≤ 1024) (hsl : s.length = l.length) (h16 : ∀ k (h : k < l.length), l[k].length ≤ 16) :
    Iter Try.prog 36 #[.pointer (some ⟨bl, 0, none⟩), .pointer (some ⟨bs, 0, none⟩)] (fun i : Nat => #[.int .i64 i]) (Pl.lostF 0 l s) (protL bl bs w0.heap.size) W := by
  intro la J Jx hJ hJx hY h0
  have HV := Lib.hid hv
  have HS := Lib.hid hs
  have HBS := Lib.hid hbs
  have HY := Lib.hid hY
  have HJ := Lib.hid hJ
  have HJx := Lib.hid hJx
  have HB0 := Lib.hid hb0
  have H16 := Lib.hid h16
  have hsl1 : l.length ≤ s.length := by omega
  have hsl2 : s.length ≤ l.length := by omega
  clear hv hs hY hJ hJx hbs hb0 h16 hsl
  refine callsIn_of_wp Try.func36 rfl trivial ?_ rfl
  simp only [Try.ntmps36, List.size_toArray, List.length_cons, List.length_nil, Nat.reduceAdd, Nat.reduceSub, Array.replicate_succ, Array.replicate_zero, List.push_toArray, List.append_toArray, List.nil_append, List.cons_append]
  gi_wp2
  gi_loopw [10] (fun i wr => ∃ k : Nat, k ≤ l.length ∧ i = .int .i64 k ∧ J (Pl.lostF 0 (l.take k) s).length wr ∧ RStep W.heap.size (protL bl bs w0.heap.size) W wr) (fun i _ => l.length - (intOf i).toNat)
  case atStart => exact ⟨0, Nat.zero_le _, rfl, h0, RStep.refl _ _ _⟩
  case round =>
    obtain ⟨k, hk, rfl, hj, hst⟩ := hrel
    by_cases hlt : k < l.length
    · have hks : k < s.length := by omega
      obtain ⟨A', cap', us, hA', hlen', hr', hus'⟩ := HV.out
      cases hA'
      obtain ⟨b, off, A3, c3, rfl, hbb, hc0, hr3⟩ := words_at hlen' hr' hus' hlt
      obtain ⟨A4, cap4, hA4, hr4⟩ := HS.out
      cases hA4
      obtain ⟨b2, off2, rfl, hbb2, hc20⟩ := ints_at hr4 hks
      have hc := hst.cell (.inr (.inr hbb)) ((HB0.out.cell (p := ⟨b, off + k, none⟩) hbb).trans hc0)
      have HC2 := Lib.hid ((HB0.out.cell (p := ⟨b2, off2 + k, none⟩) hbb2).trans hc20)
      have HR3 := Lib.hid hr3
      have h16 := H16.out k hlt
      have HT := Lib.hid (Pl.lostF_take l s k hlt hks)
      have HAT := Lib.hid (Pl.lost_at l s k hlt hks)
      obtain ⟨wo, rfl⟩ : ∃ wo : World, wo = wr := ⟨_, rfl⟩
      clear hr' hus' hc0 hr4 hc20 hr3
      gi_wp2
      gi_loopw [17] (fun i wr => ∃ j : Nat, j ≤ l[k].length ∧ i = .int .i64 j ∧ J ((Pl.lostF 0 (l.take k) s).length + (Pl.lostW k s[k] (l[k].take j)).length) wr ∧ RStep W.heap.size (protL bl bs w0.heap.size) W wr) (fun i _ => l[k].length - (intOf i).toNat)
      case atStart => exact ⟨0, Nat.zero_le _, rfl, by simpa [Pl.lostW] using hj, hst⟩
      case round =>
        obtain ⟨j, hj0, rfl, hjj, hst2⟩ := hrel
        by_cases hjl : j < l[k].length
        · obtain ⟨b5, off5, h5, hbb5, hd1, hd2⟩ := lives_at HR3.out hjl
          have hd1' := hst2.cell (.inr (.inr hbb5)) ((HB0.out.cell (p := ⟨b5, off5 + j * 2, none⟩) hbb5).trans hd1)
          have hd2' := hst2.cell (.inr (.inr hbb5)) ((HB0.out.cell (p := ⟨b5, off5 + j * 2 + 1, none⟩) hbb5).trans hd2)
          have hsc := hst2.cell (.inr (.inr hbb2)) HC2.out
          have hbs := hst2.cell (.inr (.inl rfl)) HBS.out
          have HWT := Lib.hid (Pl.lostW_take k s[k] l[k] j hjl)
          have HA2 := Lib.hid (HAT.out j hjl)
          subst h5
          clear hd1 hd2 hc
          by_cases g1 : l[k][j].2 < 1099511627776
          · have g1b : decide (l[k][j].2 < 1099511627776) = true := by simpa using g1
            by_cases g2 : s[k] < l[k][j].2
            · have g2b : decide (s[k] < l[k][j].2) = true := by simpa using g2
              have hgone : Pl.gone s[k] l[k][j] = true := by simp [Pl.gone, g1, g2]
              obtain ⟨hp, he⟩ := HA2.out hgone
              have hjj2 := HJ.out _ _ _ hjj (istep_drew (istep_alloc (B := W.heap.size) wr (.cells #[.int .i64 l[k][j].1, .int .i64 l[k][j].2] 39)))
              obtain ⟨fn, tmps, assign, body, hy, hR⟩ := HY.out _ hp _ hjj2
              rw [he] at hy
              have hRb := hR.mono (R' := fun e W' => ∃ bb : Bool, e = .returned (.bool bb) ∧ Hid (bb = true → J ((Pl.lostF 0 (l.take k) s).length + (Pl.lostW k s[k] (l[k].take j)).length + 1) W' ∧ RStep W.heap.size (protL bl bs w0.heap.size) ((wr.alloc (.cells #[.int .i64 l[k][j].1, .int .i64 l[k][j].2] 39)).drew) W') ∧ Hid (bb = false → Jx ((Pl.lostF 0 (l.take k) s).length + (Pl.lostW k s[k] (l[k].take j)).length + 1) W'))
                (by rintro e W' (⟨rfl, h1, h2⟩ | ⟨rfl, h1⟩)
                    · exact ⟨true, rfl, fun _ => ⟨h1, h2⟩, fun h => by cases h⟩
                    · exact ⟨false, rfl, (fun h => by cases h), fun _ => h1⟩)
              have HRb := Lib.hid hRb
              have hmix : Try.prog.follows .mixedOrders = true := by kernel_rfl
              clear hR hRb
              have hbs2 := cell_al hbs (.cells #[.int .i64 l[k][j].1, .int .i64 l[k][j].2] 39)
              have hsc2 := cell_al hsc (.cells #[.int .i64 l[k][j].1, .int .i64 l[k][j].2] 39)
              gi_wp2
              gi_region_with_o ((refine ⟨rfl, HRb.out.mono ?_⟩; rintro e W3 ⟨bb, rfl, hb1, hb2⟩))
              all_goals
                cases bb
                · have hjx3 := hb2.out rfl
                  gi_wp2
                  refine bodyPost_ret (results_none rfl _ _ _) rfl ?_
                  exact ⟨⟨_, rfl⟩, .inr ⟨_, hp, hjx3⟩⟩
                · have hst3 := hst2.trans ((RStep.of_below (below_drewN ((Below.refl _ wr).alloc (Nat.le_refl _) _) 1)).trans (hb1.out rfl).2)
                  have hj3 := (hb1.out rfl).1
                  gi_wp2
                  go_roundw
                  case rel => exact ⟨j + 1, by omega, by go_num, by rw [HWT.out, if_pos hgone]; simpa [Nat.add_assoc] using hj3, hst3⟩
                  case measure => first | omega | (simp [intOf]; omega)
            · have g2b : decide (s[k] < l[k][j].2) = false := by simpa using g2
              have hgone : Pl.gone s[k] l[k][j] = false := by simp [Pl.gone, g2b]
              have hbs2 := cell_al hbs (.cells #[.int .i64 l[k][j].1, .int .i64 l[k][j].2] 39)
              have hsc2 := cell_al hsc (.cells #[.int .i64 l[k][j].1, .int .i64 l[k][j].2] 39)
              gi_wp2
              refine wpIn_wide.2 ?_
              go_quiet (fail)
              have hj3 := HJ.out _ _ _ hjj (istep_drewN (istep_alloc (B := W.heap.size) wr (.cells #[.int .i64 l[k][j].1, .int .i64 l[k][j].2] 39)) nq)
              have hst3 := hst2.trans (RStep.of_below (below_drewN ((Below.refl _ wr).alloc (Nat.le_refl _) (.cells #[.int .i64 l[k][j].1, .int .i64 l[k][j].2] 39)) nq))
              gi_wp2
              go_roundw
              case rel => exact ⟨j + 1, by omega, by go_num, by rw [HWT.out, hgone]; simpa using hj3, hst3⟩
              case measure => first | omega | (simp [intOf]; omega)
          · have g1b : decide (l[k][j].2 < 1099511627776) = false := by simpa using g1
            have hgone : Pl.gone s[k] l[k][j] = false := by simp [Pl.gone, g1b]
            gi_wp2
            refine wpIn_wide.2 ?_
            go_quiet (fail)
            have hj3 := HJ.out _ _ _ hjj (istep_drewN (istep_alloc (B := W.heap.size) wr (.cells #[.int .i64 l[k][j].1, .int .i64 l[k][j].2] 39)) nq)
            have hst3 := hst2.trans (RStep.of_below (below_drewN ((Below.refl _ wr).alloc (Nat.le_refl _) (.cells #[.int .i64 l[k][j].1, .int .i64 l[k][j].2] 39)) nq))
            gi_wp2
            go_roundw
            case rel => exact ⟨j + 1, by omega, by go_num, by rw [HWT.out, hgone]; simpa using hj3, hst3⟩
            case measure => first | omega | (simp [intOf]; omega)
        · have hx : l[k].take j = l[k] := List.take_of_length_le (by omega)
          rw [hx] at hjj
          clear hx
          gi_wp2
          go_roundw
          case rel => exact ⟨k + 1, by omega, by go_num, by rw [HT.out, List.length_append]; exact hjj, hst2⟩
          case measure => first | omega | (simp [intOf]; omega)
    · gi_wp2
      go_end0
      exact ⟨⟨_, rfl⟩, .inl (by rwa [List.take_of_length_le (by omega)] at hj)⟩

end Go.Proofs.Ytofllhbcediafaa
