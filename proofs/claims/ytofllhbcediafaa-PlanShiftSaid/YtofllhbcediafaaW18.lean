/- Walks of right, withdrawn and life, of the statements' own helpers. -/
import Derived.Test.YtofllhbcediafaaW17
import Derived.StillTailTactics
namespace Go.Proofs.Ytofllhbcediafaa
open Go.RowKit
set_option linter.unusedVariables false
set_option linter.unusedSimpArgs false

def rightB (l : List (List Pl.Life)) (ds : List Int) : Bool := decide (l.length ≤ 100) && fewB l ds [] && decide (Pl.err l ds = 0)

set_option maxHeartbeats 1000000 in
theorem right_any (v u : Value) (l : List (List Pl.Life)) (ds : List Int) (w : World) (hv : IsWords w v l) (hu : IsInts w u ds) (hl : l.length ≤ 9223372036854775807) (hl2 : ds.length ≤ 9223372036854775807) :
    Calls Try.prog 20 #[v, u] w fun e w' => e = .returned (.bool (rightB l ds)) ∧ ∃ m, w' = w.drewN m := by
  have HV := Lib.hid hv
  have HU := Lib.hid hu
  obtain ⟨A, cap, vs, rfl, hlen, hr, hvs⟩ := hv
  obtain ⟨A2, cap2, rfl, hr2⟩ := hu
  clear hr hvs hlen hr2
  by_cases h1 : l.length ≤ 100
  rotate_left
  · have HF := Lib.hid (show rightB l ds = false by simp [rightB, h1])
    go_enter Try.func20, Try.ntmps20
    go_wp2_with (fail)
    go_ret
    exact ⟨ret_bool HF.out.symm, 0, rfl⟩
  cases h2 : fewB l ds []
  · have HF := Lib.hid (show rightB l ds = false by simp [rightB, h2])
    go_enter Try.func20, Try.ntmps20
    go_wp2_with (fail)
    refine (few_any _ _ _ l ds [] _ HV.out HU.out IsInts.nil hl hl2 (by simp)).mono ?_
    rintro e w1 ⟨rfl, rfl⟩
    rw [h2]
    go_wp2_with (fail)
    go_ret
    exact ⟨ret_bool HF.out.symm, 0, rfl⟩
  · by_cases h3 : Pl.err l ds = 0
    · have HF := Lib.hid (show rightB l ds = true by simp [rightB, h1, h2, h3])
      have h3b : (Pl.err l ds == 0) = true := by simp [h3]
      clear h3
      go_enter Try.func20, Try.ntmps20
      go_wp2_with (fail)
      refine (few_any _ _ _ l ds [] _ HV.out HU.out IsInts.nil hl hl2 (by simp)).mono ?_
      rintro e w1 ⟨rfl, rfl⟩
      rw [h2]
      go_wp2_with (fail)
      refine (refCheck_any _ _ l ds _ HV.out HU.out hl).mono ?_
      rintro e w1 ⟨rfl, m, rfl⟩
      go_wp2_with (fail)
      go_ret
      exact ⟨ret_bool (by rw [HF.out]), _, rfl⟩
    · have HF := Lib.hid (show rightB l ds = false by simp [rightB, h3])
      have h3b : (Pl.err l ds == 0) = false := by simp [h3]
      clear h3
      go_enter Try.func20, Try.ntmps20
      go_wp2_with (fail)
      refine (few_any _ _ _ l ds [] _ HV.out HU.out IsInts.nil hl hl2 (by simp)).mono ?_
      rintro e w1 ⟨rfl, rfl⟩
      rw [h2]
      go_wp2_with (fail)
      refine (refCheck_any _ _ l ds _ HV.out HU.out hl).mono ?_
      rintro e w1 ⟨rfl, m, rfl⟩
      go_wp2_with (fail)
      go_ret
      exact ⟨ret_bool (by rw [HF.out]), _, rfl⟩

/-- the numbers of the versions that are withdrawn -/
def goneIx (t : Int) (x : List Pl.Life) (k : Nat) : List Int := ((List.range k).filter (fun i => match x[i]? with | some y => Pl.gone t y | none => false)).map (fun i : Nat => (i : Int))
theorem goneIx_step (t : Int) (x : List Pl.Life) (k : Nat) (h : k < x.length) : goneIx t x (k + 1) = goneIx t x k ++ (if Pl.gone t x[k] = true then [(k : Int)] else []) := by
  unfold goneIx
  rw [List.range_succ, List.filter_append, List.map_append]
  congr 1
  by_cases hg : Pl.gone t x[k] = true <;> simp [h, hg]
theorem goneIx_len (t : Int) (x : List Pl.Life) (k : Nat) : (goneIx t x k).length ≤ k := by
  unfold goneIx
  rw [List.length_map]
  have := List.length_filter_le (fun i => match x[i]? with | some y => Pl.gone t y | none => false) (List.range k)
  simpa using this

set_option maxHeartbeats 1000000 in
theorem withdrawn_any (v : Value) (x : List Pl.Life) (t : Int) (w : World) (hv : IsLives w v x) (hl : x.length ≤ 1000) :
    Calls Try.prog 21 #[v, .int .i64 t] w fun e w' => ∃ r, e = .returned r ∧ IsInts w' r (goneIx t x x.length) ∧ Below w.heap.size w w' := by
  obtain ⟨A, cap, rfl, hr⟩ := hv
  have HR := Lib.hid hr
  clear hr
  go_enter Try.func21, Try.ntmps21
  go_wp2_with (fail)
  go_loopw [4, 9] (fun r i wr => ∃ k : Nat, k ≤ x.length ∧ i = .int .i64 k ∧ OwnInts wr w.heap.size r (goneIx t x k) ∧ Below w.heap.size w wr) (fun _ i _ => x.length - (intOf i).toNat)
  case atStart => exact ⟨0, Nat.zero_le _, rfl, own_none w _, Below.refl _ _⟩
  case round =>
    obtain ⟨k, hk, rfl, hown, hb⟩ := hrel
    have HO := Lib.hid hown
    have HB := Lib.hid hb
    clear hown hb
    by_cases hlt : k < x.length
    · obtain ⟨b, off, rfl, hbb, hc1, hc2⟩ := lives_at HR.out hlt
      replace hc1 := (HB.out.cell (p := ⟨b, off + k * 2, none⟩) hbb).trans hc1
      replace hc2 := (HB.out.cell (p := ⟨b, off + k * 2 + 1, none⟩) hbb).trans hc2
      have HS := Lib.hid (goneIx_step t x k hlt)
      have hgl : (goneIx t x k).length ≤ 1000000 := by have := goneIx_len t x k; omega
      have HBa := fun o => Lib.hid (HB.out.alloc HB.out.size o)
      by_cases g1 : x[k].2 < 1099511627776
      · by_cases g2 : t < x[k].2
        · have HF := Lib.hid (show goneIx t x (k + 1) = goneIx t x k ++ [(k : Int)] by rw [HS.out, if_pos (by simp [Pl.gone, g1, g2])])
          clear HS
          generalize x[k].1 = bo at *
          generalize x[k].2 = go at *
          go_wp2_with (at_builtin; go_must (refine wpList_push rfl (.tmp 23) (.tmp 25) rfl w.heap.size _ _ rfl (own_alloc HO.out _) (k : Int) (wr.heap.size + 1) (by simp) rfl hgl (HBa _).out.size ?_); intro v1 w1 hown1 hg1 hat1; have HO1 := Lib.hid hown1; have HG1 := Lib.hid hg1; clear hown1 hg1 hat1)
          go_roundw
          case rel => exact ⟨k + 1, by omega, by go_num, by rw [HF.out]; exact HO1.out, (HBa _).out.grown HG1.out (HBa _).out.size (fun g hg => (own_at HO.out g hg).1)⟩
          case measure => first | omega | (simp [intOf]; done) | (simp [intOf]; omega)
        · have HF := Lib.hid (show goneIx t x (k + 1) = goneIx t x k by rw [HS.out, if_neg (by simp [Pl.gone, g2])]; simp)
          clear HS
          generalize x[k].1 = bo at *
          generalize x[k].2 = go at *
          go_wp2_with (fail)
          go_roundw
          case rel => exact ⟨k + 1, by omega, by go_num, by rw [HF.out]; exact World.ownsRow.alloc HO.out _, (HBa _).out⟩
          case measure => first | omega | (simp [intOf]; done) | (simp [intOf]; omega)
      · have HF := Lib.hid (show goneIx t x (k + 1) = goneIx t x k by rw [HS.out, if_neg (by simp [Pl.gone, g1])]; simp)
        clear HS
        generalize x[k].1 = bo at *
        generalize x[k].2 = go at *
        go_wp2_with (fail)
        go_roundw
        case rel => exact ⟨k + 1, by omega, by go_num, by rw [HF.out]; exact World.ownsRow.alloc HO.out _, (HBa _).out⟩
        case measure => first | omega | (simp [intOf]; done) | (simp [intOf]; omega)
    · go_wp2_with (fail)
      go_ret
      obtain rfl : k = x.length := by omega
      exact ⟨_, rfl, HO.out.ints, HB.out⟩

end Go.Proofs.Ytofllhbcediafaa
