/- Walk of grouping; slices of bytes. -/
import Derived.Test.YtchjjcmlekknfaaL2
import Derived.Test.YtchjjcmlekknfaaOpen
import Derived.Deep.Cut
namespace Go.Proofs.Ytchjjcmlekknfaa
open Go.RowKit
set_option linter.unusedVariables false
set_option linter.unusedSimpArgs false

/-- a slice of bytes reads as a list -/
def IsU8 (w : World) (v : Value) (xs : List Int) : Prop := ∃ A c, v = .slice A xs.length c ∧ RowAt w A (xs.map (Value.int .u8))
theorem IsU8.upb {w w' : World} {v : Value} {xs : List Int} (h : IsU8 w v xs) (hb : Below w.heap.size w w') : IsU8 w' v xs := by
  obtain ⟨A, c, e, hr⟩ := h
  exact ⟨A, c, e, hr.below hb⟩
section
open Go.ChangeShapes Go.WideShapes Go.Deep
variable {H : Type} {enc : TypeId × Value → H} {w : World} {base : Nat} {spare : Nat → Bool} {held : Bool}
theorem open_isU8 {fuel : Nat} {v : Value} {x : DataW H × List MemPlace} (h : DataW.trod enc Try.prog w base spare held fuel 34 [v] = some x) :
    ∃ xs : List Int, IsU8 w v xs ∧ xs.length ≤ 9223372036854775807 ∧ ∀ y ∈ xs, 0 ≤ y ∧ y ≤ 255 := by
  rcases open_ints Try.underlying34 Try.underlying5 (by kernel_rfl) h with ⟨hcs, _⟩ | ⟨x, l, c, zs, hcs, _, hl, hm, hz, _, hcell, hwz⟩
  · simp at hcs
    subst hcs
    exact ⟨[], ⟨none, 0, rfl, RowAt.nil⟩, by simp, by simp⟩
  · simp at hcs
    subst hcs
    unfold maxLen at hm
    have hlz : l ≤ zs.length := by rw [hz]; split <;> omega
    have hlen : (zs.take l).length = l := by simp; omega
    refine ⟨zs.take l, ⟨some x, c, by rw [hlen], rowAt_of fun i hi => ?_⟩, by omega, fun y hy => ?_⟩
    · simp only [List.length_map, hlen] at hi
      rw [hcell i (by omega)]
      simp [List.getD_eq_getElem?_getD, List.getElem?_eq_getElem (show i < zs.length by omega)]
    · have wp := hwz y (List.mem_of_mem_take hy)
      have h5 : IntKind.u8.min ≤ y ∧ y ≤ IntKind.u8.max := by simpa [Lit.wf] using wp
      have h6 : IntKind.u8.min = 0 := by rfl
      have h7 : IntKind.u8.max = 255 := by rfl
      omega
end

set_option maxHeartbeats 2000000 in
theorem group_picks (n m : Nat) (v : Value) (ps : List Int) (w : World) (hv : IsU8 w v ps) (hb : ∀ y ∈ ps, 0 ≤ y ∧ y ≤ 255) (hl : ps.length ≤ 9223372036854775807) (hn : n ≤ 64) (hm1 : 1 ≤ m) (hm8 : m ≤ 8) :
    Calls Try.prog 21 #[.int .i64 n, .int .i64 m, v] w fun e w' => ∃ (k : List Nat) (v' : Value), e = .returned v' ∧ IsInts w' v' (Sc.toI k) ∧ Sc.Grp m n 0 k ∧ Below w.heap.size w w' := by
  obtain ⟨A, c, rfl, hr⟩ := hv
  have HR := Lib.hid hr
  have HBD := Lib.hid hb
  clear hr hb
  go_enter Try.func21, Try.ntmps21
  go_wp2_with (fail)
  go_loopw [6, 7, 8] (fun en lv _ wr => ∃ (pre : List Nat) (last : Nat), last ≤ n ∧ lv = .int .i64 last ∧ Hid (OwnInts wr w.heap.size en (Sc.toI pre)) ∧ Hid (Below w.heap.size w wr) ∧ Hid (pre.length ≤ last ∧ ∀ l, Sc.Grp m n last l → Sc.Grp m n 0 (pre ++ l))) (fun _ lv _ _ => n - (intOf lv).toNat)
  case atStart => exact ⟨[], 0, Nat.zero_le _, rfl, own_none _ _, Lib.hid (Below.refl _ _), Lib.hid ⟨Nat.le_refl _, fun l h => h⟩⟩
  case round =>
    obtain ⟨pre, last, hla, rfl, HO, HB, HI⟩ := hrel
    obtain ⟨Ae, ce, rfl⟩ := own_slice HO.out
    have hpl : (Sc.toI pre).length ≤ 64 := by have := HI.out.1; rw [Sc.toI_len]; omega
    have HPL := Lib.hid hpl
    by_cases hlt : last < n
    · have HSTEP := Lib.hid (show ∀ x : Nat, last < x → x ≤ n → x ≤ last + m → (pre ++ [x]).length ≤ x ∧ ∀ l, Sc.Grp m n x l → Sc.Grp m n 0 ((pre ++ [x]) ++ l) from fun x h1 h2 h3 => ⟨by have := HI.out.1; simp; omega, fun l h => by
        rw [List.append_assoc]; exact HI.out.2 _ ⟨h1, h2, h3, h⟩⟩)
      by_cases hpk : (Sc.toI pre).length < ps.length
      · obtain ⟨b, off, rfl, hbb, hc⟩ := HR.out.at_ (k := (Sc.toI pre).length) (by simpa using hpk)
        have hc2 : wr.cell? ⟨b, off + (Sc.toI pre).length, none⟩ = some (.int .u8 ps[(Sc.toI pre).length]) := by
          rw [(bcell HB.out).1 b _ hbb, hc]; simp
        have hy := HBD.out _ (List.getElem_mem hpk)
        generalize ps[(Sc.toI pre).length] = y at *
        have hpk2 : ((Sc.toI pre).length : Int) < (ps.length : Int) := by omega
        clear hc
        have hm0 : ¬ ((m : Int) = 0) := by omega
        have hm0b : ((m : Int) == 0) = false := by simpa using hm0
        go_upto_region 6 with (fail)
        generalize hr9 : y % (m : Int) = r9
        have hr1 : 0 ≤ r9 := by rw [← hr9]; exact Int.emod_nonneg y hm0
        have hr2 : r9 < (m : Int) := by rw [← hr9]; exact Int.emod_lt_of_pos y (by omega)
        clear hr9
        obtain ⟨s, hs, hs1, hsm⟩ : ∃ s : Nat, wrap64 (1 + r9) = (s : Int) ∧ 1 ≤ s ∧ s ≤ m := ⟨(1 + r9).toNat, by unfold wrap64; omega, by omega, by omega⟩
        rw [hs]
        clear hs
        have hw1 : IntKind.i64.wrap ((last : Int) + (s : Int)) = ((last + s : Nat) : Int) := by rw [IntKind.wrap_i64]; omega
        have hwn : (last : Int) + (s : Int) = ((last + s : Nat) : Int) := by omega
        rcases Int.lt_or_le ((last : Int) + (s : Int)) (n : Int) with hmn | hmn
        · obtain ⟨x, hx⟩ : ∃ x : Nat, last + s = x := ⟨_, rfl⟩
          obtain ⟨HS1, HS2⟩ := HSTEP.out x (by omega) (by omega) (by omega)
          have HS := Lib.hid (And.intro HS1 HS2)
          have HSN := Lib.hid (show Sc.toI (pre ++ [x]) = Sc.toI pre ++ [(x : Int)] from Sc.toI_append _ _)
          have hxn : x ≤ n := by omega
          have hxl : last < x := by omega
          clear HS1 HS2 hwn
          go_wp2_with (at_builtin; go_must (refine wpList_push rfl (.tmp 32) (.tmp 34) rfl w.heap.size _ (Sc.toI pre) rfl HO.out (x : Int) wr.heap.size rfl rfl (by have := HPL.out; omega) HB.out.size ?_); intro v1 w9 hown1 hg1 hat1; have HO1 := Lib.hid hown1; have HG1 := Lib.hid hg1; clear hown1 hg1 hat1)
          go_roundw
          case rel => exact ⟨pre ++ [x], x, hxn, rfl, Lib.hid (by rw [HSN.out]; exact HO1.out), Lib.hid (HB.out.grown HG1.out HB.out.size (fun g hg => (World.ownsRow.lt HO.out g hg).1)), HS⟩
          case measure => first | omega | (simp [intOf]; done) | (simp [intOf]; omega)
        · have hmn' : ¬ (last : Int) + (s : Int) < (n : Int) := by omega
          obtain ⟨HS1, HS2⟩ := HSTEP.out n (by omega) (by omega) (by omega)
          have HS := Lib.hid (And.intro HS1 HS2)
          have HSN := Lib.hid (show Sc.toI (pre ++ [n]) = Sc.toI pre ++ [(n : Int)] from Sc.toI_append _ _)
          clear HS1 HS2 hwn
          go_wp2_with (at_builtin; go_must (refine wpList_push rfl (.tmp 32) (.tmp 34) rfl w.heap.size _ (Sc.toI pre) rfl HO.out (n : Int) wr.heap.size rfl rfl (by have := HPL.out; omega) HB.out.size ?_); intro v1 w9 hown1 hg1 hat1; have HO1 := Lib.hid hown1; have HG1 := Lib.hid hg1; clear hown1 hg1 hat1)
          go_roundw
          case rel => exact ⟨pre ++ [n], n, Nat.le_refl n, rfl, Lib.hid (by rw [HSN.out]; exact HO1.out), Lib.hid (HB.out.grown HG1.out HB.out.size (fun g hg => (World.ownsRow.lt HO.out g hg).1)), HS⟩
          case measure => first | omega | (simp [intOf]; done) | (simp [intOf]; omega)
      · have hpk2 : ¬ ((Sc.toI pre).length : Int) < (ps.length : Int) := by omega
        have hw1 : IntKind.i64.wrap ((last : Int) + 1) = ((last + 1 : Nat) : Int) := by rw [IntKind.wrap_i64]; omega
        have hwn : (last : Int) + 1 = ((last + 1 : Nat) : Int) := by omega
        rcases Int.lt_or_le ((last : Int) + 1) (n : Int) with hmn | hmn
        · obtain ⟨x, hx⟩ : ∃ x : Nat, last + 1 = x := ⟨_, rfl⟩
          obtain ⟨HS1, HS2⟩ := HSTEP.out x (by omega) (by omega) (by omega)
          have HS := Lib.hid (And.intro HS1 HS2)
          have HSN := Lib.hid (show Sc.toI (pre ++ [x]) = Sc.toI pre ++ [(x : Int)] from Sc.toI_append _ _)
          have hxn : x ≤ n := by omega
          have hxl : last < x := by omega
          clear HS1 HS2 hwn
          go_wp2_with (at_builtin; go_must (refine wpList_push rfl (.tmp 32) (.tmp 34) rfl w.heap.size _ (Sc.toI pre) rfl HO.out (x : Int) wr.heap.size rfl rfl (by have := HPL.out; omega) HB.out.size ?_); intro v1 w9 hown1 hg1 hat1; have HO1 := Lib.hid hown1; have HG1 := Lib.hid hg1; clear hown1 hg1 hat1)
          go_roundw
          case rel => exact ⟨pre ++ [x], x, hxn, rfl, Lib.hid (by rw [HSN.out]; exact HO1.out), Lib.hid (HB.out.grown HG1.out HB.out.size (fun g hg => (World.ownsRow.lt HO.out g hg).1)), HS⟩
          case measure => first | omega | (simp [intOf]; done) | (simp [intOf]; omega)
        · have hmn' : ¬ (last : Int) + 1 < (n : Int) := by omega
          obtain ⟨HS1, HS2⟩ := HSTEP.out n (by omega) (by omega) (by omega)
          have HS := Lib.hid (And.intro HS1 HS2)
          have HSN := Lib.hid (show Sc.toI (pre ++ [n]) = Sc.toI pre ++ [(n : Int)] from Sc.toI_append _ _)
          clear HS1 HS2 hwn
          go_wp2_with (at_builtin; go_must (refine wpList_push rfl (.tmp 32) (.tmp 34) rfl w.heap.size _ (Sc.toI pre) rfl HO.out (n : Int) wr.heap.size rfl rfl (by have := HPL.out; omega) HB.out.size ?_); intro v1 w9 hown1 hg1 hat1; have HO1 := Lib.hid hown1; have HG1 := Lib.hid hg1; clear hown1 hg1 hat1)
          go_roundw
          case rel => exact ⟨pre ++ [n], n, Nat.le_refl n, rfl, Lib.hid (by rw [HSN.out]; exact HO1.out), Lib.hid (HB.out.grown HG1.out HB.out.size (fun g hg => (World.ownsRow.lt HO.out g hg).1)), HS⟩
          case measure => first | omega | (simp [intOf]; done) | (simp [intOf]; omega)
    · have HG := Lib.hid (HI.out.2 [] (by show last = n; omega))
      rw [List.append_nil] at HG
      go_wp2_with (fail)
      go_ret
      exact ⟨pre, _, rfl, HO.out.ints, HG.out, HB.out⟩
end Go.Proofs.Ytchjjcmlekknfaa
