/- Walk of slices.Repeat over one element. -/
import Derived.Test.YtimpnpdhhhbmgaaW19
namespace Go.Proofs.Ytimpnpdhhhbmgaa
open Go.RowKit
set_option linter.unusedVariables false
set_option linter.unusedSimpArgs false

theorem addr_add (b off j : Nat) : (⟨b, off, none⟩ : Addr).add j = ⟨b, off + j, none⟩ := by unfold Addr.add; split <;> simp_all
def nilV : Value := .slice none 0 0
theorem nils_arr (n : Nat) : madeCells #[.slice none 0 0] n = (List.replicate n nilV).toArray := by
  apply Array.ext
  · simp [madeCells]
  · intro i h1 h2
    simp [madeCells, Nat.mod_one, nilV]
theorem make_ss (n : Nat) (hn : n ≤ 4096) (w : World) : (Instr.makeSlice 22 (.int .i64 n) (.int .i64 n)).run Try.prog w = .ok (.slice (some ⟨w.heap.size, 0, none⟩) n n) (w.alloc (.cells (List.replicate n nilV).toArray 35)) := by
  obtain ⟨i0, hi, hz0, hz1, hz2⟩ := info_parts info35
  have hb : (i0.bytes : Int) * ((n : Nat) : Int) ≤ 281474976710656 := by rw [hz2]; omega
  have hr := run_make (P := Try.prog) w 22 35 i0 _ Try.underlying22 hi hz0 .i64 .i64 n n (by omega) (by omega) hb (by omega)
  simp only [Int.toNat_natCast] at hr
  rw [hr, hz1, Nat.mul_one, ← nils_arr]
  rfl
/-- a row that is filled as far as j -/
def rowR (zv : Value) (n j : Nat) : List Value := List.replicate j zv ++ List.replicate (n - j) nilV
theorem rowR_len {zv : Value} {n j : Nat} (h : j ≤ n) : (rowR zv n j).length = n := by simp [rowR]; omega
theorem rowR_splice {zv : Value} {n j m : Nat} (h : j + m ≤ n) : splice (rowR zv n j) j (List.replicate m zv) = rowR zv n (j + m) := by
  unfold splice rowR
  rw [List.take_append, List.length_replicate, Nat.sub_self, List.take_zero, List.append_nil, List.take_of_length_le (by simp), List.length_replicate, List.drop_append, List.length_replicate, List.drop_eq_nil_of_le (by simp), List.nil_append, List.drop_replicate, ← List.append_assoc, List.replicate_append_replicate]
  congr 2
  omega
theorem rowR_at {zv : Value} {n j k : Nat} (h : k < j) : (rowR zv n j)[k]? = some zv := by
  unfold rowR
  rw [List.getElem?_append_left (by simpa using h)]
  simp [h]

set_option maxHeartbeats 2000000 in
set_option maxRecDepth 100000 in
theorem Repeat_any {w : World} {b off c n : Nat} {A0 : Option Addr} {n0 c0 : Nat} (hc : w.cell? ⟨b, off, none⟩ = some (.slice A0 n0 c0)) (hn1 : 1 ≤ n) (hn : n ≤ 4096) :
    Calls Try.prog 29 #[.slice (some ⟨b, off, none⟩) 1 c, .int .i64 n] w fun e w' => ∃ g, e = .returned (.slice (some ⟨g, 0, none⟩) n n) ∧ w.heap.size ≤ g ∧ Cells w' g 35 (List.replicate n (.slice A0 n0 c0)) ∧ Below w.heap.size w w' := by
  obtain ⟨zv, hzv⟩ : ∃ zv, Value.slice A0 n0 c0 = zv := ⟨_, rfl⟩
  have hone : ∀ m, ∀ v ∈ List.replicate m zv, v.oneCell' = true := fun m v hv => by rw [List.eq_of_mem_replicate hv, ← hzv]; rfl
  rw [hzv] at hc ⊢
  have HONE := Lib.hid hone
  have HC := Lib.hid hc
  have hbw : b < w.heap.size := cell_lt hc
  have d1 : decide ((n : Int) < 0) = false := decide_eq_false (by omega)
  have hw1 : IntKind.u64.wrap (n : Int) = (n : Int) := by rw [IntKind.wrap_u64]; omega
  have hw2 : IntKind.u64.wrap (1 : Int) = 1 := by rw [IntKind.wrap_u64]; omega
  have hw3 : IntKind.i64.wrap (n : Int) = (n : Int) := by rw [IntKind.wrap_i64]; omega
  have d2 : decide ((9223372036854775807 : Int) < (n : Int)) = false := decide_eq_false (by omega)
  obtain ⟨ZL, hZL, hmk⟩ : ∃ ZL : List Value, ZL = List.replicate n nilV ∧ ∀ w : World, (Instr.makeSlice 22 (.int .i64 n) (.int .i64 n)).run Try.prog w = .ok (.slice (some ⟨w.heap.size, 0, none⟩) n n) (w.alloc (.cells ZL.toArray 35)) := ⟨_, rfl, fun w => make_ss n hn w⟩
  have HZL := Lib.hid hZL
  have HN := Lib.hid (And.intro hn1 hn)
  have HM := Lib.hid (fun W => mul_one (n := n) (w := W) hn)
  clear hc hone hZL hzv
  go_enter Try.func29, Try.ntmps29
  go_wp2_with (fail)
  refine (HM.out _).mono ?_
  rintro e w' ⟨rfl, rfl⟩
  have H0 := Lib.hid (show splice ZL 0 [zv] = rowR zv n 1 by rw [HZL.out]; have := rowR_splice (zv := zv) (n := n) (j := 0) (m := 1) (by have := HN.out.1; omega); simpa [rowR] using this)
  go_wp2_with (refine wpList_copy_splice rfl (.tmp 31) (.tmp 32) 22 22 rfl 35 Try.underlying22 (by kernel_rfl) _ _ n n 1 c rfl rfl w.heap.size 0 ZL 35 (Cells.new w 35 ZL) [zv] (show 1 = Nat.min 1 n by have := HN.out.1; exact (Nat.min_eq_left this).symm) (fun hpos => ⟨rfl, ⟨b, off, none⟩, rfl, fun j v hv => by
    cases j with
    | zero => simp at hv; subst hv; have := (World.cell?_alloc_lt w (.cells ZL.toArray 35) ⟨b, off, none⟩ hbw).trans HC.out; simpa [Addr.add] using this
    | succ j => simp at hv⟩) (by rw [HZL.out]; simp; exact HN.out.1) (fun v hv => HONE.out 1 v hv) w.heap.size w (al1 w (.cells ZL.toArray 35)) (Nat.le_refl _) ?_; intro w3 hd3 hb3; have HC3 := Lib.hid (show Cells w3 w.heap.size 35 (rowR zv n 1) from by rw [← H0.out]; exact hd3.out); have HB3 := Lib.hid hb3; clear hd3 hb3)
  go_loopw [8] (fun i wr => ∃ j : Nat, i = .int .i64 j ∧ 1 ≤ j ∧ j ≤ n ∧ Hid (Cells wr w.heap.size 35 (rowR zv n j)) ∧ Hid (Below w.heap.size w wr)) (fun i _ => n - (intOf i).toNat)
  case atStart => exact ⟨1, rfl, Nat.le_refl _, HN.out.1, HC3, HB3⟩
  case round =>
    obtain ⟨j, rfl, hj1, hj, HCj, HBj⟩ := hrel
    by_cases hlt : j < n
    · obtain ⟨m, hm⟩ : ∃ m, Nat.min j (n - j) = m := ⟨_, rfl⟩
      have hm1 : m ≤ j := by rw [← hm]; exact Nat.min_le_left _ _
      have hm2 : m ≤ n - j := by rw [← hm]; exact Nat.min_le_right _ _
      have hm3 : 1 ≤ m := by rw [← hm]; exact Nat.le_min.2 ⟨hj1, by omega⟩
      have HM' := Lib.hid (show (List.replicate m zv).length = Nat.min j (n - j) by rw [hm]; simp)
      have HF := Lib.hid (show j + (List.replicate m zv).length ≤ (rowR zv n j).length by rw [rowR_len hj]; simp; omega)
      have HS := Lib.hid (rowR_splice (zv := zv) (n := n) (j := j) (m := m) (by omega))
      have hws : IntKind.i64.wrap ((j : Int) + (m : Int)) = (j : Int) + (m : Int) := by rw [IntKind.wrap_i64]; have := HN.out.2; omega
      clear hm
      go_wp2_with (fail)
      go_region_law (refine step_copy_splice rfl (.tmp 41) (.tmp 44) 22 22 rfl 35 Try.underlying22 (by kernel_rfl) (some ⟨w.heap.size, j, none⟩) (some ⟨w.heap.size, 0, none⟩) (n - j) (n - j) j n (by simp [Act.eval, Act.put] <;> omega) (by simp [Act.eval, Act.put] <;> omega) w.heap.size j (rowR zv n j) 35 HCj.out (List.replicate m zv) HM'.out (fun hp => ⟨rfl, _, rfl, fun i v hv => by
        obtain ⟨hi, rfl⟩ := List.getElem?_eq_some_iff.1 hv
        simp at hi
        have h9 := HCj.out.cell (rowR_at (zv := zv) (n := n) (j := j) (k := i) (by omega))
        rw [addr_add, Nat.zero_add]
        simpa using h9⟩) HF.out (HONE.out m) w.heap.size w (below_drewN HBj.out 1) (Nat.le_refl _) ?_; intro w4 hg4 hb4; have HC4 := Lib.hid (show Cells w4 w.heap.size 35 (rowR zv n (j + m)) from by rw [← HS.out]; exact hg4.out); have HB4 := Lib.hid hb4; clear hg4 hb4)
      all_goals
        go_wp2_with (fail)
        go_roundw
        case rel => exact ⟨j + m, by first | omega | go_num | (congr 1; omega), by omega, by omega, HC4⟩
        case measure => first | omega | (simp [intOf]; done) | (simp [intOf]; omega)
    · obtain rfl : j = n := by omega
      go_wp2_with (fail)
      go_ret
      exact ⟨_, rfl, Nat.le_refl _, by have := HCj.out; simpa [rowR] using this, HBj.out⟩
end Go.Proofs.Ytimpnpdhhhbmgaa
