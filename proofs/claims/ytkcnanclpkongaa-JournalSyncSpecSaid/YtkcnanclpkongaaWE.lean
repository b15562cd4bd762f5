/- Walks of bits.Mul64 and Mul, of slices.Repeat. Walk of slices.Repeat over one element. Walks of New, of both sides. Walk of the reference's Same. Calls with plain results; calls in regions that draw. -/
import Derived.Test.YtkcnanclpkongaaWD
import Derived.Laws.Bits64b
import Derived.StillTailTactics
import Derived.Test.YtkcnanclpkongaaPA
namespace Go.Proofs.Ytkcnanclpkongaa
section
open Go.RowKit
set_option linter.unusedVariables false
set_option linter.unusedSimpArgs false
set_option maxRecDepth 20000

theorem band_n {n : Nat} (hn : n ≤ 4096) : bits BinOp.and IntKind.u64 (n : Int) 4294967295 = (n : Int) := by
  have h := bits_and_u64_nat n 4294967295 (by omega) (by omega)
  have h2 : n &&& 4294967295 = n := by
    have := Nat.and_two_pow_sub_one_eq_mod n 32
    rw [show (2 : Nat) ^ 32 - 1 = 4294967295 from rfl] at this
    rw [this]
    exact Nat.mod_eq_of_lt (by omega)
  rw [h2] at h
  exact h

set_option maxHeartbeats 1000000 in
theorem mul64_one {n : Nat} {w : World} (hn : n ≤ 4096) : Calls Try.prog 74 #[.int .u64 1, .int .u64 n] w fun e w' => e = .returned (.tuple #[.int .u64 0, .int .u64 n]) ∧ w = w' := by
  have h1 : bits BinOp.and IntKind.u64 1 4294967295 = 1 := band_n (n := 1) (by omega)
  have h0 : bits BinOp.and IntKind.u64 0 4294967295 = 0 := band_n (n := 0) (by omega)
  have h2 := band_n hn
  have h3 : (n : Int) / 4294967296 = 0 := by omega
  have h4 : IntKind.u64.wrap (n : Int) = (n : Int) := by rw [IntKind.wrap_u64]; omega
  have h5 : IntKind.u64.wrap (0 : Int) = 0 := by rw [IntKind.wrap_u64]; omega
  have h6 : (1 : Int) * (n : Int) = (n : Int) := by omega
  clear hn
  go_enter Try.func74, Try.ntmps74
  go_wp2_with (fail)
  go_ret2
  exact ⟨rfl, rfl⟩

set_option maxHeartbeats 1000000 in
theorem mul_one {n : Nat} {w : World} (hn : n ≤ 4096) : Calls Try.prog 68 #[.int .u64 1, .int .u64 n] w fun e w' => e = .returned (.tuple #[.int .u64 0, .int .u64 n]) ∧ w = w' := by
  have h4 : IntKind.u64.wrap (n : Int) = (n : Int) := by rw [IntKind.wrap_u64]; omega
  go_enter Try.func68, Try.ntmps68
  go_wp2_with (fail)
  refine (mul64_one hn).mono ?_
  rintro e w' ⟨rfl, rfl⟩
  go_wp2_with (fail)
  go_ret2
  exact ⟨rfl, rfl⟩
end
section
open Go.RowKit
set_option linter.unusedVariables false
set_option linter.unusedSimpArgs false
set_option maxRecDepth 20000

theorem addr_add (b off j : Nat) : (⟨b, off, none⟩ : Addr).add j = ⟨b, off + j, none⟩ := by unfold Addr.add; split <;> simp_all
def nilV : Value := .slice none 0 0
theorem nils_arr (n : Nat) : madeCells #[.slice none 0 0] n = (List.replicate n nilV).toArray := by
  apply Array.ext
  · simp [madeCells]
  · intro i h1 h2
    simp [madeCells, Nat.mod_one, nilV]
theorem make_ss (n : Nat) (hn : n ≤ 4096) (w : World) : (Instr.makeSlice 22 (.int .i64 n) (.int .i64 n)).run Try.prog w = .ok (.slice (some ⟨w.heap.size, 0, none⟩) n n) (w.alloc (.cells (List.replicate n nilV).toArray 35)) := by
  obtain ⟨i0, hi, hz0, hz1, hz2⟩ := info_parts info35
  have hb : (i0.bytes : Int) * ((n : Nat) : Int) ≤ 281474976710656 := by rw [hz2]; omega
  have hr := run_make (P := Try.prog) w 22 35 i0 _ Try.underlying22 hi hz0 .i64 .i64 n n (by omega) (by omega) hb (by omega)
  simp only [Int.toNat_natCast] at hr
  rw [hr, hz1, Nat.mul_one, ← nils_arr]
  rfl
/-- a row that is filled as far as j -/
def rowR (zv : Value) (n j : Nat) : List Value := List.replicate j zv ++ List.replicate (n - j) nilV
theorem rowR_len {zv : Value} {n j : Nat} (h : j ≤ n) : (rowR zv n j).length = n := by simp [rowR]; omega
theorem rowR_splice {zv : Value} {n j m : Nat} (h : j + m ≤ n) : splice (rowR zv n j) j (List.replicate m zv) = rowR zv n (j + m) := by
  unfold splice rowR
  rw [List.take_append, List.length_replicate, Nat.sub_self, List.take_zero, List.append_nil, List.take_of_length_le (by simp), List.length_replicate, List.drop_append, List.length_replicate, List.drop_eq_nil_of_le (by simp), List.nil_append, List.drop_replicate, ← List.append_assoc, List.replicate_append_replicate]
  congr 2
  omega
theorem rowR_at {zv : Value} {n j k : Nat} (h : k < j) : (rowR zv n j)[k]? = some zv := by
  unfold rowR
  rw [List.getElem?_append_left (by simpa using h)]
  simp [h]

set_option maxHeartbeats 2000000 in
set_option maxRecDepth 100000 in
theorem Repeat_any {w : World} {b off c n : Nat} {A0 : Option Addr} {n0 c0 : Nat} (hc : w.cell? ⟨b, off, none⟩ = some (.slice A0 n0 c0)) (hn1 : 1 ≤ n) (hn : n ≤ 4096) :
    Calls Try.prog 49 #[.slice (some ⟨b, off, none⟩) 1 c, .int .i64 n] w fun e w' => ∃ g, e = .returned (.slice (some ⟨g, 0, none⟩) n n) ∧ w.heap.size ≤ g ∧ Cells w' g 35 (List.replicate n (.slice A0 n0 c0)) ∧ Below w.heap.size w w' := by
  obtain ⟨zv, hzv⟩ : ∃ zv, Value.slice A0 n0 c0 = zv := ⟨_, rfl⟩
  have hone : ∀ m, ∀ v ∈ List.replicate m zv, v.oneCell' = true := fun m v hv => by rw [List.eq_of_mem_replicate hv, ← hzv]; rfl
  rw [hzv] at hc ⊢
  have HONE := Lib.hid hone
  have HC := Lib.hid hc
  have hbw : b < w.heap.size := cell_lt hc
  have d1 : decide ((n : Int) < 0) = false := decide_eq_false (by omega)
  have hw1 : IntKind.u64.wrap (n : Int) = (n : Int) := by rw [IntKind.wrap_u64]; omega
  have hw2 : IntKind.u64.wrap (1 : Int) = 1 := by rw [IntKind.wrap_u64]; omega
  have hw3 : IntKind.i64.wrap (n : Int) = (n : Int) := by rw [IntKind.wrap_i64]; omega
  have d2 : decide ((9223372036854775807 : Int) < (n : Int)) = false := decide_eq_false (by omega)
  obtain ⟨ZL, hZL, hmk⟩ : ∃ ZL : List Value, ZL = List.replicate n nilV ∧ ∀ w : World, (Instr.makeSlice 22 (.int .i64 n) (.int .i64 n)).run Try.prog w = .ok (.slice (some ⟨w.heap.size, 0, none⟩) n n) (w.alloc (.cells ZL.toArray 35)) := ⟨_, rfl, fun w => make_ss n hn w⟩
  have HZL := Lib.hid hZL
  have HN := Lib.hid (And.intro hn1 hn)
  have HM := Lib.hid (fun W => mul_one (n := n) (w := W) hn)
  clear hc hone hZL hzv
  go_enter Try.func49, Try.ntmps49
  go_wp2_with (fail)
  refine (HM.out _).mono ?_
  rintro e w' ⟨rfl, rfl⟩
  have H0 := Lib.hid (show splice ZL 0 [zv] = rowR zv n 1 by rw [HZL.out]; have := rowR_splice (zv := zv) (n := n) (j := 0) (m := 1) (by have := HN.out.1; omega); simpa [rowR] using this)
  go_wp2_with (refine wpList_copy_splice rfl (.tmp 31) (.tmp 32) 22 22 rfl 35 Try.underlying22 (by kernel_rfl) _ _ n n 1 c rfl rfl w.heap.size 0 ZL 35 (Cells.new w 35 ZL) [zv] (show 1 = Nat.min 1 n by have := HN.out.1; exact (Nat.min_eq_left this).symm) (fun hpos => ⟨rfl, ⟨b, off, none⟩, rfl, fun j v hv => by
    cases j with
    | zero => simp at hv; subst hv; have := (World.cell?_alloc_lt w (.cells ZL.toArray 35) ⟨b, off, none⟩ hbw).trans HC.out; simpa [Addr.add] using this
    | succ j => simp at hv⟩) (by rw [HZL.out]; simp; exact HN.out.1) (fun v hv => HONE.out 1 v hv) w.heap.size w (al1 w (.cells ZL.toArray 35)) (Nat.le_refl _) ?_; intro w3 hd3 hb3; have HC3 := Lib.hid (show Cells w3 w.heap.size 35 (rowR zv n 1) from by rw [← H0.out]; exact hd3.out); have HB3 := Lib.hid hb3; clear hd3 hb3)
  go_loopw [8] (fun i wr => ∃ j : Nat, i = .int .i64 j ∧ 1 ≤ j ∧ j ≤ n ∧ Hid (Cells wr w.heap.size 35 (rowR zv n j)) ∧ Hid (Below w.heap.size w wr)) (fun i _ => n - (intOf i).toNat)
  case atStart => exact ⟨1, rfl, Nat.le_refl _, HN.out.1, HC3, HB3⟩
  case round =>
    obtain ⟨j, rfl, hj1, hj, HCj, HBj⟩ := hrel
    by_cases hlt : j < n
    · obtain ⟨m, hm⟩ : ∃ m, Nat.min j (n - j) = m := ⟨_, rfl⟩
      have hm1 : m ≤ j := by rw [← hm]; exact Nat.min_le_left _ _
      have hm2 : m ≤ n - j := by rw [← hm]; exact Nat.min_le_right _ _
      have hm3 : 1 ≤ m := by rw [← hm]; exact Nat.le_min.2 ⟨hj1, by omega⟩
      have HM' := Lib.hid (show (List.replicate m zv).length = Nat.min j (n - j) by rw [hm]; simp)
      have HF := Lib.hid (show j + (List.replicate m zv).length ≤ (rowR zv n j).length by rw [rowR_len hj]; simp; omega)
      have HS := Lib.hid (rowR_splice (zv := zv) (n := n) (j := j) (m := m) (by omega))
      have hws : IntKind.i64.wrap ((j : Int) + (m : Int)) = (j : Int) + (m : Int) := by rw [IntKind.wrap_i64]; have := HN.out.2; omega
      clear hm
      go_wp2_with (fail)
      go_region_law (refine step_copy_splice rfl (.tmp 41) (.tmp 44) 22 22 rfl 35 Try.underlying22 (by kernel_rfl) (some ⟨w.heap.size, j, none⟩) (some ⟨w.heap.size, 0, none⟩) (n - j) (n - j) j n (by simp [Act.eval, Act.put] <;> omega) (by simp [Act.eval, Act.put] <;> omega) w.heap.size j (rowR zv n j) 35 HCj.out (List.replicate m zv) HM'.out (fun hp => ⟨rfl, _, rfl, fun i v hv => by
        obtain ⟨hi, rfl⟩ := List.getElem?_eq_some_iff.1 hv
        simp at hi
        have h9 := HCj.out.cell (rowR_at (zv := zv) (n := n) (j := j) (k := i) (by omega))
        rw [addr_add, Nat.zero_add]
        simpa using h9⟩) HF.out (HONE.out m) w.heap.size w (below_drewN HBj.out 1) (Nat.le_refl _) ?_; intro w4 hg4 hb4; have HC4 := Lib.hid (show Cells w4 w.heap.size 35 (rowR zv n (j + m)) from by rw [← HS.out]; exact hg4.out); have HB4 := Lib.hid hb4; clear hg4 hb4)
      all_goals
        go_wp2_with (fail)
        go_roundw
        case rel => exact ⟨j + m, by first | omega | go_num | (congr 1; omega), by omega, by omega, HC4⟩
        case measure => first | omega | (simp [intOf]; done) | (simp [intOf]; omega)
    · obtain rfl : j = n := by omega
      go_wp2_with (fail)
      go_ret
      exact ⟨_, rfl, Nat.le_refl _, by have := HCj.out; simpa [rowR] using this, HBj.out⟩
end
section
open Go.RowKit
set_option linter.unusedVariables false
set_option linter.unusedSimpArgs false
set_option maxRecDepth 20000

theorem rep_bs {W : World} {g z n : Nat} (h : Cells W g 35 (List.replicate n (.slice (some ⟨z, 0, none⟩) 128 128))) (hz : Cells W z 5 (Dv.zs.map encB)) : IsBs W (.slice (some ⟨g, 0, none⟩) n n) (List.replicate n Dv.zs) := by
  refine ⟨some ⟨g, 0, none⟩, n, List.replicate n (.slice (some ⟨z, 0, none⟩) 128 128), by rw [List.length_replicate], by rw [List.length_replicate]; exact Nat.le_refl _, by rw [List.length_replicate, List.length_replicate], fun _ => ⟨g, 0, rfl, h.lt, fun i hi => ?_⟩, fun i h1 h2 => ?_⟩
  · rw [Nat.zero_add]; exact h.cell (List.getElem?_eq_getElem hi)
  · rw [List.getElem_replicate, List.getElem_replicate]
    exact bytes_cells hz (show 128 = Dv.zs.length from (List.length_replicate ..).symm) (Nat.le_refl _)

set_option maxHeartbeats 4000000 in
theorem New_any {n : Int} {w : World} :
    Calls Try.prog 25 #[.int .i64 n] w fun e w' => ∃ x, e = .returned (.tuple #[x, .int .i64 (Dv.nwE n)]) ∧ IsD w' x (Dv.nw n) ∧ Below w.heap.size w w' := by
  have HZ := Lib.hid (Cells.new w 25 [.slice none 0 0, .slice none 0 0, .int .i64 0, .bool false])
  have HB := Lib.hid (al1 w (.cells #[.slice none 0 0, .slice none 0 0, .int .i64 0, .bool false] 25))
  by_cases h : 1 ≤ n ∧ n ≤ 4096
  · have HE := Lib.hid (show Dv.nwE n = 0 from if_pos h)
    obtain ⟨k, rfl⟩ : ∃ k : Nat, n = k := ⟨n.toNat, by omega⟩
    have HR := Lib.hid (show Dv.nw k = ⟨List.replicate k Dv.zs, [], -1, false⟩ by unfold Dv.nw; rw [if_pos h]; simp)
    have d1 : decide ((k : Int) < 1) = false := decide_eq_false (by omega)
    have d2 : decide ((4096 : Int) < (k : Int)) = false := decide_eq_false (by omega)
    have HK := Lib.hid (show 1 ≤ k ∧ k ≤ 4096 by omega)
    obtain ⟨ZL, hZL, hmk⟩ := make_zs
    have HZL := Lib.hid hZL
    clear hZL h
    rw [HE.out, HR.out]
    go_enter Try.func25, Try.ntmps25
    go_wp2_with (fail)
    obtain ⟨X, hX⟩ : ∃ X, ((w.alloc (.cells #[.slice none 0 0, .slice none 0 0, .int .i64 0, .bool false] 25)).alloc (.cells ZL.toArray 5)).alloc (.cells #[.slice (some ⟨w.heap.size + 1, 0, none⟩) 128 128] 35) = X := ⟨_, rfl⟩
    have HX5 := Lib.hid (show Cells X (w.heap.size + 1) 5 ZL from by
      rw [← hX]
      have := (Cells.new (w.alloc (.cells #[.slice none 0 0, .slice none 0 0, .int .i64 0, .bool false] 25)) 5 ZL).upb (al1 _ (.cells #[.slice (some ⟨w.heap.size + 1, 0, none⟩) 128 128] 35))
      simpa using this)
    have HXR := Lib.hid (show Cells X (w.heap.size + 1 + 1) 35 [.slice (some ⟨w.heap.size + 1, 0, none⟩) 128 128] from by
      rw [← hX]
      have := Cells.new ((w.alloc (.cells #[.slice none 0 0, .slice none 0 0, .int .i64 0, .bool false] 25)).alloc (.cells ZL.toArray 5)) 35 [.slice (some ⟨w.heap.size + 1, 0, none⟩) 128 128]
      simpa using this)
    have HXB := Lib.hid (show Below (w.alloc (.cells #[.slice none 0 0, .slice none 0 0, .int .i64 0, .bool false] 25)).heap.size (w.alloc (.cells #[.slice none 0 0, .slice none 0 0, .int .i64 0, .bool false] 25)) X from by
      rw [← hX]; exact (al1 _ _).up (al1 _ _))
    rw [hX]
    clear hX
    refine (Repeat_any (HXR.out.cell (k := 0) rfl) HK.out.1 HK.out.2).mono ?_
    rintro e w2 ⟨g, rfl, hg, hc, hb⟩
    have HC := Lib.hid hc
    have HZ2 := Lib.hid ((HZ.out.upb HXB.out).upb hb)
    have H5 := Lib.hid (HX5.out.upb hb)
    have HB2 := Lib.hid ((HB.out.up HXB.out).up hb)
    have hxlt := HXR.out.lt
    have HG := Lib.hid (show g ≠ w.heap.size by omega)
    clear hc hb hg hxlt
    have hzw := HZ2.out.lt
    have z0 := HZ2.out.cell (k := 0) rfl
    have z1 := HZ2.out.cell (k := 1) rfl
    have z2 := HZ2.out.cell (k := 2) rfl
    have z3 := HZ2.out.cell (k := 3) rfl
    have f0 := HZ2.out.frozen 0
    have f1 := HZ2.out.frozen 1
    have f2 := HZ2.out.frozen 2
    have f3 := HZ2.out.frozen 3
    go_wp2_with (fail)
    refine bodyPost_ret (dk_out rfl rfl rfl (HZ2.out.set4 (.slice (some ⟨g, 0, none⟩) k k) (.slice none 0 0) (.int .i64 (-1)) (.bool false))) rfl ?_
    have hgr := grown_set4 w2 w.heap.size (.slice (some ⟨g, 0, none⟩) k k) (.slice none 0 0) (.int .i64 (-1)) (.bool false)
    exact ⟨_, rfl, isD_mk (rep_bs (grownK HC.out hgr HG.out) (by rw [← HZL.out]; exact grownK H5.out hgr (by omega))) IsWs.nil, below_set4 HB2.out (Nat.le_refl _) _ _ _ _⟩
  · have HE := Lib.hid (show Dv.nwE n = 1 from if_neg h)
    have HR := Lib.hid (show Dv.nw n = d0 from if_neg h)
    rw [HE.out, HR.out]
    have z0 := HZ.out.cell (k := 0) rfl
    have z1 := HZ.out.cell (k := 1) rfl
    have z2 := HZ.out.cell (k := 2) rfl
    have z3 := HZ.out.cell (k := 3) rfl
    have f0 := HZ.out.frozen 0
    have f1 := HZ.out.frozen 1
    have f2 := HZ.out.frozen 2
    have f3 := HZ.out.frozen 3
    by_cases h1 : n < 1
    · have d1 : decide (n < 1) = true := decide_eq_true h1
      clear h h1
      go_enter Try.func25, Try.ntmps25
      go_wp2_with (fail)
      refine bodyPost_ret (dk_out rfl rfl rfl HZ.out) rfl ?_
      exact ⟨_, rfl, IsD.zero, HB.out⟩
    · have d1 : decide (n < 1) = false := decide_eq_false h1
      have d2 : decide (4096 < n) = true := decide_eq_true (by omega)
      clear h h1
      go_enter Try.func25, Try.ntmps25
      go_wp2_with (fail)
      refine bodyPost_ret (dk_out rfl rfl rfl HZ.out) rfl ?_
      exact ⟨_, rfl, IsD.zero, HB.out⟩

end
section
open Go.RowKit
set_option linter.unusedVariables false
set_option linter.unusedSimpArgs false
set_option maxRecDepth 20000

theorem toA_ne {a b : By} (h : a ≠ b) : decide ((⟨a.toArray⟩ : ByteArray) = ⟨b.toArray⟩) = false := by
  rw [decide_eq_false_iff_not]
  intro e
  injection e with e
  exact h (by have := congrArg Array.toList e; simpa using this)

set_option maxHeartbeats 8000000 in
theorem Same_any {a b : Dk} {v u : Value} {w : World} (hv : IsD w v a) (hu : IsD w u b) (hl : a.ss.length ≤ 9223372036854775807) (hlp : a.ps.length ≤ 9223372036854775807) :
    Calls Try.prog 23 #[v, u] w fun e w' => e = .returned (.bool (decide (a = b))) ∧ Below w.heap.size w w' := by
  obtain ⟨A, c, A2, c2, rfl, h1, h2⟩ := hv.open_
  obtain ⟨A3, c3, A4, c4, rfl, h3, h4⟩ := hu.open_
  obtain ⟨ss, ps, left, st⟩ := a
  obtain ⟨ss2, ps2, left2, st2⟩ := b
  simp only at h1 h2 h3 h4 hl hlp ⊢
  have H1 := Lib.hid h1
  have H2 := Lib.hid h2
  have H3 := Lib.hid h3
  have H4 := Lib.hid h4
  have HL := Lib.hid (And.intro hl hlp)
  clear hv hu h1 h2 h3 h4
  obtain ⟨r, hr⟩ : ∃ r, decide ((⟨ss, ps, left, st⟩ : Dk) = ⟨ss2, ps2, left2, st2⟩) = r := ⟨_, rfl⟩
  rw [hr]
  have HR := Lib.hid hr
  have HNO := Lib.hid (show ¬ ((⟨ss, ps, left, st⟩ : Dk) = ⟨ss2, ps2, left2, st2⟩) → r = false from fun h => by rw [← hr]; exact decide_eq_false h)
  clear hr
  have HB := Lib.hid ((al1 w (.cells #[.slice A ss.length c, .slice A2 ps.length c2, .int .i64 left, .bool st] 25)).up (al1 _ (.cells #[.slice A3 ss2.length c3, .slice A4 ps2.length c4, .int .i64 left2, .bool st2] 25)))
  by_cases e1 : ss.length = ss2.length
  case neg =>
    obtain rfl : r = false := HNO.out (fun h => e1 (by injection h with q1 q2 q3 q4; rw [q1]))
    have hl1 : ((ss.length : Int) != (ss2.length : Int)) = true := by rw [bne_iff_ne]; omega
    clear e1
    go_enter Try.func23, Try.ntmps23
    go_wp2_with (fail)
    go_ret
    exact ⟨rfl, HB.out⟩
  have E1 := Lib.hid e1
  have hl1 : ((ss.length : Int) != (ss2.length : Int)) = false := by simp [e1]
  clear e1
  by_cases e2 : ps.length = ps2.length
  case neg =>
    obtain rfl : r = false := HNO.out (fun h => e2 (by injection h with q1 q2 q3 q4; rw [q2]))
    have hl2 : ((ps.length : Int) != (ps2.length : Int)) = true := by rw [bne_iff_ne]; omega
    clear e2
    go_enter Try.func23, Try.ntmps23
    go_wp2_with (fail)
    go_ret
    exact ⟨rfl, HB.out⟩
  have E2 := Lib.hid e2
  have hl2 : ((ps.length : Int) != (ps2.length : Int)) = false := by simp [e2]
  clear e2
  by_cases e3 : left = left2
  case neg =>
    obtain rfl : r = false := HNO.out (fun h => e3 (by injection h))
    have hl3 : (left != left2) = true := by rw [bne_iff_ne]; exact e3
    clear e3
    go_enter Try.func23, Try.ntmps23
    go_wp2_with (fail)
    go_ret
    exact ⟨rfl, HB.out⟩
  have E3 := Lib.hid e3
  have hl3 : (left != left2) = false := by simp [e3]
  clear e3
  by_cases e4 : st = st2
  case neg =>
    obtain rfl : r = false := HNO.out (fun h => e4 (by injection h))
    have hl4 : (!(st == st2)) = true := by cases st <;> cases st2 <;> simp_all
    clear e4
    go_enter Try.func23, Try.ntmps23
    go_wp2_with (fail)
    go_ret
    exact ⟨rfl, HB.out⟩
  have E4 := Lib.hid e4
  have hl4 : (!(st == st2)) = false := by simp [e4]
  clear e4
  have HE1 := Lib.hid (And.intro E1.out E2.out)
  have HE3 := Lib.hid (And.intro E3.out E4.out)
  have HX := Lib.hid (((Cells.new w 25 [.slice A ss.length c, .slice A2 ps.length c2, .int .i64 left, .bool st])).upb (al1 _ (.cells #[.slice A3 ss2.length c3, .slice A4 ps2.length c4, .int .i64 left2, .bool st2] 25)))
  have HY := Lib.hid (Cells.new (w.alloc (.cells #[.slice A ss.length c, .slice A2 ps.length c2, .int .i64 left, .bool st] 25)) 25 [.slice A3 ss2.length c3, .slice A4 ps2.length c4, .int .i64 left2, .bool st2])
  simp only [World.size_alloc] at HY
  clear hl hlp
  go_enter Try.func23, Try.ntmps23
  go_wp2_with (fail)
  obtain ⟨X, hX⟩ : ∃ X, (w.alloc (.cells #[.slice A ss.length c, .slice A2 ps.length c2, .int .i64 left, .bool st] 25)).alloc (.cells #[.slice A3 ss2.length c3, .slice A4 ps2.length c4, .int .i64 left2, .bool st2] 25) = X := ⟨_, rfl⟩
  simp only [hX]
  rw [hX] at HB
  have HX2 := Lib.hid (show Cells X w.heap.size 25 [.slice A ss.length c, .slice A2 ps.length c2, .int .i64 left, .bool st] by rw [← hX]; exact HX.out)
  have HY2 := Lib.hid (show Cells X (w.heap.size + 1) 25 [.slice A3 ss2.length c3, .slice A4 ps2.length c4, .int .i64 left2, .bool st2] by rw [← hX]; exact HY.out)
  clear hX HX HY hl1 hl2 hl3 hl4
  have x0 := HX2.out.cell (k := 0) rfl
  have x1 := HX2.out.cell (k := 1) rfl
  have y0 := HY2.out.cell (k := 0) rfl
  have y1 := HY2.out.cell (k := 1) rfl
  go_loopw [5] (fun i wr => ∃ k q : Nat, i = .int .i64 k ∧ k ≤ ss.length ∧ Hid (∀ j, j < k → ss[j]? = ss2[j]?) ∧ wr = X.drewN q) (fun i _ => ss.length - (intOf i).toNat)
  case atStart => exact ⟨0, 0, rfl, Nat.zero_le _, Lib.hid (fun j h => by omega), rfl⟩
  case round =>
    obtain ⟨k, q, rfl, hk, HNo, rfl⟩ := hrel
    by_cases hlt : k < ss.length
    · have hlt2 : k < ss2.length := by rw [← HE1.out.1]; exact hlt
      have hd1 : decide ((k : Int) < (ss.length : Int)) = true := decide_eq_true (by omega)
      have hkb : (k : Int) < (ss2.length : Int) := by omega
      have hkm : (k : Int) ≤ 9223372036854775806 := by have := HL.out.1; omega
      obtain ⟨b, off, A5, c5, hA, hb, hc1, hb1⟩ := bs_at (H1.out.upb HB.out) hlt
      obtain ⟨b', off', A6, c6, hA', hb', hc2, hb2⟩ := bs_at (H3.out.upb HB.out) hlt2
      subst hA hA'
      have hv1 := fun m => conv_str (show IsBytes (X.drewN m) _ _ from hb1)
      have hv2 := fun m => conv_str (show IsBytes (X.drewN m) _ _ from hb2)
      have HNX := Lib.hid (show ss[k] = ss2[k] → ∀ j, j < k + 1 → ss[j]? = ss2[j]? from fun h j hj => by
        rcases Nat.lt_or_ge j k with h3 | h3
        · exact HNo.out j h3
        · obtain rfl : j = k := by omega
          rw [List.getElem?_eq_getElem hlt, List.getElem?_eq_getElem hlt2, h])
      have HNE := Lib.hid (show ¬ ss[k] = ss2[k] → r = false from fun h => HNO.out (fun e => h (by injection e with e _ _ _; subst e; rfl)))
      clear hb1 hb2
      generalize ss[k] = p at *
      generalize ss2[k] = p2 at *
      by_cases he : p = p2
      · subst he
        have HN2 := Lib.hid (HNX.out rfl)
        go_wp2_with (fail)
        go_quiet (fail)
        go_wp2_with (fail)
        go_roundw
        case rel => exact ⟨k + 1, _, by go_num, by omega, HN2, by first | rfl | trivial⟩
        case measure => first | omega | (simp [intOf]; done) | (simp [intOf]; omega)
      · have hne := beq_false_of_ne he
        obtain rfl := HNE.out he
        clear he
        go_wp2_with (fail)
        go_quiet (fail)
        go_wp2_with (fail)
        go_ret
        exact ⟨rfl, below_drewN (below_drewN HB.out _) _⟩
    · obtain rfl : k = ss.length := by omega
      have hd1 : decide ((ss.length : Int) < (ss.length : Int)) = false := decide_eq_false (by omega)
      have HSS := Lib.hid (show ss = ss2 from List.ext_getElem? (fun j => by
        rcases Nat.lt_or_ge j ss.length with h3 | h3
        · exact HNo.out j h3
        · rw [List.getElem?_eq_none h3, List.getElem?_eq_none (by rw [← HE1.out.1]; exact h3)]))
      clear HNo
      go_wp2_with (fail)
      go_loopw [6] (fun i wr => ∃ k q : Nat, i = .int .i64 k ∧ k ≤ ps.length ∧ Hid (∀ j, j < k → ps[j]? = ps2[j]?) ∧ wr = X.drewN q) (fun i _ => ps.length - (intOf i).toNat)
      case atStart => exact ⟨0, q, rfl, Nat.zero_le _, Lib.hid (fun j h => by omega), rfl⟩
      case round =>
        obtain ⟨k, q, rfl, hk, HNo, rfl⟩ := hrel
        by_cases hlt : k < ps.length
        · have hlt2 : k < ps2.length := by rw [← HE1.out.2]; exact hlt
          have hd1 : decide ((k : Int) < (ps.length : Int)) = true := decide_eq_true (by omega)
          have hkb : (k : Int) < (ps2.length : Int) := by omega
          have hkm : (k : Int) ≤ 9223372036854775806 := by have := HL.out.2; omega
          obtain ⟨b, off, A5, c5, hA, hb, hc1, hc1', hb1⟩ := ws_at (H2.out.upb HB.out) hlt
          obtain ⟨b', off', A6, c6, hA', hb', hc2, hc2', hb2⟩ := ws_at (H4.out.upb HB.out) hlt2
          subst hA hA'
          have hv1 := fun m => conv_str (show IsBytes (X.drewN m) _ _ from hb1)
          have hv2 := fun m => conv_str (show IsBytes (X.drewN m) _ _ from hb2)
          have HNX := Lib.hid (show ps[k] = ps2[k] → ∀ j, j < k + 1 → ps[j]? = ps2[j]? from fun h j hj => by
            rcases Nat.lt_or_ge j k with h3 | h3
            · exact HNo.out j h3
            · obtain rfl : j = k := by omega
              rw [List.getElem?_eq_getElem hlt, List.getElem?_eq_getElem hlt2, h])
          have HNE := Lib.hid (show ¬ ps[k] = ps2[k] → r = false from fun h => HNO.out (fun e => h (by injection e with _ e _ _; subst e; rfl)))
          clear hb1 hb2
          generalize ps[k] = p at *
          generalize ps2[k] = p2 at *
          obtain ⟨a1, d1⟩ := p
          obtain ⟨a2, d2⟩ := p2
          simp only at hc1 hc1' hc2 hc2' hv1 hv2
          by_cases ha : a1 = a2
          · subst ha
            have han : (a1 != a1) = false := by simp
            by_cases he : d1 = d2
            · subst he
              have HN2 := Lib.hid (HNX.out rfl)
              go_wp2_with (fail)
              go_quiet (fail)
              go_wp2_with (fail)
              go_roundw
              case rel => exact ⟨k + 1, _, by go_num, by omega, HN2, by first | rfl | trivial⟩
              case measure => first | omega | (simp [intOf]; done) | (simp [intOf]; omega)
            · have hne := beq_false_of_ne he
              obtain rfl := HNE.out (fun h => he (by injection h))
              clear he
              go_wp2_with (fail)
              go_quiet (fail)
              go_wp2_with (fail)
              go_ret
              exact ⟨rfl, below_drewN (below_drewN HB.out _) _⟩
          · have han : (a1 != a2) = true := by rw [bne_iff_ne]; exact ha
            obtain rfl := HNE.out (fun h => ha (by injection h))
            clear ha
            go_wp2_with (fail)
            go_quiet (fail)
            go_wp2_with (fail)
            go_ret
            exact ⟨rfl, below_drewN (below_drewN HB.out _) _⟩
        · obtain rfl : k = ps.length := by omega
          have hd1 : decide ((ps.length : Int) < (ps.length : Int)) = false := decide_eq_false (by omega)
          have hps : ps = ps2 := List.ext_getElem? (fun j => by
            rcases Nat.lt_or_ge j ps.length with h3 | h3
            · exact HNo.out j h3
            · rw [List.getElem?_eq_none h3, List.getElem?_eq_none (by rw [← HE1.out.2]; exact h3)])
          obtain rfl : r = true := by rw [← HR.out]; rw [HSS.out, hps, HE3.out.1, HE3.out.2]; simp
          clear hps
          go_wp2_with (fail)
          go_ret
          exact ⟨rfl, below_drewN HB.out _⟩
end
section
open Go.RowKit
set_option linter.unusedVariables false
set_option linter.unusedSimpArgs false
set_option maxRecDepth 20000

theorem New_is {n : Int} {w : World} {e0 : Int} {r : Dk}  (he : Dv.nwE n = e0) (hr : Dv.nw n = r) :
    Calls Try.prog 25 #[.int .i64 n] w fun e w' => ∃ A c A2 c2, e = .returned (.tuple #[.agg #[.slice A r.ss.length c, .slice A2 r.ps.length c2, .int .i64 r.left, .bool r.st], .int .i64 e0]) ∧ IsD w' (.agg #[.slice A r.ss.length c, .slice A2 r.ps.length c2, .int .i64 r.left, .bool r.st]) r ∧ Below w.heap.size w w' := by
  subst he hr
  refine (New_any (n := n)).mono ?_
  rintro e w' ⟨x, rfl, hd, hb⟩
  obtain ⟨A, c, A2, c2, rfl, _⟩ := hd.open_
  exact ⟨A, c, A2, c2, rfl, hd, hb⟩
theorem Write_is {d : Dk} {v u : Value} {b : By} {w : World} {e0 : Int} {r : Dk} (hv : IsD w v d) {a : Int} (hu : IsBytes w u b) (he : Dv.wrE d a b = e0) (hr : Dv.wr d a b = r) :
    Calls Try.prog 26 #[v, .int .i64 a, u] w fun e w' => ∃ A c A2 c2, e = .returned (.tuple #[.agg #[.slice A r.ss.length c, .slice A2 r.ps.length c2, .int .i64 r.left, .bool r.st], .int .i64 e0]) ∧ IsD w' (.agg #[.slice A r.ss.length c, .slice A2 r.ps.length c2, .int .i64 r.left, .bool r.st]) r ∧ Below w.heap.size w w' ∧ Sec w.heap.size v (.agg #[.slice A r.ss.length c, .slice A2 r.ps.length c2, .int .i64 r.left, .bool r.st]) := by
  subst he hr
  refine (Write_any hv a hu).mono ?_
  rintro e w' ⟨x, rfl, hd, hb⟩
  obtain ⟨A, c, A2, c2, rfl, _⟩ := hd.open_
  exact ⟨A, c, A2, c2, rfl, hd, hb⟩
theorem refWrite_is {d : Dk} {v u : Value} {b : By} {w : World} {e0 : Int} {r : Dk} (hv : IsD w v d) {a : Int} (hu : IsBytes w u b) (he : Dv.wrE d a b = e0) (hr : Dv.wr d a b = r) :
    Calls Try.prog 46 #[v, .int .i64 a, u] w fun e w' => ∃ A c A2 c2, e = .returned (.tuple #[.agg #[.slice A r.ss.length c, .slice A2 r.ps.length c2, .int .i64 r.left, .bool r.st], .int .i64 e0]) ∧ IsD w' (.agg #[.slice A r.ss.length c, .slice A2 r.ps.length c2, .int .i64 r.left, .bool r.st]) r ∧ Below w.heap.size w w' := by
  subst he hr
  refine (refWrite_any hv a hu).mono ?_
  rintro e w' ⟨x, rfl, hd, hb⟩
  obtain ⟨A, c, A2, c2, rfl, _⟩ := hd.open_
  exact ⟨A, c, A2, c2, rfl, hd, hb⟩
theorem Sync_is {d : Dk} {v : Value} {w : World} {e0 : Int} {r : Dk} (hv : IsD w v d) (he : Dv.syE d = e0) (hr : Dv.sy d = r) :
    Calls Try.prog 27 #[v] w fun e w' => ∃ A c A2 c2, e = .returned (.tuple #[.agg #[.slice A r.ss.length c, .slice A2 r.ps.length c2, .int .i64 r.left, .bool r.st], .int .i64 e0]) ∧ IsD w' (.agg #[.slice A r.ss.length c, .slice A2 r.ps.length c2, .int .i64 r.left, .bool r.st]) r ∧ Below w.heap.size w w' ∧ Sec w.heap.size v (.agg #[.slice A r.ss.length c, .slice A2 r.ps.length c2, .int .i64 r.left, .bool r.st]) := by
  subst he hr
  refine (Sync_any hv).mono ?_
  rintro e w' ⟨x, rfl, hd, hb⟩
  obtain ⟨A, c, A2, c2, rfl, _⟩ := hd.open_
  exact ⟨A, c, A2, c2, rfl, hd, hb⟩
theorem refSync_is {d : Dk} {v : Value} {w : World} {e0 : Int} {r : Dk} (hv : IsD w v d) (he : Dv.syE d = e0) (hr : Dv.sy d = r) :
    Calls Try.prog 48 #[v] w fun e w' => ∃ A c A2 c2, e = .returned (.tuple #[.agg #[.slice A r.ss.length c, .slice A2 r.ps.length c2, .int .i64 r.left, .bool r.st], .int .i64 e0]) ∧ IsD w' (.agg #[.slice A r.ss.length c, .slice A2 r.ps.length c2, .int .i64 r.left, .bool r.st]) r ∧ Below w.heap.size w w' := by
  subst he hr
  refine (refSync_any hv).mono ?_
  rintro e w' ⟨x, rfl, hd, hb⟩
  obtain ⟨A, c, A2, c2, rfl, _⟩ := hd.open_
  exact ⟨A, c, A2, c2, rfl, hd, hb⟩
theorem Stop_is {d : Dk} {v : Value} {w : World} {e0 : Int} {r : Dk} (hv : IsD w v d) {a : Int} (he : Dv.stE d a = e0) (hr : Dv.stp d a = r) :
    Calls Try.prog 29 #[v, .int .i64 a] w fun e w' => ∃ A c A2 c2, e = .returned (.tuple #[.agg #[.slice A r.ss.length c, .slice A2 r.ps.length c2, .int .i64 r.left, .bool r.st], .int .i64 e0]) ∧ IsD w' (.agg #[.slice A r.ss.length c, .slice A2 r.ps.length c2, .int .i64 r.left, .bool r.st]) r ∧ Below w.heap.size w w' ∧ Sec w.heap.size v (.agg #[.slice A r.ss.length c, .slice A2 r.ps.length c2, .int .i64 r.left, .bool r.st]) := by
  subst he hr
  refine (Stop_any hv a).mono ?_
  rintro e w' ⟨x, rfl, hd, hb⟩
  obtain ⟨A, c, A2, c2, rfl, _⟩ := hd.open_
  exact ⟨A, c, A2, c2, rfl, hd, hb⟩
theorem Restart_is {d : Dk} {v : Value} {w : World} {r : Dk} (hv : IsD w v d) (hr : Dv.rs d = r) :
    Calls Try.prog 30 #[v] w fun e w' => ∃ A c A2 c2, e = .returned (.agg #[.slice A r.ss.length c, .slice A2 r.ps.length c2, .int .i64 r.left, .bool r.st]) ∧ IsD w' (.agg #[.slice A r.ss.length c, .slice A2 r.ps.length c2, .int .i64 r.left, .bool r.st]) r ∧ Below w.heap.size w w' ∧ Sec w.heap.size v (.agg #[.slice A r.ss.length c, .slice A2 r.ps.length c2, .int .i64 r.left, .bool r.st]) := by
  subst hr
  refine (Restart_any hv).mono ?_
  rintro e w' ⟨x, rfl, hd, hb⟩
  obtain ⟨A, c, A2, c2, rfl, _⟩ := hd.open_
  exact ⟨A, c, A2, c2, rfl, hd, hb⟩
theorem Same_is {a b : Dk} {v u : Value} {w : World} {r : Bool} (hv : IsD w v a) (hu : IsD w u b) (hl : a.ss.length ≤ 9223372036854775807) (hlp : a.ps.length ≤ 9223372036854775807) (hr : decide (a = b) = r) :
    Calls Try.prog 23 #[v, u] w fun e w' => e = .returned (.bool r) ∧ Below w.heap.size w w' := by subst hr; exact Same_any hv hu hl hlp
/-- how far a world has come -/
structure Bl (w X : World) : Prop where
  b : Below w.heap.size w X
theorem Bl.upb {w X Y : World} (h : Bl w X) (hb : Below X.heap.size X Y) : Bl w Y := ⟨h.b.up hb⟩
theorem bytes_atq {w : World} {A : Option Addr} {n c : Nat} {xs : By} (h : IsBytes w (.slice A n c) xs) {k : Nat} {v : UInt8} (hk : xs[k]? = some v) :
    ∃ b off, A = some ⟨b, off, none⟩ ∧ b < w.heap.size ∧ w.cell? ⟨b, off + k, none⟩ = some (.int .u8 (v.toNat : Int)) := by
  obtain ⟨h1, rfl⟩ := List.getElem?_eq_some_iff.1 hk
  exact bytes_at h h1

theorem step_fn {P : Program} {X : World} {ops : Array Oper} {o : Oper} {a : Act} {K : Act → World → Prop} {Q : Exit → Act → World → Prop} {E : Prop} (hgd : o.guard = none) (fv : Operand) (xs : Array Operand) (ts : Array TypeId)
    (ho : o.op = .call { callee := .value fv, args := xs, argTypes := ts }) (g : FuncId) (lb : Array Value) (hf : a.eval fv = .func (.func g) #[] lb) (vals : Array Value) (hx : xs.map a.eval ++ lb = vals)
    (eg : ∀ args w, (callFunc g args).run P w = .ok (.enter g args) w) {R : Ending → World → Prop} (hc : Calls P g vals X R) (hR : ∀ e w', R e w' → ∃ v, e = .returned v ∧ K (a.put o.dst v) w') :
    if Region.wanted o (yielded ops a.tmps) = true then Oper.wp P o a X K Q else E := by
  have hw : Region.wanted o (yielded ops a.tmps) = true := by simp [Region.wanted, hgd]
  rw [if_pos hw]
  unfold Oper.wp execOp
  simp only [ho, resolve, hf]
  simp [go_sem, invoke, eg]
  rw [hx]
  refine hc.mono fun e w' h => ?_
  obtain ⟨v, rfl, hk⟩ := hR e w' h
  exact hk
section
variable {P : Program} {ops : Array Oper} {Q : Exit → Act → World → Prop} {md : Region.Mode} {S : World → Prop}
def wpAnyF (P : Program) (md : Region.Mode) (ops : Array Oper) (Q : Exit → Act → World → Prop) (S : World → Prop) (e : Nat) : Nat → Array Bool → Act → World → Prop
  | 0, listed, a, w => Region.ready md ops listed = [] ∧ Q .normal a w
  | fuel + 1, listed, a, w =>
    (Region.ready md ops listed = [] → Q .normal a w) ∧
    ∀ i ∈ Region.ready md ops listed, wpOp P ops Q i (fun a' w' => (i < e → S w') ∧ wpAnyF P md ops Q S e fuel (listed.setIfInBounds i true) a' w') a w
theorem wpAny_of_F {e : Nat} : ∀ (fuel : Nat) (listed : Array Bool) (a : Act) (w : World), wpAnyF P md ops Q S e fuel listed a w → wpAny P md ops Q fuel listed a w
  | 0, _, _, _, h => h
  | fuel + 1, _, _, _, h => ⟨h.1, fun i hi => wpOp_mono (fun a' w' h' => wpAny_of_F fuel _ a' w' h'.2) (h.2 i hi)⟩
theorem wpAnyF_first {i e : Nat} {oi : Oper} {v : Value} (hi : ops[i]? = some oi) (hsel : ∀ (j : Nat) (o : Oper) cs b, ops[j]? = some o → o.op ≠ .select cs b)
    (hQ : ∀ c a w, Q (.panic c) (a.put oi.dst v) w → Q (.panic c) a w) (hie : i < e) (hwait : ∀ j, e ≤ j → j < ops.size → Region.waitsFor md ops j i = true) :
    ∀ (fuel : Nat) (listed : Array Bool) (a : Act) (w : World),
      (∀ j oj, ops[j]? = some oj → j ≠ i → listed.getD j true = false → (∀ x ∈ oj.after, Region.binds md x = true → x.on ≠ i) → oi.apart ops oj = true) →
      i ∈ Region.ready md ops listed → YieldsIf P ops S oi v a → S w →
      wpAnyF P md ops Q S e fuel (listed.setIfInBounds i true) (a.put oi.dst v) w → wpAnyF P md ops Q S e (fuel + 1) listed a w := by
  intro fuel
  induction fuel with
  | zero =>
    intro listed a w _ hr hy hS H
    refine ⟨fun h => (by rw [h] at hr; cases hr), fun j hj => ?_⟩
    by_cases hji : j = i
    · subst hji; exact hy.wpOp hi hS ⟨fun _ => hS, H⟩
    · have := ready_mono hj hji
      rw [H.1] at this
      cases this
  | succ fuel ih =>
    intro listed a w hfree hr hy hS H
    refine ⟨fun h => (by rw [h] at hr; cases hr), fun j hj => ?_⟩
    by_cases hji : j = i
    · subst hji; exact hy.wpOp hi hS ⟨fun _ => hS, H⟩
    · have h1 := H.2 j (ready_mono hj hji)
      obtain ⟨hjun, oj, hoj, hall⟩ := mem_ready.1 hj
      have hnot : ∀ x ∈ oj.after, Region.binds md x = true → x.on ≠ i := fun x he hb heq => by
        have h1 := hall x he hb
        have h0 := (mem_ready.1 hr).1
        rw [heq] at h1
        rcases Nat.lt_or_ge i listed.size with h' | h'
        · simp [h'] at h0 h1; rw [h0] at h1; cases h1
        · simp [Array.getElem?_eq_none h'] at h1
      have hje : j < e := by
        refine Nat.lt_of_not_le (fun h => ?_)
        obtain ⟨o', ho', x, hx, hb, hon⟩ := Region.waitsFor_spec (hwait j h (Array.getElem?_eq_some_iff.1 hoj).1)
        have : o' = oj := Option.some.inj (ho'.symm.trans hoj)
        subst this
        exact hnot x hx hb hon
      have h2 := wpOp_putIf hoj (hfree j oj hoj hji hjun hnot) (fun cs b => hsel i oi cs b hi) (fun cs b => hsel j oj cs b hoj) hQ hy h1
      have hfree' : ∀ k ok, ops[k]? = some ok → k ≠ i → (listed.setIfInBounds j true).getD k true = false →
          (∀ x ∈ ok.after, Region.binds md x = true → x.on ≠ i) → oi.apart ops ok = true := fun k ok hk hki hun hno => by
        refine hfree k ok hk hki ?_ hno
        by_cases hjk : j = k
        · subst hjk; exact hjun
        · rw [getD_set_ne true hjk] at hun; exact hun
      refine wpOp_mono (fun a' w' h3 => ⟨fun _ => h3.2.1 hje, ih (listed.setIfInBounds j true) a' w' hfree' (ready_mono hr (Ne.symm hji)) h3.1 (h3.2.1 hje) ?_⟩) h2
      rw [Array.setIfInBounds_comm _ _ hji]
      exact h3.2.2
theorem wpAnyF_take {i e : Nat} {oi : Oper} {v : Value} {fuel : Nat} {listed : Array Bool} {a : Act} {w : World} (hi : ops[i]? = some oi)
    (hs : Region.noSelect ops = true) (hf : Region.free md ops listed i = true) (hr : (Region.ready md ops listed).contains i = true) (hie : decide (i < e) = true) (hw : ((List.range ops.size).all fun j => decide (j < e) || Region.waitsFor md ops j i) = true)
    (hQ : ∀ c a w, Q (.panic c) (a.put oi.dst v) w → Q (.panic c) a w) (hy : YieldsIf P ops S oi v a) (hS : S w)
    (h : wpAnyF P md ops Q S e fuel (listed.setIfInBounds i true) (a.put oi.dst v) w) : wpAnyF P md ops Q S e (fuel + 1) listed a w :=
  wpAnyF_first hi (Region.noSelect_spec hs) hQ (of_decide_eq_true hie) (fun j h1 h2 => by
    have := List.all_eq_true.1 hw j (List.mem_range.2 h2)
    rw [Bool.or_eq_true, decide_eq_true_eq] at this
    exact this.resolve_left (by omega)) fuel listed a w (Region.free_spec hi hf) (by simpa using hr) hy hS h
/-- the one operation that may come up, none of a test -/
theorem wpAnyF_one {i e : Nat} {o : Oper} {fuel : Nat} {listed : Array Bool} {a : Act} {w : World} (hr : Region.ready md ops listed = [i]) (ho : ops[i]? = some o)
    (h : ∀ K' : Act → World → Prop, Shut (∀ a w, (i < e → S w) → ((i < e → S w) → wpAnyF P md ops Q S e fuel (listed.setIfInBounds i true) a w) → K' a w) → if Region.wanted o (yielded ops a.tmps) = true then Oper.wp P o a w K' Q else K' (a.put o.dst undef) w) :
    wpAnyF P md ops Q S e (fuel + 1) listed a w := by
  refine ⟨fun h0 => (by rw [h0] at hr; cases hr), fun j hj => ?_⟩
  rw [hr] at hj
  obtain rfl : j = i := by simpa using hj
  exact wpOp_step ho (fun K' hK => h K' (fun a w hS hW => hK a w ⟨hS, hW hS⟩))
theorem wpAnyF_done {e : Nat} {listed : Array Bool} {a : Act} {w : World} (hr : Region.ready md ops listed = []) (h : Q .normal a w) :
    ∀ fuel, wpAnyF P md ops Q S e fuel listed a w
  | 0 => ⟨hr, h⟩
  | _ + 1 => ⟨fun _ => h, by rw [hr]; simp⟩
theorem wp_region_F {id : Nat} {a : Act} {w : World} (e : Nat) (S : World → Prop) (hm : P.follows .mixedOrders = true)
    (h : wpAnyF P .any ops Q S e ops.size (Array.replicate ops.size false) a w.drew) : (Code.region id ops true).wp P Q a w :=
  wp_region_any hm (wpAny_of_F _ _ _ _ h)
end

end
end Go.Proofs.Ytkcnanclpkongaa
