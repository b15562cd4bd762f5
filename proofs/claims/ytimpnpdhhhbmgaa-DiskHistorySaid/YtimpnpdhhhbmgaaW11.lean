/- Made slices of bytes, copies, one write more. -/
import Derived.Test.YtimpnpdhhhbmgaaW10
import Derived.Laws.CopyOwn
namespace Go.Proofs.Ytimpnpdhhhbmgaa
open Go.RowKit
set_option linter.unusedVariables false
set_option linter.unusedSimpArgs false

theorem zs_arr' (n : Nat) : madeCells #[.int .u8 0] n = ((List.replicate n (0 : UInt8)).map encB).toArray := by
  apply Array.ext
  · simp [madeCells]
  · intro i h1 h2
    simp [madeCells, Nat.mod_one, encB]
theorem zs_arr : madeCells #[.int .u8 0] 128 = (Dv.zs.map encB).toArray := zs_arr' 128
theorem make_zs : ∃ ZL : List Value, ZL = Dv.zs.map encB ∧ ∀ w : World, (Instr.makeSlice 35 (.int .i64 128) (.int .i64 128)).run Try.prog w = .ok (.slice (some ⟨w.heap.size, 0, none⟩) 128 128) (w.alloc (.cells ZL.toArray 5)) := by
  refine ⟨_, rfl, fun w => ?_⟩
  obtain ⟨i0, hi, hz0, hz1, hz2⟩ := info_parts info5
  have hb : (i0.bytes : Int) * ((128 : Nat) : Int) ≤ 281474976710656 := by rw [hz2]; omega
  have hr := run_make (P := Try.prog) w 35 5 i0 _ Try.underlying35 hi hz0 .i64 .i64 (128 : Nat) (128 : Nat) (by omega) (by omega) hb (by omega)
  simp only [Int.toNat_natCast] at hr
  have e : ((128 : Nat) : Int) = 128 := rfl
  rw [e] at hr
  rw [hr, hz1, ← zs_arr]
  rfl
theorem bytes_cells {W : World} {g : Nat} {bs : By} (h : Cells W g 5 (bs.map encB)) {n c : Nat} (hn : n = bs.length) (hc : n ≤ c) : IsBytes W (.slice (some ⟨g, 0, none⟩) n c) bs := by
  subst hn
  refine ⟨_, c, rfl, hc, fun _ => ⟨g, 0, rfl, h.lt, fun i hi => ?_⟩⟩
  rw [Nat.zero_add]
  exact h.cell (List.getElem?_eq_getElem hi)
theorem cell_new2 (w : World) (x y : Value) (t : TypeId) (j : Nat) (u : Value) (h : [x, y][j]? = some u) : (w.alloc (.cells #[x, y] t)).cell? ((⟨w.heap.size, 0, none⟩ : Addr).add j) = some u := by
  match j with
  | 0 => simp at h; subst h; simp [Addr.add]
  | 1 => simp at h; subst h; simp [Addr.add]
  | j + 2 => simp at h
theorem below_none {W w' : World} (h : W.grownBy w' none) : Below W.heap.size W w' := ⟨h.os, h.tape, h.output, h.size, fun b hb => h.block b hb (by simp)⟩

/-- one write more, onto a row that is cut to its length -/
theorem pushW_run {W : World} (ty : TypeId) {A : Option Addr} {ps : List Wr} {us : List Value} {p : Wr} {dv : Value} (hl : us.length = ps.length) (hr : RowAt W A (rowW ps us)) (hi : ∀ i (h : i < us.length) (h' : i < ps.length), IsBytes W us[i] ps[i].data)
    (hA : A = none → ps.length = 0) (hd : IsBytes W dv p.data) (hlen : ps.length ≤ 4096) :
    ∃ v' w', (Builtin.append_ #[23, 23] ty #[.slice A ps.length ps.length, .slice (some ⟨W.heap.size, 0, none⟩) 1 1]).run Try.prog (W.alloc (.cells #[.int .i64 p.at_, dv] 54)) = .ok v' w' ∧
      (IsWs w' v' (ps ++ [p]) ∧ Below W.heap.size W w' ∧ ∃ g cap, v' = .slice (some ⟨g, 0, none⟩) (ps.length + 1) cap) := by
  obtain ⟨i0, hi0, hz0, hz1, hz2⟩ := info_parts info54
  have hb := al1 W (.cells #[.int .i64 p.at_, dv] 54)
  have fin : ∀ v' w', w'.ownsRow (W.alloc (.cells #[.int .i64 p.at_, dv] 54)).heap.size 54 2 v' (ps.length + 1) (rowW ps us ++ [.int .i64 p.at_, dv]) → (W.alloc (.cells #[.int .i64 p.at_, dv] 54)).grownBy w' none →
      (IsWs w' v' (ps ++ [p]) ∧ Below W.heap.size W w' ∧ ∃ g cap, v' = .slice (some ⟨g, 0, none⟩) (ps.length + 1) cap) := fun v' w' h1 h2 => by
    have hb2 := hb.up (below_none h2)
    obtain ⟨g, cap, e, _, _⟩ := own_form h1 (by omega)
    obtain ⟨A', c', e', k1, k2, _⟩ := own_rowAt h1
    refine ⟨⟨A', c', us ++ [dv], by rw [e']; simp, by simpa using k1, by simp [hl], ?_, fun i q1 q2 => ?_⟩, hb2, g, cap, e⟩
    · rw [rowW_append hl]; exact k2
    · by_cases e : i < us.length
      · rw [List.getElem_append_left e, List.getElem_append_left (by omega)]
        exact (hi i e (by omega)).upb hb2
      · simp only [List.length_append, List.length_cons, List.length_nil] at q1
        have e2 : i = us.length := by omega
        subst e2
        have e3 : (ps ++ [p])[us.length]'q2 = p := by simp [hl]
        have e4 : (us ++ [dv])[us.length]'(by simp) = dv := by simp
        rw [e3, e4]
        exact hd.upb hb2
  have hone : ∀ u ∈ [Value.int .i64 p.at_, dv], u.oneCell' = true := by
    intro u hu
    simp at hu
    rcases hu with rfl | rfl
    · rfl
    · exact hd.one
  cases A with
  | none =>
    have h0 := hA rfl
    have hp : ps = [] := List.eq_nil_of_length_eq_zero h0
    subst hp
    obtain ⟨v', w', h1, h2, h3, _⟩ := run_append_own (P := Try.prog) _ (W.alloc (.cells #[.int .i64 p.at_, dv] 54)).heap.size 23 ty 54 i0 _ 2 32 Try.underlying23 hi0 hz0 hz1 hz2 rfl (by decide) (.slice none 0 0) 0 [] (World.ownsRow_nil _ _ 54 2) ⟨W.heap.size, 0, none⟩ 1 1 [.int .i64 p.at_, dv] rfl (cell_new2 W _ _ _) hone (by unfold maxLen; omega) (by omega) (Nat.le_refl _)
    refine ⟨v', w', h1, fin v' w' ?_ h3⟩
    have : rowW [] us = [] := by simp [rowW]
    rw [this]; exact h2
  | some b =>
    obtain ⟨v', w', h1, h2, h3⟩ := run_append_arg_grows (P := Try.prog) (W.alloc (.cells #[.int .i64 p.at_, dv] 54)) 23 ty 54 i0 _ 2 32 Try.underlying23 hi0 hz0 hz1 hz2 rfl (by decide) b ps.length ps.length (rowW ps us) (rowW_len hl) (rowAt_cells (hr.below hb)) ⟨W.heap.size, 0, none⟩ 1 1 [.int .i64 p.at_, dv] rfl (cell_new2 W _ _ _) (by omega) (by unfold maxLen; omega) (by omega)
    exact ⟨v', w', h1, fin v' w' h2 h3⟩

theorem clipN_any {A : Option Addr} {n c : Nat} {w : World} (hc : n ≤ c) (hA : A = none → n = 0) : Calls Try.prog 37 #[.slice A n c] w fun e w' => e = .returned (.slice A n n) ∧ w = w' := by
  cases A with
  | none =>
    obtain rfl := hA rfl
    go_enter Try.func37, Try.ntmps37
    go_wp2
    go_ret
    exact ⟨rfl, rfl⟩
  | some ad => exact clip_any hc (by simp)
/-- the row of an own record of writes -/
theorem OwnWs.row {W : World} {base : Nat} {v : Value} {ps : List Wr} (h : OwnWs W base v ps) : ∃ A c us, v = .slice A ps.length c ∧ ps.length ≤ c ∧ us.length = ps.length ∧ RowAt W A (rowW ps us) ∧ (∀ i (h : i < us.length) (h' : i < ps.length), IsBytes W us[i] ps[i].data) ∧ (A = none → ps.length = 0) := by
  obtain ⟨A, c, us, e, h1, h2, h3, h4⟩ := h.is
  exact ⟨A, c, us, e, h1, h2, h3, h4, fun hA => by
    subst hA
    have := nilW_of_none (w := W) (n := ps.length) (c := c) (ps := ps) (by rw [← e]; exact h.is)
    rw [this]; rfl⟩
theorem pad_splice' {b : By} (n : Nat) (h : b.length ≤ n) : splice ((List.replicate n (0 : UInt8)).map encB) 0 (b.map encB) = (b ++ List.replicate (n - b.length) 0).map encB := by
  unfold splice
  simp
theorem pad_splice {b : By} (h : b.length ≤ 128) : splice (Dv.zs.map encB) 0 (b.map encB) = (Dv.pad b).map encB := pad_splice' 128 h
end Go.Proofs.Ytimpnpdhhhbmgaa
