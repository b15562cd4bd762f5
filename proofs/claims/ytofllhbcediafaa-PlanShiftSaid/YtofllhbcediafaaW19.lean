/- Walk of life; rows of lives of the call's own. -/
import Derived.Test.YtofllhbcediafaaW18
import Derived.Deep.RegionHeld3
import Derived.Deep.AppendLies
namespace Go.Proofs.Ytofllhbcediafaa
open Go.RowKit
set_option linter.unusedVariables false
set_option linter.unusedSimpArgs false

theorem infoLife : (Try.prog.info? 39).map (fun i => (i.zero, i.size, i.bytes)) = some (some (.agg #[.int .i64 0, .int .i64 0]), 2, 16) := by kernel_rfl

def OwnLives (W : World) (base : Nat) (v : Value) (x : List Pl.Life) : Prop := W.ownsRow base 39 2 v x.length (x.flatMap encL)
theorem OwnLives.lives {W : World} {base : Nat} {v : Value} {x : List Pl.Life} (h : OwnLives W base v x) : IsLives W v x := by
  rcases h.2 with ⟨rfl, h0⟩ | ⟨g, cap, cur, rfl, _, hg, _, _, _, ht⟩
  · have : x = [] := List.eq_nil_of_length_eq_zero h0
    subst this
    exact IsLives.nil
  · refine ⟨_, cap, rfl, fun _ => ⟨g, 0, rfl, (Array.getElem?_eq_some_iff.1 hg).1, fun i hi => ?_⟩⟩
    have hl := flat_len x
    have := World.ownsRow.cellAt h i (by omega)
    rw [Nat.zero_add, this, List.getElem?_eq_getElem hi]
theorem ownL_none (w : World) (base : Nat) : OwnLives w base (.slice none 0 0) [] := World.ownsRow_nil w base _ 2
theorem ownL_alloc {w : World} {base : Nat} {v : Value} {xs : List Pl.Life} (h : OwnLives w base v xs) (o : Obj) : OwnLives (w.alloc o) base v xs := World.ownsRow.alloc h o
theorem ownL_drewN {w : World} {base : Nat} {v : Value} {xs : List Pl.Life} (h : OwnLives w base v xs) (n : Nat) : OwnLives (w.drewN n) base v xs := h
theorem ownL_at {W : World} {base : Nat} {v : Value} {xs : List Pl.Life} (h : OwnLives W base v xs) : ∀ g, v.ownBlock = some g → base ≤ g ∧ g < W.heap.size := World.ownsRow.lt h

theorem cell_new2 (w : World) (x y : Value) (t : TypeId) (j : Nat) (u : Value) (h : [x, y][j]? = some u) : (w.alloc (.cells #[x, y] t)).cell? ((⟨w.heap.size, 0, none⟩ : Addr).add j) = some u := by
  match j with
  | 0 => simp at h; subst h; simp [Addr.add]
  | 1 => simp at h; subst h; simp [Addr.add]
  | j + 2 => simp at h

theorem wpList_pushL {W : World} {ops : Array Oper} {rest : List Oper} {o : Oper} {a : Act} {Q : Exit → Act → World → Prop} (hgd : o.guard = none) (s x : Operand)
    (ho : o.op = .call { callee := .builtin .append, args := #[s, x], argTypes := #[37, 37] })
    (base : Nat) (v : Value) (xs : List Pl.Life) (hs : a.eval s = v) (hown : OwnLives W base v xs) (p q : Int) (H : Nat) (hH : W.heap.size = H) (hx : a.eval x = .slice (some ⟨H, 0, none⟩) 1 1)
    (hlen : xs.length ≤ 1000000) (hb : base ≤ W.heap.size)
    (h : ∀ v' w', OwnLives w' base v' (xs ++ [(p, q)]) → W.grownBy w' v.ownBlock → (v'.ownBlock = v.ownBlock ∨ v'.ownBlock = some (W.heap.size + 1)) → wpList Try.prog ops Q rest (a.put o.dst v') w') :
    wpList Try.prog ops Q (o :: rest) a (W.alloc (.cells #[.int .i64 p, .int .i64 q] 39)) := by
  subst hH
  obtain ⟨i0, hi, hz0, hz1, hz2⟩ := info_parts infoLife
  refine wpList_append_own_at _ hgd s x _ ho base 39 i0 (.agg #[.int .i64 0, .int .i64 0]) 2 16 Try.underlying37 hi hz0 hz1 hz2 rfl (by decide) v xs.length (xs.flatMap encL) hs (World.ownsRow.alloc hown _)
    ⟨W.heap.size, 0, none⟩ 1 1 [.int .i64 p, .int .i64 q] hx rfl (cell_new2 W _ _ _) (by simp [Value.oneCell']) (by unfold maxLen; omega) (by omega) (by simp; omega) ?_
  intro v' w' h1 h2 _ h4
  refine h v' w' ?_ ?_ (by simpa using h4)
  · unfold OwnLives; simpa [encL] using h1
  · exact (World.grownBy_alloc W _ v.ownBlock).trans h2

theorem step_pushL {W : World} {ops : Array Oper} {o : Oper} {a : Act} {K : Act → World → Prop} {Q : Exit → Act → World → Prop} {E : Prop} (hgd : o.guard = none) (s x : Operand)
    (ho : o.op = .call { callee := .builtin .append, args := #[s, x], argTypes := #[37, 37] })
    (base : Nat) (v : Value) (xs : List Pl.Life) (hs : a.eval s = v) (hown : OwnLives W base v xs) (p q : Int) (H : Nat) (hH : W.heap.size = H) (hx : a.eval x = .slice (some ⟨H, 0, none⟩) 1 1)
    (hlen : xs.length ≤ 1000000) (hb : base ≤ W.heap.size)
    (h : ∀ v' w', OwnLives w' base v' (xs ++ [(p, q)]) → W.grownBy w' v.ownBlock → (v'.ownBlock = v.ownBlock ∨ v'.ownBlock = some (W.heap.size + 1)) → (∀ b o, b < base → w'.cell? ⟨b, o, none⟩ = W.cell? ⟨b, o, none⟩) → K (a.put o.dst v') w') :
    if Region.wanted o (yielded ops a.tmps) = true then Oper.wp Try.prog o a (W.alloc (.cells #[.int .i64 p, .int .i64 q] 39)) K Q else E := by
  subst hH
  obtain ⟨i0, hi, hz0, hz1, hz2⟩ := info_parts infoLife
  refine step_append_lies _ hgd s x _ ho base 39 i0 (.agg #[.int .i64 0, .int .i64 0]) 2 16 Try.underlying37 hi hz0 hz1 hz2 rfl (by decide) v xs.length (xs.flatMap encL) hs (World.ownsRow.alloc hown _)
    ⟨W.heap.size, 0, none⟩ 1 1 [.int .i64 p, .int .i64 q] hx rfl (cell_new2 W _ _ _) (by simp [Value.oneCell']) (by omega) (by unfold maxLen; omega) (by omega) (by simp; omega) (W.heap.size + 1) (by simp) ?_
  intro g cap w' h1 h2 h3 _
  have hg := (World.grownBy_alloc W (.cells #[.int .i64 p, .int .i64 q] 39) v.ownBlock).trans h2
  refine h _ w' (by unfold OwnLives; simpa [encL] using h1) hg ?_ (grown_cell hg hb (fun g hg => (World.ownsRow.lt hown g hg).1))
  rcases h3 with h3 | h3
  · exact .inl (by rw [h3]; rfl)
  · exact .inr (by rw [h3]; rfl)

def pairs (bs : List Int) (k : Nat) : List Pl.Life := (bs.zip bs.tail).take k
theorem pairs_step (bs : List Int) (k : Nat) (h : k + 1 < bs.length) : pairs bs (k + 1) = pairs bs k ++ [(bs[k], bs[k + 1])] := by
  unfold pairs
  have hl : k < (bs.zip bs.tail).length := by simp; omega
  rw [List.take_succ_eq_append_getElem hl]
  simp
theorem pairs_len (bs : List Int) (k : Nat) : (pairs bs k).length ≤ k := by unfold pairs; exact List.length_take_le _ _

set_option maxHeartbeats 1000000 in
theorem life_any (v : Value) (bs : List Int) (w : World) (hv : IsInts w v bs) (hl : bs.length ≤ 1000) :
    Calls Try.prog 22 #[v] w fun e w' => ∃ r, e = .returned r ∧ IsLives w' r (pairs bs (bs.length - 1)) ∧ Below w.heap.size w w' := by
  obtain ⟨A, cap, rfl, hr⟩ := hv
  have HR := Lib.hid hr
  clear hr
  go_enter Try.func22, Try.ntmps22
  go_wp2_with (fail)
  go_loopw [2, 7] (fun r i wr => ∃ k : Nat, (k = 0 ∨ k < bs.length) ∧ i = .int .i64 k ∧ OwnLives wr w.heap.size r (pairs bs k) ∧ Below w.heap.size w wr) (fun _ i _ => bs.length - (intOf i).toNat)
  case atStart => exact ⟨0, .inl rfl, rfl, ownL_none w _, Below.refl _ _⟩
  case round =>
    obtain ⟨k, hk, rfl, hown, hb⟩ := hrel
    have HO := Lib.hid hown
    have HB := Lib.hid hb
    clear hown hb
    by_cases hlt : k + 1 < bs.length
    · obtain ⟨b, off, rfl, hbb, hc1⟩ := ints_at HR.out (show k < bs.length by omega)
      obtain ⟨b2, off2, hA, _, hc2⟩ := ints_at HR.out hlt
      cases hA
      replace hc1 := (HB.out.cell (p := ⟨b, off + k, none⟩) hbb).trans hc1
      replace hc2 := (HB.out.cell (p := ⟨b, off + (k + 1), none⟩) hbb).trans hc2
      have HS := Lib.hid (pairs_step bs k hlt)
      have hgl : (pairs bs k).length ≤ 1000000 := by have := pairs_len bs k; omega
      clear hk
      generalize bs[k] = p at *
      generalize bs[k + 1] = q at *
      go_wp2_with (fail)
      have hk0 : (0 : Int) ≤ (k : Int) := by omega
      have hk1 : (k : Int) < (bs.length : Int) := by omega
      have hk2 : IntKind.i64.wrap ((k : Int) + 1) = (k : Int) + 1 := IntWalk.i64_in _ (by omega)
      have hk3 : (0 : Int) ≤ (k : Int) + 1 := by omega
      have hk4 : (k : Int) + 1 < (bs.length : Int) := by omega
      have hk5 : ((k : Int) + 1).toNat = k + 1 := by omega
      go_region_held3 (fun X => X.cell? ⟨b, off + k, none⟩ = some (.int .i64 p) ∧ X.cell? ⟨b, off + (k + 1), none⟩ = some (.int .i64 q)) (go_keep)
        ((refine step_pushL (by rfl) (.tmp 10) (.tmp 21) (by rfl) w.heap.size u2 (pairs bs k) (by rfl) (ownL_drewN HO.out 1) p q wr.heap.size (by rfl) (by rfl) hgl HB.out.size ?_; intro v1 w1 hown1 hg1 hat1 hce1; have HO1 := Lib.hid hown1; have HG1 := Lib.hid hg1; clear hown1 hg1 hat1))
      clear hk2 hk5
      go_wp2_with (fail)
      go_roundw
      case rel => exact ⟨k + 1, .inr hlt, by go_num, by rw [HS.out]; exact HO1.out, (below_drewN HB.out 1).grown HG1.out HB.out.size (fun g hg => (ownL_at HO.out g hg).1)⟩
      case measure => first | omega | (simp [intOf]; done) | (simp [intOf]; omega)
    · have hkl : k = bs.length - 1 := by omega
      have HO2 := Lib.hid (show OwnLives wr w.heap.size u2 (pairs bs (bs.length - 1)) by rw [← hkl]; exact HO.out)
      clear HO hkl
      go_wp2_with (fail)
      go_ret
      exact ⟨_, rfl, HO2.out.lives, HB.out⟩

end Go.Proofs.Ytofllhbcediafaa
