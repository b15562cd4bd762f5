/- Rows of ints as one block; walk of the reference's table. -/
import Derived.Test.YtdcndhfjfllehaaW4
import Derived.Test.YtdcndhfjfllehaaClone
import Derived.Test.YtdcndhfjfllehaaIter
namespace Go.Proofs.Ytdcndhfjfllehaa
open Go.RowKit
set_option linter.unusedVariables false
set_option linter.unusedSimpArgs false
attribute [local go_sem] Oper.semAt_some

def zeros (n : Nat) : Array Value := madeCells #[.int .i64 0] n

theorem make_ints (n : Nat) (hn : n ≤ 1048576) (w : World) : (Instr.makeSlice 22 (.int .i64 (n : Int)) (.int .i64 (n : Int))).run Try.prog w = .ok (.slice (some ⟨w.heap.size, 0, none⟩) n n) (w.alloc (.cells (zeros n) 3)) := by
  obtain ⟨i0, hi, hz0, hz1, hz2⟩ := info_parts infoInt
  have hb : (i0.bytes : Int) * (n : Int) ≤ 281474976710656 := by rw [hz2]; omega
  have hr := run_make (P := Try.prog) w 22 3 i0 _ Try.underlying22 hi hz0 .i64 .i64 n n (by omega) (by omega) hb (by omega)
  simp only [Int.toNat_natCast] at hr
  rw [hr, hz1, Nat.mul_one]
  rfl

/-- block g is a row of ints -/
def CellsI (W : World) (g : Nat) (xs : List Int) : Prop := W.heap[g]? = some (.cells (xs.map (Value.int .i64)).toArray 3 (0, 0))

theorem zeros_eq (n : Nat) : zeros n = ((List.replicate n (0 : Int)).map (Value.int .i64)).toArray := by
  apply Array.ext
  · simp [zeros, madeCells]
  · intro i h1 h2
    simp [zeros, madeCells, Nat.mod_one]
theorem CellsI.new (W : World) (n : Nat) : CellsI (W.alloc (.cells (zeros n) 3)) W.heap.size (List.replicate n 0) := by
  unfold CellsI; rw [World.alloc_heap_new, zeros_eq]
theorem CellsI.lt {W : World} {g : Nat} {xs : List Int} (h : CellsI W g xs) : g < W.heap.size := (Array.getElem?_eq_some_iff.1 h).1
theorem CellsI.alloc {W : World} {g : Nat} {xs : List Int} (h : CellsI W g xs) (o : Obj) : CellsI (W.alloc o) g xs := ((World.grownBy_alloc W o none).block g h.lt (by simp)).trans h
theorem CellsI.other {W : World} {g : Nat} {xs : List Int} (h : CellsI W g xs) (p : Addr) (hp : g ≠ p.block) (v : Value) : CellsI (W.setCell p v) g xs := (Below.heap_setCell W p v g hp).trans h
theorem CellsI.below {W W' : World} {g : Nat} {xs : List Int} (h : CellsI W g xs) (hb : Below W.heap.size W W') : CellsI W' g xs := (hb.block g h.lt).trans h
theorem CellsI.istep {B : Nat} {W W' : World} {g : Nat} {xs : List Int} (h : CellsI W g xs) (hb : IStep B W W') : CellsI W' g xs := hb.block g _ h (.inl rfl)
theorem CellsI.cell {W : World} {g : Nat} {xs : List Int} (h : CellsI W g xs) (k : Nat) (hk : k < xs.length) : W.cell? ⟨g, k, none⟩ = some (.int .i64 xs[k]) := by
  simp [World.cell?, show W.heap[g]? = _ from h, hk]
theorem CellsI.frozen {W : World} {g : Nat} {xs : List Int} (h : CellsI W g xs) (k : Nat) : W.frozen? ⟨g, k, none⟩ = false := by
  simp [World.frozen?, show W.heap[g]? = _ from h]
theorem CellsI.set {W : World} {g : Nat} {xs : List Int} (h : CellsI W g xs) (k : Nat) (v : Int) : CellsI (W.setCell ⟨g, k, none⟩ (.int .i64 v)) g (xs.set k v) := by
  obtain ⟨hlt, hk⟩ := Array.getElem?_eq_some_iff.1 h
  show (W.heap.modify g _)[g]? = _
  rw [Array.getElem?_eq_getElem (by rw [Array.size_modify]; exact hlt), Array.getElem_modify_self, hk]
  simp
theorem CellsI.ints {W : World} {g : Nat} {xs : List Int} (h : CellsI W g xs) (n : Nat) (hn : n = xs.length) : IsInts W (.slice (some ⟨g, 0, none⟩) n n) xs := by
  subst hn
  refine ⟨_, _, rfl, fun _ => ⟨g, 0, rfl, h.lt, fun k hk => ?_⟩⟩
  have hk' : k < xs.length := by simpa using hk
  rw [Nat.zero_add, h.cell k hk']
  simp


namespace Bk
theorem tab_bd {sp rm : Int} (hr : 1 ≤ rm ∧ rm ≤ 1048576) (ws : List Int) (h : ok sp rm ws) : ∀ i, at_ (tab sp rm ws) i ≤ 1099511627776 * (ws.length : Int) := by
  induction ws with
  | nil => intro i; unfold at_ tab; cases i <;> simp
  | cons x r ih =>
    intro i
    have hp : pos sp (x :: r) := ⟨h.1, fun y hy => (h.2 y hy).1⟩
    cases i with
    | zero =>
      obtain ⟨c, hc, hy⟩ := (fst_spec h (by simp)).mem
      have h1 := lc_bd hp hr (lc_mem.2 hc)
      have h2 := ih h.tail (fst sp rm (x :: r) - 1)
      rw [hy]
      simp only [List.tail_cons, List.length_cons]
      omega
    | succ i =>
      have := ih h.tail i
      have e : at_ (tab sp rm (x :: r)) (i + 1) = at_ (tab sp rm r) i := by simp [tab, at_]
      rw [e, List.length_cons]; omega
/-- the lines, one more -/
theorem take_some {sp rm : Int} {ws : List Int} {m : Nat} {c : Int} (h : lc sp rm ws (m + 1) = some c) : (lines sp rm ws).take (m + 1) = (lines sp rm ws).take m ++ [(m + 1, c)] := by
  have hm := lc_mem.1 h
  obtain ⟨k, hk, he⟩ := List.getElem_of_mem hm
  have h1 := lines_get hk
  rw [he] at h1
  simp at h1
  subst h1
  rw [List.take_succ_eq_append_getElem hk, he]
theorem take_none {sp rm : Int} {ws : List Int} {m : Nat} (h : lc sp rm ws (m + 1) = none) : (lines sp rm ws).take (m + 1) = (lines sp rm ws).take m := by
  have hl : (lines sp rm ws).length ≤ m := by
    rcases Nat.lt_or_ge m (lines sp rm ws).length with hlt | hge
    · have hg := lines_get hlt
      have : lc sp rm ws (m + 1) = some ((lines sp rm ws)[m]).2 := lc_mem.2 (by rw [← hg]; exact List.getElem_mem hlt)
      rw [this] at h; cases h
    · exact hge
  rw [List.take_of_length_le (by omega), List.take_of_length_le hl]
def pv (o : Option (Nat × Int)) : Int := match o with
  | some (_, y) => y
  | none => -1
theorem ln_len (sp : Int) (ws : List Int) : ∀ left t, (ln sp left t ws).length ≤ ws.length := by
  induction ws with
  | nil => intro l t; simp [ln]
  | cons x r ih =>
    intro l t
    rw [ln]
    split
    · simp
    · simp only [List.length_cons]; have := ih (l - (sp + x)) (t + 1); omega
theorem lines_len (sp rm : Int) (ws : List Int) : (lines sp rm ws).length ≤ ws.length := ln_len sp ws _ _
/-- what a pick over the first lines holds, if anything -/
theorem pick_take_nonneg {sp rm : Int} {ws : List Int} (h : ok sp rm ws) (m : Nat) {t : Nat} {y : Int} (hp : pick (tab sp rm ws.tail) ((lines sp rm ws).take m) = some (t, y)) : 0 ≤ y := by
  rcases pick_spec (tab sp rm ws.tail) ((lines sp rm ws).take m) (fun k hk => by rw [List.getElem_take]; exact lines_get (by simp at hk; omega)) with ⟨_, e⟩ | ⟨t2, y2, e, hb⟩
  · rw [e] at hp; cases hp
  · rw [e] at hp
    injection hp with hp
    injection hp with h1 h2
    subst h1 h2
    obtain ⟨c, hc, hy⟩ := hb.mem
    have h1 := lines_mem (List.mem_of_mem_take hc)
    have h2 : 0 ≤ at_ (tab sp rm ws.tail) (t2 - 1) := by
      cases ws with
      | nil => exact tab_nonneg [] ⟨h.1, by simp⟩ _
      | cons x r => exact tab_nonneg r h.tail _
    rw [hy]; omega
theorem pick_all {sp rm : Int} {x : Int} {r : List Int} (h : ok sp rm (x :: r)) (m : Nat) (hm : (x :: r).length ≤ m) : pick (tab sp rm r) ((lines sp rm (x :: r)).take m) = some (fst sp rm (x :: r), at_ (tab sp rm (x :: r)) 0) := by
  rw [List.take_of_length_le (by have := lines_len sp rm (x :: r); omega)]
  rcases pick_spec (tab sp rm r) (lines sp rm (x :: r)) (fun k h => lines_get h) with ⟨e, _⟩ | ⟨t, y, e, hb⟩
  · exact absurd e (lines_ne h)
  · have e1 : fst sp rm (x :: r) = t := by unfold fst; rw [List.tail_cons, e]
    have e2 : at_ (tab sp rm (x :: r)) 0 = y := by rw [tab, e]; rfl
    rw [e, e1, e2]
/-- the table, half made -/
def half (sp rm : Int) (xs : List Int) (k : Nat) : List Int := List.replicate k 0 ++ tab sp rm (xs.drop k)
theorem half_len (sp rm : Int) (xs : List Int) (k : Nat) (h : k ≤ xs.length) : (half sp rm xs k).length = xs.length + 1 := by
  unfold half; rw [List.length_append, tab_len]; simp; omega
theorem half_get (sp rm : Int) (xs : List Int) (i t : Nat) (z : Int) (h : i < xs.length) (ht : 1 ≤ t) (htn : i + t ≤ xs.length) :
    ((half sp rm xs (i + 1)).set i z)[i + t]? = some (at_ (tab sp rm (xs.drop (i + 1))) (t - 1)) := by
  rw [List.getElem?_set_ne (by omega)]
  unfold half
  rw [List.getElem?_append_right (by simp; omega)]
  have hl : i + t - (List.replicate (i + 1) (0 : Int)).length = t - 1 := by simp; omega
  rw [hl]
  have hlt : t - 1 < (tab sp rm (xs.drop (i + 1))).length := by rw [tab_len]; simp; omega
  rw [List.getElem?_eq_getElem hlt, ← at_eq _ _ hlt]
theorem half_set (sp rm : Int) (xs : List Int) (i : Nat) (h : i < xs.length) : (half sp rm xs (i + 1)).set i (at_ (tab sp rm (xs.drop i)) 0) = half sp rm xs i := by
  unfold half
  have hd : xs.drop i = xs[i] :: xs.drop (i + 1) := List.drop_eq_getElem_cons h
  have ht : tab sp rm (xs.drop i) = at_ (tab sp rm (xs.drop i)) 0 :: tab sp rm (xs.drop (i + 1)) := by
    rw [hd]; simp only [tab]; rfl
  rw [List.set_append_left _ _ (by simp), List.replicate_succ', List.set_append_right _ _ (by simp)]
  simp only [List.length_replicate, Nat.sub_self, List.set_cons_zero]
  conv => rhs; rw [ht]
  simp
theorem half_start (sp rm : Int) (xs : List Int) : half sp rm xs xs.length = List.replicate (xs.length + 1) 0 := by
  unfold half
  rw [List.drop_length, tab, List.replicate_succ']
end Bk
theorem make_intsS (n : Nat) (hn : n ≤ 1000) (w : World) : (Instr.makeSlice 22 (.int .i64 ((n : Int) + 1)) (.int .i64 ((n : Int) + 1))).run Try.prog w = .ok (.slice (some ⟨w.heap.size, 0, none⟩) (n + 1) (n + 1)) (w.alloc (.cells (zeros (n + 1)) 3)) := make_ints (n + 1) (by omega) w
theorem CellsI.drewN {W : World} {g : Nat} {xs : List Int} (h : CellsI W g xs) (n : Nat) : CellsI (W.drewN n) g xs := h
theorem CellsI.at? {W : World} {g : Nat} {xs : List Int} (h : CellsI W g xs) {k : Nat} {z : Int} (hz : xs[k]? = some z) : W.cell? ⟨g, k, none⟩ = some (.int .i64 z) := by
  obtain ⟨hk, e⟩ := List.getElem?_eq_some_iff.1 hz
  rw [h.cell k hk, e]

set_option maxHeartbeats 4000000 in
set_option maxRecDepth 100000 in
theorem refTable_any (v : Value) (xs : List Int) (sp rm : Int) (w : World) (hv : IsInts w v xs) (hr : Bk.Rt xs sp rm) (ho : Bk.ok sp rm xs) :
    Calls Try.prog 26 #[v, .int .i64 sp, .int .i64 rm] w fun e w' => ∃ c, e = .returned (.slice (some ⟨w.heap.size, 0, none⟩) (xs.length + 1) c) ∧ CellsI w' w.heap.size (Bk.tab sp rm xs) ∧ Below w.heap.size w w' := by
  have HV := Lib.hid hv
  obtain ⟨A, cap, rfl, hrow⟩ := hv
  have HR := Lib.hid hr
  have HO := Lib.hid ho
  have hn := hr.len
  have hmk := make_intsS xs.length (by omega) w
  have B0 := Lib.hid ((Below.refl w.heap.size w).alloc (Nat.le_refl _) (.cells (zeros (xs.length + 1)) 3))
  have C0 := Lib.hid (CellsI.new w (xs.length + 1))
  clear hrow hr ho
  go_enter Try.func26, Try.ntmps26
  go_wp2
  clear hmk
  go_loopw [9, 10, 11, 12] (fun i _ _ _ wr => ∃ k : Nat, k ≤ xs.length ∧ i = .int .i64 ((k : Int) - 1) ∧ Hid (CellsI wr w.heap.size (Bk.half sp rm xs k)) ∧ Hid (Below w.heap.size w wr)) (fun i _ _ _ _ => (intOf i + 1).toNat)
  case atStart => exact ⟨xs.length, by omega, rfl, Lib.hid (by rw [Bk.half_start]; exact C0.out), B0⟩
  case round =>
    obtain ⟨k, hk, rfl, HC, HB⟩ := hrel
    clear C0 B0
    by_cases hpos : 1 ≤ k
    · obtain ⟨i, rfl⟩ : ∃ i, k = i + 1 := ⟨k - 1, by omega⟩
      have hei : ((i + 1 : Nat) : Int) - 1 = (i : Int) := by omega
      rw [hei]
      have hil : i < xs.length := by omega
      have hf := HC.out.frozen i
      have hci := HC.out.cell i (by rw [Bk.half_len _ _ _ _ hk]; omega)
      have HC1 := Lib.hid (HC.out.set i (-1))
      have HB1 := Lib.hid (HB.out.setCell (p := ⟨w.heap.size, i, none⟩) (Nat.le_refl _) (.int .i64 (-1)))
      have HTL := Lib.hid (show (xs.drop i).tail = xs.drop (i + 1) from List.tail_drop)
      clear hei hpos
      go_wp2
      go_loopw [10, 11, 12] (fun j _ _ wr => ∃ t : Nat, 1 ≤ t ∧ i + t ≤ xs.length + 1 ∧ j = .int .i64 ((i + t : Nat) : Int) ∧ Hid (CellsI wr w.heap.size ((Bk.half sp rm xs (i + 1)).set i (Bk.pv (Bk.pick (Bk.tab sp rm (xs.drop (i + 1))) ((Bk.lines sp rm (xs.drop i)).take (t - 1)))))) ∧ Hid (Below w.heap.size w wr)) (fun j _ _ _ => (xs.length + 1 - (intOf j).toNat))
      case atStart => exact ⟨1, by omega, by omega, by go_num, Lib.hid (by simpa [Bk.pick, Bk.pv] using HC1.out), HB1⟩
      case round =>
        obtain ⟨t, ht1, ht2, rfl, HCt, HBt⟩ := hrel
        clear HC1 HB1 hci hf HC HB
        by_cases hle : i + t ≤ xs.length
        · have HLn := Lib.hid (refLine_any _ xs sp rm i (i + t) wr (HV.out.below HBt.out) HR.out (by omega) hle)
          rw [show i + t - i = t by omega] at HLn
          have hlt : i < ((Bk.half sp rm xs (i + 1)).set i (Bk.pv (Bk.pick (Bk.tab sp rm (xs.drop (i + 1))) ((Bk.lines sp rm (xs.drop i)).take (t - 1))))).length := by rw [List.length_set, Bk.half_len _ _ _ _ hk]; omega
          have hci := HCt.out.at? (k := i) (z := Bk.pv (Bk.pick (Bk.tab sp rm (xs.drop (i + 1))) ((Bk.lines sp rm (xs.drop i)).take (t - 1)))) (by rw [List.getElem?_set_self (by rw [Bk.half_len _ _ _ _ hk]; omega)])
          have hcj := HCt.out.at? (k := i + t) (Bk.half_get sp rm xs i t _ hil ht1 hle)
          have hfi := HCt.out.frozen i
          have HT1 := Lib.hid (show t - 1 + 1 = t by omega)
          have HP0 := Lib.hid (fun (q : Nat × Int) hq => Bk.pick_take_nonneg (HO.out.drop i) (t - 1) (t := q.1) (y := q.2) (by rw [HTL.out]; exact hq))
          have htb := Bk.tab_nonneg (xs.drop (i + 1)) (HO.out.drop (i + 1)) (t - 1)
          have htc : Bk.at_ (Bk.tab sp rm (xs.drop (i + 1))) (t - 1) ≤ 70368744177664 := by
            have h1 := Bk.tab_bd HR.out.r (xs.drop (i + 1)) (HO.out.drop (i + 1)) (t - 1)
            have h2 : (xs.drop (i + 1)).length ≤ 64 := by simp; omega
            omega
          clear hlt
          cases hlc : Bk.lc sp rm (xs.drop i) t with
          | none =>
            have HQ := Lib.hid (Bk.take_none (m := t - 1) (by rw [HT1.out]; exact hlc))
            rw [hlc] at HLn
            clear hlc htb htc
            go_wp2_with (go_at_call 27; refine HLn.out.mono ?_; rintro e w' ⟨rfl, rfl⟩; unfold lcE)
            go_quiet (fail)
            go_wp2
            go_roundw
            case rel => exact ⟨t + 1, by omega, by omega, by go_num, Lib.hid (by rw [show t + 1 - 1 = t - 1 + 1 by omega, HQ.out]; exact HCt.out.drewN _), Lib.hid (below_drewN HBt.out _)⟩
            case measure => first | omega | (simp [intOf]; done) | (simp [intOf]; omega)
          | some c =>
            have HQ := Lib.hid (Bk.take_some (m := t - 1) (by rw [HT1.out]; exact hlc))
            obtain ⟨_, _, hc0, hc1⟩ := Bk.lc_bd (HR.out.pos.drop i) HR.out.r hlc
            have HPk := Lib.hid (show Bk.pick (Bk.tab sp rm (xs.drop (i + 1))) ((Bk.lines sp rm (xs.drop i)).take (t + 1 - 1)) = Bk.step (Bk.tab sp rm (xs.drop (i + 1))) (Bk.pick (Bk.tab sp rm (xs.drop (i + 1))) ((Bk.lines sp rm (xs.drop i)).take (t - 1))) (t, c) by
              rw [show t + 1 - 1 = t - 1 + 1 by omega, HQ.out, Bk.pick_snoc, HT1.out])
            rw [hlc] at HLn
            generalize hpk : Bk.pick (Bk.tab sp rm (xs.drop (i + 1))) ((Bk.lines sp rm (xs.drop i)).take (t - 1)) = o at *
            have HST := Lib.hid (show ∀ z, Bk.pv (Bk.step (Bk.tab sp rm (xs.drop (i + 1))) o (t, c)) = z → ∀ z0, ((Bk.half sp rm xs (i + 1)).set i z0).set i z = (Bk.half sp rm xs (i + 1)).set i (Bk.pv (Bk.step (Bk.tab sp rm (xs.drop (i + 1))) o (t, c))) from fun z h z0 => by rw [h, List.set_set])
            have hsum : IntKind.i64.wrap (c + Bk.at_ (Bk.tab sp rm (xs.drop (i + 1))) (t - 1)) = c + Bk.at_ (Bk.tab sp rm (xs.drop (i + 1))) (t - 1) := by rw [IntKind.wrap_i64]; omega
            have HBd := Lib.hid (And.intro hc0 htb)
            clear hlc hpk
            cases o with
            | none =>
              have HV1 := Lib.hid (HST.out (c + Bk.at_ (Bk.tab sp rm (xs.drop (i + 1))) (t - 1)) rfl)
              have HV0 := Lib.hid (show Bk.pv (none : Option (Nat × Int)) = -1 from rfl)
              rw [HV0.out] at hci HCt
              generalize Bk.at_ (Bk.tab sp rm (xs.drop (i + 1))) (t - 1) = y at *
              go_wp2_with (go_at_call 27; refine HLn.out.mono ?_; rintro e w' ⟨rfl, rfl⟩; unfold lcE)
              go_quiet (fail)
              clear hsum
              go_wp2
              go_roundw
              case rel => exact ⟨t + 1, by omega, by omega, by go_num, Lib.hid (by rw [HPk.out, ← HV1.out (-1)]; exact (HCt.out.drewN _).set i _), Lib.hid ((below_drewN HBt.out _).setCell (p := ⟨w.heap.size, i, none⟩) (Nat.le_refl _) _)⟩
              case measure => first | omega | (simp [intOf]; done) | (simp [intOf]; omega)
            | some q =>
              obtain ⟨t2, y2⟩ := q
              have hy0 := HP0.out (t2, y2) rfl
              simp only at hy0
              have HV0 := Lib.hid (show Bk.pv (some (t2, y2)) = y2 from rfl)
              rw [HV0.out] at hci HCt
              have hneg : decide (y2 < 0) = false := by simpa using hy0
              by_cases hls : c + Bk.at_ (Bk.tab sp rm (xs.drop (i + 1))) (t - 1) < y2
              · have hd : decide (c + Bk.at_ (Bk.tab sp rm (xs.drop (i + 1))) (t - 1) < y2) = true := by simpa using hls
                have HV1 := Lib.hid (HST.out (c + Bk.at_ (Bk.tab sp rm (xs.drop (i + 1))) (t - 1)) (by simp only [Bk.step, if_pos hls]; rfl))
                clear hls hy0
                generalize Bk.at_ (Bk.tab sp rm (xs.drop (i + 1))) (t - 1) = y at *
                go_wp2_with (go_at_call 27; refine HLn.out.mono ?_; rintro e w' ⟨rfl, rfl⟩; unfold lcE)
                go_quiet (fail)
                clear hsum hneg hd
                go_wp2
                go_roundw
                case rel => exact ⟨t + 1, by omega, by omega, by go_num, Lib.hid (by rw [HPk.out, ← HV1.out y2]; exact (HCt.out.drewN _).set i _), Lib.hid ((below_drewN HBt.out _).setCell (p := ⟨w.heap.size, i, none⟩) (Nat.le_refl _) _)⟩
                case measure => first | omega | (simp [intOf]; done) | (simp [intOf]; omega)
              · have hd : decide (c + Bk.at_ (Bk.tab sp rm (xs.drop (i + 1))) (t - 1) < y2) = false := by simpa using hls
                have HV1 := Lib.hid (show Bk.pv (Bk.step (Bk.tab sp rm (xs.drop (i + 1))) (some (t2, y2)) (t, c)) = y2 by simp only [Bk.step, if_neg hls]; rfl)
                clear hls hy0
                generalize Bk.at_ (Bk.tab sp rm (xs.drop (i + 1))) (t - 1) = y at *
                go_wp2_with (go_at_call 27; refine HLn.out.mono ?_; rintro e w' ⟨rfl, rfl⟩; unfold lcE)
                go_quiet (fail)
                clear hsum hneg hd
                go_wp2
                go_roundw
                case rel => exact ⟨t + 1, by omega, by omega, by go_num, Lib.hid (by rw [HPk.out, HV1.out]; exact HCt.out.drewN _), Lib.hid (below_drewN HBt.out _)⟩
                case measure => first | omega | (simp [intOf]; done) | (simp [intOf]; omega)
        · have HE := Lib.hid (show Bk.pv (Bk.pick (Bk.tab sp rm (xs.drop (i + 1))) ((Bk.lines sp rm (xs.drop i)).take (t - 1))) = Bk.at_ (Bk.tab sp rm (xs.drop i)) 0 from by
            have hd : xs.drop i = xs[i] :: xs.drop (i + 1) := List.drop_eq_getElem_cons hil
            have hok := HO.out.drop i
            rw [hd] at hok ⊢
            rw [Bk.pick_all hok (t - 1) (by simp; omega)]; rfl)
          go_wp2
          go_roundw
          case rel => exact ⟨i, by omega, by go_num, Lib.hid (by have h := HCt.out; rw [HE.out, Bk.half_set _ _ _ _ hil] at h; exact h), HBt⟩
          case measure => first | omega | (simp [intOf]; done) | (simp [intOf]; omega)
    · obtain rfl : k = 0 := by omega
      have HF := Lib.hid (show Bk.half sp rm xs 0 = Bk.tab sp rm xs by simp [Bk.half])
      rw [HF.out] at HC
      go_wp2
      go_ret
      exact ⟨_, rfl, HC.out, HB.out⟩

end Go.Proofs.Ytdcndhfjfllehaa
