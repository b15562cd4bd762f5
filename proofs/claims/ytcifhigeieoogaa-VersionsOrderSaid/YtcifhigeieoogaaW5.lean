/- Walk of slices.Insert of one amendment into a record of the call's own. -/
import Derived.Test.YtcifhigeieoogaaCopyN
import Derived.Lib.Overlaps
import Derived.Laws.Externs
import Derived.Shelf.RegionOpenPlain
import Derived.Deep.RegionLaw
namespace Go.Proofs.Ytcifhigeieoogaa
open Go.RowKit
set_option linter.unusedVariables false
set_option linter.unusedSimpArgs false

def InsPost (ys : List Am) (base : Nat) (w : World) : Ending → World → Prop := fun e w' => ∃ v', e = .returned v' ∧ OwnAs w' base v' ys ∧ Below base w w'


set_option maxHeartbeats 4000000 in
set_option maxRecDepth 100000 in
theorem insert_end (v : Value) (xs : List Am) (x : Am) (vb base : Nat) (w : World) (hown : OwnAs w base v xs) (hl : xs.length ≤ 4096) (hb : base ≤ w.heap.size) (hx : BoxA w vb x) :
    Calls Try.prog 27 #[v, .int .i64 (xs.length : Int), .slice (some ⟨vb, 0, none⟩) 1 1] w (InsPost (xs ++ [x]) base w) := by
  obtain ⟨i0, hi, hz0, hz1, hz2⟩ := info_parts infoA
  have HO := Lib.hid hown
  have HN := Lib.hid (boxA_news hx)
  have HI := Lib.hid (And.intro hi (And.intro hz0 (And.intro hz1 hz2)))
  have hrow : ∀ g, v.ownBlock = some g → base ≤ g := fun g hg => (OwnAs.at hown g hg).1
  have HRW := Lib.hid hrow
  have hcap : ∀ A n c, v = .slice A n c → n ≤ c := fun A n c e => by
    obtain ⟨_, h | ⟨g, cap, cur, e1, _, _, h3, _⟩⟩ := hown
    · rw [h.1] at e; cases e; exact Nat.le_refl _
    · rw [e1] at e; cases e; exact h3
  obtain ⟨A, c, rfl⟩ := OwnAs.slice hown
  have hcp := hcap _ _ _ rfl
  clear hcap hi hz0 hz1 hz2 hx hown hrow
  go_enter Try.func27, Try.ntmps27
  go_wp2_with (at_builtin; go_must (refine wpList_append_own_at _ rfl (.tmp 23) (.tmp 24) 22 rfl base 27 i0 _ 6 48 Try.underlying22 HI.out.1 HI.out.2.1 HI.out.2.2.1 HI.out.2.2.2 rfl (by decide) _ xs.length (xs.flatMap encA) rfl HO.out ⟨vb, 0, none⟩ 1 1 (encA x) rfl rfl HN.out (by simp [Value.oneCell', encA]) (by unfold maxLen; omega) (by omega) hb ?_); intro v1 w1 h1 h2 _ _; have HO1 := Lib.hid h1; have HG1 := Lib.hid h2; clear h1 h2)
  all_goals go_ret
  all_goals exact ⟨_, rfl, (by unfold OwnAs; simpa [encA] using HO1.out), (Below.refl base w).grown HG1.out hb HRW.out⟩

theorem splice_ins {α : Type} (L P C E T : List α) (hL : L = P ++ C ++ T) (hT : E.length ≤ T.length) : (splice (splice L (P.length + E.length) C) P.length E).take (P.length + E.length + C.length) = P ++ (E ++ C) := by
  obtain ⟨A, hA⟩ : ∃ A, L.take (P.length + E.length) = A := ⟨_, rfl⟩
  have hAl : A.length = P.length + E.length := by rw [← hA, List.length_take, hL]; simp; omega
  have hAt : A.take P.length = P := by
    rw [← hA, List.take_take, hL]
    rw [show min P.length (P.length + E.length) = P.length by omega, List.append_assoc, List.take_left]
  obtain ⟨R, hR⟩ : ∃ R, L.drop (P.length + E.length + C.length) = R := ⟨_, rfl⟩
  have e1 : splice L (P.length + E.length) C = A ++ (C ++ R) := by unfold splice; rw [hA, hR]
  rw [e1]
  have e2 : (A ++ (C ++ R)).take P.length = P := by rw [List.take_append_of_le_length (by omega), hAt]
  have e3 : (A ++ (C ++ R)).drop (P.length + E.length) = C ++ R := by rw [← hAl, List.drop_left]
  have e4 : splice (A ++ (C ++ R)) P.length E = (P ++ (E ++ C)) ++ R := by unfold splice; rw [e2, e3]; simp
  rw [e4, show P.length + E.length + C.length = (P ++ (E ++ C)).length by simp; omega, List.take_left]

theorem step_copy_run {P : Program} {ops : Array Oper} {o : Oper} {a : Act} {w : World} {K : Act → World → Prop} {Q : Exit → Act → World → Prop} {E : Prop}
    (hg : o.guard = none) (d x : Operand) (dT sT : TypeId) (hop : o.op = Op.call { callee := Callee.builtin Builtin.copy, args := #[d, x], argTypes := #[dT, sT] })
    (v u : Value) (hd : a.eval d = v) (hx : a.eval x = u) {v' : Value} {w' : World} (hr : (Builtin.copy_ #[dT, sT] o.type #[v, u]).run P w = .ok v' w') (hK : K (a.put o.dst v') w') :
    if Region.wanted o (yielded ops a.tmps) = true then Oper.wp P o a w K Q else E := by
  have hw : Region.wanted o (yielded ops a.tmps) = true := by simp [Region.wanted, hg]
  rw [if_pos hw]
  unfold Oper.wp
  simp [execOp, hop, resolve, invoke, builtin, hd, hx, hr, Result.andThen]
  exact hK
theorem wpList_copy_run {P : Program} (w : World) {ops : Array Oper} {rest : List Oper} {o : Oper} {a : Act} {Q : Exit → Act → World → Prop} (hgd : o.guard = none) (d s : Operand) (t t' : TypeId)
    (ho : o.op = .call { callee := .builtin .copy, args := #[d, s], argTypes := #[t, t'] }) (v u : Value) (hd : a.eval d = v) (hs : a.eval s = u) {v' : Value} {w' : World}
    (hr : (Builtin.copy_ #[t, t'] o.type #[v, u]).run P w = .ok v' w') (h : wpList P ops Q rest (a.put o.dst v') w') : wpList P ops Q (o :: rest) a w := by
  refine wpList_plain hgd fun _ hK => ?_
  unfold Oper.wp execOp
  simp only [ho, resolve, invoke, builtin, Sem.run_bind, Sem.run_pure, Result.andThen_ok, List.map_toArray, List.map_cons, List.map_nil, hd, hs, hr]
  exact hK _ _ h


set_option maxHeartbeats 4000000 in
set_option maxRecDepth 100000 in
theorem insert_in (g cap i : Nat) (xs : List Am) (x : Am) (vb base : Nat) (w : World) (hown : OwnAs w base (.slice (some ⟨g, 0, none⟩) xs.length cap) xs) (hl : xs.length ≤ 4096) (hb : base ≤ w.heap.size) (hx : BoxA w vb x) (hne : vb ≠ g) (hi : i < xs.length) (hroom : xs.length + 1 ≤ cap) (hc63 : cap ≤ 9223372036854775807) :
    Calls Try.prog 27 #[.slice (some ⟨g, 0, none⟩) xs.length cap, .int .i64 (i : Int), .slice (some ⟨vb, 0, none⟩) 1 1] w (InsPost (xs.take i ++ x :: xs.drop i) base w) := by
  obtain ⟨i0, hi0, hz0, hz1, hz3⟩ := info_parts infoA
  have hsz : (Try.prog.info? 27).map (·.size) = some 6 := by rw [hi0]; simp [hz1]
  have hsz10 : ∀ W, (Go.sizeOf 27).run Try.prog W = .ok 6 W := fun W => by simp [Go.sizeOf, typeInfo, hi0, hz1]
  have hown' := hown
  unfold OwnAs at hown'
  obtain ⟨hlen, h | ⟨g', cap', cur, e1, hbg, hg, hnc, hcm, hcs, htk⟩⟩ := hown'
  · cases h.1
  cases e1
  obtain ⟨P1, hP1⟩ : ∃ P1, (xs.take i).flatMap encA = P1 := ⟨_, rfl⟩
  obtain ⟨C1, hC1⟩ : ∃ C1, (xs.drop i).flatMap encA = C1 := ⟨_, rfl⟩
  obtain ⟨T, hT⟩ : ∃ T, cur.toList.drop (xs.length * 6) = T := ⟨_, rfl⟩
  have hPC : xs.flatMap encA = P1 ++ C1 := by rw [← hP1, ← hC1, ← List.flatMap_append, List.take_append_drop]
  have hPl : P1.length = i * 6 := by rw [← hP1, flatA_len, List.length_take]; omega
  have hCl : C1.length = (xs.length - i) * 6 := by rw [← hC1, flatA_len, List.length_drop]; omega
  have hcur : cur.toList = P1 ++ C1 ++ T := by rw [← hPC, ← htk, ← hT, List.take_append_drop]
  have hcl : cur.toList.length = cap * 6 := by simpa using hcs
  have hTl : T.length = cap * 6 - xs.length * 6 := by rw [← hT, List.length_drop, hcl]
  have h1C : ∀ v ∈ C1, v.oneCell' = true := by
    rw [← hC1]
    intro u hu
    obtain ⟨y, hy, hu2⟩ := List.mem_flatMap.1 hu
    simp [encA] at hu2
    rcases hu2 with rfl | rfl | rfl | rfl | rfl | rfl <;> rfl
  obtain ⟨W1, hW1⟩ : ∃ W1, w.drew.setRow g (splice cur.toList ((i + 1) * 6) C1).toArray = W1 := ⟨_, rfl⟩
  have hgd : w.drew.heap[g]? = some (.cells cur 27 (0, 0)) := hg
  have hg1 : W1.heap[g]? = some (.cells (splice cur.toList ((i + 1) * 6) C1).toArray 27 (0, 0)) := by rw [← hW1]; exact setRow_heap w.drew g _ _ 27 _ hgd
  have ho1 : ∀ b, b ≠ g → W1.heap[b]? = w.heap[b]? := fun b hb => by rw [← hW1]; exact setRow_other w.drew g b _ hb
  have hB1 : Below base w W1 := by rw [← hW1]; exact below_setRow (w0 := w) (w := w.drew) ⟨rfl, rfl, rfl, Nat.le_refl _, fun _ _ => rfl⟩ hbg _
  have hL1 : (splice cur.toList ((i + 1) * 6) C1).length = cap * 6 := by rw [length_splice _ _ _ (by rw [hcl, hCl]; omega), hcl]
  obtain ⟨row1, hr1⟩ : ∃ row1, splice cur.toList ((i + 1) * 6) C1 = row1 := ⟨_, rfl⟩
  obtain ⟨W2, hW2⟩ : ∃ W2, W1.setRow g (splice row1 (i * 6) (encA x)).toArray = W2 := ⟨_, rfl⟩
  have hcp1 : ∀ ty dc sc, (Builtin.copy_ #[22, 22] ty #[.slice (some ⟨g, (i + 1) * 6, none⟩) (xs.length - i) dc, .slice (some ⟨g, i * 6, none⟩) (xs.length + 1 - i) sc]).run Try.prog w.drew = .ok (goInt (xs.length - i : Nat)) W1 := fun ty dc sc => by
    have hm : Nat.min (xs.length + 1 - i) (xs.length - i) = xs.length - i := by simp only [Nat.min_def]; split <;> omega
    have := run_copy_rowN (P := Try.prog) w.drew 22 22 ty 27 6 g ((i + 1) * 6) (xs.length - i) dc ⟨g, i * 6, none⟩ (xs.length + 1 - i) sc cur 27 C1 Try.underlying22 hsz hgd (by rw [hm, hCl]) (fun j v hj => ?_) (by rw [hCl, hcs]; omega) h1C
    · rw [this, hm, ← hW1]; simp [splice]
    · have e : (⟨g, i * 6, none⟩ : Addr).add j = ⟨g, i * 6 + j, none⟩ := by unfold Addr.add; split <;> simp_all
      have hjl : j < C1.length := (List.getElem?_eq_some_iff.1 hj).1
      rw [e, show w.drew.cell? ⟨g, i * 6 + j, none⟩ = w.cell? ⟨g, i * 6 + j, none⟩ from rfl, World.ownsRow.cellAt hown (i * 6 + j) (by rw [hCl] at hjl; omega), hPC, List.getElem?_append_right (by omega), hPl, Nat.add_sub_cancel_left]
      exact hj
  have hx1 : BoxA W1 vb x := (ho1 vb hne).trans hx
  have hcp2 : ∀ ty dc, (Builtin.copy_ #[22, 22] ty #[.slice (some ⟨g, i * 6, none⟩) (xs.length + 1 - i) dc, .slice (some ⟨vb, 0, none⟩) 1 1]).run Try.prog W1 = .ok (goInt 1) W2 := fun ty dc => by
    have hm : Nat.min 1 (xs.length + 1 - i) = 1 := by simp only [Nat.min_def]; split <;> omega
    have := run_copy_rowN (P := Try.prog) W1 22 22 ty 27 6 g (i * 6) (xs.length + 1 - i) dc ⟨vb, 0, none⟩ 1 1 row1.toArray 27 (encA x) Try.underlying22 hsz (by rw [← hr1]; exact hg1) (by rw [hm]; rfl) (boxA_news hx1) (by rw [← hr1]; simp [encA] at hL1 ⊢; omega) (by simp [Value.oneCell', encA])
    rw [this, hm, ← hW2]; simp [splice]
  have hsa : w.shape? vb = some (27, 6) := by unfold World.shape?; rw [show w.heap[vb]? = _ from hx]; rfl
  have hsb : w.shape? g = some (27, cap * 6) := by unfold World.shape?; rw [hg, ← hcs]
  have hfa : w.frozen? ⟨vb, 0, none⟩ = false := by simp [World.frozen?, show w.heap[vb]? = _ from hx]
  have hfe : w.frozen? ⟨vb, 6, none⟩ = false := by simp [World.frozen?, show w.heap[vb]? = _ from hx]
  have hov : ∀ lb cb, (callFunc 40 #[.slice (some ⟨vb, 0, none⟩) 1 1, .slice (some ⟨g, (i + 1) * 6, none⟩) lb cb]).run Try.prog w = .ok (.value (.bool false)) w := fun lb cb => by
    rw [run_callFunc_extern Try.func40 (by kernel_rfl) (by kernel_rfl) (by kernel_rfl) (e := Extern.SlicesOverlaps.overlaps #[22, 22] #[4]) (by kernel_rfl),
      Lib.run_overlaps_apart w 22 4 27 Try.underlying22 6 hsz10 ⟨vb, 0, none⟩ ⟨g, (i + 1) * 6, none⟩ 1 1 lb cb hne 27 27 6 (cap * 6) hsa hsb (by omega) hfa hfe]
    rfl
  have HFIN := Lib.hid (show OwnAs W2 base (.slice (some ⟨g, 0, none⟩) (xs.length + 1) cap) (xs.take i ++ x :: xs.drop i) ∧ Below base w W2 from by
    have hyl : (xs.take i ++ x :: xs.drop i).length = xs.length + 1 := by simp; omega
    have hyf : (xs.take i ++ x :: xs.drop i).flatMap encA = P1 ++ (encA x ++ C1) := by rw [List.flatMap_append, List.flatMap_cons, hP1, hC1]
    have hL2 : (splice row1 (i * 6) (encA x)).length = cap * 6 := by rw [length_splice _ _ _ (by rw [← hr1, hL1]; simp [encA]; omega), ← hr1, hL1]
    refine ⟨?_, by rw [← hW2]; exact below_setRow hB1 hbg _⟩
    unfold OwnAs
    rw [hyl]
    refine ⟨by rw [flatA_len, hyl]; omega, .inr ⟨g, cap, (splice row1 (i * 6) (encA x)).toArray, rfl, hbg, by rw [← hW2]; exact setRow_heap W1 g _ _ 27 _ hg1, hroom, hcm, by simpa using hL2, ?_⟩⟩
    have := splice_ins cur.toList P1 C1 (encA x) T hcur (by rw [hTl]; simp [encA]; omega)
    rw [hyf, ← this, hPl, hCl, ← hr1]
    simp only [encA, List.length_cons, List.length_nil]
    rw [show (xs.length + 1) * 6 = i * 6 + (0 + 1 + 1 + 1 + 1 + 1 + 1) + (xs.length - i) * 6 by omega, show (i + 1) * 6 = i * 6 + (0 + 1 + 1 + 1 + 1 + 1 + 1) by omega])
  have hz2 : ((i : Int) == (xs.length : Int)) = false := by rw [beq_eq_false_iff_ne]; omega
  have hw1 : IntKind.i64.wrap ((i : Int) + 1) = (i : Int) + 1 := by rw [IntKind.wrap_i64]; omega
  have hw2 : IntKind.i64.wrap ((xs.length : Int) + 1) = (xs.length : Int) + 1 := by rw [IntKind.wrap_i64]; omega
  have hrm : decide ((cap : Int) < (xs.length : Int) + 1) = false := by rw [decide_eq_false_iff_not]; omega
  have hb1 : ¬ (cap = i) := by omega
  have hb2 : ¬ (cap = i + 1) := by omega
  have htn : ((i : Int) + 1).toNat = i + 1 := by omega
  have hb0 : (0 : Int) ≤ (i : Int) + 1 := by omega
  have hb3 : (i : Int) ≤ (xs.length : Int) + 1 := by omega
  have hb4 : (i : Int) + 1 ≤ (xs.length : Int) + 1 := by omega
  have hin : i ≤ xs.length := by omega
  have hin2 : i ≤ xs.length + 1 := by omega
  have hmix : Try.prog.follows .mixedOrders = true := by kernel_rfl
  clear hx hown hlen hg hcs htk hP1 hC1 hT hPC hPl hCl hcur hcl hTl h1C hW1 hgd hg1 ho1 hB1 hL1 hr1 hW2 hx1 hsa hsb hfa hfe hsz hsz10 hi0 hz0 hz1 hz3
  go_enter Try.func27, Try.ntmps27
  go_wp2_with (simp only [hov])
  go_region_law_o (refine step_copy_run rfl _ _ 22 22 rfl _ _ (by simp [Act.eval, Act.put]) (by simp [Act.eval, Act.put]) (hcp1 _ _ _) ?_)
  go_wp2_with (at_builtin; refine wpList_copy_run _ rfl _ _ 22 22 rfl _ _ rfl rfl (hcp2 _ _) ?_)
  go_ret
  exact ⟨_, rfl, HFIN.out⟩

end Go.Proofs.Ytcifhigeieoogaa
