/- The region of JournalSteps that counts the records. -/
import Derived.Test.YtkcnanclpkongaaL8b
namespace Go.Proofs.Ytkcnanclpkongaa
open Go.RowKit
set_option linter.unusedVariables false
set_option linter.unusedSimpArgs false
set_option maxRecDepth 20000

section
variable {P : Program} {ops : Array Oper} {Q : Exit → Act → World → Prop} {S : World → Prop} {K : Act → World → Prop} {a : Act} {w : World} {o : Oper}
theorem wanted_of {i j t : Nat} {b : Bool} (ho : ops[i]? = some o) (hg : (ops[i]?.bind (·.guard)) = some (j, b)) (hd : (ops[j]?.bind (·.dst)) = some t) (ht : t < a.tmps.size) (hv : a.eval (.tmp t) = .bool b) : Region.wanted o (yielded ops a.tmps) = true := by
  have h1 : a.tmps[t]? = some (.bool b) := by
    rw [Array.getElem?_eq_getElem ht]
    have : a.tmps.getD t undef = .bool b := hv
    rw [Array.getD, dif_pos ht] at this
    exact congrArg some this
  rw [ho] at hg
  have hg2 : o.guard = some (j, b) := hg
  unfold Region.wanted yielded
  rw [hg2]
  simp [hd, h1]
theorem wpOp_inW {i : Nat} (ho : ops[i]? = some o) (hw : Region.wanted o (yielded ops a.tmps) = true) (h : Oper.wp P o a w K Q) : wpOp P ops Q i K a w := by
  unfold wpOp
  simp only [ho]
  rw [if_pos hw]
  exact .inl h
theorem wpOp_made22 {i t : Nat} (ho : ops[i]? = some o) (hw : Region.wanted o (yielded ops a.tmps) = true) (hd : o.dst = some t) (hop : o.op = .buildSlice 22 0 #[])
    (h : K (a.put (some t) (.slice (some ⟨w.heap.size, 0, none⟩) 0 0)) (w.alloc (.cells #[] 35))) : wpOp Try.prog ops Q i K a w := by
  refine wpOp_inW ho hw ?_
  unfold Oper.wp execOp
  simp only [hop]
  go_simp
  simpa [Act.put] using h
theorem wpOp_app {i t : Nat} {R : Value → World → Prop} (ho : ops[i]? = some o) (hw : Region.wanted o (yielded ops a.tmps) = true) (hd : o.dst = some t) (s x : Operand) (T : TypeId) (v y : Value) (hop : o.op = .call { callee := .builtin .append, args := #[s, x], argTypes := #[T, T] })
    (hs : a.eval s = v) (hx : a.eval x = y) (hr : ∃ v' X', (Builtin.append_ #[T, T] o.type #[v, y]).run Try.prog w = .ok v' X' ∧ R v' X')
    (h : ∀ v' X', R v' X' → K (a.put (some t) v') X') : wpOp Try.prog ops Q i K a w :=
  wpOp_inW ho hw (wp_app s x T v y hop hs hx hr (by rw [hd]; exact h))
theorem wpOp_callW {i t : Nat} (ho : ops[i]? = some o) (hw : Region.wanted o (yielded ops a.tmps) = true) (hd : o.dst = some t) (fv : Operand) (xs : Array Operand) (ts : Array TypeId)
    (ho2 : o.op = .call { callee := .value fv, args := xs, argTypes := ts }) (g : FuncId) (hf : a.eval fv = .func (.func g) #[] #[]) (vals : Array Value) (hx : xs.map a.eval = vals)
    (eg : ∀ args w, (callFunc g args).run P w = .ok (.enter g args) w) {R : Ending → World → Prop} (hc : Calls P g vals w R) (hR : ∀ e w', R e w' → ∃ v, e = .returned v ∧ K (a.put (some t) v) w') : wpOp P ops Q i K a w := by
  have h := step_fnG (P := P) (X := w) (ops := ops) (o := o) (a := a) (K := K) (Q := Q) (E := False) t hd hw fv xs ts ho2 g #[] hf vals (by rw [hx]; simp) eg hc hR
  rw [if_pos hw] at h
  exact wpOp_inW ho hw h
theorem wpAnyU_made22 {i t e fuel : Nat} {L : Array Bool} (hr : Region.ready .any ops L = [i]) (ho : ops[i]? = some o) (hw : Region.wanted o (yielded ops a.tmps) = true) (hd : o.dst = some t) (hop : o.op = .buildSlice 22 0 #[])
    (h : S (w.alloc (.cells #[] 35)) ∧ wpAnyU Try.prog .any ops Q S e fuel (L.setIfInBounds i true) (a.put (some t) (.slice (some ⟨w.heap.size, 0, none⟩) 0 0)) (w.alloc (.cells #[] 35))) : wpAnyU Try.prog .any ops Q S e (fuel + 1) L a w :=
  wpAnyU_go1 hr (wpOp_made22 ho hw hd hop h)
theorem wpAnyU_app {i t e fuel : Nat} {L : Array Bool} {R : Value → World → Prop} (hr0 : Region.ready .any ops L = [i]) (ho : ops[i]? = some o) (hw : Region.wanted o (yielded ops a.tmps) = true) (hd : o.dst = some t) (s x : Operand) (T : TypeId) (v y : Value) (hop : o.op = .call { callee := .builtin .append, args := #[s, x], argTypes := #[T, T] })
    (hs : a.eval s = v) (hx : a.eval x = y) (hr : ∃ v' X', (Builtin.append_ #[T, T] o.type #[v, y]).run Try.prog w = .ok v' X' ∧ R v' X')
    (h : ∀ v' X', R v' X' → S X' ∧ wpAnyU Try.prog .any ops Q S e fuel (L.setIfInBounds i true) (a.put (some t) v') X') : wpAnyU Try.prog .any ops Q S e (fuel + 1) L a w :=
  wpAnyU_go1 hr0 (wpOp_app ho hw hd s x T v y hop hs hx hr h)
theorem wpAnyU_callW {i t e fuel : Nat} {L : Array Bool} (hr0 : Region.ready .any ops L = [i]) (ho : ops[i]? = some o) (hw : Region.wanted o (yielded ops a.tmps) = true) (hd : o.dst = some t) (fv : Operand) (xs : Array Operand) (ts : Array TypeId)
    (ho2 : o.op = .call { callee := .value fv, args := xs, argTypes := ts }) (g : FuncId) (hf : a.eval fv = .func (.func g) #[] #[]) (vals : Array Value) (hx : xs.map a.eval = vals)
    (eg : ∀ args w, (callFunc g args).run P w = .ok (.enter g args) w) {R : Ending → World → Prop} (hc : Calls P g vals w R) (hR : ∀ e' w', R e' w' → ∃ v, e' = .returned v ∧ (S w' ∧ wpAnyU P .any ops Q S e fuel (L.setIfInBounds i true) (a.put (some t) v) w')) : wpAnyU P .any ops Q S e (fuel + 1) L a w :=
  wpAnyU_go1 hr0 (wpOp_callW ho hw hd fv xs ts ho2 g hf vals hx eg hc hR)
theorem yi_moveW {x : Operand} {v : Value} (hw : Region.wanted o (yielded ops a.tmps) = true) (hop : o.op = .move x) (hv : a.eval x = v) : YieldsIf P ops S o v a :=
  .inl ⟨hw, fun w _ => by unfold execOp; simp only [hop, hv]; simp [go_sem]⟩
theorem yi_neq0 {x : Operand} (hg : o.guard = none) (hop : o.op = .binOp .neq 30 x (.const (.int .i64 0)) 30) (hv : a.eval x = .int .i64 0) : YieldsIf Try.prog ops S o (.bool false) a :=
  .inl ⟨by simp [Region.wanted, hg], fun w _ => by unfold execOp; simp only [hop, hv]; go_simp⟩
theorem yi_not {x : Operand} {b : Bool} (hw : Region.wanted o (yielded ops a.tmps) = true) (hop : o.op = .unOp .not 4 x) (hv : a.eval x = .bool b) : YieldsIf Try.prog ops S o (.bool (!b)) a :=
  .inl ⟨hw, fun w _ => by unfold execOp; simp only [hop, hv]; go_simp⟩
theorem yi_pickF {x y z : Operand} {v : Value} (hg : o.guard = none) (hop : o.op = .pick x y z) (hv : a.eval x = .bool false) (hz : a.eval z = v) : YieldsIf Try.prog ops S o v a :=
  .inl ⟨by simp [Region.wanted, hg], fun w _ => by unfold execOp; simp only [hop, hv, hz]; go_simp⟩
theorem yi_load25W {x : Operand} {B : Nat} {A A2 : Option Addr} {n c n2 c2 : Nat} {l : Int} {t : Bool} (hw : Region.wanted o (yielded ops a.tmps) = true) (hop : o.op = .load 25 x) (hx : a.eval x = .pointer (some ⟨B, 0, none⟩)) (hS : ∀ w, S w → Cells w B 25 [.slice A n c, .slice A2 n2 c2, .int .i64 l, .bool t]) :
    YieldsIf Try.prog ops S o (.agg #[.slice A n c, .slice A2 n2 c2, .int .i64 l, .bool t]) a :=
  .inl ⟨hw, fun w hw => by
    have hC := hS w hw
    have z0 := hC.cell (k := 0) rfl
    have z1 := hC.cell (k := 1) rfl
    have z2 := hC.cell (k := 2) rfl
    have z3 := hC.cell (k := 3) rfl
    have hl := hC.lt
    unfold execOp
    simp only [hop, hx]
    go_simp⟩
end
set_option maxHeartbeats 4000000 in
set_option maxRecDepth 100000 in
theorem steps_reg4 {Q : Exit → Act → World → Prop} {a : Act} {W : World} {u0 u1 : Value} {BD : Nat} {A5 A6 : Option Addr} {c5 c6 : Nat} {ra rb ss : List By}
    (hsz : a.tmps.size = 154) (e6 : a.eval (.tmp 6) = .int .i64 0) (eD : a.eval (.tmp 5) = .pointer (some ⟨BD, 0, none⟩)) (e0 : a.eval (.tmp 0) = u0) (e1 : a.eval (.tmp 1) = u1)
    (zD : Cells W BD 25 [.slice A5 ss.length c5, .slice A6 0 c6, .int .i64 (-1), .bool false]) (hd : IsD W (.agg #[.slice A5 ss.length c5, .slice A6 0 c6, .int .i64 (-1), .bool false]) ⟨ss, [], -1, false⟩) (hu0 : IsBs W u0 ra) (hu1 : IsBs W u1 rb) (hl : ra.length + rb.length ≤ 1000000000) (hss : ss.length ≤ 4096)
    (hN : ∀ (X : World) (v36 v38 v40 : Value) (fb : Bool), Below W.heap.size W X → Q .normal ((((((((((((a.put (some 32) (.int .i64 0)).put (some 33) (.bool false)).put (some 34) (.bool false)).put (some 35) ((.agg #[.slice A5 ss.length c5, .slice A6 0 c6, .int .i64 (-1), .bool false]))).put (some 37) (u0)).put (some 39) (u1)).put (some 36) (v36)).put (some 38) (v38)).put (some 40) (v40)).put (some 41) (.bool fb)).put (some 42) (.bool (!fb))).put (some 43) (.bool (!fb))) X) :
    (Code.region 4 (sops 4) true).wp Try.prog Q a W := by
  have hb0 : Below W.heap.size W W.drew := below_drewN (Below.refl _ W) 1
  have hsize : (sops 4).size = 12 := by kernel_rfl
  refine wp_region_noPanic ?_
  refine wp_region_U 9 (fun X => Below W.heap.size W X) (by kernel_rfl) ?_
  rw [hsize]
  refine wpAnyU_at (L' := #[false, false, false, false, false, false, false, false, false, false, false, false]) (by kernel_rfl) ?_
  refine wpAnyU_take0D (i := 0) (v := .int .i64 0) 32 rfl rfl (by kernel_rfl) (by kernel_rfl) (by kernel_rfl) (by kernel_rfl) (fun _ _ _ h => h) (yi_move rfl rfl (e6)) (fun _ => hb0) ?_
  refine wpAnyU_at (L' := #[true, false, false, false, false, false, false, false, false, false, false, false]) (by kernel_rfl) ?_
  refine wpAnyU_take0D (i := 1) (v := .bool false) 33 rfl rfl (by kernel_rfl) (by kernel_rfl) (by kernel_rfl) (by kernel_rfl) (fun _ _ _ h => h) (yi_neq0 rfl rfl ((ev_eq (by simp only [put_sz, hsz]; decide)))) (fun _ => hb0) ?_
  refine wpAnyU_at (L' := #[true, true, false, false, false, false, false, false, false, false, false, false]) (by kernel_rfl) ?_
  refine wpAnyU_take0D (i := 2) (v := .bool false) 34 rfl rfl (by kernel_rfl) (by kernel_rfl) (by kernel_rfl) (by kernel_rfl) (fun _ _ _ h => h) (yi_move rfl rfl ((ev_eq (by simp only [put_sz, hsz]; decide)))) (fun _ => hb0) ?_
  refine wpAnyU_at (L' := #[true, true, true, false, false, false, false, false, false, false, false, false]) (by kernel_rfl) ?_
  refine wpAnyU_takeD (i := 3) (v := (.agg #[.slice A5 ss.length c5, .slice A6 0 c6, .int .i64 (-1), .bool false])) 35 rfl rfl (by kernel_rfl) (by kernel_rfl) (by kernel_rfl) (by kernel_rfl) (by kernel_rfl) (by kernel_rfl) (fun _ _ _ h => h) (yi_load25W (wanted_of (i := 3) (j := 2) (t := 34) (b := false) rfl (by kernel_rfl) (by kernel_rfl) (by simp only [put_sz, hsz]; decide) ((ev_eq (by simp only [put_sz, hsz]; decide)))) rfl ((ev_ne (by decide)).trans ((ev_ne (by decide)).trans ((ev_ne (by decide)).trans (eD)))) (fun X hX => zD.upb hX)) hb0 ?_
  refine wpAnyU_at (L' := #[true, true, true, true, false, false, false, false, false, false, false, false]) (by kernel_rfl) ?_
  refine wpAnyU_take0D (i := 5) (v := u0) 37 rfl rfl (by kernel_rfl) (by kernel_rfl) (by kernel_rfl) (by kernel_rfl) (fun _ _ _ h => h) (yi_moveW (wanted_of (i := 5) (j := 2) (t := 34) (b := false) rfl (by kernel_rfl) (by kernel_rfl) (by simp only [put_sz, hsz]; decide) ((ev_ne (by decide)).trans ((ev_eq (by simp only [put_sz, hsz]; decide))))) rfl ((ev_ne (by decide)).trans ((ev_ne (by decide)).trans ((ev_ne (by decide)).trans ((ev_ne (by decide)).trans (e0)))))) (fun _ => hb0) ?_
  refine wpAnyU_at (L' := #[true, true, true, true, false, true, false, false, false, false, false, false]) (by kernel_rfl) ?_
  refine wpAnyU_take0D (i := 7) (v := u1) 39 rfl rfl (by kernel_rfl) (by kernel_rfl) (by kernel_rfl) (by kernel_rfl) (fun _ _ _ h => h) (yi_moveW (wanted_of (i := 7) (j := 2) (t := 34) (b := false) rfl (by kernel_rfl) (by kernel_rfl) (by simp only [put_sz, hsz]; decide) ((ev_ne (by decide)).trans ((ev_ne (by decide)).trans ((ev_eq (by simp only [put_sz, hsz]; decide)))))) rfl ((ev_ne (by decide)).trans ((ev_ne (by decide)).trans ((ev_ne (by decide)).trans ((ev_ne (by decide)).trans ((ev_ne (by decide)).trans (e1))))))) (fun _ => hb0) ?_
  refine wpAnyU_at (L' := #[true, true, true, true, false, true, false, true, false, false, false, false]) (by kernel_rfl) ?_
  have hal := al1 W.drew (.cells #[] 35)
  refine wpAnyU_made22 (i := 4) (t := 36) (by kernel_rfl) rfl (wanted_of (i := 4) (j := 2) (t := 34) (b := false) rfl (by kernel_rfl) (by kernel_rfl) (by simp only [put_sz, hsz]; decide) ((ev_ne (by decide)).trans ((ev_ne (by decide)).trans ((ev_ne (by decide)).trans ((ev_eq (by simp only [put_sz, hsz]; decide))))))) rfl rfl ?_
  refine ⟨hb0.up hal, ?_⟩
  refine wpAnyU_at (L' := #[true, true, true, true, true, true, false, true, false, false, false, false]) (by kernel_rfl) ?_
  have r1 := appS_is (w := W.drew) (X := W.drew.alloc (.cells #[] 35)) 22 hal (hu0.upb hb0) (ownS_made W.drew) (show ([] : List By).length + ra.length ≤ 1000000000 by simp only [List.length_nil]; omega)
  have e1' : (((((((a.put (some 32) (.int .i64 0)).put (some 33) (.bool false)).put (some 34) (.bool false)).put (some 35) ((.agg #[.slice A5 ss.length c5, .slice A6 0 c6, .int .i64 (-1), .bool false]))).put (some 37) (u0)).put (some 39) (u1)).put (some 36) ((.slice (some ⟨W.drew.heap.size, 0, none⟩) 0 0))).eval (.tmp 36) = (.slice (some ⟨W.drew.heap.size, 0, none⟩) 0 0) := (ev_eq (by simp only [put_sz, hsz]; decide))
  have e2' : (((((((a.put (some 32) (.int .i64 0)).put (some 33) (.bool false)).put (some 34) (.bool false)).put (some 35) ((.agg #[.slice A5 ss.length c5, .slice A6 0 c6, .int .i64 (-1), .bool false]))).put (some 37) (u0)).put (some 39) (u1)).put (some 36) ((.slice (some ⟨W.drew.heap.size, 0, none⟩) 0 0))).eval (.tmp 37) = u0 := (ev_ne (by decide)).trans ((ev_ne (by decide)).trans ((ev_eq (by simp only [put_sz, hsz]; decide))))
  refine wpAnyU_app (i := 6) (t := 38) (by kernel_rfl) rfl (wanted_of (i := 6) (j := 2) (t := 34) (b := false) rfl (by kernel_rfl) (by kernel_rfl) (by simp only [put_sz, hsz]; decide) ((ev_ne (by decide)).trans ((ev_ne (by decide)).trans ((ev_ne (by decide)).trans ((ev_ne (by decide)).trans ((ev_eq (by simp only [put_sz, hsz]; decide)))))))) rfl (.tmp 36) (.tmp 37) 22 (.slice (some ⟨W.drew.heap.size, 0, none⟩) 0 0) u0 rfl e1' e2' r1 ?_
  rintro v38 X1 ⟨ho1, hg1, -⟩
  rw [List.nil_append] at ho1
  have hb1 : Below W.drew.heap.size W.drew X1 := app_below hal hg1 ownBlk
  refine ⟨hb0.up hb1, ?_⟩
  refine wpAnyU_at (L' := #[true, true, true, true, true, true, true, true, false, false, false, false]) (by kernel_rfl) ?_
  have r2 := appS_is (w := W.drew) (X := X1) 22 hb1 (hu1.upb hb0) ho1 hl
  have e3' : ((((((((a.put (some 32) (.int .i64 0)).put (some 33) (.bool false)).put (some 34) (.bool false)).put (some 35) ((.agg #[.slice A5 ss.length c5, .slice A6 0 c6, .int .i64 (-1), .bool false]))).put (some 37) (u0)).put (some 39) (u1)).put (some 36) ((.slice (some ⟨W.drew.heap.size, 0, none⟩) 0 0))).put (some 38) (v38)).eval (.tmp 38) = v38 := (ev_eq (by simp only [put_sz, hsz]; decide))
  have e4' : ((((((((a.put (some 32) (.int .i64 0)).put (some 33) (.bool false)).put (some 34) (.bool false)).put (some 35) ((.agg #[.slice A5 ss.length c5, .slice A6 0 c6, .int .i64 (-1), .bool false]))).put (some 37) (u0)).put (some 39) (u1)).put (some 36) ((.slice (some ⟨W.drew.heap.size, 0, none⟩) 0 0))).put (some 38) (v38)).eval (.tmp 39) = u1 := (ev_ne (by decide)).trans ((ev_ne (by decide)).trans ((ev_eq (by simp only [put_sz, hsz]; decide))))
  refine wpAnyU_app (i := 8) (t := 40) (by kernel_rfl) rfl (wanted_of (i := 8) (j := 2) (t := 34) (b := false) rfl (by kernel_rfl) (by kernel_rfl) (by simp only [put_sz, hsz]; decide) ((ev_ne (by decide)).trans ((ev_ne (by decide)).trans ((ev_ne (by decide)).trans ((ev_ne (by decide)).trans ((ev_ne (by decide)).trans ((ev_eq (by simp only [put_sz, hsz]; decide))))))))) rfl (.tmp 38) (.tmp 39) 22 v38 u1 rfl e3' e4' r2 ?_
  rintro v40 X2 ⟨ho2, hg2, -⟩
  have hb2 : Below W.drew.heap.size W.drew X2 := app_below hb1 hg2 ho1.lt'
  refine ⟨hb0.up hb2, ?_⟩
  refine wpAnyU_at (L' := #[true, true, true, true, true, true, true, true, true, false, false, false]) (by kernel_rfl) ?_
  have q1 : (((((((((a.put (some 32) (.int .i64 0)).put (some 33) (.bool false)).put (some 34) (.bool false)).put (some 35) ((.agg #[.slice A5 ss.length c5, .slice A6 0 c6, .int .i64 (-1), .bool false]))).put (some 37) (u0)).put (some 39) (u1)).put (some 36) ((.slice (some ⟨W.drew.heap.size, 0, none⟩) 0 0))).put (some 38) (v38)).put (some 40) (v40)).eval (.tmp 35) = (.agg #[.slice A5 ss.length c5, .slice A6 0 c6, .int .i64 (-1), .bool false]) := (ev_ne (by decide)).trans ((ev_ne (by decide)).trans ((ev_ne (by decide)).trans ((ev_ne (by decide)).trans ((ev_ne (by decide)).trans ((ev_eq (by simp only [put_sz, hsz]; decide)))))))
  have q2 : (((((((((a.put (some 32) (.int .i64 0)).put (some 33) (.bool false)).put (some 34) (.bool false)).put (some 35) ((.agg #[.slice A5 ss.length c5, .slice A6 0 c6, .int .i64 (-1), .bool false]))).put (some 37) (u0)).put (some 39) (u1)).put (some 36) ((.slice (some ⟨W.drew.heap.size, 0, none⟩) 0 0))).put (some 38) (v38)).put (some 40) (v40)).eval (.tmp 40) = v40 := (ev_eq (by simp only [put_sz, hsz]; decide))
  refine wpAnyU_callW (i := 9) (t := 41) (by kernel_rfl) rfl (wanted_of (i := 9) (j := 2) (t := 34) (b := false) rfl (by kernel_rfl) (by kernel_rfl) (by simp only [put_sz, hsz]; decide) ((ev_ne (by decide)).trans ((ev_ne (by decide)).trans ((ev_ne (by decide)).trans ((ev_ne (by decide)).trans ((ev_ne (by decide)).trans ((ev_ne (by decide)).trans ((ev_eq (by simp only [put_sz, hsz]; decide)))))))))) rfl (.func 11) #[.tmp 35, .tmp 40] _ rfl 11 rfl #[(.agg #[.slice A5 ss.length c5, .slice A6 0 c6, .int .i64 (-1), .bool false]), v40] (by simp only [List.map_toArray, List.map_cons, List.map_nil]; rw [q1, q2]) (enters_of Try.func11 (by kernel_rfl) rfl) (few_any (hd.upb (hb0.up hb2)) ho2.is (by rw [List.length_append]; omega) (by simp only; omega) (Nat.zero_le _)) ?_
  rintro e X3 ⟨rfl, hb3⟩
  clear q1 q2
  obtain ⟨fb, hfb⟩ : ∃ b, Jn.fewB ⟨ss, [], -1, false⟩ (ra ++ rb) = b := ⟨_, rfl⟩
  rw [hfb]
  refine ⟨_, rfl, (hb0.up hb2).up hb3, ?_⟩
  refine wpAnyU_at (L' := #[true, true, true, true, true, true, true, true, true, true, false, false]) (by kernel_rfl) ?_
  refine wpAnyU_take0D (i := 10) (v := .bool (!fb)) 42 rfl rfl (by kernel_rfl) (by kernel_rfl) (by kernel_rfl) (by kernel_rfl) (fun _ _ _ h => h) (yi_not (wanted_of (i := 10) (j := 2) (t := 34) (b := false) rfl (by kernel_rfl) (by kernel_rfl) (by simp only [put_sz, hsz]; decide) ((ev_ne (by decide)).trans ((ev_ne (by decide)).trans ((ev_ne (by decide)).trans ((ev_ne (by decide)).trans ((ev_ne (by decide)).trans ((ev_ne (by decide)).trans ((ev_ne (by decide)).trans ((ev_eq (by simp only [put_sz, hsz]; decide))))))))))) rfl ((ev_eq (by simp only [put_sz, hsz]; decide)))) (fun _ => ((hb0.up hb2).up hb3)) ?_
  refine wpAnyU_at (L' := #[true, true, true, true, true, true, true, true, true, true, true, false]) (by kernel_rfl) ?_
  refine wpAnyU_yield (i := 11) (v := .bool (!fb)) 43 (by kernel_rfl) rfl rfl (yi_pickF rfl rfl ((ev_ne (by decide)).trans ((ev_ne (by decide)).trans ((ev_ne (by decide)).trans ((ev_ne (by decide)).trans ((ev_ne (by decide)).trans ((ev_ne (by decide)).trans ((ev_ne (by decide)).trans ((ev_ne (by decide)).trans ((ev_eq (by simp only [put_sz, hsz]; decide))))))))))) ((ev_eq (by simp only [put_sz, hsz]; decide)))) ((hb0.up hb2).up hb3) ?_
  refine wpAnyU_done (by kernel_rfl) (NoPanic.normal ?_) _
  exact hN _ _ v38 v40 fb ((hb0.up hb2).up hb3)
end Go.Proofs.Ytkcnanclpkongaa
