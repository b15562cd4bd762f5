/- Steps of a drawn region on a frame that is not laid open: moves, loads, calls, boxes that are made in any order, stores. -/
import Derived.Test.YtkcnanclpkongaaL8a
namespace Go.Proofs.Ytkcnanclpkongaa
open Go.RowKit
set_option linter.unusedVariables false
set_option linter.unusedSimpArgs false
set_option maxRecDepth 20000

section
variable {P : Program} {ops : Array Oper} {Q : Exit → Act → World → Prop} {S : World → Prop} {K : Act → World → Prop} {a : Act} {w : World} {o : Oper}
theorem ev_eq {t : Nat} {v : Value} (h : t < a.tmps.size) : (a.put (some t) v).eval (.tmp t) = v := by
  simp [Act.eval, Act.put, h]
theorem ev_ne {t s : Nat} {v : Value} (h : t ≠ s) : (a.put (some t) v).eval (.tmp s) = a.eval (.tmp s) := by
  simp [Act.eval, Act.put, Array.getElem?_setIfInBounds, h]
theorem put_sz {d : Option Tmp} {v : Value} : (a.put d v).tmps.size = a.tmps.size := by
  cases d <;> simp [Act.put]
theorem put_comm {s t : Nat} {u v : Value} (h : s ≠ t) : (a.put (some s) u).put (some t) v = (a.put (some t) v).put (some s) u := by
  simp only [Act.put, Array.setIfInBounds_comm _ _ h]
theorem wpOp_in {i : Nat} (ho : ops[i]? = some o) (hg : o.guard = none) (h : Oper.wp P o a w K Q) : wpOp P ops Q i K a w := by
  unfold wpOp
  simp only [ho]
  rw [if_pos (by simp [Region.wanted, hg])]
  exact .inl h
theorem wpOp_alloc29 {i t : Nat} (ho : ops[i]? = some o) (hg : o.guard = none) (hd : o.dst = some t) (hop : o.op = .alloc 29)
    (h : K (a.put (some t) (.pointer (some ⟨w.heap.size, 0, none⟩))) (w.alloc (.cells #[.slice none 0 0, .int .i64 0, .int .i64 0] 29))) : wpOp Try.prog ops Q i K a w := by
  refine wpOp_in ho hg ?_
  unfold Oper.wp execOp
  simp only [hop]
  go_simp
  simpa [Act.put] using h
theorem wpOp_alloc25 {i t : Nat} (ho : ops[i]? = some o) (hg : o.guard = none) (hd : o.dst = some t) (hop : o.op = .alloc 25)
    (h : K (a.put (some t) (.pointer (some ⟨w.heap.size, 0, none⟩))) (w.alloc (.cells #[.slice none 0 0, .slice none 0 0, .int .i64 0, .bool false] 25))) : wpOp Try.prog ops Q i K a w := by
  refine wpOp_in ho hg ?_
  unfold Oper.wp execOp
  simp only [hop]
  go_simp
  simpa [Act.put] using h
theorem wpOp_store29 {i : Nat} {p x : Operand} {B : Nat} {A A' : Option Addr} {n c n' c' : Nat} {m s m' s' : Int} (ho : ops[i]? = some o) (hg : o.guard = none) (hd : o.dst = none) (hop : o.op = .store 29 p x)
    (hp : a.eval p = .pointer (some ⟨B, 0, none⟩)) (hx : a.eval x = .agg #[.slice A n c, .int .i64 m, .int .i64 s]) (hC : Cells w B 29 [.slice A' n' c', .int .i64 m', .int .i64 s'])
    (h : K a (set3 w B (.slice A n c) (.int .i64 m) (.int .i64 s))) : wpOp Try.prog ops Q i K a w := by
  refine wpOp_in ho hg ?_
  have z0 := hC.cell (k := 0) rfl
  have z1 := hC.cell (k := 1) rfl
  have z2 := hC.cell (k := 2) rfl
  have f0 := hC.frozen 0
  have f1 := hC.frozen 1
  have f2 := hC.frozen 2
  have hl := hC.lt
  unfold set3 at h
  unfold Oper.wp execOp
  simp only [hop, hp, hx]
  go_simp
  simpa [hd, Act.put] using h
theorem wpOp_store25 {i : Nat} {p x : Operand} {B : Nat} {A A' A2 A2' : Option Addr} {n c n' c' n2 c2 n2' c2' : Nat} {l l' : Int} {t t' : Bool} (ho : ops[i]? = some o) (hg : o.guard = none) (hd : o.dst = none) (hop : o.op = .store 25 p x)
    (hp : a.eval p = .pointer (some ⟨B, 0, none⟩)) (hx : a.eval x = .agg #[.slice A n c, .slice A2 n2 c2, .int .i64 l, .bool t]) (hC : Cells w B 25 [.slice A' n' c', .slice A2' n2' c2', .int .i64 l', .bool t'])
    (h : K a (set4 w B (.slice A n c) (.slice A2 n2 c2) (.int .i64 l) (.bool t))) : wpOp Try.prog ops Q i K a w := by
  refine wpOp_in ho hg ?_
  have z0 := hC.cell (k := 0) rfl
  have z1 := hC.cell (k := 1) rfl
  have z2 := hC.cell (k := 2) rfl
  have z3 := hC.cell (k := 3) rfl
  have f0 := hC.frozen 0
  have f1 := hC.frozen 1
  have f2 := hC.frozen 2
  have f3 := hC.frozen 3
  have hl := hC.lt
  unfold set4 at h
  unfold Oper.wp execOp
  simp only [hop, hp, hx]
  go_simp
  simpa [hd, Act.put] using h
theorem yi_move {x : Operand} {v : Value} (hg : o.guard = none) (hop : o.op = .move x) (hv : a.eval x = v) : YieldsIf P ops S o v a :=
  .inl ⟨by simp [Region.wanted, hg], fun w _ => by unfold execOp; simp only [hop, hv]; simp [go_sem]⟩
theorem yi_assign {x : Operand} {v : Value} (hg : o.guard = none) (hop : o.op = .assign x) (hv : a.eval x = v) : YieldsIf P ops S o v a :=
  .inl ⟨by simp [Region.wanted, hg], fun w _ => by unfold execOp; simp only [hop, hv]; simp [go_sem]⟩
theorem yi_ext {x : Operand} {k : Nat} {vs : Array Value} {v : Value} (hg : o.guard = none) (hop : o.op = .extract x k) (hx : a.eval x = .tuple vs) (hv : vs[k]? = some v) : YieldsIf P ops S o v a :=
  .inl ⟨by simp [Region.wanted, hg], fun w _ => by unfold execOp; simp only [hop, hx]; simp [go_sem, hv]⟩
theorem yi_load29 {x : Operand} {B : Nat} {A : Option Addr} {n c : Nat} {m s : Int} (hg : o.guard = none) (hop : o.op = .load 29 x) (hx : a.eval x = .pointer (some ⟨B, 0, none⟩)) (hS : ∀ w, S w → Cells w B 29 [.slice A n c, .int .i64 m, .int .i64 s]) :
    YieldsIf Try.prog ops S o (.agg #[.slice A n c, .int .i64 m, .int .i64 s]) a :=
  .inl ⟨by simp [Region.wanted, hg], fun w hw => by
    have hC := hS w hw
    have z0 := hC.cell (k := 0) rfl
    have z1 := hC.cell (k := 1) rfl
    have z2 := hC.cell (k := 2) rfl
    have hl := hC.lt
    unfold execOp
    simp only [hop, hx]
    go_simp⟩
theorem yi_load25 {x : Operand} {B : Nat} {A A2 : Option Addr} {n c n2 c2 : Nat} {l : Int} {t : Bool} (hg : o.guard = none) (hop : o.op = .load 25 x) (hx : a.eval x = .pointer (some ⟨B, 0, none⟩)) (hS : ∀ w, S w → Cells w B 25 [.slice A n c, .slice A2 n2 c2, .int .i64 l, .bool t]) :
    YieldsIf Try.prog ops S o (.agg #[.slice A n c, .slice A2 n2 c2, .int .i64 l, .bool t]) a :=
  .inl ⟨by simp [Region.wanted, hg], fun w hw => by
    have hC := hS w hw
    have z0 := hC.cell (k := 0) rfl
    have z1 := hC.cell (k := 1) rfl
    have z2 := hC.cell (k := 2) rfl
    have z3 := hC.cell (k := 3) rfl
    have hl := hC.lt
    unfold execOp
    simp only [hop, hx]
    go_simp⟩
theorem wpOp_call {i t : Nat} (ho : ops[i]? = some o) (hg : o.guard = none) (hd : o.dst = some t) (fv : Operand) (xs : Array Operand) (ts : Array TypeId)
    (ho2 : o.op = .call { callee := .value fv, args := xs, argTypes := ts }) (g : FuncId) (hf : a.eval fv = .func (.func g) #[] #[]) (vals : Array Value) (hx : xs.map a.eval = vals)
    (eg : ∀ args w, (callFunc g args).run P w = .ok (.enter g args) w) {R : Ending → World → Prop} (hc : Calls P g vals w R) (hR : ∀ e w', R e w' → ∃ v, e = .returned v ∧ K (a.put (some t) v) w') : wpOp P ops Q i K a w := by
  have h := step_fnG (P := P) (X := w) (ops := ops) (o := o) (a := a) (K := K) (Q := Q) (E := False) t hd (by simp [Region.wanted, hg]) fv xs ts ho2 g #[] hf vals (by rw [hx]; simp) eg hc hR
  rw [if_pos (by simp [Region.wanted, hg])] at h
  exact wpOp_in ho hg h
theorem wpAnyU_at {e fuel : Nat} {L L' : Array Bool} (h : L = L') (h1 : wpAnyU P .any ops Q S e fuel L' a w) : wpAnyU P .any ops Q S e fuel L a w := by rw [h]; exact h1
theorem wpAnyU_go1 {i e fuel : Nat} {L : Array Bool} (hr : Region.ready .any ops L = [i])
    (h1 : wpOp P ops Q i (fun a' w' => S w' ∧ wpAnyU P .any ops Q S e fuel (L.setIfInBounds i true) a' w') a w) : wpAnyU P .any ops Q S e (fuel + 1) L a w :=
  ⟨fun h0 => (by rw [h0] at hr; cases hr), fun j hj => by
    rw [hr] at hj
    obtain rfl : j = i := by simpa using hj
    exact wpOp_mono (fun a' w' h => ⟨fun _ => h.1, h.2⟩) h1⟩
theorem wpAnyU_go2 {i i2 e fuel : Nat} {L : Array Bool} (hr : Region.ready .any ops L = [i, i2])
    (h1 : wpOp P ops Q i (fun a' w' => S w' ∧ wpAnyU P .any ops Q S e fuel (L.setIfInBounds i true) a' w') a w)
    (h2 : wpOp P ops Q i2 (fun a' w' => S w' ∧ wpAnyU P .any ops Q S e fuel (L.setIfInBounds i2 true) a' w') a w) : wpAnyU P .any ops Q S e (fuel + 1) L a w :=
  ⟨fun h0 => (by rw [h0] at hr; cases hr), fun j hj => by
    rw [hr] at hj
    have hj2 : j = i ∨ j = i2 := by simpa using hj
    rcases hj2 with rfl | rfl
    · exact wpOp_mono (fun a' w' h => ⟨fun _ => h.1, h.2⟩) h1
    · exact wpOp_mono (fun a' w' h => ⟨fun _ => h.1, h.2⟩) h2⟩
theorem wpAnyU_go3 {i i2 i3 e fuel : Nat} {L : Array Bool} (hr : Region.ready .any ops L = [i, i2, i3])
    (h1 : wpOp P ops Q i (fun a' w' => S w' ∧ wpAnyU P .any ops Q S e fuel (L.setIfInBounds i true) a' w') a w)
    (h2 : wpOp P ops Q i2 (fun a' w' => S w' ∧ wpAnyU P .any ops Q S e fuel (L.setIfInBounds i2 true) a' w') a w)
    (h3 : wpOp P ops Q i3 (fun a' w' => S w' ∧ wpAnyU P .any ops Q S e fuel (L.setIfInBounds i3 true) a' w') a w) : wpAnyU P .any ops Q S e (fuel + 1) L a w :=
  ⟨fun h0 => (by rw [h0] at hr; cases hr), fun j hj => by
    rw [hr] at hj
    have hj2 : j = i ∨ j = i2 ∨ j = i3 := by simpa using hj
    rcases hj2 with rfl | rfl | rfl
    · exact wpOp_mono (fun a' w' h => ⟨fun _ => h.1, h.2⟩) h1
    · exact wpOp_mono (fun a' w' h => ⟨fun _ => h.1, h.2⟩) h2
    · exact wpOp_mono (fun a' w' h => ⟨fun _ => h.1, h.2⟩) h3⟩
end
end Go.Proofs.Ytkcnanclpkongaa
