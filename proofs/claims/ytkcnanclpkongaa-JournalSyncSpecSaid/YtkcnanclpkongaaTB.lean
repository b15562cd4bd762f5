/- Walk of DiskNewSpec. Walk of the statements' examples. -/
import Derived.Test.YtkcnanclpkongaaTA
import Derived.Test.YtkcnanclpkongaaWE
import Derived.Deep.Cut
namespace Go.Proofs.Ytkcnanclpkongaa
section
open Go.RowKit
set_option linter.unusedVariables false
set_option linter.unusedSimpArgs false
set_option maxRecDepth 20000

section
variable {P : Program} {ops : Array Oper} {Q : Exit → Act → World → Prop} {md : Region.Mode} {S : World → Prop}
theorem wpAnyU_two {i j e : Nat} {o o' : Oper} {fuel : Nat} {listed : Array Bool} {a : Act} {w : World} (hr : Region.ready md ops listed = [i, j]) (ho : ops[i]? = some o) (ho' : ops[j]? = some o')
    (h : ∀ K' : Act → World → Prop, Shut (∀ a w, ((listed.setIfInBounds i true).getD e true = false → S w) → (((listed.setIfInBounds i true).getD e true = false → S w) → wpAnyU P md ops Q S e fuel (listed.setIfInBounds i true) a w) → K' a w) → if Region.wanted o (yielded ops a.tmps) = true then Oper.wp P o a w K' Q else K' (a.put o.dst undef) w)
    (h' : ∀ K' : Act → World → Prop, Shut (∀ a w, ((listed.setIfInBounds j true).getD e true = false → S w) → (((listed.setIfInBounds j true).getD e true = false → S w) → wpAnyU P md ops Q S e fuel (listed.setIfInBounds j true) a w) → K' a w) → if Region.wanted o' (yielded ops a.tmps) = true then Oper.wp P o' a w K' Q else K' (a.put o'.dst undef) w) :
    wpAnyU P md ops Q S e (fuel + 1) listed a w := by
  refine ⟨fun h0 => (by rw [h0] at hr; cases hr), fun k hk => ?_⟩
  rw [hr] at hk
  have hk2 : k = i ∨ k = j := by simpa using hk
  rcases hk2 with rfl | rfl
  · exact wpOp_step ho (fun K' hK => h K' (fun a w hS hW => hK a w ⟨hS, hW hS⟩))
  · exact wpOp_step ho' (fun K' hK => h' K' (fun a w hS hW => hK a w ⟨hS, hW hS⟩))
end
section
variable {P : Program} {ops : Array Oper} {Q : Exit → Act → World → Prop} {md : Region.Mode} {S : World → Prop}
theorem wpAnyU_takeD {i e : Nat} {oi : Oper} {v : Value} {fuel : Nat} {listed : Array Bool} {a : Act} {w : World} (t : Nat) (hi : ops[i]? = some oi) (hd : oi.dst = some t)
    (hs : Region.noSelect ops = true) (hf : Region.free md ops listed i = true) (hr : (Region.ready md ops listed).contains i = true) (hie : (i != e) = true) (hw : Region.waitsFor md ops e i = true) (hle : listed.getD e true = false)
    (hQ : ∀ c a w, Q (.panic c) (a.put (some t) v) w → Q (.panic c) a w) (hy : YieldsIf P ops S oi v a) (hS : S w)
    (h : wpAnyU P md ops Q S e fuel (listed.setIfInBounds i true) (a.put (some t) v) w) : wpAnyU P md ops Q S e (fuel + 1) listed a w :=
  wpAnyU_take hi hs hf hr hie hw hle (by rw [hd]; exact hQ) hy hS (by rw [hd]; exact h)
theorem wpAnyU_take0D {i e : Nat} {oi : Oper} {v : Value} {fuel : Nat} {listed : Array Bool} {a : Act} {w : World} (t : Nat) (hi : ops[i]? = some oi) (hd : oi.dst = some t)
    (hs : Region.noSelect ops = true) (hf : Region.free md ops listed i = true) (hr : (Region.ready md ops listed).contains i = true) (hie : (i != e) = true)
    (hQ : ∀ c a w, Q (.panic c) (a.put (some t) v) w → Q (.panic c) a w) (hy : YieldsIf P ops (fun _ => True) oi v a) (hS : listed.getD e true = false → S w)
    (h : wpAnyU P md ops Q S e fuel (listed.setIfInBounds i true) (a.put (some t) v) w) : wpAnyU P md ops Q S e (fuel + 1) listed a w :=
  wpAnyU_take0 hi hs hf hr hie (by rw [hd]; exact hQ) hy hS (by rw [hd]; exact h)
end
theorem step_fnG {P : Program} {X : World} {ops : Array Oper} {o : Oper} {a : Act} {K : Act → World → Prop} {Q : Exit → Act → World → Prop} {E : Prop} (t : Nat) (hd : o.dst = some t) (hw : Region.wanted o (yielded ops a.tmps) = true) (fv : Operand) (xs : Array Operand) (ts : Array TypeId)
    (ho : o.op = .call { callee := .value fv, args := xs, argTypes := ts }) (g : FuncId) (lb : Array Value) (hf : a.eval fv = .func (.func g) #[] lb) (vals : Array Value) (hx : xs.map a.eval ++ lb = vals)
    (eg : ∀ args w, (callFunc g args).run P w = .ok (.enter g args) w) {R : Ending → World → Prop} (hc : Calls P g vals X R) (hR : ∀ e w', R e w' → ∃ v, e = .returned v ∧ K (a.put (some t) v) w') :
    if Region.wanted o (yielded ops a.tmps) = true then Oper.wp P o a X K Q else E := by
  rw [if_pos hw]
  rw [← hd] at hR
  unfold Oper.wp execOp
  simp only [ho, resolve, hf]
  simp [go_sem, invoke, eg]
  rw [hx]
  refine hc.mono fun e w' h => ?_
  obtain ⟨v, rfl, hk⟩ := hR e w' h
  exact hk
section
variable {P : Program} {ops : Array Oper} {Q : Exit → Act → World → Prop} {md : Region.Mode} {S : World → Prop}
theorem wpAnyU_call {i e : Nat} {o : Oper} {fuel : Nat} {listed : Array Bool} {a : Act} {w : World} (t : Nat) (hr : Region.ready md ops listed = [i]) (ho : ops[i]? = some o) (hd : o.dst = some t)
    (hw : Region.wanted o (yielded ops a.tmps) = true) (fv : Operand) (xs : Array Operand) (ts : Array TypeId)
    (ho2 : o.op = .call { callee := .value fv, args := xs, argTypes := ts }) (g : FuncId) (lb : Array Value) (hf : a.eval fv = .func (.func g) #[] lb) (vals : Array Value) (hx : xs.map a.eval ++ lb = vals)
    (eg : ∀ args w, (callFunc g args).run P w = .ok (.enter g args) w) {R : Ending → World → Prop} (hc : Calls P g vals w R)
    (hR : ∀ e' w', R e' w' → ∃ v, e' = .returned v ∧ (S w' ∧ wpAnyU P md ops Q S e fuel (listed.setIfInBounds i true) (a.put (some t) v) w')) :
    wpAnyU P md ops Q S e (fuel + 1) listed a w := by
  refine wpAnyU_one hr ho ?_
  intro K hK
  refine step_fnG t hd hw fv xs ts ho2 g lb hf vals hx eg hc ?_
  intro e' w' h
  obtain ⟨v, hv, h1, h2⟩ := hR e' w' h
  exact ⟨v, hv, hK.out _ _ (fun _ => h1) (fun _ => by rw [← hd] at h2; first | exact h2 | (rw [hd] at h2; exact h2))⟩
theorem wpAnyU_yield {i e : Nat} {o : Oper} {v : Value} {fuel : Nat} {listed : Array Bool} {a : Act} {w : World} (t : Nat) (hr : Region.ready md ops listed = [i]) (ho : ops[i]? = some o) (hd : o.dst = some t)
    (hy : YieldsIf P ops (fun _ => True) o v a) (hS : S w) (h : wpAnyU P md ops Q S e fuel (listed.setIfInBounds i true) (a.put (some t) v) w) : wpAnyU P md ops Q S e (fuel + 1) listed a w := by
  refine ⟨fun h0 => (by rw [h0] at hr; cases hr), fun j hj => ?_⟩
  rw [hr] at hj
  obtain rfl : j = i := by simpa using hj
  rw [← hd] at h
  exact hy.wpOp ho trivial ⟨fun _ => hS, h⟩
end
end
section
open Go.RowKit
set_option linter.unusedVariables false
set_option linter.unusedSimpArgs false
set_option maxRecDepth 20000

namespace Dv
end Dv
theorem enc_one (c : UInt8) (k : Int) (h : (c.toNat : Int) = k) : ([c] : By).map encB = [.int .u8 k] := by subst h; rfl
theorem one_bytes {W : World} {B : Nat} (c : UInt8) (k : Int) (h : (c.toNat : Int) = k) (hc : Cells W B 5 [.int .u8 k]) : IsBytes W (.slice (some ⟨B, 0, none⟩) 1 1) [c] := bytes_cells (bs := [c]) (by rw [enc_one c k h]; exact hc) rfl (Nat.le_refl _)
section
variable {P : Program} {ops : Array Oper} {Q : Exit → Act → World → Prop} {md : Region.Mode} {S : World → Prop}
end
theorem keepQ {W X : World} {B : Nat} {a b c d : Value} (h : W.cell? ⟨B, 0, none⟩ = some a ∧ W.cell? ⟨B, 1, none⟩ = some b ∧ W.cell? ⟨B, 2, none⟩ = some c ∧ W.cell? ⟨B, 3, none⟩ = some d) (hb : Below W.heap.size W X) :
    X.cell? ⟨B, 0, none⟩ = some a ∧ X.cell? ⟨B, 1, none⟩ = some b ∧ X.cell? ⟨B, 2, none⟩ = some c ∧ X.cell? ⟨B, 3, none⟩ = some d :=
  have hl : B < W.heap.size := cell_lt h.1
  ⟨((bcell hb).1 B 0 hl).trans h.1, ((bcell hb).1 B 1 hl).trans h.2.1, ((bcell hb).1 B 2 hl).trans h.2.2.1, ((bcell hb).1 B 3 hl).trans h.2.2.2⟩
/-- the sectors of a value do not lie in a block -/
def NB (B : Nat) (v : Value) (d : Dk) : Prop := d.ss ≠ [] → ∀ b off k c pv l s, v = .agg #[.slice (some ⟨b, off, none⟩) k c, pv, l, s] → b ≠ B
theorem nb_new {W : World} {v : Value} {d : Dk} {B : Nat} (h : IsD W v d) (hB : W.heap.size ≤ B) : NB B v d := by
  intro hn b off k c pv l s e
  obtain ⟨sv, pv', e', h1, h2⟩ := h
  rw [e'] at e
  injection e with e
  injection e with e
  injection e with e1 _
  subst e1
  obtain ⟨A, c', vs, e3, _, hl, hr, _⟩ := h1
  injection e3 with e3
  subst e3
  obtain ⟨b', off', e4, hb, _⟩ := hr (by intro h0; subst h0; simp at hl; exact hn (List.eq_nil_of_length_eq_zero hl.symm))
  injection e4 with e4
  injection e4 with e4
  omega
theorem nb_sec {w w' : World} {v x : Value} {d d' : Dk} {B n : Nat} (hv : IsD w v d) (hx : IsD w' x d') (hs : Sec n v x) (h : NB B v d) (hB : B < n) : NB B x d' := by
  obtain ⟨sv, pv, l, s, sv', pv', l', s', rfl, rfl, hs⟩ := hs
  intro hn b off k c pv2 l2 s2 e
  injection e with e
  injection e with e
  injection e with e1 _
  subst e1
  rcases hs with hs | hs
  · obtain ⟨sv3, pv3, e3, h1, _⟩ := hv
    obtain ⟨sv4, pv4, e4, h2, _⟩ := hx
    injection e3 with e3
    injection e3 with e3
    injection e3 with e3 _
    injection e4 with e4
    injection e4 with e4
    injection e4 with e4 _
    subst e3 e4
    obtain ⟨A, c', vs, e5, _⟩ := h1
    obtain ⟨A', c'', vs', e6, _⟩ := h2
    rw [← hs] at e5
    rw [e5] at e6
    injection e6 with _ e6 _
    refine h (fun h0 => hn (List.eq_nil_of_length_eq_zero (by rw [← e6, h0]; rfl))) b off k c pv l s (by rw [hs])
  · have := hs b off k c rfl; omega
theorem IsD.box {W W' : World} {v : Value} {d : Dk} (h : IsD W v d) {B : Nat} (hnb : NB B v d) {A n c A2 n2 c2 l st} (hC : Cells W B 25 [.slice A n c, .slice A2 n2 c2, .int .i64 l, .bool st]) (hg : W.grownBy W' (some B)) : IsD W' v d := by
  obtain ⟨sv, pv, e, h1, h2⟩ := h
  refine ⟨sv, pv, e, ?_, h2.box hC hg⟩
  obtain ⟨A', c', vs, e1, hc, hl, hr, hi⟩ := h1
  refine ⟨A', c', vs, e1, hc, hl, fun hn => ?_, fun i h h' => (hi i h h').box hC hg⟩
  obtain ⟨b, off, e2, hb, hcc⟩ := hr hn
  have hne : b ≠ B := hnb (fun h0 => hn (List.eq_nil_of_length_eq_zero (by rw [hl, h0]; rfl))) b off _ c' pv _ _ (by rw [e, e1, e2])
  exact ⟨b, off, e2, Nat.lt_of_lt_of_le hb hg.size, fun i hi => (World.cell?_of_block (hg.block b hb (fun e => hne (by injection e)))).trans (hcc i hi)⟩
theorem Bl.set4 {w X : World} (h : Bl w X) {B : Nat} (hB : w.heap.size ≤ B) (b0 b1 b2 b3 : Value) : Bl w (set4 X B b0 b1 b2 b3) := ⟨below_set4 h.b hB _ _ _ _⟩
end
end Go.Proofs.Ytkcnanclpkongaa
