/- Walk of DiskNewSpec. -/
import Derived.Test.YtimpnpdhhhbmgaaW26
namespace Go.Proofs.Ytimpnpdhhhbmgaa
open Go.RowKit
set_option linter.unusedVariables false
set_option linter.unusedSimpArgs false

section
variable {P : Program} {ops : Array Oper} {Q : Exit → Act → World → Prop} {md : Region.Mode} {S : World → Prop}
theorem wpAnyU_two {i j e : Nat} {o o' : Oper} {fuel : Nat} {listed : Array Bool} {a : Act} {w : World} (hr : Region.ready md ops listed = [i, j]) (ho : ops[i]? = some o) (ho' : ops[j]? = some o')
    (h : ∀ K' : Act → World → Prop, Shut (∀ a w, ((listed.setIfInBounds i true).getD e true = false → S w) → (((listed.setIfInBounds i true).getD e true = false → S w) → wpAnyU P md ops Q S e fuel (listed.setIfInBounds i true) a w) → K' a w) → if Region.wanted o (yielded ops a.tmps) = true then Oper.wp P o a w K' Q else K' (a.put o.dst undef) w)
    (h' : ∀ K' : Act → World → Prop, Shut (∀ a w, ((listed.setIfInBounds j true).getD e true = false → S w) → (((listed.setIfInBounds j true).getD e true = false → S w) → wpAnyU P md ops Q S e fuel (listed.setIfInBounds j true) a w) → K' a w) → if Region.wanted o' (yielded ops a.tmps) = true then Oper.wp P o' a w K' Q else K' (a.put o'.dst undef) w) :
    wpAnyU P md ops Q S e (fuel + 1) listed a w := by
  refine ⟨fun h0 => (by rw [h0] at hr; cases hr), fun k hk => ?_⟩
  rw [hr] at hk
  have hk2 : k = i ∨ k = j := by simpa using hk
  rcases hk2 with rfl | rfl
  · exact wpOp_step ho (fun K' hK => h K' (fun a w hS hW => hK a w ⟨hS, hW hS⟩))
  · exact wpOp_step ho' (fun K' hK => h' K' (fun a w hS hW => hK a w ⟨hS, hW hS⟩))
end
section
variable {P : Program} {ops : Array Oper} {Q : Exit → Act → World → Prop} {md : Region.Mode} {S : World → Prop}
theorem wpAnyU_takeD {i e : Nat} {oi : Oper} {v : Value} {fuel : Nat} {listed : Array Bool} {a : Act} {w : World} (t : Nat) (hi : ops[i]? = some oi) (hd : oi.dst = some t)
    (hs : Region.noSelect ops = true) (hf : Region.free md ops listed i = true) (hr : (Region.ready md ops listed).contains i = true) (hie : (i != e) = true) (hw : Region.waitsFor md ops e i = true) (hle : listed.getD e true = false)
    (hQ : ∀ c a w, Q (.panic c) (a.put (some t) v) w → Q (.panic c) a w) (hy : YieldsIf P ops S oi v a) (hS : S w)
    (h : wpAnyU P md ops Q S e fuel (listed.setIfInBounds i true) (a.put (some t) v) w) : wpAnyU P md ops Q S e (fuel + 1) listed a w :=
  wpAnyU_take hi hs hf hr hie hw hle (by rw [hd]; exact hQ) hy hS (by rw [hd]; exact h)
theorem wpAnyU_take0D {i e : Nat} {oi : Oper} {v : Value} {fuel : Nat} {listed : Array Bool} {a : Act} {w : World} (t : Nat) (hi : ops[i]? = some oi) (hd : oi.dst = some t)
    (hs : Region.noSelect ops = true) (hf : Region.free md ops listed i = true) (hr : (Region.ready md ops listed).contains i = true) (hie : (i != e) = true)
    (hQ : ∀ c a w, Q (.panic c) (a.put (some t) v) w → Q (.panic c) a w) (hy : YieldsIf P ops (fun _ => True) oi v a) (hS : listed.getD e true = false → S w)
    (h : wpAnyU P md ops Q S e fuel (listed.setIfInBounds i true) (a.put (some t) v) w) : wpAnyU P md ops Q S e (fuel + 1) listed a w :=
  wpAnyU_take0 hi hs hf hr hie (by rw [hd]; exact hQ) hy hS (by rw [hd]; exact h)
end
theorem step_fnG {P : Program} {X : World} {ops : Array Oper} {o : Oper} {a : Act} {K : Act → World → Prop} {Q : Exit → Act → World → Prop} {E : Prop} (t : Nat) (hd : o.dst = some t) (hw : Region.wanted o (yielded ops a.tmps) = true) (fv : Operand) (xs : Array Operand) (ts : Array TypeId)
    (ho : o.op = .call { callee := .value fv, args := xs, argTypes := ts }) (g : FuncId) (lb : Array Value) (hf : a.eval fv = .func (.func g) #[] lb) (vals : Array Value) (hx : xs.map a.eval ++ lb = vals)
    (eg : ∀ args w, (callFunc g args).run P w = .ok (.enter g args) w) {R : Ending → World → Prop} (hc : Calls P g vals X R) (hR : ∀ e w', R e w' → ∃ v, e = .returned v ∧ K (a.put (some t) v) w') :
    if Region.wanted o (yielded ops a.tmps) = true then Oper.wp P o a X K Q else E := by
  rw [if_pos hw]
  rw [← hd] at hR
  unfold Oper.wp execOp
  simp only [ho, resolve, hf]
  simp [go_sem, invoke, eg]
  rw [hx]
  refine hc.mono fun e w' h => ?_
  obtain ⟨v, rfl, hk⟩ := hR e w' h
  exact hk
section
variable {P : Program} {ops : Array Oper} {Q : Exit → Act → World → Prop} {md : Region.Mode} {S : World → Prop}
theorem wpAnyU_call {i e : Nat} {o : Oper} {fuel : Nat} {listed : Array Bool} {a : Act} {w : World} (t : Nat) (hr : Region.ready md ops listed = [i]) (ho : ops[i]? = some o) (hd : o.dst = some t)
    (hw : Region.wanted o (yielded ops a.tmps) = true) (fv : Operand) (xs : Array Operand) (ts : Array TypeId)
    (ho2 : o.op = .call { callee := .value fv, args := xs, argTypes := ts }) (g : FuncId) (lb : Array Value) (hf : a.eval fv = .func (.func g) #[] lb) (vals : Array Value) (hx : xs.map a.eval ++ lb = vals)
    (eg : ∀ args w, (callFunc g args).run P w = .ok (.enter g args) w) {R : Ending → World → Prop} (hc : Calls P g vals w R)
    (hR : ∀ e' w', R e' w' → ∃ v, e' = .returned v ∧ (S w' ∧ wpAnyU P md ops Q S e fuel (listed.setIfInBounds i true) (a.put (some t) v) w')) :
    wpAnyU P md ops Q S e (fuel + 1) listed a w := by
  refine wpAnyU_one hr ho ?_
  intro K hK
  refine step_fnG t hd hw fv xs ts ho2 g lb hf vals hx eg hc ?_
  intro e' w' h
  obtain ⟨v, hv, h1, h2⟩ := hR e' w' h
  exact ⟨v, hv, hK.out _ _ (fun _ => h1) (fun _ => by rw [← hd] at h2; first | exact h2 | (rw [hd] at h2; exact h2))⟩
theorem wpAnyU_yield {i e : Nat} {o : Oper} {v : Value} {fuel : Nat} {listed : Array Bool} {a : Act} {w : World} (t : Nat) (hr : Region.ready md ops listed = [i]) (ho : ops[i]? = some o) (hd : o.dst = some t)
    (hy : YieldsIf P ops (fun _ => True) o v a) (hS : S w) (h : wpAnyU P md ops Q S e fuel (listed.setIfInBounds i true) (a.put (some t) v) w) : wpAnyU P md ops Q S e (fuel + 1) listed a w := by
  refine ⟨fun h0 => (by rw [h0] at hr; cases hr), fun j hj => ?_⟩
  rw [hr] at hj
  obtain rfl : j = i := by simpa using hj
  rw [← hd] at h
  exact hy.wpOp ho trivial ⟨fun _ => hS, h⟩
end
theorem nw_len (n : Int) : (Dv.nw n).ss.length ≤ 9223372036854775807 ∧ (Dv.nw n).ps.length ≤ 9223372036854775807 := by
  unfold Dv.nw
  split
  · simp only [List.length_replicate, List.length_nil]; omega
  · simp [d0]

theorem keep3 {W X : World} {B B' B'' : Nat} {a b c d a' b' c' d' a'' b'' c'' d'' : Value}
    (h : (W.cell? ⟨B, 0, none⟩ = some a ∧ W.cell? ⟨B, 1, none⟩ = some b ∧ W.cell? ⟨B, 2, none⟩ = some c ∧ W.cell? ⟨B, 3, none⟩ = some d) ∧ (W.cell? ⟨B', 0, none⟩ = some a' ∧ W.cell? ⟨B', 1, none⟩ = some b' ∧ W.cell? ⟨B', 2, none⟩ = some c' ∧ W.cell? ⟨B', 3, none⟩ = some d') ∧ (W.cell? ⟨B'', 0, none⟩ = some a'' ∧ W.cell? ⟨B'', 1, none⟩ = some b'' ∧ W.cell? ⟨B'', 2, none⟩ = some c'' ∧ W.cell? ⟨B'', 3, none⟩ = some d'')) (hb : Below W.heap.size W X) :
    (X.cell? ⟨B, 0, none⟩ = some a ∧ X.cell? ⟨B, 1, none⟩ = some b ∧ X.cell? ⟨B, 2, none⟩ = some c ∧ X.cell? ⟨B, 3, none⟩ = some d) ∧ (X.cell? ⟨B', 0, none⟩ = some a' ∧ X.cell? ⟨B', 1, none⟩ = some b' ∧ X.cell? ⟨B', 2, none⟩ = some c' ∧ X.cell? ⟨B', 3, none⟩ = some d') ∧ (X.cell? ⟨B'', 0, none⟩ = some a'' ∧ X.cell? ⟨B'', 1, none⟩ = some b'' ∧ X.cell? ⟨B'', 2, none⟩ = some c'' ∧ X.cell? ⟨B'', 3, none⟩ = some d'') :=
  ⟨keepQ h.1 hb, keepQ h.2.1 hb, keepQ h.2.2 hb⟩

set_option maxHeartbeats 8000000 in
set_option maxRecDepth 100000 in
theorem DiskNewSpec_any {n : Int} {d : Dk} {v : Value} {w : World} (hv : IsD w v d) (hl : d.ss.length ≤ 9223372036854775807) (hlp : d.ps.length ≤ 9223372036854775807) :
    Calls Try.prog 3 #[.int .i64 n, v] w fun e w' => e = .returned (.bool true) ∧ Below w.heap.size w w' := by
  have F3 := Lib.hid hv
  obtain ⟨A, c, A2, c2, rfl, _, _⟩ := hv.open_
  have HL := Lib.hid (And.intro hl hlp)
  clear hv hl hlp
  obtain ⟨x, hx⟩ : ∃ x, Dv.nw n = x := ⟨_, rfl⟩
  have HXL := Lib.hid (show x.ss.length ≤ 9223372036854775807 ∧ x.ps.length ≤ 9223372036854775807 by rw [← hx]; exact nw_len n)
  obtain ⟨e0, he⟩ : ∃ x, Dv.nwE n = x := ⟨_, rfl⟩
  obtain ⟨k0, hk⟩ : ∃ x, Dv.chk d = x := ⟨_, rfl⟩
  obtain ⟨r, hr⟩ : ∃ x, Dv.rs d = x := ⟨_, rfl⟩
  have HRL := Lib.hid (show r.ss.length ≤ 9223372036854775807 ∧ r.ps.length ≤ 9223372036854775807 by rw [← hr]; exact ⟨HL.out.1, by show 0 ≤ _; omega⟩)
  have HXE := Lib.hid (And.intro he hx)
  have HK := Lib.hid hk
  have HR := Lib.hid hr
  clear hx he hk hr
  have HW := Lib.hid (Bl.mk (Below.refl w.heap.size w))
  replace F3 := Lib.hid (F3.out.upb (al1 (w) (.cells #[.slice A d.ss.length c, .slice A2 d.ps.length c2, .int .i64 d.left, .bool d.st] 25)))
  replace HW := Lib.hid (HW.out.upb (al1 (w) (.cells #[.slice A d.ss.length c, .slice A2 d.ps.length c2, .int .i64 d.left, .bool d.st] 25)))
  have Z3 := Lib.hid (Cells.new (w) 25 [.slice A d.ss.length c, .slice A2 d.ps.length c2, .int .i64 d.left, .bool d.st])
  go_enter Try.func3, Try.ntmps3
  go_wp2_with (fail)
  refine (sane_any _).mono ?_
  rintro e w1 ⟨rfl, hb⟩
  replace F3 := Lib.hid (F3.out.upb hb)
  replace HW := Lib.hid (HW.out.upb hb)
  replace Z3 := Lib.hid (Z3.out.upb hb)
  clear hb
  by_cases hbig : (60 : Int) < n ∧ n ≤ 4096
  case pos =>
    have t1 : decide ((60 : Int) < n) = true := decide_eq_true hbig.1
    have t2 : decide (n ≤ 4096) = true := decide_eq_true hbig.2
    clear hbig
    go_wp2_with (fail)
    go_ret
    exact ⟨rfl, HW.out.b⟩
  case neg =>
    have hcase : decide ((60 : Int) < n) = false ∨ (decide ((60 : Int) < n) = true ∧ decide (n ≤ 4096) = false) := by
      by_cases h : (60 : Int) < n
      · exact .inr ⟨decide_eq_true h, decide_eq_false (fun h2 => hbig ⟨h, h2⟩)⟩
      · exact .inl (decide_eq_false h)
    clear hbig
    rcases hcase with t1 | ⟨t1, t2⟩
    ·
      have HD1 := Lib.hid (show True from trivial)
      have Z3l := Z3.out.lt
      have Z3c0 := Z3.out.cell (k := 0) rfl
      have Z3c1 := Z3.out.cell (k := 1) rfl
      have Z3c2 := Z3.out.cell (k := 2) rfl
      have Z3c3 := Z3.out.cell (k := 3) rfl
      go_wp2_with (fail)
      refine (Few_any F3.out HL.out.1 HL.out.2).mono ?_
      rintro e w2 ⟨⟨fb, rfl⟩, hb⟩
      replace F3 := Lib.hid (F3.out.upb hb)
      replace HW := Lib.hid (HW.out.upb hb)
      replace Z3 := Lib.hid (Z3.out.upb hb)
      clear hb
      clear Z3l Z3c0 Z3c1 Z3c2 Z3c3
      cases fb with
      | false =>
        go_wp2_with (fail)
        go_ret
        exact ⟨rfl, HW.out.b⟩
      | true =>
      go_wp2_with (fail)
      refine (New_is (n := n) HXE.out.1 HXE.out.2).mono ?_
      rintro e w3 ⟨A5, c5, B5, d5, rfl, hd, hb⟩
      replace F3 := Lib.hid (F3.out.upb hb)
      replace HW := Lib.hid (HW.out.upb hb)
      replace Z3 := Lib.hid (Z3.out.upb hb)
      clear hb
      have F5 := Lib.hid hd
      clear hd
      go_wp2_with (fail)
      replace F3 := Lib.hid (F3.out.upb (al1 (w3) (.cells #[.slice A5 x.ss.length c5, .slice B5 x.ps.length d5, .int .i64 x.left, .bool x.st] 25)))
      replace HW := Lib.hid (HW.out.upb (al1 (w3) (.cells #[.slice A5 x.ss.length c5, .slice B5 x.ps.length d5, .int .i64 x.left, .bool x.st] 25)))
      replace Z3 := Lib.hid (Z3.out.upb (al1 (w3) (.cells #[.slice A5 x.ss.length c5, .slice B5 x.ps.length d5, .int .i64 x.left, .bool x.st] 25)))
      replace F5 := Lib.hid (F5.out.upb (al1 (w3) (.cells #[.slice A5 x.ss.length c5, .slice B5 x.ps.length d5, .int .i64 x.left, .bool x.st] 25)))
      have Z5 := Lib.hid (Cells.new (w3) 25 [.slice A5 x.ss.length c5, .slice B5 x.ps.length d5, .int .i64 x.left, .bool x.st])
      refine (refNew_is (n := n) HXE.out.1 HXE.out.2).mono ?_
      rintro e w4 ⟨A7, c7, B7, d7, rfl, hd, hb⟩
      replace F3 := Lib.hid (F3.out.upb hb)
      replace HW := Lib.hid (HW.out.upb hb)
      replace Z3 := Lib.hid (Z3.out.upb hb)
      replace F5 := Lib.hid (F5.out.upb hb)
      replace Z5 := Lib.hid (Z5.out.upb hb)
      clear hb
      have F7 := Lib.hid hd
      clear hd
      go_wp2_with (fail)
      replace F3 := Lib.hid (F3.out.upb (al1 (w4) (.cells #[.slice A7 x.ss.length c7, .slice B7 x.ps.length d7, .int .i64 x.left, .bool x.st] 25)))
      replace HW := Lib.hid (HW.out.upb (al1 (w4) (.cells #[.slice A7 x.ss.length c7, .slice B7 x.ps.length d7, .int .i64 x.left, .bool x.st] 25)))
      replace Z3 := Lib.hid (Z3.out.upb (al1 (w4) (.cells #[.slice A7 x.ss.length c7, .slice B7 x.ps.length d7, .int .i64 x.left, .bool x.st] 25)))
      replace F5 := Lib.hid (F5.out.upb (al1 (w4) (.cells #[.slice A7 x.ss.length c7, .slice B7 x.ps.length d7, .int .i64 x.left, .bool x.st] 25)))
      replace Z5 := Lib.hid (Z5.out.upb (al1 (w4) (.cells #[.slice A7 x.ss.length c7, .slice B7 x.ps.length d7, .int .i64 x.left, .bool x.st] 25)))
      replace F7 := Lib.hid (F7.out.upb (al1 (w4) (.cells #[.slice A7 x.ss.length c7, .slice B7 x.ps.length d7, .int .i64 x.left, .bool x.st] 25)))
      have Z7 := Lib.hid (Cells.new (w4) 25 [.slice A7 x.ss.length c7, .slice B7 x.ps.length d7, .int .i64 x.left, .bool x.st])
      have Z3l := Z3.out.lt
      have Z3c0 := Z3.out.cell (k := 0) rfl
      have Z3c1 := Z3.out.cell (k := 1) rfl
      have Z3c2 := Z3.out.cell (k := 2) rfl
      have Z3c3 := Z3.out.cell (k := 3) rfl
      have Z5l := Z5.out.lt
      have Z5c0 := Z5.out.cell (k := 0) rfl
      have Z5c1 := Z5.out.cell (k := 1) rfl
      have Z5c2 := Z5.out.cell (k := 2) rfl
      have Z5c3 := Z5.out.cell (k := 3) rfl
      have Z7l := Z7.out.lt
      have Z7c0 := Z7.out.cell (k := 0) rfl
      have Z7c1 := Z7.out.cell (k := 1) rfl
      have Z7c2 := Z7.out.cell (k := 2) rfl
      have Z7c3 := Z7.out.cell (k := 3) rfl
      have hw0 : Below ((w4).alloc (.cells #[.slice A7 x.ss.length c7, .slice B7 x.ps.length d7, .int .i64 x.left, .bool x.st] 25)).heap.size ((w4).alloc (.cells #[.slice A7 x.ss.length c7, .slice B7 x.ps.length d7, .int .i64 x.left, .bool x.st] 25)) ((w4).alloc (.cells #[.slice A7 x.ss.length c7, .slice B7 x.ps.length d7, .int .i64 x.left, .bool x.st] 25)).drew := below_drewN (Below.refl _ _) 1
      have HS := Lib.hid (keep3 (And.intro (And.intro Z3c0 (And.intro Z3c1 (And.intro Z3c2 Z3c3))) (And.intro (And.intro Z5c0 (And.intro Z5c1 (And.intro Z5c2 Z5c3))) (And.intro Z7c0 (And.intro Z7c1 (And.intro Z7c2 Z7c3))))) hw0)
      have F3 := Lib.hid (F3.out.upb hw0)
      have F5 := Lib.hid (F5.out.upb hw0)
      have F7 := Lib.hid (F7.out.upb hw0)
      have HW := Lib.hid (HW.out.upb hw0)
      clear hw0
      refine wp_region_noPanic ?_
      refine wp_region_U 22 (fun X => (X.cell? ⟨w.heap.size, 0, none⟩ = some (.slice A d.ss.length c) ∧ X.cell? ⟨w.heap.size, 1, none⟩ = some (.slice A2 d.ps.length c2) ∧ X.cell? ⟨w.heap.size, 2, none⟩ = some (.int .i64 d.left) ∧ X.cell? ⟨w.heap.size, 3, none⟩ = some (.bool d.st)) ∧ (X.cell? ⟨w3.heap.size, 0, none⟩ = some (.slice A5 x.ss.length c5) ∧ X.cell? ⟨w3.heap.size, 1, none⟩ = some (.slice B5 x.ps.length d5) ∧ X.cell? ⟨w3.heap.size, 2, none⟩ = some (.int .i64 x.left) ∧ X.cell? ⟨w3.heap.size, 3, none⟩ = some (.bool x.st)) ∧ (X.cell? ⟨w4.heap.size, 0, none⟩ = some (.slice A7 x.ss.length c7) ∧ X.cell? ⟨w4.heap.size, 1, none⟩ = some (.slice B7 x.ps.length d7) ∧ X.cell? ⟨w4.heap.size, 2, none⟩ = some (.int .i64 x.left) ∧ X.cell? ⟨w4.heap.size, 3, none⟩ = some (.bool x.st))) (by kernel_rfl) ?_
      refine wpAnyU_takeD (i := 0) (v := .agg #[.slice A5 x.ss.length c5, .slice B5 x.ps.length d5, .int .i64 x.left, .bool x.st]) 32 rfl rfl (by kernel_rfl) (by kernel_rfl) (by kernel_rfl) (by kernel_rfl) (by kernel_rfl) (by kernel_rfl) (fun _ _ _ h => h) (.inl ⟨rfl, fun X hX => ?_⟩) HS.out ?_
      · obtain ⟨⟨z1, z2, z3, z4⟩, ⟨z5, z6, z7, z8⟩, ⟨z9, z10, z11, z12⟩⟩ := hX; go_simp
      refine wpAnyU_takeD (i := 1) (v := .agg #[.slice A7 x.ss.length c7, .slice B7 x.ps.length d7, .int .i64 x.left, .bool x.st]) 33 rfl rfl (by kernel_rfl) (by kernel_rfl) (by kernel_rfl) (by kernel_rfl) (by kernel_rfl) (by kernel_rfl) (fun _ _ _ h => h) (.inl ⟨rfl, fun X hX => ?_⟩) HS.out ?_
      · obtain ⟨⟨z1, z2, z3, z4⟩, ⟨z5, z6, z7, z8⟩, ⟨z9, z10, z11, z12⟩⟩ := hX; go_simp
      refine wpAnyU_call (i := 2) 34 (by kernel_rfl) rfl rfl (by simp [Region.wanted, yielded, Act.put]) (.func 14) #[.tmp 32, .tmp 33] _ rfl 14 #[] rfl #[.agg #[.slice A5 x.ss.length c5, .slice B5 x.ps.length d5, .int .i64 x.left, .bool x.st], .agg #[.slice A7 x.ss.length c7, .slice B7 x.ps.length d7, .int .i64 x.left, .bool x.st]] (by simp [Act.eval, Act.put]) (enters_of Try.func14 (by kernel_rfl) rfl) (Same_is F5.out F7.out HXL.out.1 HXL.out.2 (decide_eq_true rfl)) ?_
      rintro e X ⟨rfl, hb⟩
      refine ⟨_, rfl, keep3 HS.out hb, ?_⟩
      replace HS := Lib.hid (keep3 HS.out hb)
      replace F3 := Lib.hid (F3.out.upb hb)
      replace F5 := Lib.hid (F5.out.upb hb)
      replace F7 := Lib.hid (F7.out.upb hb)
      replace HW := Lib.hid (HW.out.upb hb)
      clear hb
      refine wpAnyU_take0D (i := 3) (v := .bool true) 35 rfl rfl (by kernel_rfl) (by kernel_rfl) (by kernel_rfl) (by kernel_rfl) (fun _ _ _ h => h) (.inl ⟨rfl, fun X hX => by go_simp⟩) (fun _ => HS.out) ?_
      refine wpAnyU_take0D (i := 4) (v := .int .i64 e0) 36 rfl rfl (by kernel_rfl) (by kernel_rfl) (by kernel_rfl) (by kernel_rfl) (fun _ _ _ h => h) (.inl ⟨(by simp [Region.wanted, yielded, Act.put]), fun X hX => by go_simp⟩) (fun _ => HS.out) ?_
      refine wpAnyU_take0D (i := 5) (v := .int .i64 e0) 37 rfl rfl (by kernel_rfl) (by kernel_rfl) (by kernel_rfl) (by kernel_rfl) (fun _ _ _ h => h) (.inl ⟨(by simp [Region.wanted, yielded, Act.put]), fun X hX => by go_simp⟩) (fun _ => HS.out) ?_
      refine wpAnyU_take0D (i := 6) (v := .bool true) 38 rfl rfl (by kernel_rfl) (by kernel_rfl) (by kernel_rfl) (by kernel_rfl) (fun _ _ _ h => h) (.inl ⟨(by simp [Region.wanted, yielded, Act.put]), fun X hX => by go_simp⟩) (fun _ => HS.out) ?_
      refine wpAnyU_take0D (i := 7) (v := .bool true) 39 rfl rfl (by kernel_rfl) (by kernel_rfl) (by kernel_rfl) (by kernel_rfl) (fun _ _ _ h => h) (.inl ⟨(by simp [Region.wanted, yielded, Act.put]), fun X hX => by go_simp⟩) (fun _ => HS.out) ?_
      refine wpAnyU_take0D (i := 8) (v := .bool true) 40 rfl rfl (by kernel_rfl) (by kernel_rfl) (by kernel_rfl) (by kernel_rfl) (fun _ _ _ h => h) (.inl ⟨(by simp [Region.wanted, yielded, Act.put]), fun X hX => by go_simp⟩) (fun _ => HS.out) ?_
      refine wpAnyU_takeD (i := 9) (v := .agg #[.slice A d.ss.length c, .slice A2 d.ps.length c2, .int .i64 d.left, .bool d.st]) 41 rfl rfl (by kernel_rfl) (by kernel_rfl) (by kernel_rfl) (by kernel_rfl) (by kernel_rfl) (by kernel_rfl) (fun _ _ _ h => h) (.inl ⟨(by simp [Region.wanted, yielded, Act.put]), fun X hX => ?_⟩) HS.out ?_
      · obtain ⟨⟨z1, z2, z3, z4⟩, ⟨z5, z6, z7, z8⟩, ⟨z9, z10, z11, z12⟩⟩ := hX; go_simp
      refine wpAnyU_takeD (i := 11) (v := .agg #[.slice A d.ss.length c, .slice A2 d.ps.length c2, .int .i64 d.left, .bool d.st]) 43 rfl rfl (by kernel_rfl) (by kernel_rfl) (by kernel_rfl) (by kernel_rfl) (by kernel_rfl) (by kernel_rfl) (fun _ _ _ h => h) (.inl ⟨(by simp [Region.wanted, yielded, Act.put]), fun X hX => ?_⟩) HS.out ?_
      · obtain ⟨⟨z1, z2, z3, z4⟩, ⟨z5, z6, z7, z8⟩, ⟨z9, z10, z11, z12⟩⟩ := hX; go_simp
      refine wpAnyU_call (i := 10) 42 (by kernel_rfl) rfl rfl (by simp [Region.wanted, yielded, Act.put]) (.func 15) #[.tmp 41] _ rfl 15 #[] rfl #[.agg #[.slice A d.ss.length c, .slice A2 d.ps.length c2, .int .i64 d.left, .bool d.st]] (by simp [Act.eval, Act.put]) (enters_of Try.func15 (by kernel_rfl) rfl) (Check_is F3.out HK.out) ?_
      rintro e X ⟨rfl, hb⟩
      refine ⟨_, rfl, keep3 HS.out hb, ?_⟩
      replace HS := Lib.hid (keep3 HS.out hb)
      replace F3 := Lib.hid (F3.out.upb hb)
      replace F5 := Lib.hid (F5.out.upb hb)
      replace F7 := Lib.hid (F7.out.upb hb)
      replace HW := Lib.hid (HW.out.upb hb)
      clear hb
      refine wpAnyU_call (i := 12) 44 (by kernel_rfl) rfl rfl (by simp [Region.wanted, yielded, Act.put]) (.func 16) #[.tmp 43] _ rfl 16 #[] rfl #[.agg #[.slice A d.ss.length c, .slice A2 d.ps.length c2, .int .i64 d.left, .bool d.st]] (by simp [Act.eval, Act.put]) (enters_of Try.func16 (by kernel_rfl) rfl) (refCheck_is F3.out HK.out) ?_
      rintro e X ⟨rfl, hb⟩
      refine ⟨_, rfl, keep3 HS.out hb, ?_⟩
      replace HS := Lib.hid (keep3 HS.out hb)
      replace F3 := Lib.hid (F3.out.upb hb)
      replace F5 := Lib.hid (F5.out.upb hb)
      replace F7 := Lib.hid (F7.out.upb hb)
      replace HW := Lib.hid (HW.out.upb hb)
      clear hb
      refine wpAnyU_take0D (i := 13) (v := .bool true) 45 rfl rfl (by kernel_rfl) (by kernel_rfl) (by kernel_rfl) (by kernel_rfl) (fun _ _ _ h => h) (.inl ⟨(by simp [Region.wanted, yielded, Act.put]), fun X hX => by go_simp⟩) (fun _ => HS.out) ?_
      refine wpAnyU_take0D (i := 14) (v := .bool true) 46 rfl rfl (by kernel_rfl) (by kernel_rfl) (by kernel_rfl) (by kernel_rfl) (fun _ _ _ h => h) (.inl ⟨(by simp [Region.wanted, yielded, Act.put]), fun X hX => by go_simp⟩) (fun _ => HS.out) ?_
      refine wpAnyU_take0D (i := 15) (v := .bool true) 47 rfl rfl (by kernel_rfl) (by kernel_rfl) (by kernel_rfl) (by kernel_rfl) (fun _ _ _ h => h) (.inl ⟨(by simp [Region.wanted, yielded, Act.put]), fun X hX => by go_simp⟩) (fun _ => HS.out) ?_
      refine wpAnyU_takeD (i := 16) (v := .agg #[.slice A d.ss.length c, .slice A2 d.ps.length c2, .int .i64 d.left, .bool d.st]) 48 rfl rfl (by kernel_rfl) (by kernel_rfl) (by kernel_rfl) (by kernel_rfl) (by kernel_rfl) (by kernel_rfl) (fun _ _ _ h => h) (.inl ⟨(by simp [Region.wanted, yielded, Act.put]), fun X hX => ?_⟩) HS.out ?_
      · obtain ⟨⟨z1, z2, z3, z4⟩, ⟨z5, z6, z7, z8⟩, ⟨z9, z10, z11, z12⟩⟩ := hX; go_simp
      refine wpAnyU_takeD (i := 18) (v := .agg #[.slice A d.ss.length c, .slice A2 d.ps.length c2, .int .i64 d.left, .bool d.st]) 50 rfl rfl (by kernel_rfl) (by kernel_rfl) (by kernel_rfl) (by kernel_rfl) (by kernel_rfl) (by kernel_rfl) (fun _ _ _ h => h) (.inl ⟨(by simp [Region.wanted, yielded, Act.put]), fun X hX => ?_⟩) HS.out ?_
      · obtain ⟨⟨z1, z2, z3, z4⟩, ⟨z5, z6, z7, z8⟩, ⟨z9, z10, z11, z12⟩⟩ := hX; go_simp
      refine wpAnyU_call (i := 17) 49 (by kernel_rfl) rfl rfl (by simp [Region.wanted, yielded, Act.put]) (.func 17) #[.tmp 48] _ rfl 17 #[] rfl #[.agg #[.slice A d.ss.length c, .slice A2 d.ps.length c2, .int .i64 d.left, .bool d.st]] (by simp [Act.eval, Act.put]) (enters_of Try.func17 (by kernel_rfl) rfl) (Restart_is F3.out HR.out) ?_
      rintro e X ⟨A8, c8, B8, d8, rfl, hd, hb, _⟩
      refine ⟨_, rfl, keep3 HS.out hb, ?_⟩
      replace HS := Lib.hid (keep3 HS.out hb)
      replace F3 := Lib.hid (F3.out.upb hb)
      replace F5 := Lib.hid (F5.out.upb hb)
      replace F7 := Lib.hid (F7.out.upb hb)
      replace HW := Lib.hid (HW.out.upb hb)
      have F8 := Lib.hid hd
      clear hd
      clear hb
      refine wpAnyU_call (i := 19) 51 (by kernel_rfl) rfl rfl (by simp [Region.wanted, yielded, Act.put]) (.func 18) #[.tmp 50] _ rfl 18 #[] rfl #[.agg #[.slice A d.ss.length c, .slice A2 d.ps.length c2, .int .i64 d.left, .bool d.st]] (by simp [Act.eval, Act.put]) (enters_of Try.func18 (by kernel_rfl) rfl) (refRestart_is F3.out HR.out) ?_
      rintro e X ⟨A9, c9, B9, d9, rfl, hd, hb⟩
      refine ⟨_, rfl, keep3 HS.out hb, ?_⟩
      replace HS := Lib.hid (keep3 HS.out hb)
      replace F3 := Lib.hid (F3.out.upb hb)
      replace F5 := Lib.hid (F5.out.upb hb)
      replace F7 := Lib.hid (F7.out.upb hb)
      replace HW := Lib.hid (HW.out.upb hb)
      replace F8 := Lib.hid (F8.out.upb hb)
      have F9 := Lib.hid hd
      clear hd
      clear hb
      refine wpAnyU_call (i := 20) 52 (by kernel_rfl) rfl rfl (by simp [Region.wanted, yielded, Act.put]) (.func 14) #[.tmp 49, .tmp 51] _ rfl 14 #[] rfl #[.agg #[.slice A8 r.ss.length c8, .slice B8 r.ps.length d8, .int .i64 r.left, .bool r.st], .agg #[.slice A9 r.ss.length c9, .slice B9 r.ps.length d9, .int .i64 r.left, .bool r.st]] (by simp [Act.eval, Act.put]) (enters_of Try.func14 (by kernel_rfl) rfl) (Same_is F8.out F9.out HRL.out.1 HRL.out.2 (decide_eq_true rfl)) ?_
      rintro e X ⟨rfl, hb⟩
      refine ⟨_, rfl, keep3 HS.out hb, ?_⟩
      replace HS := Lib.hid (keep3 HS.out hb)
      replace HW := Lib.hid (HW.out.upb hb)
      clear hb
      refine wpAnyU_take0D (i := 21) (v := .bool true) 53 rfl rfl (by kernel_rfl) (by kernel_rfl) (by kernel_rfl) (by kernel_rfl) (fun _ _ _ h => h) (.inl ⟨(by simp [Region.wanted, yielded, Act.put]), fun X hX => by go_simp⟩) (fun _ => HS.out) ?_
      refine wpAnyU_yield (i := 22) (v := .bool true) 4 (by kernel_rfl) rfl rfl (.inl ⟨(by simp [Region.wanted, yielded, Act.put]), fun X hX => by go_simp⟩) HS.out ?_
      refine wpAnyU_done (by kernel_rfl) (NoPanic.normal ?_) _
      go_wp2_with (fail)
      go_ret
      refine ⟨?_, HW.out.b⟩
      go_simp
    ·
      have HD1 := Lib.hid (show True from trivial)
      have Z3l := Z3.out.lt
      have Z3c0 := Z3.out.cell (k := 0) rfl
      have Z3c1 := Z3.out.cell (k := 1) rfl
      have Z3c2 := Z3.out.cell (k := 2) rfl
      have Z3c3 := Z3.out.cell (k := 3) rfl
      go_wp2_with (fail)
      refine (Few_any F3.out HL.out.1 HL.out.2).mono ?_
      rintro e w2 ⟨⟨fb, rfl⟩, hb⟩
      replace F3 := Lib.hid (F3.out.upb hb)
      replace HW := Lib.hid (HW.out.upb hb)
      replace Z3 := Lib.hid (Z3.out.upb hb)
      clear hb
      clear Z3l Z3c0 Z3c1 Z3c2 Z3c3
      cases fb with
      | false =>
        go_wp2_with (fail)
        go_ret
        exact ⟨rfl, HW.out.b⟩
      | true =>
      go_wp2_with (fail)
      refine (New_is (n := n) HXE.out.1 HXE.out.2).mono ?_
      rintro e w3 ⟨A5, c5, B5, d5, rfl, hd, hb⟩
      replace F3 := Lib.hid (F3.out.upb hb)
      replace HW := Lib.hid (HW.out.upb hb)
      replace Z3 := Lib.hid (Z3.out.upb hb)
      clear hb
      have F5 := Lib.hid hd
      clear hd
      go_wp2_with (fail)
      replace F3 := Lib.hid (F3.out.upb (al1 (w3) (.cells #[.slice A5 x.ss.length c5, .slice B5 x.ps.length d5, .int .i64 x.left, .bool x.st] 25)))
      replace HW := Lib.hid (HW.out.upb (al1 (w3) (.cells #[.slice A5 x.ss.length c5, .slice B5 x.ps.length d5, .int .i64 x.left, .bool x.st] 25)))
      replace Z3 := Lib.hid (Z3.out.upb (al1 (w3) (.cells #[.slice A5 x.ss.length c5, .slice B5 x.ps.length d5, .int .i64 x.left, .bool x.st] 25)))
      replace F5 := Lib.hid (F5.out.upb (al1 (w3) (.cells #[.slice A5 x.ss.length c5, .slice B5 x.ps.length d5, .int .i64 x.left, .bool x.st] 25)))
      have Z5 := Lib.hid (Cells.new (w3) 25 [.slice A5 x.ss.length c5, .slice B5 x.ps.length d5, .int .i64 x.left, .bool x.st])
      refine (refNew_is (n := n) HXE.out.1 HXE.out.2).mono ?_
      rintro e w4 ⟨A7, c7, B7, d7, rfl, hd, hb⟩
      replace F3 := Lib.hid (F3.out.upb hb)
      replace HW := Lib.hid (HW.out.upb hb)
      replace Z3 := Lib.hid (Z3.out.upb hb)
      replace F5 := Lib.hid (F5.out.upb hb)
      replace Z5 := Lib.hid (Z5.out.upb hb)
      clear hb
      have F7 := Lib.hid hd
      clear hd
      go_wp2_with (fail)
      replace F3 := Lib.hid (F3.out.upb (al1 (w4) (.cells #[.slice A7 x.ss.length c7, .slice B7 x.ps.length d7, .int .i64 x.left, .bool x.st] 25)))
      replace HW := Lib.hid (HW.out.upb (al1 (w4) (.cells #[.slice A7 x.ss.length c7, .slice B7 x.ps.length d7, .int .i64 x.left, .bool x.st] 25)))
      replace Z3 := Lib.hid (Z3.out.upb (al1 (w4) (.cells #[.slice A7 x.ss.length c7, .slice B7 x.ps.length d7, .int .i64 x.left, .bool x.st] 25)))
      replace F5 := Lib.hid (F5.out.upb (al1 (w4) (.cells #[.slice A7 x.ss.length c7, .slice B7 x.ps.length d7, .int .i64 x.left, .bool x.st] 25)))
      replace Z5 := Lib.hid (Z5.out.upb (al1 (w4) (.cells #[.slice A7 x.ss.length c7, .slice B7 x.ps.length d7, .int .i64 x.left, .bool x.st] 25)))
      replace F7 := Lib.hid (F7.out.upb (al1 (w4) (.cells #[.slice A7 x.ss.length c7, .slice B7 x.ps.length d7, .int .i64 x.left, .bool x.st] 25)))
      have Z7 := Lib.hid (Cells.new (w4) 25 [.slice A7 x.ss.length c7, .slice B7 x.ps.length d7, .int .i64 x.left, .bool x.st])
      have Z3l := Z3.out.lt
      have Z3c0 := Z3.out.cell (k := 0) rfl
      have Z3c1 := Z3.out.cell (k := 1) rfl
      have Z3c2 := Z3.out.cell (k := 2) rfl
      have Z3c3 := Z3.out.cell (k := 3) rfl
      have Z5l := Z5.out.lt
      have Z5c0 := Z5.out.cell (k := 0) rfl
      have Z5c1 := Z5.out.cell (k := 1) rfl
      have Z5c2 := Z5.out.cell (k := 2) rfl
      have Z5c3 := Z5.out.cell (k := 3) rfl
      have Z7l := Z7.out.lt
      have Z7c0 := Z7.out.cell (k := 0) rfl
      have Z7c1 := Z7.out.cell (k := 1) rfl
      have Z7c2 := Z7.out.cell (k := 2) rfl
      have Z7c3 := Z7.out.cell (k := 3) rfl
      have hw0 : Below ((w4).alloc (.cells #[.slice A7 x.ss.length c7, .slice B7 x.ps.length d7, .int .i64 x.left, .bool x.st] 25)).heap.size ((w4).alloc (.cells #[.slice A7 x.ss.length c7, .slice B7 x.ps.length d7, .int .i64 x.left, .bool x.st] 25)) ((w4).alloc (.cells #[.slice A7 x.ss.length c7, .slice B7 x.ps.length d7, .int .i64 x.left, .bool x.st] 25)).drew := below_drewN (Below.refl _ _) 1
      have HS := Lib.hid (keep3 (And.intro (And.intro Z3c0 (And.intro Z3c1 (And.intro Z3c2 Z3c3))) (And.intro (And.intro Z5c0 (And.intro Z5c1 (And.intro Z5c2 Z5c3))) (And.intro Z7c0 (And.intro Z7c1 (And.intro Z7c2 Z7c3))))) hw0)
      have F3 := Lib.hid (F3.out.upb hw0)
      have F5 := Lib.hid (F5.out.upb hw0)
      have F7 := Lib.hid (F7.out.upb hw0)
      have HW := Lib.hid (HW.out.upb hw0)
      clear hw0
      refine wp_region_noPanic ?_
      refine wp_region_U 22 (fun X => (X.cell? ⟨w.heap.size, 0, none⟩ = some (.slice A d.ss.length c) ∧ X.cell? ⟨w.heap.size, 1, none⟩ = some (.slice A2 d.ps.length c2) ∧ X.cell? ⟨w.heap.size, 2, none⟩ = some (.int .i64 d.left) ∧ X.cell? ⟨w.heap.size, 3, none⟩ = some (.bool d.st)) ∧ (X.cell? ⟨w3.heap.size, 0, none⟩ = some (.slice A5 x.ss.length c5) ∧ X.cell? ⟨w3.heap.size, 1, none⟩ = some (.slice B5 x.ps.length d5) ∧ X.cell? ⟨w3.heap.size, 2, none⟩ = some (.int .i64 x.left) ∧ X.cell? ⟨w3.heap.size, 3, none⟩ = some (.bool x.st)) ∧ (X.cell? ⟨w4.heap.size, 0, none⟩ = some (.slice A7 x.ss.length c7) ∧ X.cell? ⟨w4.heap.size, 1, none⟩ = some (.slice B7 x.ps.length d7) ∧ X.cell? ⟨w4.heap.size, 2, none⟩ = some (.int .i64 x.left) ∧ X.cell? ⟨w4.heap.size, 3, none⟩ = some (.bool x.st))) (by kernel_rfl) ?_
      refine wpAnyU_takeD (i := 0) (v := .agg #[.slice A5 x.ss.length c5, .slice B5 x.ps.length d5, .int .i64 x.left, .bool x.st]) 32 rfl rfl (by kernel_rfl) (by kernel_rfl) (by kernel_rfl) (by kernel_rfl) (by kernel_rfl) (by kernel_rfl) (fun _ _ _ h => h) (.inl ⟨rfl, fun X hX => ?_⟩) HS.out ?_
      · obtain ⟨⟨z1, z2, z3, z4⟩, ⟨z5, z6, z7, z8⟩, ⟨z9, z10, z11, z12⟩⟩ := hX; go_simp
      refine wpAnyU_takeD (i := 1) (v := .agg #[.slice A7 x.ss.length c7, .slice B7 x.ps.length d7, .int .i64 x.left, .bool x.st]) 33 rfl rfl (by kernel_rfl) (by kernel_rfl) (by kernel_rfl) (by kernel_rfl) (by kernel_rfl) (by kernel_rfl) (fun _ _ _ h => h) (.inl ⟨rfl, fun X hX => ?_⟩) HS.out ?_
      · obtain ⟨⟨z1, z2, z3, z4⟩, ⟨z5, z6, z7, z8⟩, ⟨z9, z10, z11, z12⟩⟩ := hX; go_simp
      refine wpAnyU_call (i := 2) 34 (by kernel_rfl) rfl rfl (by simp [Region.wanted, yielded, Act.put]) (.func 14) #[.tmp 32, .tmp 33] _ rfl 14 #[] rfl #[.agg #[.slice A5 x.ss.length c5, .slice B5 x.ps.length d5, .int .i64 x.left, .bool x.st], .agg #[.slice A7 x.ss.length c7, .slice B7 x.ps.length d7, .int .i64 x.left, .bool x.st]] (by simp [Act.eval, Act.put]) (enters_of Try.func14 (by kernel_rfl) rfl) (Same_is F5.out F7.out HXL.out.1 HXL.out.2 (decide_eq_true rfl)) ?_
      rintro e X ⟨rfl, hb⟩
      refine ⟨_, rfl, keep3 HS.out hb, ?_⟩
      replace HS := Lib.hid (keep3 HS.out hb)
      replace F3 := Lib.hid (F3.out.upb hb)
      replace F5 := Lib.hid (F5.out.upb hb)
      replace F7 := Lib.hid (F7.out.upb hb)
      replace HW := Lib.hid (HW.out.upb hb)
      clear hb
      refine wpAnyU_take0D (i := 3) (v := .bool true) 35 rfl rfl (by kernel_rfl) (by kernel_rfl) (by kernel_rfl) (by kernel_rfl) (fun _ _ _ h => h) (.inl ⟨rfl, fun X hX => by go_simp⟩) (fun _ => HS.out) ?_
      refine wpAnyU_take0D (i := 4) (v := .int .i64 e0) 36 rfl rfl (by kernel_rfl) (by kernel_rfl) (by kernel_rfl) (by kernel_rfl) (fun _ _ _ h => h) (.inl ⟨(by simp [Region.wanted, yielded, Act.put]), fun X hX => by go_simp⟩) (fun _ => HS.out) ?_
      refine wpAnyU_take0D (i := 5) (v := .int .i64 e0) 37 rfl rfl (by kernel_rfl) (by kernel_rfl) (by kernel_rfl) (by kernel_rfl) (fun _ _ _ h => h) (.inl ⟨(by simp [Region.wanted, yielded, Act.put]), fun X hX => by go_simp⟩) (fun _ => HS.out) ?_
      refine wpAnyU_take0D (i := 6) (v := .bool true) 38 rfl rfl (by kernel_rfl) (by kernel_rfl) (by kernel_rfl) (by kernel_rfl) (fun _ _ _ h => h) (.inl ⟨(by simp [Region.wanted, yielded, Act.put]), fun X hX => by go_simp⟩) (fun _ => HS.out) ?_
      refine wpAnyU_take0D (i := 7) (v := .bool true) 39 rfl rfl (by kernel_rfl) (by kernel_rfl) (by kernel_rfl) (by kernel_rfl) (fun _ _ _ h => h) (.inl ⟨(by simp [Region.wanted, yielded, Act.put]), fun X hX => by go_simp⟩) (fun _ => HS.out) ?_
      refine wpAnyU_take0D (i := 8) (v := .bool true) 40 rfl rfl (by kernel_rfl) (by kernel_rfl) (by kernel_rfl) (by kernel_rfl) (fun _ _ _ h => h) (.inl ⟨(by simp [Region.wanted, yielded, Act.put]), fun X hX => by go_simp⟩) (fun _ => HS.out) ?_
      refine wpAnyU_takeD (i := 9) (v := .agg #[.slice A d.ss.length c, .slice A2 d.ps.length c2, .int .i64 d.left, .bool d.st]) 41 rfl rfl (by kernel_rfl) (by kernel_rfl) (by kernel_rfl) (by kernel_rfl) (by kernel_rfl) (by kernel_rfl) (fun _ _ _ h => h) (.inl ⟨(by simp [Region.wanted, yielded, Act.put]), fun X hX => ?_⟩) HS.out ?_
      · obtain ⟨⟨z1, z2, z3, z4⟩, ⟨z5, z6, z7, z8⟩, ⟨z9, z10, z11, z12⟩⟩ := hX; go_simp
      refine wpAnyU_takeD (i := 11) (v := .agg #[.slice A d.ss.length c, .slice A2 d.ps.length c2, .int .i64 d.left, .bool d.st]) 43 rfl rfl (by kernel_rfl) (by kernel_rfl) (by kernel_rfl) (by kernel_rfl) (by kernel_rfl) (by kernel_rfl) (fun _ _ _ h => h) (.inl ⟨(by simp [Region.wanted, yielded, Act.put]), fun X hX => ?_⟩) HS.out ?_
      · obtain ⟨⟨z1, z2, z3, z4⟩, ⟨z5, z6, z7, z8⟩, ⟨z9, z10, z11, z12⟩⟩ := hX; go_simp
      refine wpAnyU_call (i := 10) 42 (by kernel_rfl) rfl rfl (by simp [Region.wanted, yielded, Act.put]) (.func 15) #[.tmp 41] _ rfl 15 #[] rfl #[.agg #[.slice A d.ss.length c, .slice A2 d.ps.length c2, .int .i64 d.left, .bool d.st]] (by simp [Act.eval, Act.put]) (enters_of Try.func15 (by kernel_rfl) rfl) (Check_is F3.out HK.out) ?_
      rintro e X ⟨rfl, hb⟩
      refine ⟨_, rfl, keep3 HS.out hb, ?_⟩
      replace HS := Lib.hid (keep3 HS.out hb)
      replace F3 := Lib.hid (F3.out.upb hb)
      replace F5 := Lib.hid (F5.out.upb hb)
      replace F7 := Lib.hid (F7.out.upb hb)
      replace HW := Lib.hid (HW.out.upb hb)
      clear hb
      refine wpAnyU_call (i := 12) 44 (by kernel_rfl) rfl rfl (by simp [Region.wanted, yielded, Act.put]) (.func 16) #[.tmp 43] _ rfl 16 #[] rfl #[.agg #[.slice A d.ss.length c, .slice A2 d.ps.length c2, .int .i64 d.left, .bool d.st]] (by simp [Act.eval, Act.put]) (enters_of Try.func16 (by kernel_rfl) rfl) (refCheck_is F3.out HK.out) ?_
      rintro e X ⟨rfl, hb⟩
      refine ⟨_, rfl, keep3 HS.out hb, ?_⟩
      replace HS := Lib.hid (keep3 HS.out hb)
      replace F3 := Lib.hid (F3.out.upb hb)
      replace F5 := Lib.hid (F5.out.upb hb)
      replace F7 := Lib.hid (F7.out.upb hb)
      replace HW := Lib.hid (HW.out.upb hb)
      clear hb
      refine wpAnyU_take0D (i := 13) (v := .bool true) 45 rfl rfl (by kernel_rfl) (by kernel_rfl) (by kernel_rfl) (by kernel_rfl) (fun _ _ _ h => h) (.inl ⟨(by simp [Region.wanted, yielded, Act.put]), fun X hX => by go_simp⟩) (fun _ => HS.out) ?_
      refine wpAnyU_take0D (i := 14) (v := .bool true) 46 rfl rfl (by kernel_rfl) (by kernel_rfl) (by kernel_rfl) (by kernel_rfl) (fun _ _ _ h => h) (.inl ⟨(by simp [Region.wanted, yielded, Act.put]), fun X hX => by go_simp⟩) (fun _ => HS.out) ?_
      refine wpAnyU_take0D (i := 15) (v := .bool true) 47 rfl rfl (by kernel_rfl) (by kernel_rfl) (by kernel_rfl) (by kernel_rfl) (fun _ _ _ h => h) (.inl ⟨(by simp [Region.wanted, yielded, Act.put]), fun X hX => by go_simp⟩) (fun _ => HS.out) ?_
      refine wpAnyU_takeD (i := 16) (v := .agg #[.slice A d.ss.length c, .slice A2 d.ps.length c2, .int .i64 d.left, .bool d.st]) 48 rfl rfl (by kernel_rfl) (by kernel_rfl) (by kernel_rfl) (by kernel_rfl) (by kernel_rfl) (by kernel_rfl) (fun _ _ _ h => h) (.inl ⟨(by simp [Region.wanted, yielded, Act.put]), fun X hX => ?_⟩) HS.out ?_
      · obtain ⟨⟨z1, z2, z3, z4⟩, ⟨z5, z6, z7, z8⟩, ⟨z9, z10, z11, z12⟩⟩ := hX; go_simp
      refine wpAnyU_takeD (i := 18) (v := .agg #[.slice A d.ss.length c, .slice A2 d.ps.length c2, .int .i64 d.left, .bool d.st]) 50 rfl rfl (by kernel_rfl) (by kernel_rfl) (by kernel_rfl) (by kernel_rfl) (by kernel_rfl) (by kernel_rfl) (fun _ _ _ h => h) (.inl ⟨(by simp [Region.wanted, yielded, Act.put]), fun X hX => ?_⟩) HS.out ?_
      · obtain ⟨⟨z1, z2, z3, z4⟩, ⟨z5, z6, z7, z8⟩, ⟨z9, z10, z11, z12⟩⟩ := hX; go_simp
      refine wpAnyU_call (i := 17) 49 (by kernel_rfl) rfl rfl (by simp [Region.wanted, yielded, Act.put]) (.func 17) #[.tmp 48] _ rfl 17 #[] rfl #[.agg #[.slice A d.ss.length c, .slice A2 d.ps.length c2, .int .i64 d.left, .bool d.st]] (by simp [Act.eval, Act.put]) (enters_of Try.func17 (by kernel_rfl) rfl) (Restart_is F3.out HR.out) ?_
      rintro e X ⟨A8, c8, B8, d8, rfl, hd, hb, _⟩
      refine ⟨_, rfl, keep3 HS.out hb, ?_⟩
      replace HS := Lib.hid (keep3 HS.out hb)
      replace F3 := Lib.hid (F3.out.upb hb)
      replace F5 := Lib.hid (F5.out.upb hb)
      replace F7 := Lib.hid (F7.out.upb hb)
      replace HW := Lib.hid (HW.out.upb hb)
      have F8 := Lib.hid hd
      clear hd
      clear hb
      refine wpAnyU_call (i := 19) 51 (by kernel_rfl) rfl rfl (by simp [Region.wanted, yielded, Act.put]) (.func 18) #[.tmp 50] _ rfl 18 #[] rfl #[.agg #[.slice A d.ss.length c, .slice A2 d.ps.length c2, .int .i64 d.left, .bool d.st]] (by simp [Act.eval, Act.put]) (enters_of Try.func18 (by kernel_rfl) rfl) (refRestart_is F3.out HR.out) ?_
      rintro e X ⟨A9, c9, B9, d9, rfl, hd, hb⟩
      refine ⟨_, rfl, keep3 HS.out hb, ?_⟩
      replace HS := Lib.hid (keep3 HS.out hb)
      replace F3 := Lib.hid (F3.out.upb hb)
      replace F5 := Lib.hid (F5.out.upb hb)
      replace F7 := Lib.hid (F7.out.upb hb)
      replace HW := Lib.hid (HW.out.upb hb)
      replace F8 := Lib.hid (F8.out.upb hb)
      have F9 := Lib.hid hd
      clear hd
      clear hb
      refine wpAnyU_call (i := 20) 52 (by kernel_rfl) rfl rfl (by simp [Region.wanted, yielded, Act.put]) (.func 14) #[.tmp 49, .tmp 51] _ rfl 14 #[] rfl #[.agg #[.slice A8 r.ss.length c8, .slice B8 r.ps.length d8, .int .i64 r.left, .bool r.st], .agg #[.slice A9 r.ss.length c9, .slice B9 r.ps.length d9, .int .i64 r.left, .bool r.st]] (by simp [Act.eval, Act.put]) (enters_of Try.func14 (by kernel_rfl) rfl) (Same_is F8.out F9.out HRL.out.1 HRL.out.2 (decide_eq_true rfl)) ?_
      rintro e X ⟨rfl, hb⟩
      refine ⟨_, rfl, keep3 HS.out hb, ?_⟩
      replace HS := Lib.hid (keep3 HS.out hb)
      replace HW := Lib.hid (HW.out.upb hb)
      clear hb
      refine wpAnyU_take0D (i := 21) (v := .bool true) 53 rfl rfl (by kernel_rfl) (by kernel_rfl) (by kernel_rfl) (by kernel_rfl) (fun _ _ _ h => h) (.inl ⟨(by simp [Region.wanted, yielded, Act.put]), fun X hX => by go_simp⟩) (fun _ => HS.out) ?_
      refine wpAnyU_yield (i := 22) (v := .bool true) 4 (by kernel_rfl) rfl rfl (.inl ⟨(by simp [Region.wanted, yielded, Act.put]), fun X hX => by go_simp⟩) HS.out ?_
      refine wpAnyU_done (by kernel_rfl) (NoPanic.normal ?_) _
      go_wp2_with (fail)
      go_ret
      refine ⟨?_, HW.out.b⟩
      go_simp
end Go.Proofs.Ytimpnpdhhhbmgaa
