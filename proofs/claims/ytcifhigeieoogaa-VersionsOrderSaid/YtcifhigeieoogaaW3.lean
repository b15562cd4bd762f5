/- Own slices of amendments and steps: appending, cloning. -/
import Derived.Test.YtcifhigeieoogaaW2
import Derived.Maps.AppendAt
import Derived.OwnWalk
import Derived.Deep.AppendLies
namespace Go.Proofs.Ytcifhigeieoogaa
open Go.RowKit
set_option linter.unusedVariables false
set_option linter.unusedSimpArgs false
attribute [local go_sem] frozen_new
theorem info_parts {t : TypeId} {z : Value} {s b : Nat} (h : (Try.prog.info? t).map (fun i => (i.zero, i.size, i.bytes)) = some (some z, s, b)) : ∃ i, Try.prog.info? t = some i ∧ i.zero = some z ∧ i.size = s ∧ i.bytes = b := by
  cases hi : Try.prog.info? t with
  | none => rw [hi] at h; cases h
  | some i =>
    rw [hi] at h
    simp only [Option.map_some, Option.some.injEq, Prod.mk.injEq] at h
    exact ⟨i, rfl, h⟩
theorem cell_newH (w : World) (l : List Value) (t : TypeId) (j : Nat) (u : Value) (h : l[j]? = some u) : (w.alloc (.cells l.toArray t)).cell? ((⟨w.heap.size, 0, none⟩ : Addr).add j) = some u := by
  have e : (⟨w.heap.size, 0, none⟩ : Addr).add j = ⟨w.heap.size, j, none⟩ := by
    unfold Addr.add; split <;> simp_all
  rw [e, World.cell?_alloc_new]
  simpa using h

theorem infoA : (Try.prog.info? 27).map (fun i => (i.zero, i.size, i.bytes)) = some (some (.agg #[.int .i64 0, .int .i64 0, .int .i64 0, .int .i64 0, .int .i64 0, .bool false]), 6, 48) := by kernel_rfl
def OwnAs (W : World) (base : Nat) (v : Value) (x : List Am) : Prop := W.ownsRow base 27 6 v x.length (x.flatMap encA)
theorem OwnAs.is {W : World} {base : Nat} {v : Value} {x : List Am} (h : OwnAs W base v x) : IsAs W v x := by
  rcases h.2 with ⟨rfl, h0⟩ | ⟨g, cap, cur, rfl, _, hg, _, _, _, ht⟩
  · have : x = [] := List.eq_nil_of_length_eq_zero h0
    subst this
    exact IsAs.nil
  · refine ⟨_, cap, rfl, fun _ => ⟨g, 0, rfl, (Array.getElem?_eq_some_iff.1 hg).1, fun i hi => ?_⟩⟩
    have hl := flatA_len x
    have := World.ownsRow.cellAt h i (by omega)
    rw [Nat.zero_add, this, List.getElem?_eq_getElem hi]
theorem OwnAs.nil (w : World) (base : Nat) : OwnAs w base (.slice none 0 0) [] := World.ownsRow_nil w base _ 6
theorem OwnAs.empty (w : World) (base : Nat) (hb : base ≤ w.heap.size) : OwnAs (w.alloc (.cells #[] 27)) base (.slice (some ⟨w.heap.size, 0, none⟩) 0 0) [] :=
  World.ownsRow_made w #[] 0 hb (by unfold maxLen; omega) rfl
theorem OwnAs.alloc {w : World} {base : Nat} {v : Value} {xs : List Am} (h : OwnAs w base v xs) (o : Obj) : OwnAs (w.alloc o) base v xs := World.ownsRow.alloc h o
theorem OwnAs.drewN {w : World} {base : Nat} {v : Value} {xs : List Am} (h : OwnAs w base v xs) (n : Nat) : OwnAs (w.drewN n) base v xs := h
theorem OwnAs.below {W W' : World} {base : Nat} {v : Value} {xs : List Am} (h : OwnAs W base v xs) (hb : Below W.heap.size W W') : OwnAs W' base v xs := row_below h hb
theorem OwnAs.upb {W W' : World} {base : Nat} {v : Value} {xs : List Am} (h : OwnAs W base v xs) (hb : Below W.heap.size W W') : OwnAs W' base v xs := row_below h hb
theorem OwnAs.at {W : World} {base : Nat} {v : Value} {xs : List Am} (h : OwnAs W base v xs) : ∀ g, v.ownBlock = some g → base ≤ g ∧ g < W.heap.size := World.ownsRow.lt h
theorem OwnAs.slice {W : World} {base : Nat} {v : Value} {xs : List Am} (h : OwnAs W base v xs) : ∃ A c, v = .slice A xs.length c := own_slice h
theorem wpList_pushA {W : World} {ops : Array Oper} {rest : List Oper} {o : Oper} {a : Act} {Q : Exit → Act → World → Prop} (hgd : o.guard = none) (s x : Operand)
    (ho : o.op = .call { callee := .builtin .append, args := #[s, x], argTypes := #[22, 22] })
    (base : Nat) (v : Value) (xs : List Am) (hs : a.eval s = v) (hown : OwnAs W base v xs) (h : Am) (H : Nat) (hH : W.heap.size = H) (hx : a.eval x = .slice (some ⟨H, 0, none⟩) 1 1)
    (hlen : xs.length ≤ 1000000) (hb : base ≤ W.heap.size)
    (hk : ∀ v' w', OwnAs w' base v' (xs ++ [h]) → W.grownBy w' v.ownBlock → (v'.ownBlock = v.ownBlock ∨ v'.ownBlock = some (W.heap.size + 1)) → wpList Try.prog ops Q rest (a.put o.dst v') w') :
    wpList Try.prog ops Q (o :: rest) a (W.alloc (.cells #[.int .i64 h.no, .int .i64 h.at_, .int .i64 h.known, .int .i64 h.key, .int .i64 h.value, .bool h.gone] 27)) := by
  subst hH
  obtain ⟨i0, hi, hz0, hz1, hz2⟩ := info_parts infoA
  refine wpList_append_own_at _ hgd s x _ ho base 27 i0 _ 6 48 Try.underlying22 hi hz0 hz1 hz2 rfl (by decide) v xs.length (xs.flatMap encA) hs (World.ownsRow.alloc hown _)
    ⟨W.heap.size, 0, none⟩ 1 1 (encA h) hx rfl (cell_newH W (encA h) _) (by simp [Value.oneCell', encA]) (by unfold maxLen; omega) (by omega) (by simp; omega) ?_
  intro v' w' h1 h2 _ h4
  refine hk v' w' ?_ ?_ (by simpa using h4)
  · unfold OwnAs; simpa [encA] using h1
  · exact (World.grownBy_alloc W _ v.ownBlock).trans h2
/-- append of a slice of one that lies anywhere -/
theorem wpList_pushA1 {W : World} {ops : Array Oper} {rest : List Oper} {o : Oper} {a : Act} {Q : Exit → Act → World → Prop} (hgd : o.guard = none) (s x : Operand)
    (ho : o.op = .call { callee := .builtin .append, args := #[s, x], argTypes := #[22, 22] })
    (base : Nat) (v : Value) (xs ys : List Am) (hs : a.eval s = v) (hown : OwnAs W base v xs) (ad : Addr) (n c : Nat) (hx : a.eval x = .slice (some ad) n c) (hv : IsAs W (.slice (some ad) n c) ys)
    (hlen : xs.length ≤ 1000000) (hlen2 : ys.length ≤ 1000000) (hb : base ≤ W.heap.size)
    (hk : ∀ v' w', OwnAs w' base v' (xs ++ ys) → W.grownBy w' v.ownBlock → (v'.ownBlock = v.ownBlock ∨ v'.ownBlock = some W.heap.size) → wpList Try.prog ops Q rest (a.put o.dst v') w') :
    wpList Try.prog ops Q (o :: rest) a W := by
  obtain ⟨i0, hi, hz0, hz1, hz2⟩ := info_parts infoA
  obtain ⟨A', c', e, hr⟩ := hv
  injection e with e1 e2 e3
  subst e1 e2 e3
  refine wpList_append_own_at _ hgd s x _ ho base 27 i0 _ 6 48 Try.underlying22 hi hz0 hz1 hz2 rfl (by decide) v xs.length (xs.flatMap encA) hs hown
    ad ys.length c (ys.flatMap encA) hx (by rw [flatA_len]; omega) (fun j u hu => ?_) (flatA_one ys) (by unfold maxLen; omega) (by omega) hb ?_
  · obtain ⟨hj, rfl⟩ := List.getElem?_eq_some_iff.1 hu
    obtain ⟨b, off, e, hb, hc⟩ := hr (by intro h0; rw [h0] at hj; simp at hj)
    injection e with e
    subst e
    have e : (⟨b, off, none⟩ : Addr).add j = ⟨b, off + j, none⟩ := by unfold Addr.add; split <;> simp_all
    rw [e]
    exact hc j hj
  · intro v' w' h1 h2 _ h4
    exact hk v' w' (by unfold OwnAs; simpa using h1) h2 h4
theorem wpList_cloneA {W : World} {ops : Array Oper} {rest : List Oper} {o : Oper} {a : Act} {Q : Exit → Act → World → Prop} (hgd : o.guard = none) (s x : Operand)
    (ho : o.op = .call { callee := .builtin .append, args := #[s, x], argTypes := #[22, 22] })
    (H : Nat) (hH : W.heap.size = H) (hs : a.eval s = .slice (some ⟨H, 0, none⟩) 0 0) (xs : List Am) (ad : Addr) (n c : Nat) (hx : a.eval x = .slice (some ad) n c) (hv : IsAs W (.slice (some ad) n c) xs)
    (hlen : xs.length ≤ 1000000)
    (h : ∀ v' w', OwnAs w' W.heap.size v' xs → Below W.heap.size W w' → wpList Try.prog ops Q rest (a.put o.dst v') w') :
    wpList Try.prog ops Q (o :: rest) a (W.alloc (.cells #[] 27)) := by
  subst hH
  refine wpList_pushA1 hgd s x ho W.heap.size _ [] xs hs (OwnAs.empty W _ (Nat.le_refl _)) ad n c hx (hv.upb (al1 W _)) (by simp) hlen (by simp) ?_
  intro v' w' h1 h2 h4
  exact h v' w' h1 (((Below.refl _ W).alloc (Nat.le_refl _) _).grown h2 (by simp) (fun k hk => by
      simp [Value.ownBlock] at hk; omega))

theorem infoS : (Try.prog.info? 44).map (fun i => (i.zero, i.size, i.bytes)) = some (some (.agg #[.int .i64 0, .int .i64 0, .bool false]), 3, 24) := by kernel_rfl
def OwnSs (W : World) (base : Nat) (v : Value) (x : List St) : Prop := W.ownsRow base 44 3 v x.length (x.flatMap encS)
theorem OwnSs.is {W : World} {base : Nat} {v : Value} {x : List St} (h : OwnSs W base v x) : IsSs W v x := by
  rcases h.2 with ⟨rfl, h0⟩ | ⟨g, cap, cur, rfl, _, hg, _, _, _, ht⟩
  · have : x = [] := List.eq_nil_of_length_eq_zero h0
    subst this
    exact IsSs.nil
  · refine ⟨_, cap, rfl, fun _ => ⟨g, 0, rfl, (Array.getElem?_eq_some_iff.1 hg).1, fun i hi => ?_⟩⟩
    have hl := flatS_len x
    have := World.ownsRow.cellAt h i (by omega)
    rw [Nat.zero_add, this, List.getElem?_eq_getElem hi]
theorem OwnSs.nil (w : World) (base : Nat) : OwnSs w base (.slice none 0 0) [] := World.ownsRow_nil w base _ 3
theorem OwnSs.empty (w : World) (base : Nat) (hb : base ≤ w.heap.size) : OwnSs (w.alloc (.cells #[] 44)) base (.slice (some ⟨w.heap.size, 0, none⟩) 0 0) [] :=
  World.ownsRow_made w #[] 0 hb (by unfold maxLen; omega) rfl
theorem OwnSs.alloc {w : World} {base : Nat} {v : Value} {xs : List St} (h : OwnSs w base v xs) (o : Obj) : OwnSs (w.alloc o) base v xs := World.ownsRow.alloc h o
theorem OwnSs.drewN {w : World} {base : Nat} {v : Value} {xs : List St} (h : OwnSs w base v xs) (n : Nat) : OwnSs (w.drewN n) base v xs := h
theorem OwnSs.below {W W' : World} {base : Nat} {v : Value} {xs : List St} (h : OwnSs W base v xs) (hb : Below W.heap.size W W') : OwnSs W' base v xs := row_below h hb
theorem OwnSs.upb {W W' : World} {base : Nat} {v : Value} {xs : List St} (h : OwnSs W base v xs) (hb : Below W.heap.size W W') : OwnSs W' base v xs := row_below h hb
theorem OwnSs.at {W : World} {base : Nat} {v : Value} {xs : List St} (h : OwnSs W base v xs) : ∀ g, v.ownBlock = some g → base ≤ g ∧ g < W.heap.size := World.ownsRow.lt h
theorem OwnSs.slice {W : World} {base : Nat} {v : Value} {xs : List St} (h : OwnSs W base v xs) : ∃ A c, v = .slice A xs.length c := own_slice h
theorem wpList_pushS {W : World} {ops : Array Oper} {rest : List Oper} {o : Oper} {a : Act} {Q : Exit → Act → World → Prop} (hgd : o.guard = none) (s x : Operand)
    (ho : o.op = .call { callee := .builtin .append, args := #[s, x], argTypes := #[38, 38] })
    (base : Nat) (v : Value) (xs : List St) (hs : a.eval s = v) (hown : OwnSs W base v xs) (h : St) (H : Nat) (hH : W.heap.size = H) (hx : a.eval x = .slice (some ⟨H, 0, none⟩) 1 1)
    (hlen : xs.length ≤ 1000000) (hb : base ≤ W.heap.size)
    (hk : ∀ v' w', OwnSs w' base v' (xs ++ [h]) → W.grownBy w' v.ownBlock → (v'.ownBlock = v.ownBlock ∨ v'.ownBlock = some (W.heap.size + 1)) → wpList Try.prog ops Q rest (a.put o.dst v') w') :
    wpList Try.prog ops Q (o :: rest) a (W.alloc (.cells #[.int .i64 h.at_, .int .i64 h.value, .bool h.ok] 44)) := by
  subst hH
  obtain ⟨i0, hi, hz0, hz1, hz2⟩ := info_parts infoS
  refine wpList_append_own_at _ hgd s x _ ho base 44 i0 _ 3 24 Try.underlying38 hi hz0 hz1 hz2 rfl (by decide) v xs.length (xs.flatMap encS) hs (World.ownsRow.alloc hown _)
    ⟨W.heap.size, 0, none⟩ 1 1 (encS h) hx rfl (cell_newH W (encS h) _) (by simp [Value.oneCell', encS]) (by unfold maxLen; omega) (by omega) (by simp; omega) ?_
  intro v' w' h1 h2 _ h4
  refine hk v' w' ?_ ?_ (by simpa using h4)
  · unfold OwnSs; simpa [encS] using h1
  · exact (World.grownBy_alloc W _ v.ownBlock).trans h2
/-- append of a slice of one that lies anywhere -/
theorem wpList_pushS1 {W : World} {ops : Array Oper} {rest : List Oper} {o : Oper} {a : Act} {Q : Exit → Act → World → Prop} (hgd : o.guard = none) (s x : Operand)
    (ho : o.op = .call { callee := .builtin .append, args := #[s, x], argTypes := #[38, 38] })
    (base : Nat) (v : Value) (xs ys : List St) (hs : a.eval s = v) (hown : OwnSs W base v xs) (ad : Addr) (n c : Nat) (hx : a.eval x = .slice (some ad) n c) (hv : IsSs W (.slice (some ad) n c) ys)
    (hlen : xs.length ≤ 1000000) (hlen2 : ys.length ≤ 1000000) (hb : base ≤ W.heap.size)
    (hk : ∀ v' w', OwnSs w' base v' (xs ++ ys) → W.grownBy w' v.ownBlock → (v'.ownBlock = v.ownBlock ∨ v'.ownBlock = some W.heap.size) → wpList Try.prog ops Q rest (a.put o.dst v') w') :
    wpList Try.prog ops Q (o :: rest) a W := by
  obtain ⟨i0, hi, hz0, hz1, hz2⟩ := info_parts infoS
  obtain ⟨A', c', e, hr⟩ := hv
  injection e with e1 e2 e3
  subst e1 e2 e3
  refine wpList_append_own_at _ hgd s x _ ho base 44 i0 _ 3 24 Try.underlying38 hi hz0 hz1 hz2 rfl (by decide) v xs.length (xs.flatMap encS) hs hown
    ad ys.length c (ys.flatMap encS) hx (by rw [flatS_len]; omega) (fun j u hu => ?_) (flatS_one ys) (by unfold maxLen; omega) (by omega) hb ?_
  · obtain ⟨hj, rfl⟩ := List.getElem?_eq_some_iff.1 hu
    obtain ⟨b, off, e, hb, hc⟩ := hr (by intro h0; rw [h0] at hj; simp at hj)
    injection e with e
    subst e
    have e : (⟨b, off, none⟩ : Addr).add j = ⟨b, off + j, none⟩ := by unfold Addr.add; split <;> simp_all
    rw [e]
    exact hc j hj
  · intro v' w' h1 h2 _ h4
    exact hk v' w' (by unfold OwnSs; simpa using h1) h2 h4
theorem wpList_cloneS {W : World} {ops : Array Oper} {rest : List Oper} {o : Oper} {a : Act} {Q : Exit → Act → World → Prop} (hgd : o.guard = none) (s x : Operand)
    (ho : o.op = .call { callee := .builtin .append, args := #[s, x], argTypes := #[38, 38] })
    (H : Nat) (hH : W.heap.size = H) (hs : a.eval s = .slice (some ⟨H, 0, none⟩) 0 0) (xs : List St) (ad : Addr) (n c : Nat) (hx : a.eval x = .slice (some ad) n c) (hv : IsSs W (.slice (some ad) n c) xs)
    (hlen : xs.length ≤ 1000000)
    (h : ∀ v' w', OwnSs w' W.heap.size v' xs → Below W.heap.size W w' → wpList Try.prog ops Q rest (a.put o.dst v') w') :
    wpList Try.prog ops Q (o :: rest) a (W.alloc (.cells #[] 44)) := by
  subst hH
  refine wpList_pushS1 hgd s x ho W.heap.size _ [] xs hs (OwnSs.empty W _ (Nat.le_refl _)) ad n c hx (hv.upb (al1 W _)) (by simp) hlen (by simp) ?_
  intro v' w' h1 h2 h4
  exact h v' w' h1 (((Below.refl _ W).alloc (Nat.le_refl _) _).grown h2 (by simp) (fun k hk => by
      simp [Value.ownBlock] at hk; omega))

def OwnPost (xs : List Am) (w : World) : Ending → World → Prop := fun e w' => ∃ v', e = .returned v' ∧ OwnAs w' w.heap.size v' xs ∧ Below w.heap.size w w'
set_option maxHeartbeats 1000000 in
theorem cloneA_any (v : Value) (l : List Am) (w : World) (hv : IsAs w v l) (hl : l.length ≤ 1000000) : Calls Try.prog 28 #[v] w (OwnPost l w) := by
  have HV := Lib.hid hv
  obtain ⟨A, cap, rfl, hr⟩ := id hv
  clear hv
  cases A with
  | none =>
    have hl0 : l = [] := by
      cases l with
      | nil => rfl
      | cons x r =>
        obtain ⟨b, off, e, _⟩ := hr (by simp [encA])
        cases e
    clear hr
    subst hl0
    have hnil : ∀ W, (binOp .eql 22 (.slice none ([] : List Am).length cap) (.slice none 0 0)).run Try.prog W = .ok (.bool true) W := fun _ => rfl
    dsimp only [List.length_nil] at hnil
    go_enter Try.func28, Try.ntmps28
    go_wp2_with (fail)
    go_ret
    exact ⟨_, rfl, OwnAs.nil _ _, Below.refl _ _⟩
  | some ad =>
    clear hr
    have hnil : ∀ W, (binOp .eql 22 (.slice (some ad) l.length cap) (.slice none 0 0)).run Try.prog W = .ok (.bool false) W := fun _ => rfl
    go_enter Try.func28, Try.ntmps28
    go_wp2_with (at_builtin; go_must (refine wpList_cloneA rfl (.tmp 5) (.tmp 6) rfl w.heap.size rfl rfl l ad l.length cap rfl HV.out hl ?_); intro v1 w1 hown1 hb1; have HO := Lib.hid hown1; have HB := Lib.hid hb1; clear hown1 hb1)
    go_ret
    exact ⟨_, rfl, HO.out, HB.out⟩
end Go.Proofs.Ytcifhigeieoogaa
