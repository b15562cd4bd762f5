/- Rows of bytes of the call's own; appending bytes and strings. -/
import Derived.Test.YtnnddmhimnekaaaWords
import Derived.Maps.AppendAt
import Derived.Laws.AppendOwnNone
import Derived.Lib.AppendStr
import Derived.OwnWalk
namespace Go.Proofs.Ytnnddmhimnekaaa
open Go.RowKit
set_option linter.unusedVariables false
set_option linter.unusedSimpArgs false

theorem infoByte : (Try.prog.info? 5).map (fun i => (i.zero, i.size, i.bytes)) = some (some (.int .u8 0), 1, 1) := by kernel_rfl

def OwnBytes (W : World) (base : Nat) (v : Value) (bs : List UInt8) : Prop := W.ownsRow base 5 1 v bs.length (bs.map encB)
theorem OwnBytes.bytes {W : World} {base : Nat} {v : Value} {bs : List UInt8} (h : OwnBytes W base v bs) : IsBytes W v bs := by
  rcases h.2 with ⟨rfl, h0⟩ | ⟨g, cap, cur, rfl, _, hg, _, _, _, ht⟩
  · have : bs = [] := List.eq_nil_of_length_eq_zero h0
    subst this
    exact IsBytes.nil
  · refine ⟨_, cap, rfl, fun _ => ⟨g, 0, rfl, (Array.getElem?_eq_some_iff.1 hg).1, fun i hi => ?_⟩⟩
    have := World.ownsRow.cellAt h i (by simpa using hi)
    rw [Nat.zero_add, this, List.getElem?_eq_getElem hi]
theorem ownB_none (w : World) (base : Nat) : OwnBytes w base (.slice none 0 0) [] := World.ownsRow_nil w base _ 1
theorem ownB_alloc {w : World} {base : Nat} {v : Value} {bs : List UInt8} (h : OwnBytes w base v bs) (o : Obj) : OwnBytes (w.alloc o) base v bs := World.ownsRow.alloc h o
theorem ownB_drewN {w : World} {base : Nat} {v : Value} {bs : List UInt8} (h : OwnBytes w base v bs) (n : Nat) : OwnBytes (w.drewN n) base v bs := h
theorem ownB_under {w w' : World} {base : Nat} {v : Value} {bs : List UInt8} (h : OwnBytes w base v bs) (hb : Below w.heap.size w w') : OwnBytes w' base v bs := row_below h hb
theorem ownB_at {W : World} {base : Nat} {v : Value} {bs : List UInt8} (h : OwnBytes W base v bs) : ∀ g, v.ownBlock = some g → base ≤ g ∧ g < W.heap.size := World.ownsRow.lt h
theorem ownB_slice {W : World} {base : Nat} {v : Value} {bs : List UInt8} (h : OwnBytes W base v bs) : ∃ A c, v = .slice A bs.length c := own_slice h
theorem ownB_lit (w : World) (base : Nat) (bs : List UInt8) (n : Nat) (cs : Array Value) (hn : n = bs.length) (hc : cs = (bs.map encB).toArray) (hb : base ≤ w.heap.size) (hl : bs.length ≤ 1000000) : OwnBytes (w.alloc (.cells cs 5)) base (.slice (some ⟨w.heap.size, 0, none⟩) n n) bs := by
  subst hn hc
  have := World.ownsRow_lit (base := base) (e := 5) (size := 1) w (bs.map encB).toArray bs.length hb (by unfold maxLen; omega) (by simp)
  simpa [OwnBytes] using this
theorem byte_one (c : UInt8) : (Value.int .u8 (c.toNat : Int)) = encB c := rfl

/-- what an append onto such a row leaves -/
structure Cat (X X' : World) (base : Nat) (v v' : Value) (bs : List UInt8) : Prop where
  own : OwnBytes X' base v' bs
  grown : X.grownBy X' v.ownBlock
  at_ : v'.ownBlock = v.ownBlock ∨ ∃ g, v'.ownBlock = some g ∧ X.heap.size ≤ g
theorem Cat.trans {X Y Z : World} {base : Nat} {v v' v'' : Value} {bs bs' : List UInt8} (h : Cat X Y base v v' bs) (k : Cat Y Z base v' v'' bs') : Cat X Z base v v'' bs' := by
  refine ⟨k.own, ⟨k.grown.os.trans h.grown.os, k.grown.tape.trans h.grown.tape, k.grown.output.trans h.grown.output, Nat.le_trans h.grown.size k.grown.size, fun b hb hne => ?_⟩, ?_⟩
  · refine (k.grown.block b (Nat.lt_of_lt_of_le hb h.grown.size) ?_).trans (h.grown.block b hb hne)
    rcases h.at_ with e | ⟨g, e, hg⟩ <;> rw [e]
    · exact hne
    · intro e2; injection e2 with e2; omega
  · rcases k.at_ with e | ⟨g, e, hg⟩
    · rw [e]; exact h.at_
    · exact .inr ⟨g, e, Nat.le_trans h.grown.size hg⟩
/-- new blocks first, then an append -/
theorem Cat.after {X Y Z : World} {base : Nat} {v v' : Value} {bs : List UInt8} (hb : Below X.heap.size X Y) (k : Cat Y Z base v v' bs) : Cat X Z base v v' bs :=
  ⟨k.own, ⟨k.grown.os.trans hb.os, k.grown.tape.trans hb.tape, k.grown.output.trans hb.output, Nat.le_trans hb.size k.grown.size, fun b h1 h2 => (k.grown.block b (Nat.lt_of_lt_of_le h1 hb.size) h2).trans (hb.block b h1)⟩,
    k.at_.imp id (fun ⟨g, e, hg⟩ => ⟨g, e, Nat.le_trans hb.size hg⟩)⟩
theorem Cat.then_ {X Y Z : World} {base : Nat} {v v' : Value} {bs : List UInt8} (h : Cat X Y base v v' bs) (hb : Below Y.heap.size Y Z) : Cat X Z base v v' bs :=
  ⟨ownB_under h.own hb, ⟨hb.os.trans h.grown.os, hb.tape.trans h.grown.tape, hb.output.trans h.grown.output, Nat.le_trans h.grown.size hb.size, fun b h1 h2 => (hb.block b (Nat.lt_of_lt_of_le h1 h.grown.size)).trans (h.grown.block b h1 h2)⟩, h.at_⟩
theorem Cat.refl {X : World} {base : Nat} {v : Value} {bs : List UInt8} (h : OwnBytes X base v bs) : Cat X X base v v bs := ⟨h, World.grownBy.refl X _, .inl rfl⟩
/-- a block that holds no bytes is kept -/
theorem Cat.keep {X X' : World} {base : Nat} {v v' : Value} {bs bs0 : List UInt8} (h : Cat X X' base v v' bs) (h0 : OwnBytes X base v bs0) {b : Nat} {cs : Array Value} {t : TypeId} (hb : X.heap[b]? = some (.cells cs t (0, 0))) (ht : t ≠ 5) : X'.heap[b]? = some (.cells cs t (0, 0)) := by
  refine (h.grown.block b (Array.getElem?_eq_some_iff.1 hb).1 ?_).trans hb
  rcases h0.2 with ⟨rfl, _⟩ | ⟨g, cap, cur, rfl, _, hg, _⟩
  · simp [Value.ownBlock]
  · intro e
    have e2 : b = g := by simpa [Value.ownBlock] using e
    subst e2
    rw [hg] at hb
    injection hb with hb
    injection hb with _ hb
    exact ht hb.symm
theorem Cat.below {w X X' : World} {base : Nat} {v v' : Value} {bs bs0 : List UInt8} (h : Cat X X' base v v' bs) (h0 : OwnBytes X base v bs0) (hb : Below base w X) (hs : base ≤ X.heap.size) : Below base w X' :=
  hb.grown h.grown hs (fun g hg => (ownB_at h0 g hg).1)

theorem run_catB {X : World} {base : Nat} {v : Value} {bs : List UInt8} (ty : TypeId) (hown : OwnBytes X base v bs) {src : Value} {ys : List UInt8} (hr : IsBytes X src ys) (hlen : bs.length + ys.length ≤ 1099511627776) (hb : base ≤ X.heap.size) :
    ∃ v' X', (Builtin.append_ #[27, 27] ty #[v, src]).run Try.prog X = .ok v' X' ∧ Cat X X' base v v' (bs ++ ys) := by
  obtain ⟨i0, hi, hz0, hz1, hz2⟩ := info_parts infoByte
  obtain ⟨A, c, rfl, hrow⟩ := hr
  have fin : ∀ v' X', X'.ownsRow base 5 1 v' (bs.length + ys.length) (bs.map encB ++ ys.map encB) → OwnBytes X' base v' (bs ++ ys) := fun v' X' h => by
    unfold OwnBytes; simpa using h
  rcases A with _ | ad
  · have h0 : ys = [] := by
      cases ys with
      | nil => rfl
      | cons y r =>
        obtain ⟨b, off, e, _⟩ := hrow (by simp)
        cases e
    subst h0
    rcases hown.2 with ⟨rfl, h2⟩ | ⟨g, cap, cur, rfl, h3, h4, hnc, h5⟩
    · have e0 : bs = [] := List.eq_nil_of_length_eq_zero h2
      subst e0
      exact ⟨_, X, by simp [Builtin.append_, run_underlying Try.underlying27, sizeOf, typeInfo, hi, Builtin.lenOf, Builtin.firstCells], fin _ _ hown, World.grownBy.refl X _, .inl rfl⟩
    · refine ⟨.slice (some ⟨g, 0, none⟩) bs.length cap, X, by simp [Builtin.append_, run_underlying Try.underlying27, sizeOf, typeInfo, hi, Builtin.lenOf, Builtin.firstCells, hnc, storeCells], ?_, World.grownBy.refl X _, .inl rfl⟩
      rw [List.append_nil]; exact hown
  · have hcells : ∀ j u, (ys.map encB)[j]? = some u → X.cell? (ad.add j) = some u := by
      intro j u hu
      obtain ⟨hj, rfl⟩ := List.getElem?_eq_some_iff.1 hu
      obtain ⟨b, off, e, _, hc⟩ := hrow (by intro h0; rw [h0] at hj; simp at hj)
      cases e
      have e2 : (⟨b, off, none⟩ : Addr).add j = ⟨b, off + j, none⟩ := by unfold Addr.add; split <;> simp_all
      rw [e2]; exact hc j hj
    obtain ⟨v', X', h1, h2, h3, _, h5⟩ := run_append_own_at (P := Try.prog) X base 27 ty 5 i0 (.int .u8 0) 1 1 Try.underlying27 hi hz0 hz1 hz2 rfl (by decide) v bs.length (bs.map encB) hown ad ys.length c (ys.map encB) (by simp) hcells
      (by intro u hu; simp only [List.mem_map] at hu; obtain ⟨y, _, rfl⟩ := hu; rfl) (by unfold maxLen; omega) (by omega) hb
    exact ⟨v', X', h1, fin _ _ h2, h3, h5.imp id (fun e => ⟨_, e, Nat.le_refl _⟩)⟩

theorem run_catS {X : World} {base : Nat} {v : Value} {bs : List UInt8} (ty : TypeId) (hown : OwnBytes X base v bs) (s : ByteArray) (hlen : bs.length + s.size ≤ 1099511627776) (hb : base ≤ X.heap.size) :
    ∃ v' X', (Builtin.append_ #[27, 9] ty #[v, .string s]).run Try.prog X = .ok v' X' ∧ Cat X X' base v v' (bs ++ s.data.toList) := by
  obtain ⟨i0, hi, hz0, hz1, hz2⟩ := info_parts infoByte
  obtain ⟨v', X', h1, h2, h3, _⟩ := Lib.run_append_own_string (P := Try.prog) X base 27 9 ty 5 i0 Try.underlying27 Try.underlying9 hi hz0 hz1 hz2 v bs.length (bs.map encB) hown s (by unfold maxLen; omega) (by omega) hb
  refine ⟨v', X', h1, ?_, h3, ?_⟩
  · unfold OwnBytes
    rw [List.length_append, List.map_append]
    exact h2
  · rcases hown.2 with ⟨rfl, h0⟩ | ⟨g, cap, cur, rfl, hbg, hg, hnc, hcm, hcs, htake⟩
    · -- from nil: nothing, or a new block
      obtain ⟨v2, X2, k1, k2, _⟩ := Lib.run_append_own_string (P := Try.prog) X X.heap.size 27 9 ty 5 i0 Try.underlying27 Try.underlying9 hi hz0 hz1 hz2 (.slice none 0 0) 0 [] (World.ownsRow_nil X _ _ 1) s (by unfold maxLen; omega) (by omega) (Nat.le_refl _)
      rw [k1] at h1
      injection h1 with e1 e2
      subst e1
      cases hv : v2.ownBlock with
      | none => exact .inl rfl
      | some g => exact .inr ⟨g, rfl, (World.ownsRow.lt k2 g hv).1⟩
    · by_cases hroom : bs.length + s.size ≤ cap
      · have hcs' : cur.size = cap := by simpa using hcs
        have hr := Lib.run_append_room_string (P := Try.prog) X 27 9 ty 5 i0 Try.underlying27 Try.underlying9 hi hz1 g bs.length cap cur hg s hroom (by omega)
        rw [hr] at h1
        injection h1 with e1 e2
        subst e1
        exact .inl rfl
      · have holds : ∀ j u, (bs.map encB)[j]? = some u → X.cell? ((⟨g, 0, none⟩ : Addr).add j) = some u := World.ownsRow.cells hown (g := g) rfl
        have hr := Lib.run_append_grow_string (P := Try.prog) X 27 9 ty 5 i0 (.int .u8 0) Try.underlying27 Try.underlying9 hi hz0 ⟨g, 0, none⟩ bs.length cap (bs.map encB) (by rw [hz1]; simp) holds s (by omega) (by omega) (by rw [hz2]; exact growslice_fits (by omega) (by omega))
        rw [hr] at h1
        injection h1 with e1 e2
        subst e1
        exact .inr ⟨_, rfl, Nat.le_refl _⟩

section
variable {ops : Array Oper} {rest : List Oper} {o : Oper} {a : Act} {Q : Exit → Act → World → Prop}
theorem wp_cat {X : World} {K : Act → World → Prop} {base : Nat} {v : Value} {bs : List UInt8} (s x : Operand) (u : TypeId) (y : Value) (ho : o.op = .call { callee := .builtin .append, args := #[s, x], argTypes := #[27, u] })
    (hs : a.eval s = v) (hx : a.eval x = y) (hr : ∃ v' X', (Builtin.append_ #[27, u] o.type #[v, y]).run Try.prog X = .ok v' X' ∧ Cat X X' base v v' bs)
    (h : ∀ v' X', Cat X X' base v v' bs → K (a.put o.dst v') X') : o.wp Try.prog a X K Q := by
  obtain ⟨v', X', h1, h2⟩ := hr
  unfold Oper.wp execOp
  simp only [ho, resolve, invoke, builtin, Sem.run_bind, Sem.run_pure, Result.andThen_ok, List.map_toArray, List.map_cons, List.map_nil, hs, hx, h1]
  exact h v' X' h2
theorem wpList_cat {X : World} {base : Nat} {v : Value} {bs : List UInt8} (hgd : o.guard = none) (s x : Operand) (u : TypeId) (y : Value) (ho : o.op = .call { callee := .builtin .append, args := #[s, x], argTypes := #[27, u] })
    (hs : a.eval s = v) (hx : a.eval x = y) (hr : ∃ v' X', (Builtin.append_ #[27, u] o.type #[v, y]).run Try.prog X = .ok v' X' ∧ Cat X X' base v v' bs)
    (h : ∀ v' X', Cat X X' base v v' bs → wpList Try.prog ops Q rest (a.put o.dst v') X') : wpList Try.prog ops Q (o :: rest) a X :=
  wpList_plain hgd fun K hK => wp_cat s x u y ho hs hx hr (fun v' X' hc => hK _ _ (h v' X' hc))
theorem step_cat {X : World} {K : Act → World → Prop} {E : Prop} {base : Nat} {v : Value} {bs : List UInt8} (hgd : o.guard = none) (s x : Operand) (u : TypeId) (y : Value) (ho : o.op = .call { callee := .builtin .append, args := #[s, x], argTypes := #[27, u] })
    (hs : a.eval s = v) (hx : a.eval x = y) (hr : ∃ v' X', (Builtin.append_ #[27, u] o.type #[v, y]).run Try.prog X = .ok v' X' ∧ Cat X X' base v v' bs)
    (h : ∀ v' X', Cat X X' base v v' bs → K (a.put o.dst v') X') : if Region.wanted o (yielded ops a.tmps) = true then Oper.wp Try.prog o a X K Q else E := by
  have hw : Region.wanted o (yielded ops a.tmps) = true := by simp [Region.wanted, hgd]
  rw [if_pos hw]
  exact wp_cat s x u y ho hs hx hr h
end
theorem bytes_lit (w : World) (bs : List UInt8) (n : Nat) (cs : Array Value) (hn : n = bs.length) (hc : cs = (bs.map encB).toArray) (hl : bs.length ≤ 1000000) : IsBytes (w.alloc (.cells cs 5)) (.slice (some ⟨w.heap.size, 0, none⟩) n n) bs :=
  (ownB_lit w 0 bs n cs hn hc (Nat.zero_le _) hl).bytes

end Go.Proofs.Ytnnddmhimnekaaa
