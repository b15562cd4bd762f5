/- Boxes of four bytes beside a disk, and how a disk and a script of the call's own are kept over stores into boxes. -/
import Derived.Test.YtimpnpdhhhbmgaaW28
import Derived.Test.YtimpnpdhhhbmgaaW27
namespace Go.Proofs.Ytimpnpdhhhbmgaa
open Go.RowKit
set_option linter.unusedVariables false
set_option linter.unusedSimpArgs false

/-- a box of four bytes -/
def Q4 (W : World) (B : Nat) (L : By) : Prop := L.length = 4 ∧ Cells W B 44 (L.map encB)
theorem Q4.lt {W : World} {B : Nat} {L : By} (h : Q4 W B L) : B < W.heap.size := h.2.lt
theorem Q4.upb {W W' : World} {B : Nat} {L : By} (h : Q4 W B L) (hb : Below W.heap.size W W') : Q4 W' B L := ⟨h.1, h.2.upb hb⟩
theorem Q4.set {W : World} {B : Nat} {L : By} (h : Q4 W B L) (k : Nat) (c : UInt8) : Q4 (W.setCell ⟨B, k, none⟩ (.int .u8 (c.toNat : Int))) B (L.set k c) := by
  refine ⟨by rw [List.length_set]; exact h.1, ?_⟩
  have := h.2.set (k := k) (encB c)
  rw [List.map_set]
  exact this
theorem Q4.cell {W : World} {B : Nat} {L : By} (h : Q4 W B L) {k : Nat} (hk : k < 4) : W.cell? ⟨B, k, none⟩ = some (.int .u8 ((L.getD k 0).toNat : Int)) := by
  have hk2 : k < L.length := by rw [h.1]; exact hk
  refine h.2.cell ?_
  rw [List.getElem?_map, List.getElem?_eq_getElem hk2]
  simp [encB, List.getD, List.getElem?_eq_getElem hk2]
theorem Q4.frozen {W : World} {B : Nat} {L : By} (h : Q4 W B L) (k : Nat) : W.frozen? ⟨B, k, none⟩ = false := h.2.frozen k
theorem Q4.kept {W W' : World} {B B' : Nat} {L : By} (h : Q4 W B L) (hg : W.grownBy W' (some B')) (hne : B ≠ B') : Q4 W' B L := ⟨h.1, grownK h.2 hg hne⟩
theorem four_of {L : By} (h : L.length = 4) : ∃ a b c d, L = [a, b, c, d] := by
  match L, h with
  | [a, b, c, d], _ => exact ⟨a, b, c, d, rfl⟩

theorem IsBytes.off44 {W : World} {v : Value} {bs : By} (h : IsBytes W v bs) (hl : 4 < bs.length) {B : Nat} {L : By} (hC : Q4 W B L) : OffB (some B) W v bs := by
  obtain ⟨A', c', e, hc, hr⟩ := h
  refine ⟨A', c', e, hc, fun hn => ?_⟩
  obtain ⟨b, off, e1, hb, hcc⟩ := hr (by intro h0; simp at h0; exact hn h0)
  refine ⟨b, off, e1, fun e2 => ?_, hb, fun i hi => by rw [hcc i (by simpa using hi)]; simp⟩
  injection e2 with e2
  subst e2
  have h0 := hcc 4 (by simpa using hl)
  rw [cell_of_row W B _ _ 44 (0, 0) hC.2] at h0
  have hn : (L.map encB).toArray.size ≤ off + 4 := by simp [hC.1]
  rw [Array.getElem?_eq_none hn] at h0
  cases h0
theorem IsBytes.box44 {W W' : World} {v : Value} {bs : By} (h : IsBytes W v bs) (hl : 4 < bs.length) {B : Nat} {L : By} (hC : Q4 W B L) (hg : W.grownBy W' (some B)) : IsBytes W' v bs :=
  ((h.off44 hl hC).grown hg).bytes
theorem q4_cell {W : World} {B : Nat} {L : By} (hC : Q4 W B L) {k : Nat} {v : Value} (h : W.cell? ⟨B, k, none⟩ = some v) : ∃ c : UInt8, v = .int .u8 (c.toNat : Int) := by
  rw [cell_of_row W B _ _ 44 (0, 0) hC.2] at h
  obtain ⟨hi, e⟩ := Array.getElem?_eq_some_iff.1 h
  simp at e
  exact ⟨_, e.symm⟩
/-- a disk whose rows are all of 128 bytes -/
def D128 (d : Dk) : Prop := (∀ q ∈ d.ss, q.length = 128) ∧ ∀ p ∈ d.ps, p.data.length = 128
theorem IsD.box44 {W W' : World} {v : Value} {d : Dk} (h : IsD W v d) (h8 : D128 d) {B : Nat} {L : By} (hC : Q4 W B L) (hg : W.grownBy W' (some B)) : IsD W' v d := by
  obtain ⟨sv, pv, e, h1, h2⟩ := h
  refine ⟨sv, pv, e, ?_, ?_⟩
  · obtain ⟨A', c', vs, e1, hc, hl, hr, hi⟩ := h1
    refine ⟨A', c', vs, e1, hc, hl, fun hn => ?_, fun i h h' => (hi i h h').box44 (by rw [h8.1 _ (List.getElem_mem h')]; omega) hC hg⟩
    obtain ⟨b, off, e2, hb, hcc⟩ := hr hn
    refine ⟨b, off, e2, Nat.lt_of_lt_of_le hb hg.size, fun i hi2 => (World.cell?_of_block (hg.block b hb (fun e3 => ?_))).trans (hcc i hi2)⟩
    injection e3 with e3
    subst e3
    obtain ⟨c, h0⟩ := q4_cell hC (hcc i hi2)
    obtain ⟨_, _, h3, _⟩ := hi i hi2 (by omega)
    rw [h3] at h0; cases h0
  · obtain ⟨A', c', vs, e1, hc, hl, hr, hi⟩ := h2
    refine ⟨A', c', vs, e1, hc, hl, fun hn => ?_, fun i h h' => (hi i h h').box44 (by rw [h8.2 _ (List.getElem_mem h')]; omega) hC hg⟩
    obtain ⟨b, off, e2, hb, hcc⟩ := hr hn
    refine ⟨b, off, e2, Nat.lt_of_lt_of_le hb hg.size, fun i hi2 => (World.cell?_of_block (hg.block b hb (fun e3 => ?_))).trans (hcc i hi2)⟩
    injection e3 with e3
    subst e3
    have h0 := hcc 0 (List.length_pos_iff.2 hn)
    obtain ⟨c, h0⟩ := q4_cell hC h0
    generalize d.ps = ps at *
    match ps, vs, hl with
    | p :: ps, u :: us, _ => simp [rowW] at h0
/-- a disk of three and more sectors does not lie in a disk's box -/
theorem IsD.box4 {W W' : World} {v : Value} {d : Dk} (h : IsD W v d) (h3 : 3 ≤ d.ss.length) {B : Nat} {A n c A2 n2 c2 l st} (hC : Cells W B 25 [.slice A n c, .slice A2 n2 c2, .int .i64 l, .bool st]) (hg : W.grownBy W' (some B)) : IsD W' v d := by
  refine h.box ?_ hC hg
  intro hn b off k c pv l s e hbB
  subst hbB
  obtain ⟨sv, pv', e', h1, h2⟩ := h
  rw [e'] at e
  injection e with e
  injection e with e
  injection e with e1 _
  subst e1
  obtain ⟨A', c', vs, e3, _, hl, hr, hi⟩ := h1
  injection e3 with e3
  subst e3
  obtain ⟨b', off', e4, hb, hcc⟩ := hr (by intro h0; subst h0; simp at hl; omega)
  injection e4 with e4
  injection e4 with e4 e5
  subst e4 e5
  have h0 := hcc 2 (by omega)
  obtain ⟨A9, c9, e9, _⟩ := hi 2 (by omega) (by omega)
  rw [e9, cell_of_row W b _ _ 25 (0, 0) hC] at h0
  match off with
  | 0 => simp at h0
  | 1 => simp at h0
  | n + 2 => simp at h0
theorem OwnAc.ne {W : World} {base : Nat} {v : Value} {x : List Ac} (h : OwnAc W base v x) {B : Nat} {t : TypeId} {cs : List Value} (hC : Cells W B t cs) (ht : t ≠ 46) : ∀ g, v.ownBlock = some g → g ≠ B := by
  rintro g hg rfl
  rcases h.2 with ⟨rfl, _⟩ | ⟨g', cap, cur, rfl, _, hg2, _⟩
  · simp [Value.ownBlock] at hg
  · have e2 : g' = g := by simpa [Value.ownBlock] using hg
    subst e2
    rw [show W.heap[g']? = _ from hC] at hg2
    injection hg2 with hg2
    injection hg2 with _ h5
    exact ht h5
theorem OwnAc.box {W W' : World} {base : Nat} {v : Value} {x : List Ac} (h : OwnAc W base v x) {B : Nat} {t : TypeId} {cs : List Value} (hC : Cells W B t cs) (ht : t ≠ 46) (hg : W.grownBy W' (some B)) : OwnAc W' base v x := by
  have hne := h.ne hC ht
  refine World.ownsRow.kept h hg ?_
  rcases h.2 with ⟨rfl, _⟩ | ⟨g, cap, cur, rfl, _, hg2, _⟩
  · exact .inl rfl
  · refine .inr (fun e => ?_)
    exact hne g rfl (by simpa [Value.ownBlock] using e)

/-- the cells of a block of steps: a bool, two bytes, and so on -/
def ShV (i : Nat) (v : Value) : Prop := (i % 3 = 0 ∧ ∃ b, v = .bool b) ∨ (i % 3 ≠ 0 ∧ ∃ z, v = .int .u8 z)
def ShL (l : List Value) : Prop := ∀ i v, l[i]? = some v → ShV i v
theorem ShL.nil : ShL [] := fun i v h => by simp at h
theorem shV_add {i j : Nat} {v : Value} (h : ShV i v) (hj : j % 3 = i % 3) : ShV j v := by
  rcases h with ⟨h1, h2⟩ | ⟨h1, h2⟩
  · exact .inl ⟨by omega, h2⟩
  · exact .inr ⟨by omega, h2⟩
theorem ShL.append {l m : List Value} (h : ShL l) (hm : ShL m) (h3 : l.length % 3 = 0) : ShL (l ++ m) := by
  intro i v hi
  by_cases hl : i < l.length
  · rw [List.getElem?_append_left hl] at hi
    exact h i v hi
  · rw [List.getElem?_append_right (by omega)] at hi
    exact shV_add (hm _ _ hi) (by omega)
theorem ShL.take {l : List Value} (h : ShL l) (n : Nat) : ShL (l.take n) := by
  intro i v hi
  rw [List.getElem?_take] at hi
  split at hi
  · exact h i v hi
  · cases hi
theorem ShL.drop {l : List Value} (h : ShL l) {n : Nat} (h3 : n % 3 = 0) : ShL (l.drop n) := by
  intro i v hi
  rw [List.getElem?_drop] at hi
  exact shV_add (h _ _ hi) (by omega)
theorem ShL.rowA : ∀ x : List Ac, ShL (rowA x)
  | [] => ShL.nil
  | p :: r => by
    intro i v hi
    match i, hi with
    | 0, hi => simp [Proofs.Ytimpnpdhhhbmgaa.rowA] at hi; exact .inl ⟨rfl, _, hi.symm⟩
    | 1, hi => simp [Proofs.Ytimpnpdhhhbmgaa.rowA] at hi; exact .inr ⟨by decide, _, hi.symm⟩
    | 2, hi => simp [Proofs.Ytimpnpdhhhbmgaa.rowA] at hi; exact .inr ⟨by decide, _, hi.symm⟩
    | i + 3, hi =>
      have h2 : (Proofs.Ytimpnpdhhhbmgaa.rowA r)[i]? = some v := by simpa [Proofs.Ytimpnpdhhhbmgaa.rowA] using hi
      exact shV_add (ShL.rowA r i v h2) (by omega)
theorem ShL.zeros (n : Nat) : ShL (Builtin.zeroCells #[.bool false, .int .u8 0, .int .u8 0] n).toList := by
  intro i v hi
  rw [Array.getElem?_toList] at hi
  unfold Builtin.zeroCells at hi
  rw [Array.getElem?_map] at hi
  obtain ⟨j, hj, rfl⟩ := Option.map_eq_some_iff.1 hi
  have : j = i := by
    obtain ⟨h1, h2⟩ := Array.getElem?_eq_some_iff.1 hj
    simpa using h2.symm
  subst this
  have h3 : j % 3 = 0 ∨ j % 3 = 1 ∨ j % 3 = 2 := by omega
  rcases h3 with h3 | h3 | h3
  · exact .inl ⟨h3, false, by simp [h3]⟩
  · exact .inr ⟨by omega, 0, by simp [h3]⟩
  · exact .inr ⟨by omega, 0, by simp [h3]⟩
/-- a script of the call's own in a block of steps -/
structure OwnA2 (W : World) (base : Nat) (v : Value) (x : List Ac) : Prop where
  own : OwnAc W base v x
  sh : ∀ g, v.ownBlock = some g → ∃ cur, W.heap[g]? = some (.cells cur 46 (0, 0)) ∧ ShL cur.toList
theorem OwnA2.upb {W W' : World} {base : Nat} {v : Value} {x : List Ac} (h : OwnA2 W base v x) (hb : Below W.heap.size W W') : OwnA2 W' base v x :=
  ⟨h.own.upb hb, fun g hg => by
    obtain ⟨cur, h1, h2⟩ := h.sh g hg
    exact ⟨cur, (hb.block g (Array.getElem?_eq_some_iff.1 h1).1).trans h1, h2⟩⟩
theorem OwnA2.box {W W' : World} {base : Nat} {v : Value} {x : List Ac} (h : OwnA2 W base v x) {B : Nat} {t : TypeId} {cs : List Value} (hC : Cells W B t cs) (ht : t ≠ 46) (hg : W.grownBy W' (some B)) : OwnA2 W' base v x :=
  ⟨h.own.box hC ht hg, fun g hgv => by
    obtain ⟨cur, h1, h2⟩ := h.sh g hgv
    refine ⟨cur, (hg.block g (Array.getElem?_eq_some_iff.1 h1).1 (fun e => ?_)).trans h1, h2⟩
    injection e with e
    exact h.own.ne hC ht g hgv e⟩
theorem OwnA2.empty (w : World) (base : Nat) (hb : base ≤ w.heap.size) : OwnA2 (w.alloc (.cells #[] 46)) base (.slice (some ⟨w.heap.size, 0, none⟩) 0 0) [] :=
  ⟨OwnAc.empty w base hb, fun g hg => by
    have : w.heap.size = g := by simpa [Value.ownBlock] using hg
    subst this
    exact ⟨#[], heap_alloc_new w _, ShL.nil⟩⟩
theorem appA2_run {W : World} {base : Nat} (ty : TypeId) {v : Value} {xs : List Ac} (hown : OwnA2 W base v xs) (p : Ac) (H c : Nat) (hr : RowAt W (some ⟨H, 0, none⟩) (rowA [p])) (hlen : xs.length ≤ 1000000) (hb : base ≤ W.heap.size) :
    ∃ v' w', (Builtin.append_ #[43, 43] ty #[v, .slice (some ⟨H, 0, none⟩) 1 c]).run Try.prog W = .ok v' w' ∧ OwnA2 w' base v' (xs ++ [p]) ∧ W.grownBy w' v.ownBlock := by
  obtain ⟨v', w', k1, k2, k3, k4⟩ := app_run W base 43 ty 46 _ 3 3 Try.underlying43 info46 rfl (by decide) v xs.length (rowA xs) hown.own (some ⟨H, 0, none⟩) 1 c (rowA [p]) (by rw [rowA_len]; rfl) hr (rowA_one p) (by unfold maxLen; omega) (by omega) hb
  refine ⟨v', w', k1, ⟨by unfold OwnAc; rw [rowA_append, List.length_append]; exact k2, ?_⟩, k3⟩
  have hnews := rowAt_cells hr
  obtain ⟨i0, hi, hz0, hz1, hz2⟩ := info_parts info46
  have hl1 : (rowA [p]).length = 1 * i0.size := by rw [rowA_len, hz1]; rfl
  intro g hg
  rcases hown.own.2 with ⟨rfl, h0⟩ | ⟨g0, cap, cur, rfl, hbg, hg0, hnc, hcm, hcs, htake⟩
  · have hr2 := run_append_nil (P := Try.prog) W 43 ty 46 i0 _ Try.underlying43 hi hz0 ⟨H, 0, none⟩ 1 c (rowA [p]) hl1 hnews (by omega) (by omega) (by rw [hz2]; omega)
    rw [hr2] at k1
    injection k1 with e1 e2
    subst e1 e2
    have : W.heap.size = g := by simpa [Value.ownBlock] using hg
    subst this
    exact ⟨_, heap_alloc_new W.drew _, by
      rw [Array.toList_append]
      exact (ShL.rowA [p]).append (ShL.zeros _) (by rw [rowA_len]; omega)⟩
  · by_cases hroom : xs.length + 1 ≤ cap
    · have hfit : xs.length * i0.size + (rowA [p]).length ≤ cur.size := by rw [hl1, hcs, ← Nat.add_mul, hz1]; exact Nat.mul_le_mul_right _ hroom
      have hr2 := run_append_room (P := Try.prog) W 43 ty 46 i0 Try.underlying43 hi g0 xs.length cap cur hg0 ⟨H, 0, none⟩ 1 c (rowA [p]) hl1 hnews (rowA_one p) hroom hfit
      rw [hr2] at k1
      injection k1 with e1 e2
      subst e1 e2
      have : g0 = g := by simpa [Value.ownBlock] using hg
      subst this
      obtain ⟨cur2, hc2, hs2⟩ := hown.sh g0 rfl
      rw [hg0] at hc2
      injection hc2 with hc2
      injection hc2 with hc2
      subst hc2
      refine ⟨_, setRow_heap W g0 cur _ 46 _ hg0, ?_⟩
      rw [hz1]
      have hle : xs.length * 3 ≤ cur.toList.length := by
        have h9 : cur.toList.length = cap * 3 := by rw [Array.length_toList]; exact hcs
        rw [h9]; exact Nat.mul_le_mul_right _ hnc
      refine ((hs2.take _).append (ShL.rowA [p]) ?_).append (hs2.drop ?_) ?_
      · rw [List.length_take, Nat.min_eq_left hle]; omega
      · rw [rowA_len]; simp only [List.length_cons, List.length_nil]; omega
      · rw [List.length_append, List.length_take, Nat.min_eq_left hle, rowA_len]; simp only [List.length_cons, List.length_nil]; omega
    · have holds : ∀ j u, (rowA xs)[j]? = some u → W.cell? ((⟨g0, 0, none⟩ : Addr).add j) = some u := World.ownsRow.cells hown.own (g := g0) rfl
      have hr2 := run_append_grow (P := Try.prog) W 43 ty 46 i0 _ Try.underlying43 hi hz0 ⟨g0, 0, none⟩ xs.length cap (rowA xs) (by rw [rowA_len, hz1]) holds ⟨H, 0, none⟩ 1 c (rowA [p]) hl1 hnews (by omega) (by omega) (growslice_fits (by omega) (by rw [hz2]; omega))
      rw [hr2] at k1
      injection k1 with e1 e2
      subst e1 e2
      have : W.heap.size = g := by simpa [Value.ownBlock] using hg
      subst this
      refine ⟨_, heap_alloc_new W.drew _, ?_⟩
      rw [Array.toList_append, Array.toList_append]
      exact ((ShL.rowA xs).append (ShL.rowA [p]) (by rw [rowA_len]; omega)).append (ShL.zeros _) (by rw [List.length_append, rowA_len, rowA_len]; omega)
theorem wpList_pushA2 {W : World} {ops : Array Oper} {rest : List Oper} {o : Oper} {a : Act} {Q : Exit → Act → World → Prop} (hgd : o.guard = none) (s x : Operand)
    (ho : o.op = .call { callee := .builtin .append, args := #[s, x], argTypes := #[43, 43] })
    (base : Nat) (v : Value) (xs : List Ac) (hs : a.eval s = v) (hown : OwnA2 W base v xs) (p : Ac) (H : Nat) (hH : W.heap.size = H) (hx : a.eval x = .slice (some ⟨H, 0, none⟩) 1 1)
    (hlen : xs.length ≤ 1000000) (hb : base ≤ W.heap.size)
    (hk : ∀ v' w', OwnA2 w' base v' (xs ++ [p]) → W.grownBy w' v.ownBlock → wpList Try.prog ops Q rest (a.put o.dst v') w') :
    wpList Try.prog ops Q (o :: rest) a (W.alloc (.cells #[.bool p.s, .int .u8 (p.a.toNat : Int), .int .u8 (p.b.toNat : Int)] 46)) := by
  subst hH
  have hr : RowAt (W.alloc (.cells #[.bool p.s, .int .u8 (p.a.toNat : Int), .int .u8 (p.b.toNat : Int)] 46)) (some ⟨W.heap.size, 0, none⟩) (rowA [p]) := fun _ => by
    refine ⟨W.heap.size, 0, rfl, by simp, fun i hi => ?_⟩
    rw [World.cell?_alloc_new, Nat.zero_add, ← List.getElem?_eq_getElem hi]
    simp [rowA]
  obtain ⟨v', w', k1, k2, k3⟩ := appA2_run (W := W.alloc (.cells #[.bool p.s, .int .u8 (p.a.toNat : Int), .int .u8 (p.b.toNat : Int)] 46)) (base := base) o.type (hown.upb (al1 W _)) p W.heap.size 1 hr hlen (by simp; omega)
  refine wpList_app (R := fun v2 X2 => v2 = v' ∧ X2 = w') hgd s x 43 v (.slice (some ⟨W.heap.size, 0, none⟩) 1 1) ho hs hx ⟨v', w', k1, rfl, rfl⟩ ?_
  rintro v2 X2 ⟨rfl, rfl⟩
  exact hk _ _ k2 ((World.grownBy_alloc W _ v.ownBlock).trans k3)

/-- what an append onto a script of the call's own leaves of other blocks -/
theorem Cells.pushed {W X : World} {base B : Nat} {v : Value} {x : List Ac} {t : TypeId} {cs : List Value} (hC : Cells W B t cs) (hg : W.grownBy X v.ownBlock) (ho : OwnA2 W base v x) (ht : t ≠ 46) : Cells X B t cs :=
  (hg.block B hC.lt (fun e => ho.own.ne hC ht B e.symm rfl)).trans hC
theorem Q4.pushed {W X : World} {base B : Nat} {v : Value} {x : List Ac} {L : By} (hC : Q4 W B L) (hg : W.grownBy X v.ownBlock) (ho : OwnA2 W base v x) : Q4 X B L := ⟨hC.1, hC.2.pushed hg ho (by decide)⟩
theorem Bl.pushed {w W X : World} {v : Value} {x : List Ac} (h : Bl w W) (hg : W.grownBy X v.ownBlock) (ho : OwnA2 W w.heap.size v x) : Bl w X :=
  ⟨h.b.grown hg h.b.size (fun k hk => (ho.own.at k hk).1)⟩
theorem sh_cell {W : World} {base : Nat} {v : Value} {x : List Ac} (ho : OwnA2 W base v x) {b k : Nat} {u : Value} (hb : some b = v.ownBlock) (h : W.cell? ⟨b, k, none⟩ = some u) : ShV k u := by
  obtain ⟨cur, h1, h2⟩ := ho.sh b hb.symm
  rw [cell_of_row W b k cur 46 (0, 0) h1] at h
  exact h2 k u (by simpa using h)
theorem IsBytes.pushed {W X : World} {base : Nat} {v u : Value} {x : List Ac} {bs : By} (h : IsBytes W u bs) (hl : 4 < bs.length) (hg : W.grownBy X v.ownBlock) (ho : OwnA2 W base v x) : IsBytes X u bs := by
  obtain ⟨A', c', e, hc, hr⟩ := h
  refine ⟨A', c', e, hc, fun hn => ?_⟩
  obtain ⟨b, off, e1, hb, hcc⟩ := hr hn
  refine ⟨b, off, e1, Nat.lt_of_lt_of_le hb hg.size, fun i hi => (World.cell?_of_block (hg.block b hb (fun e3 => ?_))).trans (hcc i hi)⟩
  have key : ∀ j, j < 3 → (off + j) % 3 ≠ 0 := by
    intro j hj h0
    have h1 := sh_cell ho e3 (hcc j (by rw [List.length_map]; omega))
    rcases h1 with ⟨_, b', h2⟩ | ⟨h2, _⟩
    · simp [encB] at h2
    · exact h2 h0
  have := key 0 (by omega)
  have := key 1 (by omega)
  have := key 2 (by omega)
  omega
theorem IsD.pushed {W X : World} {base : Nat} {v u : Value} {x : List Ac} {d : Dk} (h : IsD W u d) (h8 : D128 d) (hg : W.grownBy X v.ownBlock) (ho : OwnA2 W base v x) : IsD X u d := by
  obtain ⟨sv, pv, e, h1, h2⟩ := h
  refine ⟨sv, pv, e, ?_, ?_⟩
  · obtain ⟨A', c', vs, e1, hc, hl, hr, hi⟩ := h1
    refine ⟨A', c', vs, e1, hc, hl, fun hn => ?_, fun i h h' => (hi i h h').pushed (by rw [h8.1 _ (List.getElem_mem h')]; omega) hg ho⟩
    obtain ⟨b, off, e2, hb, hcc⟩ := hr hn
    refine ⟨b, off, e2, Nat.lt_of_lt_of_le hb hg.size, fun i hi2 => (World.cell?_of_block (hg.block b hb (fun e3 => ?_))).trans (hcc i hi2)⟩
    have h0 := sh_cell ho e3 (hcc i hi2)
    obtain ⟨_, _, h3, _⟩ := hi i hi2 (by omega)
    rw [h3] at h0
    rcases h0 with ⟨_, _, h0⟩ | ⟨_, _, h0⟩ <;> cases h0
  · obtain ⟨A', c', vs, e1, hc, hl, hr, hi⟩ := h2
    refine ⟨A', c', vs, e1, hc, hl, fun hn => ?_, fun i h h' => (hi i h h').pushed (by rw [h8.2 _ (List.getElem_mem h')]; omega) hg ho⟩
    obtain ⟨b, off, e2, hb, hcc⟩ := hr hn
    refine ⟨b, off, e2, Nat.lt_of_lt_of_le hb hg.size, fun i hi2 => (World.cell?_of_block (hg.block b hb (fun e3 => ?_))).trans (hcc i hi2)⟩
    have h0 := hcc 0 (List.length_pos_iff.2 hn)
    have h0 := sh_cell ho e3 h0
    generalize d.ps = ps at *
    match ps, vs, hl with
    | p :: ps, u :: us, _ => 
      simp only [rowW, List.getElem_cons_zero] at h0
      rcases h0 with ⟨_, _, h0⟩ | ⟨_, _, h0⟩ <;> cases h0
end Go.Proofs.Ytimpnpdhhhbmgaa
