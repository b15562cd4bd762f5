/- A row of ints of the call's own, in a block that holds nothing but ints. -/
import Derived.Test.YtkcnanclpkongaaL3
import Derived.Test.YtkcnanclpkongaaJP8
import Derived.Laws.BitsAllLaws
namespace Go.Proofs.Ytkcnanclpkongaa
open Go.RowKit
set_option linter.unusedVariables false
set_option linter.unusedSimpArgs false
set_option maxRecDepth 20000

theorem info3 : (Try.prog.info? 3).map (fun i => (i.zero, i.size, i.bytes)) = some (some (.int .i64 0), 1, 8) := by kernel_rfl
def ShI (l : List Value) : Prop := ∀ u ∈ l, ∃ z, u = .int .i64 z
theorem ShI.append {l m : List Value} (h : ShI l) (hm : ShI m) : ShI (l ++ m) := fun u hu => by
  rcases List.mem_append.1 hu with h1 | h1
  · exact h u h1
  · exact hm u h1
theorem ShI.take {l : List Value} (h : ShI l) (n : Nat) : ShI (l.take n) := fun u hu => h u (List.mem_of_mem_take hu)
theorem ShI.drop {l : List Value} (h : ShI l) (n : Nat) : ShI (l.drop n) := fun u hu => h u (List.mem_of_mem_drop hu)
theorem ShI.ints (xs : List Int) : ShI (xs.map (Value.int .i64)) := fun u hu => by
  obtain ⟨z, _, rfl⟩ := List.mem_map.1 hu
  exact ⟨z, rfl⟩
theorem ShI.zeros (n : Nat) : ShI (Builtin.zeroCells #[.int .i64 0] n).toList := fun u hu => by
  unfold Builtin.zeroCells at hu
  rw [Array.mem_toList_iff, Array.mem_map] at hu
  obtain ⟨j, _, rfl⟩ := hu
  exact ⟨0, by simp [Nat.mod_one]⟩
/-- a row of ints of the call's own -/
structure OwnI (W : World) (base : Nat) (v : Value) (xs : List Int) : Prop where
  own : W.ownsRow base 3 1 v xs.length (xs.map (Value.int .i64))
  sh : ∀ g, v.ownBlock = some g → ∃ cur, W.heap[g]? = some (.cells cur 3 (0, 0)) ∧ ShI cur.toList
theorem ownI_nil (W : World) (base : Nat) : OwnI W base (.slice none 0 0) [] := ⟨World.ownsRow_nil W base _ 1, fun g hg => by cases hg⟩
theorem OwnI.below {W W' : World} {base : Nat} {v : Value} {xs : List Int} (h : OwnI W base v xs) (hb : Below W.heap.size W W') : OwnI W' base v xs :=
  ⟨row_below h.own hb, fun g hg => by
    obtain ⟨cur, h1, h2⟩ := h.sh g hg
    exact ⟨cur, (hb.block g (Array.getElem?_eq_some_iff.1 h1).1).trans h1, h2⟩⟩
theorem OwnI.shape {W : World} {base : Nat} {v : Value} {xs : List Int} (h : OwnI W base v xs) : ∃ A c, v = .slice A xs.length c := own_slice h.own
theorem OwnI.at {W : World} {base : Nat} {v : Value} {xs : List Int} (h : OwnI W base v xs) : ∀ g, v.ownBlock = some g → base ≤ g ∧ g < W.heap.size := World.ownsRow.lt h.own
theorem OwnI.notB {W : World} {base : Nat} {v : Value} {xs : List Int} (h : OwnI W base v xs) {B : Nat} {t : TypeId} (ht : t ≠ 3) {cs : List Value} (hC : Cells W B t cs) : v.ownBlock ≠ some B := by
  intro e
  obtain ⟨cur, h1, -⟩ := h.sh B e
  rw [show W.heap[B]? = _ from hC] at h1
  injection h1 with h1
  injection h1 with _ h3
  exact ht h3
theorem OwnI.kept {W W' : World} {base : Nat} {v : Value} {xs : List Int} (h : OwnI W base v xs) {B : Nat} {t : TypeId} (ht : t ≠ 3) {cs : List Value} (hC : Cells W B t cs) (hg : W.grownBy W' (some B)) : OwnI W' base v xs :=
  ⟨World.ownsRow.kept h.own hg (.inr (h.notB ht hC)), fun g hgv => by
    obtain ⟨cur, h1, h2⟩ := h.sh g hgv
    exact ⟨cur, (hg.block g (Array.getElem?_eq_some_iff.1 h1).1 (fun e => h.notB ht hC (hgv.trans e))).trans h1, h2⟩⟩
theorem OwnI.form {W : World} {base : Nat} {v : Value} {xs : List Int} (h : OwnI W base v xs) (hx : xs ≠ []) : ∃ g c, v = .slice (some ⟨g, 0, none⟩) xs.length c := by
  rcases h.own.2 with ⟨_, h0⟩ | ⟨g, cap, cur, rfl, _⟩
  · exact absurd (List.length_eq_zero_iff.1 h0) hx
  · exact ⟨g, cap, rfl⟩
theorem OwnI.cell {W : World} {base g n c : Nat} {xs : List Int} (h : OwnI W base (.slice (some ⟨g, 0, none⟩) n c) xs) {k : Nat} {z : Int} (hk : xs[k]? = some z) : W.cell? ⟨g, k, none⟩ = some (.int .i64 z) := by
  have := World.ownsRow.cells h.own (g := g) rfl k (.int .i64 z) (by rw [List.getElem?_map, hk]; rfl)
  have e : (⟨g, 0, none⟩ : Addr).add k = ⟨g, k, none⟩ := by unfold Addr.add; split <;> simp_all
  rwa [e] at this
theorem appI_is {W : World} {base : Nat} (ty : TypeId) {v : Value} {xs : List Int} {y : Int} (hown : OwnI W base v xs) (H : Nat) (hH : W.cell? ⟨H, 0, none⟩ = some (.int .i64 y)) (hHl : H < W.heap.size) (hlen : xs.length ≤ 1000000) (hb : base ≤ W.heap.size) :
    ∃ v' w', (Builtin.append_ #[47, 47] ty #[v, .slice (some ⟨H, 0, none⟩) 1 1]).run Try.prog W = .ok v' w' ∧ OwnI w' base v' (xs ++ [y]) ∧ W.grownBy w' v.ownBlock := by
  have hr : RowAt W (some ⟨H, 0, none⟩) [.int .i64 y] := fun _ => ⟨H, 0, rfl, hHl, fun i hi => by
    have : i = 0 := by simpa using hi
    subst this
    simpa using hH⟩
  have h1c : ∀ u ∈ [Value.int .i64 y], u.oneCell' = true := by intro u hu; simp at hu; subst hu; rfl
  obtain ⟨v', w', k1, k2, k3, k4⟩ := app_run W base 47 ty 3 _ 1 8 Try.underlying47 info3 rfl (by decide) v xs.length (xs.map (Value.int .i64)) hown.own (some ⟨H, 0, none⟩) 1 1 [.int .i64 y] rfl hr h1c (by unfold maxLen; omega) (by omega) hb
  refine ⟨v', w', k1, ⟨by simpa using k2, ?_⟩, k3⟩
  have hnews := rowAt_cells hr
  obtain ⟨i0, hi, hz0, hz1, hz2⟩ := info_parts info3
  have hl1 : [Value.int .i64 y].length = 1 * i0.size := by rw [hz1]; rfl
  have hy1 : ShI [Value.int .i64 y] := ShI.ints [y]
  intro g hg
  rcases hown.own.2 with ⟨rfl, h0⟩ | ⟨g0, cap, cur, rfl, hbg, hg0, hnc, hcm, hcs, htake⟩
  · have hr2 := run_append_nil (P := Try.prog) W 47 ty 3 i0 _ Try.underlying47 hi hz0 ⟨H, 0, none⟩ 1 1 [.int .i64 y] hl1 hnews (by omega) (by omega) (by rw [hz2]; omega)
    rw [hr2] at k1
    injection k1 with e1 e2
    subst e1 e2
    have : W.heap.size = g := by simpa [Value.ownBlock] using hg
    subst this
    exact ⟨_, heap_alloc_new W.drew _, by
      rw [Array.toList_append]
      exact hy1.append (ShI.zeros _)⟩
  · by_cases hroom : xs.length + 1 ≤ cap
    · have hfit : xs.length * i0.size + [Value.int .i64 y].length ≤ cur.size := by rw [hl1, hcs, ← Nat.add_mul, hz1]; exact Nat.mul_le_mul_right _ hroom
      have hr2 := run_append_room (P := Try.prog) W 47 ty 3 i0 Try.underlying47 hi g0 xs.length cap cur hg0 ⟨H, 0, none⟩ 1 1 [.int .i64 y] hl1 hnews h1c hroom hfit
      rw [hr2] at k1
      injection k1 with e1 e2
      subst e1 e2
      have : g0 = g := by simpa [Value.ownBlock] using hg
      subst this
      obtain ⟨cur2, hc2, hs2⟩ := hown.sh g0 rfl
      rw [hg0] at hc2
      injection hc2 with hc2
      injection hc2 with hc2
      subst hc2
      refine ⟨_, setRow_heap W g0 cur _ 3 _ hg0, ?_⟩
      exact ((hs2.take _).append hy1).append (hs2.drop _)
    · have holds : ∀ j u, (xs.map (Value.int .i64))[j]? = some u → W.cell? ((⟨g0, 0, none⟩ : Addr).add j) = some u := World.ownsRow.cells hown.own (g := g0) rfl
      have hr2 := run_append_grow (P := Try.prog) W 47 ty 3 i0 _ Try.underlying47 hi hz0 ⟨g0, 0, none⟩ xs.length cap (xs.map (Value.int .i64)) (by rw [List.length_map, hz1, Nat.mul_one]) holds ⟨H, 0, none⟩ 1 1 [.int .i64 y] hl1 hnews (by omega) (by omega) (growslice_fits (by omega) (by rw [hz2]; omega))
      rw [hr2] at k1
      injection k1 with e1 e2
      subst e1 e2
      have : W.heap.size = g := by simpa [Value.ownBlock] using hg
      subst this
      refine ⟨_, heap_alloc_new W.drew _, ?_⟩
      rw [Array.toList_append, Array.toList_append]
      exact ((ShI.ints xs).append hy1).append (ShI.zeros _)
theorem xor_b (y : UInt8) {z : Int} (h : 0 ≤ z ∧ z < 256) (h0 : ¬ z = 0) : ∃ x : UInt8, bits .xor .u8 (y.toNat : Int) z = (x.toNat : Int) ∧ x ≠ y := by
  have hy2 := UInt8.toNat_lt y
  have hlt : y.toNat ^^^ z.toNat < 256 := Nat.xor_lt_two_pow (n := 8) hy2 (by omega)
  have e1 : (UInt8.ofNat (y.toNat ^^^ z.toNat)).toNat = y.toNat ^^^ z.toNat := by
    rw [UInt8.toNat_ofNat', Nat.mod_eq_of_lt (by omega)]
  refine ⟨UInt8.ofNat (y.toNat ^^^ z.toNat), ?_, ?_⟩
  · rw [e1, u8_xor _ _ (by omega) (by omega) h.1 h.2]
    simp
  · intro e
    have e2 := congrArg UInt8.toNat e
    rw [e1] at e2
    have e3 : z.toNat = 0 := by
      have e4 : y.toNat ^^^ (y.toNat ^^^ z.toNat) = y.toNat ^^^ y.toNat := by rw [e2]
      rw [← Nat.xor_assoc, Nat.xor_self, Nat.zero_xor] at e4
      exact e4
    omega
/-- what an append onto a row of ints of the call's own leaves of other blocks -/
theorem Cells.pushI {W X : World} {base B : Nat} {v : Value} {x : List Int} {t : TypeId} {cs : List Value} (hC : Cells W B t cs) (hg : W.grownBy X v.ownBlock) (ho : OwnI W base v x) (ht : t ≠ 3) : Cells X B t cs :=
  (hg.block B hC.lt (fun e => ho.notB ht hC e.symm)).trans hC
theorem shI_cell {W : World} {base : Nat} {v : Value} {x : List Int} (ho : OwnI W base v x) {b k : Nat} {u : Value} (hb : some b = v.ownBlock) (h : W.cell? ⟨b, k, none⟩ = some u) : ∃ z, u = .int .i64 z := by
  obtain ⟨cur, h1, h2⟩ := ho.sh b hb.symm
  rw [cell_of_row W b k cur 3 (0, 0) h1] at h
  exact h2 u (List.mem_of_getElem? (by simpa using h))
theorem IsBytes.pushI {W X : World} {base : Nat} {v u : Value} {x : List Int} {bs : By} (h : IsBytes W u bs) (hg : W.grownBy X v.ownBlock) (ho : OwnI W base v x) : IsBytes X u bs := by
  obtain ⟨A', c', e, hc, hr⟩ := h
  refine ⟨A', c', e, hc, fun hn => ?_⟩
  obtain ⟨b, off, e1, hb, hcc⟩ := hr hn
  refine ⟨b, off, e1, Nat.lt_of_lt_of_le hb hg.size, fun i hi => (World.cell?_of_block (hg.block b hb (fun e3 => ?_))).trans (hcc i hi)⟩
  obtain ⟨z, h1⟩ := shI_cell ho e3 (hcc i hi)
  simp [encB] at h1
theorem IsBs.pushI {W X : World} {base : Nat} {v u : Value} {x : List Int} {rs : List By} (h : IsBs W u rs) (hg : W.grownBy X v.ownBlock) (ho : OwnI W base v x) : IsBs X u rs := by
  obtain ⟨A', c', vs, e1, hc, hl, hr, hi⟩ := h
  refine ⟨A', c', vs, e1, hc, hl, fun hn => ?_, fun i h h' => (hi i h h').pushI hg ho⟩
  obtain ⟨b, off, e2, hb, hcc⟩ := hr hn
  refine ⟨b, off, e2, Nat.lt_of_lt_of_le hb hg.size, fun i hi2 => (World.cell?_of_block (hg.block b hb (fun e3 => ?_))).trans (hcc i hi2)⟩
  obtain ⟨z, h0⟩ := shI_cell ho e3 (hcc i hi2)
  obtain ⟨_, _, h3, _⟩ := hi i hi2 (by omega)
  rw [h3] at h0
  cases h0
theorem IsJ.pushI {W X : World} {base : Nat} {v u : Value} {x : List Int} {j : Jl} (h : IsJ W u j) (hg : W.grownBy X v.ownBlock) (ho : OwnI W base v x) : IsJ X u j := by
  obtain ⟨sv, e, h1⟩ := h
  exact ⟨sv, e, h1.pushI hg ho⟩
theorem OwnI.upb {W W' : World} {base : Nat} {v : Value} {xs : List Int} (h : OwnI W base v xs) (hb : Below W.heap.size W W') : OwnI W' base v xs := h.below hb
/-- a byte of a row of the call's own is set -/
theorem OwnBytes.set {W : World} {base g n c : Nat} {bs : By} (h : OwnBytes W base (.slice (some ⟨g, 0, none⟩) n c) bs) (k : Nat) (x : UInt8) : OwnBytes (W.setCell ⟨g, k, none⟩ (.int .u8 (x.toNat : Int))) base (.slice (some ⟨g, 0, none⟩) n c) (bs.set k x) := by
  obtain ⟨A0, c0, e0⟩ := h.shape
  injection e0 with _ e0 _
  subst e0
  have h1 := (World.ownsRow.stored h k (.int .u8 (x.toNat : Int))).1
  unfold OwnBytes
  rw [List.length_set, List.map_set]
  exact h1
theorem OwnBytes.frozen {W : World} {base g n c : Nat} {bs : By} (h : OwnBytes W base (.slice (some ⟨g, 0, none⟩) n c) bs) (k : Nat) : W.frozen? ⟨g, k, none⟩ = false := by
  obtain ⟨A0, c0, e0⟩ := h.shape
  injection e0 with _ e0 _
  subst e0
  exact World.ownsRow.frozenAt h k
theorem OwnBytes.cell {W : World} {base g n c : Nat} {bs : By} (h : OwnBytes W base (.slice (some ⟨g, 0, none⟩) n c) bs) {k : Nat} (hk : k < bs.length) : W.cell? ⟨g, k, none⟩ = some (.int .u8 (bs[k].toNat : Int)) := by
  have := World.ownsRow.cells h (g := g) rfl k (encB bs[k]) (by rw [List.getElem?_map, List.getElem?_eq_getElem hk]; rfl)
  have e : (⟨g, 0, none⟩ : Addr).add k = ⟨g, k, none⟩ := by unfold Addr.add; split <;> simp_all
  rwa [e] at this
theorem OwnBytes.form {W : World} {base : Nat} {v : Value} {bs : By} (h : OwnBytes W base v bs) (hx : bs ≠ []) : ∃ g c, v = .slice (some ⟨g, 0, none⟩) bs.length c ∧ base ≤ g ∧ g < W.heap.size := by
  have hl := World.ownsRow.lt h
  rcases h.2 with ⟨_, h0⟩ | ⟨g, cap, cur, rfl, _⟩
  · exact absurd (List.length_eq_zero_iff.1 h0) hx
  · exact ⟨g, cap, rfl, hl g rfl⟩
end Go.Proofs.Ytkcnanclpkongaa
