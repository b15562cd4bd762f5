/- Walk of Sync. -/
import Derived.Test.YtimpnpdhhhbmgaaW13
import Derived.Deep.RegionHeld3
namespace Go.Proofs.Ytimpnpdhhhbmgaa
open Go.RowKit
set_option linter.unusedVariables false
set_option linter.unusedSimpArgs false

theorem ws_take {w : World} {A : Option Addr} {n c : Nat} {ps : List Wr} (h : IsWs w (.slice A n c) ps) {k c' : Nat} (hk : k ≤ ps.length) (hc : k ≤ c') : IsWs w (.slice A k c') (ps.take k) := by
  obtain ⟨A', c2, vs, e, h1, hl, hr, hi⟩ := h
  injection e with e
  subst e
  refine ⟨A, c', vs.take k, by rw [List.length_take, Nat.min_eq_left hk], by rw [List.length_take]; omega, by rw [List.length_take, List.length_take, hl], fun hn => ?_, fun i q1 q2 => ?_⟩
  · rw [rowW_take] at hn ⊢
    have hne : rowW ps vs ≠ [] := by intro h0; rw [h0] at hn; simp at hn
    obtain ⟨b, off, e1, hb, hcc⟩ := hr hne
    refine ⟨b, off, e1, hb, fun i hx => ?_⟩
    rw [List.getElem_take]
    exact hcc i _
  · simp only [List.length_take] at q1 q2
    rw [List.getElem_take, List.getElem_take]
    exact hi i (by omega) (by omega)
theorem OffB.box {o : Option Nat} {W W' : World} {v : Value} {bs : By} (h : OffB o W v bs) {B : Nat} {A n c A2 n2 c2 l st} (hC : Cells W B 25 [.slice A n c, .slice A2 n2 c2, .int .i64 l, .bool st]) (hg : W.grownBy W' (some B)) : OffB o W' v bs := by
  obtain ⟨A1, c1, e1, hc1, hr1⟩ := h.bytes.offBox hC
  obtain ⟨A', c', e, hc, hr⟩ := h
  refine ⟨A', c', e, hc, fun hn => ?_⟩
  obtain ⟨b, off, ea, hne, hlt, hcc⟩ := hr hn
  obtain ⟨b', off', ea', hne', _⟩ := hr1 hn
  rw [e] at e1
  injection e1 with e1
  rw [e1, ea'] at ea
  injection ea with ea
  injection ea with ea
  subst ea
  exact ⟨b', off, by rw [e1, ea']; simp_all, hne, Nat.lt_of_lt_of_le hlt hg.size, fun i hi => (World.cell?_of_block (hg.block b' hlt (fun e => hne' e.symm))).trans (hcc i hi)⟩
theorem OwnSs.box {W W' : World} {base : Nat} {v : Value} {ss : List By} (h : OwnSs W base v ss) {B : Nat} {A n c A2 n2 c2 l st} (hC : Cells W B 25 [.slice A n c, .slice A2 n2 c2, .int .i64 l, .bool st]) (hg : W.grownBy W' (some B)) : OwnSs W' base v ss := by
  obtain ⟨vs, hl, ho, hi⟩ := h
  refine ⟨vs, hl, World.ownsRow.kept ho hg ?_, fun i h h' => (hi i h h').box hC hg⟩
  rcases ho.2 with ⟨rfl, _⟩ | ⟨g, cap, cur, rfl, _, hg2, _⟩
  · exact .inl rfl
  · refine .inr (fun e => ?_)
    have e2 : g = B := by simpa [Value.ownBlock] using e
    subst e2
    rw [show W.heap[g]? = _ from hC] at hg2
    injection hg2 with hg2
    injection hg2 with _ ht
    exact absurd ht (by decide)
theorem OwnBytes.off {W : World} {base : Nat} {v : Value} {bs : By} (h : OwnBytes W base v bs) {g : Nat} (hg : g < base) : OffB (some g) W v bs := by
  obtain ⟨A, c, e, hc, hr, h1, h2⟩ := own_rowAt h
  refine ⟨A, c, e, hc, fun hn => ?_⟩
  have hn2 : bs.map encB ≠ [] := by simpa using hn
  obtain ⟨b, off, ea, hb, hcc⟩ := hr hn2
  obtain ⟨g', hg'⟩ := h2 hn2
  have e3 := h1 g' hg' hn2
  rw [e3] at ea
  injection ea with ea
  injection ea with e4 e5
  subst e4 e5
  have := h.lt' g' hg'
  refine ⟨g', 0, e3, by intro e; injection e with e; omega, hb, fun i hi => ?_⟩
  rw [hcc i (by simpa using hi)]; simp
theorem OwnBytes.splice {W : World} {base g n cap : Nat} {bs : By} (h : OwnBytes W base (.slice (some ⟨g, 0, none⟩) n cap) bs) : ∃ cur : List Value, W.heap[g]? = some (.cells cur.toArray 5 (0, 0)) ∧ n ≤ cur.length ∧
    ∀ (W' : World) (ys : By), ys.length ≤ n → W'.heap[g]? = some (.cells (Go.splice cur 0 (ys.map encB)).toArray 5 (0, 0)) → OwnBytes W' base (.slice (some ⟨g, 0, none⟩) n cap) (ys ++ bs.drop ys.length) := by
  obtain ⟨A0, c0, e0⟩ := own_slice h
  injection e0 with _ e0 _
  subst e0
  obtain ⟨h1, h2 | ⟨g', cap', cur, e, hb, hg, hle, hcm, hsz, ht⟩⟩ := h
  · have := h2.1; injection this with e; cases e
  · injection e with e1 e2 e3
    injection e1 with e1
    injection e1 with e1
    subst e1 e3
    refine ⟨cur.toList, by simpa using hg, by simp; omega, fun W' ys hy hW => ?_⟩
    have hlen : (ys ++ bs.drop ys.length).length = bs.length := by simp; omega
    unfold OwnBytes
    rw [hlen]
    refine ⟨by simp; omega, .inr ⟨g, cap, _, rfl, hb, hW, hle, hcm, ?_, ?_⟩⟩
    · rw [List.size_toArray, length_splice _ _ _ (by simp; omega)]; simpa using hsz
    · have e : cur.toList.take (bs.length * 1) = bs.map encB := ht
      rw [Nat.mul_one] at e
      simp only [Go.splice, List.take_zero, List.nil_append, Nat.zero_add, List.length_map, Nat.mul_one]
      rw [List.take_append]
      simp only [List.length_map, List.map_append]
      rw [List.take_of_length_le (by simp; omega), List.take_drop, show ys.length + (bs.length - ys.length) = bs.length by omega, e, List.map_drop] 
end Go.Proofs.Ytimpnpdhhhbmgaa
