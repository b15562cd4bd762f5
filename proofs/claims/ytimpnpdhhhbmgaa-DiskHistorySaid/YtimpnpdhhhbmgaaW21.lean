/- The region of the reference's New. -/
import Derived.Test.YtimpnpdhhhbmgaaW20
namespace Go.Proofs.Ytimpnpdhhhbmgaa
open Go.RowKit
set_option linter.unusedVariables false
set_option linter.unusedSimpArgs false

noncomputable def newReg : Code := (Try.f13.body.bind (findRegion 7)).getD .skip
/-- a disk that is being built in a box -/
structure Nw (w1 X : World) (B1 : Nat) (v : Value) (ss : List By) : Prop where
  b : Cells X B1 25 [v, .slice none 0 0, .int .i64 (-1), .bool false]
  o : OwnSs X w1.heap.size v ss
  bel : Below w1.heap.size w1 X
  lo : w1.heap.size ≤ B1
theorem own_lt' {W : World} {base : Nat} {v : Value} {ss : List By} (h : OwnSs W base v ss) : ∀ g, v.ownBlock = some g → g < W.heap.size := by
  obtain ⟨vs, hl, ho, hi⟩ := h
  exact fun g hg => (World.ownsRow.lt ho g hg).2
theorem off_new {W X : World} {base : Nat} {v : Value} {ss : List By} {ZL : List Value} (h : Cells X W.heap.size 5 ZL) (hZ : ZL = Dv.zs.map encB) (ho : OwnSs W base v ss) : OffB v.ownBlock X (.slice (some ⟨W.heap.size, 0, none⟩) 128 128) Dv.zs := by
  subst hZ
  refine ⟨_, 128, by rw [show Dv.zs.length = 128 from List.length_replicate ..], by rw [show Dv.zs.length = 128 from List.length_replicate ..]; exact Nat.le_refl _, fun _ => ⟨W.heap.size, 0, rfl, fun e => ?_, h.lt, fun i hi => ?_⟩⟩
  · have := own_lt' ho _ e; omega
  · rw [Nat.zero_add]
    have := h.cell (k := i) (v := encB Dv.zs[i]) (by rw [List.getElem?_map, List.getElem?_eq_getElem hi]; rfl)
    exact this
theorem one_row {X : World} {B : Nat} {v : Value} (h : Cells X B 35 [v]) : RowAt X (some ⟨B, 0, none⟩) [v] := fun _ => ⟨B, 0, rfl, h.lt, fun i hi => by
  rw [Nat.zero_add]; exact h.cell (List.getElem?_eq_getElem hi)⟩
theorem one_off {o : Option Nat} {X : World} {v : Value} {b : By} (h : OffB o X v b) : ∀ i (h1 : i < [v].length) (h2 : i < [b].length), OffB o X [v][i] [b][i] := fun i h1 h2 => by
  simp only [List.length_cons, List.length_nil] at h1
  obtain rfl : i = 0 := by omega
  exact h
theorem keptBox {W X : World} {B base : Nat} {v : Value} {ss : List By} {cs : List Value} (hC : Cells W B 25 cs) (hg : W.grownBy X v.ownBlock) (ho : OwnSs W base v ss) : Cells X B 25 cs := by
  refine (hg.block B hC.lt (fun e => ?_)).trans hC
  obtain ⟨vs, hl, ho, hi⟩ := ho
  rcases ho.2 with ⟨rfl, _⟩ | ⟨g, cap, cur, rfl, _, hg2, _⟩
  · simp [Value.ownBlock] at e
  · have e2 : B = g := by simpa [Value.ownBlock] using e
    subst e2
    rw [show W.heap[B]? = _ from hC] at hg2
    injection hg2 with hg2
    injection hg2 with _ ht
    exact absurd ht (by decide)

set_option maxRecDepth 100000 in
set_option maxHeartbeats 4000000 in
theorem new_region {Q : Exit → Act → World → Prop} {w1 W : World} {u0 u1 u2 u3 u5 u6 u7 u8 u9 u10 u11 u12 u13 u14 u15 u16 u17 u18 u19 u20 u21 u22 u23 u24 u25 : Value} {B1 n c : Nat} {A : Option Addr} {ss : List By}
    (hNw : Nw w1 W B1 (.slice A n c) ss) (hn : ss.length = n) (hle : n ≤ 4096)
    (hN : ∀ (A2 : Option Addr) (c2 : Nat) (X : World), Nw w1 X B1 (.slice A2 (n + 1) c2) (ss ++ [Dv.zs]) → Q .normal { tmps := (u0 :: u1 :: u2 :: u3 :: (.pointer (some ⟨B1, 0, none⟩)) :: u5 :: u6 :: u7 :: u8 :: u9 :: u10 :: u11 :: u12 :: u13 :: u14 :: u15 :: u16 :: u17 :: u18 :: (.pointer (some ⟨B1, 0, none⟩)) :: (.slice A n c) :: (.slice (some ⟨W.heap.size, 0, none⟩) 128 128) :: (.slice (some ⟨W.heap.size + 1, 0, none⟩) 1 1) :: (.slice A2 (n + 1) c2) :: (.pointer (some ⟨B1, 0, none⟩)) :: u25 :: []).toArray, defers := [] } X) :
    newReg.wp Try.prog Q { tmps := (u0 :: u1 :: u2 :: u3 :: (.pointer (some ⟨B1, 0, none⟩)) :: u5 :: u6 :: u7 :: u8 :: u9 :: u10 :: u11 :: u12 :: u13 :: u14 :: u15 :: u16 :: u17 :: u18 :: u19 :: u20 :: u21 :: u22 :: u23 :: u24 :: u25 :: []).toArray, defers := [] } W := by
  conv => arg 2; whnf
  obtain ⟨hC, hO, hBel, hlo⟩ := hNw
  have HO := Lib.hid hO
  have hB := hBel.size
  have hlt : B1 < W.heap.size := hC.lt
  have hW0 : W.cell? ⟨B1, 0, none⟩ = some (.slice A n c) := hC.cell rfl
  have hS0 : (fun X : World => X.cell? ⟨B1, 0, none⟩ = some (.slice A n c)) W.drew := hW0
  obtain ⟨ZL, hZL, hmk⟩ := make_zs
  have HZL := Lib.hid hZL
  clear hZL
  refine wp_region_noPanic ?_
  refine wp_region_E 6 (fun X : World => X.cell? ⟨B1, 0, none⟩ = some (.slice A n c)) (by kernel_rfl) ?_
  refine wpAnyE_take (i := 0) (v := (.pointer (some ⟨B1, 0, none⟩))) rfl (by kernel_rfl) (by kernel_rfl) (by kernel_rfl) (by kernel_rfl) (by kernel_rfl) (fun _ _ _ h => h) (.inl ⟨rfl, fun X hX => ?_⟩) hS0 ?_
  · go_simp
  change wpAnyE _ _ _ _ _ _ _ _ { tmps := (u0 :: u1 :: u2 :: u3 :: (.pointer (some ⟨B1, 0, none⟩)) :: u5 :: u6 :: u7 :: u8 :: u9 :: u10 :: u11 :: u12 :: u13 :: u14 :: u15 :: u16 :: u17 :: u18 :: (.pointer (some ⟨B1, 0, none⟩)) :: u20 :: u21 :: u22 :: u23 :: u24 :: u25 :: []).toArray, defers := [] } _
  refine wpAnyE_take (i := 1) (v := (.slice A n c)) rfl (by kernel_rfl) (by kernel_rfl) (by kernel_rfl) (by kernel_rfl) (by kernel_rfl) (fun _ _ _ h => h) (.inl ⟨rfl, fun X hX => ?_⟩) hS0 ?_
  · go_simp
  change wpAnyE _ _ _ _ _ _ _ _ { tmps := (u0 :: u1 :: u2 :: u3 :: (.pointer (some ⟨B1, 0, none⟩)) :: u5 :: u6 :: u7 :: u8 :: u9 :: u10 :: u11 :: u12 :: u13 :: u14 :: u15 :: u16 :: u17 :: u18 :: (.pointer (some ⟨B1, 0, none⟩)) :: (.slice A n c) :: u21 :: u22 :: u23 :: u24 :: u25 :: []).toArray, defers := [] } _
  refine wpAnyE_one (i := 2) (by kernel_rfl) rfl (fun K hK => ?_)
  go_simp
  refine hK.out _ _ (fun _ => ((bcell (drew_al (w1 := W) (.cells ZL.toArray 5))).1 B1 0 hlt).trans hW0) (fun hS => ?_)
  clear hK K hS
  change wpAnyE _ _ _ _ _ _ _ _ { tmps := (u0 :: u1 :: u2 :: u3 :: (.pointer (some ⟨B1, 0, none⟩)) :: u5 :: u6 :: u7 :: u8 :: u9 :: u10 :: u11 :: u12 :: u13 :: u14 :: u15 :: u16 :: u17 :: u18 :: (.pointer (some ⟨B1, 0, none⟩)) :: (.slice A n c) :: (.slice (some ⟨W.heap.size, 0, none⟩) 128 128) :: u22 :: u23 :: u24 :: u25 :: []).toArray, defers := [] } (W.drew.alloc (.cells ZL.toArray 5))
  refine wpAnyE_one (i := 3) (by kernel_rfl) rfl (fun K hK => ?_)
  go_simp
  refine hK.out _ _ (fun _ => ((bcell (drew_al2 (w1 := W) (.cells ZL.toArray 5) (.cells #[.slice (some ⟨W.heap.size, 0, none⟩) 128 128] 35))).1 B1 0 hlt).trans hW0) (fun hS => ?_)
  clear hK K hS
  change wpAnyE _ _ _ _ _ _ _ _ { tmps := (u0 :: u1 :: u2 :: u3 :: (.pointer (some ⟨B1, 0, none⟩)) :: u5 :: u6 :: u7 :: u8 :: u9 :: u10 :: u11 :: u12 :: u13 :: u14 :: u15 :: u16 :: u17 :: u18 :: (.pointer (some ⟨B1, 0, none⟩)) :: (.slice A n c) :: (.slice (some ⟨W.heap.size, 0, none⟩) 128 128) :: (.slice (some ⟨W.heap.size + 1, 0, none⟩) 1 1) :: u23 :: u24 :: u25 :: []).toArray, defers := [] } ((W.drew.alloc (.cells ZL.toArray 5)).alloc (.cells #[.slice (some ⟨W.heap.size, 0, none⟩) 128 128] 35))
  have HX := Lib.hid (drew_al2 (w1 := W) (.cells ZL.toArray 5) (.cells #[.slice (some ⟨W.heap.size, 0, none⟩) 128 128] 35))
  have HZ5 := Lib.hid (show Cells ((W.drew.alloc (.cells ZL.toArray 5)).alloc (.cells #[.slice (some ⟨W.heap.size, 0, none⟩) 128 128] 35)) W.heap.size 5 ZL from (show Cells (W.drew.alloc (.cells ZL.toArray 5)) W.heap.size 5 ZL from Cells.new W.drew 5 ZL).upb (al1 _ (.cells #[.slice (some ⟨W.heap.size, 0, none⟩) 128 128] 35)))
  have HR5 := Lib.hid (show Cells ((W.drew.alloc (.cells ZL.toArray 5)).alloc (.cells #[.slice (some ⟨W.heap.size, 0, none⟩) 128 128] 35)) (W.heap.size + 1) 35 [.slice (some ⟨W.heap.size, 0, none⟩) 128 128] from by have := Cells.new (W.drew.alloc (.cells ZL.toArray 5)) 35 [.slice (some ⟨W.heap.size, 0, none⟩) 128 128]; simpa using this)
  have hzo : OffB (Value.slice A n c).ownBlock ((W.drew.alloc (.cells ZL.toArray 5)).alloc (.cells #[.slice (some ⟨W.heap.size, 0, none⟩) 128 128] 35)) (.slice (some ⟨W.heap.size, 0, none⟩) 128 128) Dv.zs := off_new HZ5.out HZL.out HO.out
  refine wpAnyE_one (i := 4) (by kernel_rfl) rfl (fun K hK => ?_)
  refine step_app rfl (.tmp 20) (.tmp 22) 22 (.slice A n c) (.slice (some ⟨W.heap.size + 1, 0, none⟩) 1 1) rfl rfl rfl (appS_run (base := w1.heap.size) (ts := [Dv.zs]) (us := [.slice (some ⟨W.heap.size, 0, none⟩) 128 128]) (A := some ⟨W.heap.size + 1, 0, none⟩) (c := 1) _ (HO.out.below HX.out) rfl (one_row HR5.out) (one_off hzo) (by simp; omega) (Nat.le_trans hB HX.out.size)) ?_
  rintro v2 X2 ⟨ho2, hg2, hat2⟩
  have HO2 := Lib.hid ho2
  have HC2 := Lib.hid (keptBox (hC.upb HX.out) hg2 (HO.out.below HX.out))
  have HB2 := Lib.hid (show Below w1.heap.size w1 X2 from (hBel.up HX.out).grown hg2 (hBel.up HX.out).size HO.out.lt')
  obtain ⟨A2, c2, e2⟩ : ∃ A2 c2, v2 = .slice A2 (n + 1) c2 := by
    obtain ⟨vs, hl, hoo, _⟩ := HO2.out
    obtain ⟨A2, c2, e⟩ := own_slice hoo
    exact ⟨A2, c2, by rw [e]; simp [hn]⟩
  subst e2
  have c20 := HC2.out.cell (k := 0) rfl
  have c2f := HC2.out.frozen 0
  refine hK.out _ _ (fun _ => c20) (fun hS2 => ?_)
  clear hK K ho2 hg2 hat2
  replace hS2 := hS2 (by decide)
  change wpAnyE _ _ _ _ _ _ _ _ { tmps := (u0 :: u1 :: u2 :: u3 :: (.pointer (some ⟨B1, 0, none⟩)) :: u5 :: u6 :: u7 :: u8 :: u9 :: u10 :: u11 :: u12 :: u13 :: u14 :: u15 :: u16 :: u17 :: u18 :: (.pointer (some ⟨B1, 0, none⟩)) :: (.slice A n c) :: (.slice (some ⟨W.heap.size, 0, none⟩) 128 128) :: (.slice (some ⟨W.heap.size + 1, 0, none⟩) 1 1) :: (.slice A2 (n + 1) c2) :: u24 :: u25 :: []).toArray, defers := [] } X2
  refine wpAnyE_take (i := 5) (v := (.pointer (some ⟨B1, 0, none⟩))) rfl (by kernel_rfl) (by kernel_rfl) (by kernel_rfl) (by kernel_rfl) (by kernel_rfl) (fun _ _ _ h => h) (.inl ⟨rfl, fun X hX => ?_⟩) hS2 ?_
  · go_simp
  change wpAnyE _ _ _ _ _ _ _ _ { tmps := (u0 :: u1 :: u2 :: u3 :: (.pointer (some ⟨B1, 0, none⟩)) :: u5 :: u6 :: u7 :: u8 :: u9 :: u10 :: u11 :: u12 :: u13 :: u14 :: u15 :: u16 :: u17 :: u18 :: (.pointer (some ⟨B1, 0, none⟩)) :: (.slice A n c) :: (.slice (some ⟨W.heap.size, 0, none⟩) 128 128) :: (.slice (some ⟨W.heap.size + 1, 0, none⟩) 1 1) :: (.slice A2 (n + 1) c2) :: (.pointer (some ⟨B1, 0, none⟩)) :: u25 :: []).toArray, defers := [] } _
  have HN := Lib.hid (hN A2 c2 _ (⟨HC2.out.set (k := 0) (.slice A2 (n + 1) c2), HO2.out.box HC2.out (grown_set _ _ _ _), HB2.out.setCell (p := ⟨B1, 0, none⟩) hlo _, hlo⟩ : Nw w1 (X2.setCell ⟨B1, 0, none⟩ (.slice A2 (n + 1) c2)) B1 (.slice A2 (n + 1) c2) (ss ++ [Dv.zs])))
  refine wpAnyE_one (i := 6) (by kernel_rfl) rfl (fun K hK => ?_)
  go_simp
  refine hK.out _ _ (fun h => absurd rfl h) (fun _ => ?_)
  exact wpAnyE_done (by kernel_rfl) (NoPanic.normal HN.out) _

end Go.Proofs.Ytimpnpdhhhbmgaa
