/- The region of the reference's Sync that copies the sectors. -/
import Derived.Test.YtimpnpdhhhbmgaaW16
namespace Go.Proofs.Ytimpnpdhhhbmgaa
open Go.RowKit
set_option linter.unusedVariables false
set_option linter.unusedSimpArgs false

section
variable {P : Program} {ops : Array Oper} {Q : Exit → Act → World → Prop} {md : Region.Mode} {S : World → Prop}
/-- two operations that may come up -/
theorem wpAnyE_two {i j e : Nat} {o o' : Oper} {fuel : Nat} {listed : Array Bool} {a : Act} {w : World} (hr : Region.ready md ops listed = [i, j]) (ho : ops[i]? = some o) (ho' : ops[j]? = some o')
    (h : ∀ K' : Act → World → Prop, Shut (∀ a w, (i ≠ e → S w) → ((i ≠ e → S w) → wpAnyE P md ops Q S e fuel (listed.setIfInBounds i true) a w) → K' a w) → if Region.wanted o (yielded ops a.tmps) = true then Oper.wp P o a w K' Q else K' (a.put o.dst undef) w)
    (h' : ∀ K' : Act → World → Prop, Shut (∀ a w, (j ≠ e → S w) → ((j ≠ e → S w) → wpAnyE P md ops Q S e fuel (listed.setIfInBounds j true) a w) → K' a w) → if Region.wanted o' (yielded ops a.tmps) = true then Oper.wp P o' a w K' Q else K' (a.put o'.dst undef) w) :
    wpAnyE P md ops Q S e (fuel + 1) listed a w := by
  refine ⟨fun h0 => (by rw [h0] at hr; cases hr), fun k hk => ?_⟩
  rw [hr] at hk
  have hk2 : k = i ∨ k = j := by simpa using hk
  rcases hk2 with rfl | rfl
  · exact wpOp_step ho (fun K' hK => h K' (fun a w hS hW => hK a w ⟨hS, hW hS⟩))
  · exact wpOp_step ho' (fun K' hK => h' K' (fun a w hS hW => hK a w ⟨hS, hW hS⟩))
end
theorem ownS_base {W : World} {b b' : Nat} {v : Value} {ss : List By} (h : OwnSs W b v ss) (hb : b' ≤ b) : OwnSs W b' v ss := by
  obtain ⟨vs, hl, ho, hi⟩ := h
  refine ⟨vs, hl, ⟨ho.1, ?_⟩, hi⟩
  rcases ho.2 with h2 | ⟨g, cap, cur, hv, hg, r⟩
  · exact .inl h2
  · exact .inr ⟨g, cap, cur, hv, by omega, r⟩
theorem drew_al {w1 : World} (o : Obj) : Below w1.heap.size w1 (w1.drew.alloc o) := (below_drewN (Below.refl _ w1) 1).up (al1 w1.drew o)
theorem drew_al2 {w1 : World} (o o' : Obj) : Below w1.heap.size w1 ((w1.drew.alloc o).alloc o') := (drew_al o).up (al1 _ o')
theorem grownK {W W' : World} {B B' : Nat} {t : TypeId} {cs : List Value} (h : Cells W B t cs) (hg : W.grownBy W' (some B')) (hne : B ≠ B') : Cells W' B t cs := (hg.block B h.lt (fun e => hne (by injection e))).trans h

theorem ownS_ne {W : World} {base g n c B : Nat} {ss : List By} {cs : List Value} (h : OwnSs W base (.slice (some ⟨g, 0, none⟩) n c) ss) (hC : Cells W B 25 cs) : g ≠ B := by
  obtain ⟨vs, hl, ho, hi⟩ := h
  rintro rfl
  rcases ho.2 with ⟨h0, _⟩ | ⟨g', cap, cur, e, _, hg2, _⟩
  · cases h0
  · injection e with e
    injection e with e
    injection e with e
    subst e
    rw [show W.heap[g]? = _ from hC] at hg2
    injection hg2 with hg2
    injection hg2 with _ ht
    exact absurd ht (by decide)
/-- what stands behind the copy of the sectors -/
structure Cpy (w1 W : World) (B6 g cap : Nat) (n : Nat) (ss : List By) (l : Int) (st : Bool) : Prop where
  b : Cells W B6 25 [.slice (some ⟨g, 0, none⟩) n cap, .slice none 0 0, .int .i64 l, .bool st]
  o : OwnSs W w1.heap.size (.slice (some ⟨g, 0, none⟩) n cap) ss
  bel : Below w1.heap.size w1 W
  lo : w1.heap.size ≤ B6
  ne : g ≠ B6
theorem Cpy.glt {w1 W : World} {B6 g cap n : Nat} {ss : List By} {l : Int} {st : Bool} (h : Cpy w1 W B6 g cap n ss l st) : w1.heap.size ≤ g := h.o.lt' g rfl
theorem Cpy.upb {w1 W W' : World} {B6 g cap n : Nat} {ss : List By} {l : Int} {st : Bool} (h : Cpy w1 W B6 g cap n ss l st) (hb : Below W.heap.size W W') : Cpy w1 W' B6 g cap n ss l st :=
  ⟨h.b.upb hb, h.o.below hb, h.bel.up hb, h.lo, h.ne⟩
theorem Cpy.row {w1 W : World} {B6 g cap n : Nat} {ss : List By} {l : Int} {st : Bool} (h : Cpy w1 W B6 g cap n ss l st) (m : Nat) {u : Value} {b : By} (hu : OffB (some g) W u b) : Cpy w1 (W.setCell ⟨g, m, none⟩ u) B6 g cap n (ss.set m b) l st :=
  ⟨h.b.other (fun e => h.ne e.symm) m u, h.o.set m hu, h.bel.setCell (p := ⟨g, m, none⟩) h.glt u, h.lo, h.ne⟩
theorem Cpy.fld2 {w1 W : World} {B6 g cap n : Nat} {ss : List By} {l : Int} {st : Bool} (h : Cpy w1 W B6 g cap n ss l st) (l' : Int) : Cpy w1 (W.setCell ⟨B6, 2, none⟩ (.int .i64 l')) B6 g cap n ss l' st :=
  ⟨h.b.set (k := 2) (.int .i64 l'), h.o.box h.b (grown_set _ _ _ _), h.bel.setCell (p := ⟨B6, 2, none⟩) h.lo _, h.lo, h.ne⟩
theorem Cpy.fld3 {w1 W : World} {B6 g cap n : Nat} {ss : List By} {l : Int} {st : Bool} (h : Cpy w1 W B6 g cap n ss l st) (st' : Bool) : Cpy w1 (W.setCell ⟨B6, 3, none⟩ (.bool st')) B6 g cap n ss l st' :=
  ⟨h.b.set (k := 3) (.bool st'), h.o.box h.b (grown_set _ _ _ _), h.bel.setCell (p := ⟨B6, 3, none⟩) h.lo _, h.lo, h.ne⟩
theorem Cpy.drew {w1 W : World} {B6 g cap n : Nat} {ss : List By} {l : Int} {st : Bool} (h : Cpy w1 W B6 g cap n ss l st) : Cpy w1 W.drew B6 g cap n ss l st := h.upb (below_drewN (Below.refl _ W) 1)

theorem keep02 {W : World} {B B' : Nat} {a0 a1 a2 a3 : Value} (h : Cells W B 25 [a0, a1, a2, a3]) (hne : B ≠ B') (b0 b1 b2 b3 : Value) :
    ((((W.setCell ⟨B', 0, none⟩ b0).setCell ⟨B', 1, none⟩ b1).setCell ⟨B', 2, none⟩ b2).setCell ⟨B', 3, none⟩ b3).cell? ⟨B, 0, none⟩ = some a0 ∧
    ((((W.setCell ⟨B', 0, none⟩ b0).setCell ⟨B', 1, none⟩ b1).setCell ⟨B', 2, none⟩ b2).setCell ⟨B', 3, none⟩ b3).cell? ⟨B, 2, none⟩ = some a2 := by
  obtain ⟨h1, _, h3⟩ := keep4 h hne b0 b1 b2 b3
  exact ⟨h1, h3⟩
theorem cpy_new {w1 X : World} {g cap n : Nat} {ss : List By} (ho : OwnSs X w1.heap.size (.slice (some ⟨g, 0, none⟩) n cap) ss) (hb : Below w1.heap.size w1 X) (l : Int) (hg : g < X.heap.size) :
    Cpy w1 (X.alloc (.cells #[.slice (some ⟨g, 0, none⟩) n cap, .slice none 0 0, .int .i64 l, .bool false] 25)) X.heap.size g cap n ss l false :=
  ⟨Cells.new X 25 [.slice (some ⟨g, 0, none⟩) n cap, .slice none 0 0, .int .i64 l, .bool false], ho.below (al1 _ _), hb.up (al1 _ _), hb.size, by omega⟩
theorem cpy_set {w1 X : World} {B6 g cap n : Nat} {ss : List By} (hC : Cells X B6 25 [.slice none 0 0, .slice none 0 0, .int .i64 0, .bool false]) (ho : OwnSs X w1.heap.size (.slice (some ⟨g, 0, none⟩) n cap) ss) (hb : Below w1.heap.size w1 X) (hlo : w1.heap.size ≤ B6) (hne : g ≠ B6) (l : Int) :
    Cpy w1 ((((X.setCell ⟨B6, 0, none⟩ (.slice (some ⟨g, 0, none⟩) n cap)).setCell ⟨B6, 1, none⟩ (.slice none 0 0)).setCell ⟨B6, 2, none⟩ (.int .i64 l)).setCell ⟨B6, 3, none⟩ (.bool false)) B6 g cap n ss l false :=
  ⟨hC.set4 _ _ _ _, ho.box hC (grown_set4 _ _ _ _ _ _), below_set4 hb hlo _ _ _ _, hlo, hne⟩


noncomputable def copyReg : Code := (Try.f24.body.bind (findRegion 7)).getD .skip
theorem keep2 {W X : World} {B0 : Nat} {a b : Value} (h6 : B0 < W.heap.size) (hb : Below W.heap.size W X) (h : W.cell? ⟨B0, 0, none⟩ = some a ∧ W.cell? ⟨B0, 2, none⟩ = some b) :
    X.cell? ⟨B0, 0, none⟩ = some a ∧ X.cell? ⟨B0, 2, none⟩ = some b := ⟨((bcell hb).1 B0 0 h6).trans h.1, ((bcell hb).1 B0 2 h6).trans h.2⟩

set_option maxRecDepth 100000 in
set_option maxHeartbeats 4000000 in
theorem copy_region {Q : Exit → Act → World → Prop} {W : World} {u0 u2 u3 u4 u5 u6 u7 u8 u9 u10 u11 u12 u13 u14 u15 u16 u17 u18 u19 u20 u21 u22 u23 u24 u25 u26 u27 u28 u29 u30 u31 u32 u33 u34 u35 u36 u37 u38 u39 u40 u41 u42 u43 u44 u45 u46 u47 u48 u49 u50 u51 u52 u53 u54 u55 u56 u57 u58 u59 u60 u61 u62 u63 u64 u65 u66 u67 u68 u69 u70 u71 u72 u73 u74 u75 u76 u77 u78 u79 u80 u81 u82 u83 u84 u85 u86 u87 u88 u89 u90 u91 u92 u93 u94 : Value} {B0 c : Nat} {A : Option Addr} {ss : List By} {l : Int}
    (hW0 : W.cell? ⟨B0, 0, none⟩ = some (.slice A ss.length c) ∧ W.cell? ⟨B0, 2, none⟩ = some (.int .i64 l)) (hv : IsBs W (.slice A ss.length c) ss) (hn : 0 < ss.length) (hl : ss.length ≤ 4096)
    (hN : ∀ (v32 : Value) (g cap B6 : Nat) (X : World), Cpy W X B6 g cap ss.length ss l false → Q .normal { tmps := (u0 :: (.pointer (some ⟨B0, 0, none⟩)) :: u2 :: u3 :: u4 :: u5 :: (.pointer (some ⟨B6, 0, none⟩)) :: u7 :: u8 :: u9 :: u10 :: u11 :: u12 :: u13 :: u14 :: u15 :: u16 :: u17 :: u18 :: u19 :: u20 :: u21 :: u22 :: u23 :: u24 :: u25 :: u26 :: u27 :: u28 :: u29 :: u30 :: u31 :: v32 :: (.pointer (some ⟨B0, 0, none⟩)) :: (.slice A ss.length c) :: (.slice (some ⟨g, 0, none⟩) ss.length cap) :: (.pointer (some ⟨B0, 2, none⟩)) :: (.int .i64 l) :: (.agg #[.slice (some ⟨g, 0, none⟩) ss.length cap, .slice none 0 0, .int .i64 l, .bool false]) :: u39 :: u40 :: u41 :: u42 :: u43 :: u44 :: u45 :: u46 :: u47 :: u48 :: u49 :: u50 :: u51 :: u52 :: u53 :: u54 :: u55 :: u56 :: u57 :: u58 :: u59 :: u60 :: u61 :: u62 :: u63 :: u64 :: u65 :: u66 :: u67 :: u68 :: u69 :: u70 :: u71 :: u72 :: u73 :: u74 :: u75 :: u76 :: u77 :: u78 :: u79 :: u80 :: u81 :: u82 :: u83 :: u84 :: u85 :: u86 :: u87 :: u88 :: u89 :: u90 :: u91 :: u92 :: u93 :: u94 :: []).toArray, defers := [] } X) :
    copyReg.wp Try.prog Q { tmps := (u0 :: (.pointer (some ⟨B0, 0, none⟩)) :: u2 :: u3 :: u4 :: u5 :: u6 :: u7 :: u8 :: u9 :: u10 :: u11 :: u12 :: u13 :: u14 :: u15 :: u16 :: u17 :: u18 :: u19 :: u20 :: u21 :: u22 :: u23 :: u24 :: u25 :: u26 :: u27 :: u28 :: u29 :: u30 :: u31 :: u32 :: u33 :: u34 :: u35 :: u36 :: u37 :: u38 :: u39 :: u40 :: u41 :: u42 :: u43 :: u44 :: u45 :: u46 :: u47 :: u48 :: u49 :: u50 :: u51 :: u52 :: u53 :: u54 :: u55 :: u56 :: u57 :: u58 :: u59 :: u60 :: u61 :: u62 :: u63 :: u64 :: u65 :: u66 :: u67 :: u68 :: u69 :: u70 :: u71 :: u72 :: u73 :: u74 :: u75 :: u76 :: u77 :: u78 :: u79 :: u80 :: u81 :: u82 :: u83 :: u84 :: u85 :: u86 :: u87 :: u88 :: u89 :: u90 :: u91 :: u92 :: u93 :: u94 :: []).toArray, defers := [] } W := by
  conv => arg 2; whnf
  have hlt : B0 < W.heap.size := cell_lt hW0.1
  have hS0 : (fun X : World => X.cell? ⟨B0, 0, none⟩ = some (.slice A ss.length c) ∧ X.cell? ⟨B0, 2, none⟩ = some (.int .i64 l)) W.drew := hW0
  refine wp_region_noPanic ?_
  refine wp_region_E 8 (fun X : World => X.cell? ⟨B0, 0, none⟩ = some (.slice A ss.length c) ∧ X.cell? ⟨B0, 2, none⟩ = some (.int .i64 l)) (by kernel_rfl) ?_
  refine wpAnyE_take (i := 1) (v := (.pointer (some ⟨B0, 0, none⟩))) rfl (by kernel_rfl) (by kernel_rfl) (by kernel_rfl) (by kernel_rfl) (by kernel_rfl) (fun _ _ _ h => h) (.inl ⟨rfl, fun X hX => ?_⟩) hS0 ?_
  · obtain ⟨z1, z2⟩ := hX; go_simp
  change wpAnyE _ _ _ _ _ _ _ _ { tmps := (u0 :: (.pointer (some ⟨B0, 0, none⟩)) :: u2 :: u3 :: u4 :: u5 :: u6 :: u7 :: u8 :: u9 :: u10 :: u11 :: u12 :: u13 :: u14 :: u15 :: u16 :: u17 :: u18 :: u19 :: u20 :: u21 :: u22 :: u23 :: u24 :: u25 :: u26 :: u27 :: u28 :: u29 :: u30 :: u31 :: u32 :: (.pointer (some ⟨B0, 0, none⟩)) :: u34 :: u35 :: u36 :: u37 :: u38 :: u39 :: u40 :: u41 :: u42 :: u43 :: u44 :: u45 :: u46 :: u47 :: u48 :: u49 :: u50 :: u51 :: u52 :: u53 :: u54 :: u55 :: u56 :: u57 :: u58 :: u59 :: u60 :: u61 :: u62 :: u63 :: u64 :: u65 :: u66 :: u67 :: u68 :: u69 :: u70 :: u71 :: u72 :: u73 :: u74 :: u75 :: u76 :: u77 :: u78 :: u79 :: u80 :: u81 :: u82 :: u83 :: u84 :: u85 :: u86 :: u87 :: u88 :: u89 :: u90 :: u91 :: u92 :: u93 :: u94 :: []).toArray, defers := [] } _
  refine wpAnyE_take (i := 2) (v := (.slice A ss.length c)) rfl (by kernel_rfl) (by kernel_rfl) (by kernel_rfl) (by kernel_rfl) (by kernel_rfl) (fun _ _ _ h => h) (.inl ⟨rfl, fun X hX => ?_⟩) hS0 ?_
  · obtain ⟨z1, z2⟩ := hX; go_simp
  change wpAnyE _ _ _ _ _ _ _ _ { tmps := (u0 :: (.pointer (some ⟨B0, 0, none⟩)) :: u2 :: u3 :: u4 :: u5 :: u6 :: u7 :: u8 :: u9 :: u10 :: u11 :: u12 :: u13 :: u14 :: u15 :: u16 :: u17 :: u18 :: u19 :: u20 :: u21 :: u22 :: u23 :: u24 :: u25 :: u26 :: u27 :: u28 :: u29 :: u30 :: u31 :: u32 :: (.pointer (some ⟨B0, 0, none⟩)) :: (.slice A ss.length c) :: u35 :: u36 :: u37 :: u38 :: u39 :: u40 :: u41 :: u42 :: u43 :: u44 :: u45 :: u46 :: u47 :: u48 :: u49 :: u50 :: u51 :: u52 :: u53 :: u54 :: u55 :: u56 :: u57 :: u58 :: u59 :: u60 :: u61 :: u62 :: u63 :: u64 :: u65 :: u66 :: u67 :: u68 :: u69 :: u70 :: u71 :: u72 :: u73 :: u74 :: u75 :: u76 :: u77 :: u78 :: u79 :: u80 :: u81 :: u82 :: u83 :: u84 :: u85 :: u86 :: u87 :: u88 :: u89 :: u90 :: u91 :: u92 :: u93 :: u94 :: []).toArray, defers := [] } _
  refine wpAnyE_take (i := 4) (v := (.pointer (some ⟨B0, 2, none⟩))) rfl (by kernel_rfl) (by kernel_rfl) (by kernel_rfl) (by kernel_rfl) (by kernel_rfl) (fun _ _ _ h => h) (.inl ⟨rfl, fun X hX => ?_⟩) hS0 ?_
  · obtain ⟨z1, z2⟩ := hX; go_simp
  change wpAnyE _ _ _ _ _ _ _ _ { tmps := (u0 :: (.pointer (some ⟨B0, 0, none⟩)) :: u2 :: u3 :: u4 :: u5 :: u6 :: u7 :: u8 :: u9 :: u10 :: u11 :: u12 :: u13 :: u14 :: u15 :: u16 :: u17 :: u18 :: u19 :: u20 :: u21 :: u22 :: u23 :: u24 :: u25 :: u26 :: u27 :: u28 :: u29 :: u30 :: u31 :: u32 :: (.pointer (some ⟨B0, 0, none⟩)) :: (.slice A ss.length c) :: u35 :: (.pointer (some ⟨B0, 2, none⟩)) :: u37 :: u38 :: u39 :: u40 :: u41 :: u42 :: u43 :: u44 :: u45 :: u46 :: u47 :: u48 :: u49 :: u50 :: u51 :: u52 :: u53 :: u54 :: u55 :: u56 :: u57 :: u58 :: u59 :: u60 :: u61 :: u62 :: u63 :: u64 :: u65 :: u66 :: u67 :: u68 :: u69 :: u70 :: u71 :: u72 :: u73 :: u74 :: u75 :: u76 :: u77 :: u78 :: u79 :: u80 :: u81 :: u82 :: u83 :: u84 :: u85 :: u86 :: u87 :: u88 :: u89 :: u90 :: u91 :: u92 :: u93 :: u94 :: []).toArray, defers := [] } _
  refine wpAnyE_take (i := 5) (v := (.int .i64 l)) rfl (by kernel_rfl) (by kernel_rfl) (by kernel_rfl) (by kernel_rfl) (by kernel_rfl) (fun _ _ _ h => h) (.inl ⟨rfl, fun X hX => ?_⟩) hS0 ?_
  · obtain ⟨z1, z2⟩ := hX; go_simp
  change wpAnyE _ _ _ _ _ _ _ _ { tmps := (u0 :: (.pointer (some ⟨B0, 0, none⟩)) :: u2 :: u3 :: u4 :: u5 :: u6 :: u7 :: u8 :: u9 :: u10 :: u11 :: u12 :: u13 :: u14 :: u15 :: u16 :: u17 :: u18 :: u19 :: u20 :: u21 :: u22 :: u23 :: u24 :: u25 :: u26 :: u27 :: u28 :: u29 :: u30 :: u31 :: u32 :: (.pointer (some ⟨B0, 0, none⟩)) :: (.slice A ss.length c) :: u35 :: (.pointer (some ⟨B0, 2, none⟩)) :: (.int .i64 l) :: u38 :: u39 :: u40 :: u41 :: u42 :: u43 :: u44 :: u45 :: u46 :: u47 :: u48 :: u49 :: u50 :: u51 :: u52 :: u53 :: u54 :: u55 :: u56 :: u57 :: u58 :: u59 :: u60 :: u61 :: u62 :: u63 :: u64 :: u65 :: u66 :: u67 :: u68 :: u69 :: u70 :: u71 :: u72 :: u73 :: u74 :: u75 :: u76 :: u77 :: u78 :: u79 :: u80 :: u81 :: u82 :: u83 :: u84 :: u85 :: u86 :: u87 :: u88 :: u89 :: u90 :: u91 :: u92 :: u93 :: u94 :: []).toArray, defers := [] } _
  refine wpAnyE_two (i := 0) (j := 7) (by kernel_rfl) rfl rfl (fun K hK => ?_) (fun K hK => ?_)
  ·
    go_simp
    refine hK.out _ _ (fun _ => keep2 hlt (drew_al (w1 := W) (.cells #[] 35)) hW0) (fun hS => ?_)
    clear hK K hS
    change wpAnyE _ _ _ _ _ _ _ _ { tmps := (u0 :: (.pointer (some ⟨B0, 0, none⟩)) :: u2 :: u3 :: u4 :: u5 :: u6 :: u7 :: u8 :: u9 :: u10 :: u11 :: u12 :: u13 :: u14 :: u15 :: u16 :: u17 :: u18 :: u19 :: u20 :: u21 :: u22 :: u23 :: u24 :: u25 :: u26 :: u27 :: u28 :: u29 :: u30 :: u31 :: (.slice (some ⟨W.heap.size, 0, none⟩) 0 0) :: (.pointer (some ⟨B0, 0, none⟩)) :: (.slice A ss.length c) :: u35 :: (.pointer (some ⟨B0, 2, none⟩)) :: (.int .i64 l) :: u38 :: u39 :: u40 :: u41 :: u42 :: u43 :: u44 :: u45 :: u46 :: u47 :: u48 :: u49 :: u50 :: u51 :: u52 :: u53 :: u54 :: u55 :: u56 :: u57 :: u58 :: u59 :: u60 :: u61 :: u62 :: u63 :: u64 :: u65 :: u66 :: u67 :: u68 :: u69 :: u70 :: u71 :: u72 :: u73 :: u74 :: u75 :: u76 :: u77 :: u78 :: u79 :: u80 :: u81 :: u82 :: u83 :: u84 :: u85 :: u86 :: u87 :: u88 :: u89 :: u90 :: u91 :: u92 :: u93 :: u94 :: []).toArray, defers := [] } (W.drew.alloc (.cells #[] 35))
    refine wpAnyE_two (i := 3) (j := 7) (by kernel_rfl) rfl rfl (fun K hK => ?_) (fun K hK => ?_)
    ·
      refine step_app rfl (.tmp 32) (.tmp 34) 22 (.slice (some ⟨W.heap.size, 0, none⟩) 0 0) (.slice A ss.length c) rfl rfl rfl (appS_is (w := W.drew) (X := W.drew.alloc (.cells #[] 35)) _ (al1 W.drew (.cells #[] 35)) (hv.upb (show Below W.heap.size W W.drew from below_drewN (Below.refl _ W) 1)) (ownS_made W.drew) (by simp; omega)) ?_
      rintro v2 X2 ⟨ho2, hg2, hat2⟩
      rw [List.nil_append] at ho2
      have HO2 := Lib.hid (show OwnSs X2 W.heap.size v2 ss from ho2)
      have HB2 := Lib.hid (show Below W.heap.size W X2 from Below.grown (drew_al (w1 := W) (.cells #[] 35)) hg2 (drew_al (w1 := W) (.cells #[] 35)).size (fun g hg => by simp [Value.ownBlock] at hg; omega))
      obtain ⟨g, cap, rfl, hg1, hg3⟩ := HO2.out.form hn
      refine hK.out _ _ (fun _ => keep2 hlt (HB2.out) hW0) (fun hS => ?_)
      clear hK K ho2 hg2 hat2
      replace hS := hS (by decide)
      change wpAnyE _ _ _ _ _ _ _ _ { tmps := (u0 :: (.pointer (some ⟨B0, 0, none⟩)) :: u2 :: u3 :: u4 :: u5 :: u6 :: u7 :: u8 :: u9 :: u10 :: u11 :: u12 :: u13 :: u14 :: u15 :: u16 :: u17 :: u18 :: u19 :: u20 :: u21 :: u22 :: u23 :: u24 :: u25 :: u26 :: u27 :: u28 :: u29 :: u30 :: u31 :: (.slice (some ⟨W.heap.size, 0, none⟩) 0 0) :: (.pointer (some ⟨B0, 0, none⟩)) :: (.slice A ss.length c) :: (.slice (some ⟨g, 0, none⟩) ss.length cap) :: (.pointer (some ⟨B0, 2, none⟩)) :: (.int .i64 l) :: u38 :: u39 :: u40 :: u41 :: u42 :: u43 :: u44 :: u45 :: u46 :: u47 :: u48 :: u49 :: u50 :: u51 :: u52 :: u53 :: u54 :: u55 :: u56 :: u57 :: u58 :: u59 :: u60 :: u61 :: u62 :: u63 :: u64 :: u65 :: u66 :: u67 :: u68 :: u69 :: u70 :: u71 :: u72 :: u73 :: u74 :: u75 :: u76 :: u77 :: u78 :: u79 :: u80 :: u81 :: u82 :: u83 :: u84 :: u85 :: u86 :: u87 :: u88 :: u89 :: u90 :: u91 :: u92 :: u93 :: u94 :: []).toArray, defers := [] } X2
      refine wpAnyE_take (i := 6) (v := (.agg #[.slice (some ⟨g, 0, none⟩) ss.length cap, .slice none 0 0, .int .i64 l, .bool false])) rfl (by kernel_rfl) (by kernel_rfl) (by kernel_rfl) (by kernel_rfl) (by kernel_rfl) (fun _ _ _ h => h) (.inl ⟨rfl, fun X hX => ?_⟩) hS ?_
      · obtain ⟨z1, z2⟩ := hX; go_simp
      change wpAnyE _ _ _ _ _ _ _ _ { tmps := (u0 :: (.pointer (some ⟨B0, 0, none⟩)) :: u2 :: u3 :: u4 :: u5 :: u6 :: u7 :: u8 :: u9 :: u10 :: u11 :: u12 :: u13 :: u14 :: u15 :: u16 :: u17 :: u18 :: u19 :: u20 :: u21 :: u22 :: u23 :: u24 :: u25 :: u26 :: u27 :: u28 :: u29 :: u30 :: u31 :: (.slice (some ⟨W.heap.size, 0, none⟩) 0 0) :: (.pointer (some ⟨B0, 0, none⟩)) :: (.slice A ss.length c) :: (.slice (some ⟨g, 0, none⟩) ss.length cap) :: (.pointer (some ⟨B0, 2, none⟩)) :: (.int .i64 l) :: (.agg #[.slice (some ⟨g, 0, none⟩) ss.length cap, .slice none 0 0, .int .i64 l, .bool false]) :: u39 :: u40 :: u41 :: u42 :: u43 :: u44 :: u45 :: u46 :: u47 :: u48 :: u49 :: u50 :: u51 :: u52 :: u53 :: u54 :: u55 :: u56 :: u57 :: u58 :: u59 :: u60 :: u61 :: u62 :: u63 :: u64 :: u65 :: u66 :: u67 :: u68 :: u69 :: u70 :: u71 :: u72 :: u73 :: u74 :: u75 :: u76 :: u77 :: u78 :: u79 :: u80 :: u81 :: u82 :: u83 :: u84 :: u85 :: u86 :: u87 :: u88 :: u89 :: u90 :: u91 :: u92 :: u93 :: u94 :: []).toArray, defers := [] } _
      have HN := Lib.hid (fun u32 => hN u32 g cap _ _ (cpy_new HO2.out HB2.out l hg3))
      refine wpAnyE_one (i := 7) (by kernel_rfl) rfl (fun K hK => ?_)
      go_simp
      refine hK.out _ _ (fun _ => keep2 hlt (HB2.out.up (al1 X2 (.cells #[.slice none 0 0, .slice none 0 0, .int .i64 0, .bool false] 25))) hW0) (fun hS => ?_)
      clear hK K hS
      change wpAnyE _ _ _ _ _ _ _ _ { tmps := (u0 :: (.pointer (some ⟨B0, 0, none⟩)) :: u2 :: u3 :: u4 :: u5 :: (.pointer (some ⟨X2.heap.size, 0, none⟩)) :: u7 :: u8 :: u9 :: u10 :: u11 :: u12 :: u13 :: u14 :: u15 :: u16 :: u17 :: u18 :: u19 :: u20 :: u21 :: u22 :: u23 :: u24 :: u25 :: u26 :: u27 :: u28 :: u29 :: u30 :: u31 :: (.slice (some ⟨W.heap.size, 0, none⟩) 0 0) :: (.pointer (some ⟨B0, 0, none⟩)) :: (.slice A ss.length c) :: (.slice (some ⟨g, 0, none⟩) ss.length cap) :: (.pointer (some ⟨B0, 2, none⟩)) :: (.int .i64 l) :: (.agg #[.slice (some ⟨g, 0, none⟩) ss.length cap, .slice none 0 0, .int .i64 l, .bool false]) :: u39 :: u40 :: u41 :: u42 :: u43 :: u44 :: u45 :: u46 :: u47 :: u48 :: u49 :: u50 :: u51 :: u52 :: u53 :: u54 :: u55 :: u56 :: u57 :: u58 :: u59 :: u60 :: u61 :: u62 :: u63 :: u64 :: u65 :: u66 :: u67 :: u68 :: u69 :: u70 :: u71 :: u72 :: u73 :: u74 :: u75 :: u76 :: u77 :: u78 :: u79 :: u80 :: u81 :: u82 :: u83 :: u84 :: u85 :: u86 :: u87 :: u88 :: u89 :: u90 :: u91 :: u92 :: u93 :: u94 :: []).toArray, defers := [] } (X2.alloc (.cells #[.slice none 0 0, .slice none 0 0, .int .i64 0, .bool false] 25))
      refine wpAnyE_one (i := 8) (by kernel_rfl) rfl (fun K hK => ?_)
      go_simp
      refine hK.out _ _ (fun h => absurd rfl h) (fun _ => ?_)
      exact wpAnyE_done (by kernel_rfl) (NoPanic.normal (HN.out _)) _
    ·
      go_simp
      refine hK.out _ _ (fun _ => keep2 hlt (drew_al2 (w1 := W) (.cells #[] 35) (.cells #[.slice none 0 0, .slice none 0 0, .int .i64 0, .bool false] 25)) hW0) (fun hS => ?_)
      clear hK K hS
      change wpAnyE _ _ _ _ _ _ _ _ { tmps := (u0 :: (.pointer (some ⟨B0, 0, none⟩)) :: u2 :: u3 :: u4 :: u5 :: (.pointer (some ⟨W.heap.size + 1, 0, none⟩)) :: u7 :: u8 :: u9 :: u10 :: u11 :: u12 :: u13 :: u14 :: u15 :: u16 :: u17 :: u18 :: u19 :: u20 :: u21 :: u22 :: u23 :: u24 :: u25 :: u26 :: u27 :: u28 :: u29 :: u30 :: u31 :: (.slice (some ⟨W.heap.size, 0, none⟩) 0 0) :: (.pointer (some ⟨B0, 0, none⟩)) :: (.slice A ss.length c) :: u35 :: (.pointer (some ⟨B0, 2, none⟩)) :: (.int .i64 l) :: u38 :: u39 :: u40 :: u41 :: u42 :: u43 :: u44 :: u45 :: u46 :: u47 :: u48 :: u49 :: u50 :: u51 :: u52 :: u53 :: u54 :: u55 :: u56 :: u57 :: u58 :: u59 :: u60 :: u61 :: u62 :: u63 :: u64 :: u65 :: u66 :: u67 :: u68 :: u69 :: u70 :: u71 :: u72 :: u73 :: u74 :: u75 :: u76 :: u77 :: u78 :: u79 :: u80 :: u81 :: u82 :: u83 :: u84 :: u85 :: u86 :: u87 :: u88 :: u89 :: u90 :: u91 :: u92 :: u93 :: u94 :: []).toArray, defers := [] } ((W.drew.alloc (.cells #[] 35)).alloc (.cells #[.slice none 0 0, .slice none 0 0, .int .i64 0, .bool false] 25))
      refine wpAnyE_one (i := 3) (by kernel_rfl) rfl (fun K hK => ?_)
      refine step_app rfl (.tmp 32) (.tmp 34) 22 (.slice (some ⟨W.heap.size, 0, none⟩) 0 0) (.slice A ss.length c) rfl rfl rfl (appS_is (w := W.drew) (X := (W.drew.alloc (.cells #[] 35)).alloc (.cells #[.slice none 0 0, .slice none 0 0, .int .i64 0, .bool false] 25)) _ ((al1 W.drew (.cells #[] 35)).up (al1 (W.drew.alloc (.cells #[] 35)) (.cells #[.slice none 0 0, .slice none 0 0, .int .i64 0, .bool false] 25))) (hv.upb (show Below W.heap.size W W.drew from below_drewN (Below.refl _ W) 1)) ((ownS_made W.drew).below (al1 (W.drew.alloc (.cells #[] 35)) (.cells #[.slice none 0 0, .slice none 0 0, .int .i64 0, .bool false] 25))) (by simp; omega)) ?_
      rintro v2 X2 ⟨ho2, hg2, hat2⟩
      rw [List.nil_append] at ho2
      have HO2 := Lib.hid (show OwnSs X2 W.heap.size v2 ss from ho2)
      have HB2 := Lib.hid (show Below W.heap.size W X2 from Below.grown (drew_al2 (w1 := W) (.cells #[] 35) (.cells #[.slice none 0 0, .slice none 0 0, .int .i64 0, .bool false] 25)) hg2 (drew_al2 (w1 := W) (.cells #[] 35) (.cells #[.slice none 0 0, .slice none 0 0, .int .i64 0, .bool false] 25)).size (fun g hg => by simp [Value.ownBlock] at hg; omega))
      obtain ⟨g, cap, rfl, hg1, hg3⟩ := HO2.out.form hn
      have HC6 := Lib.hid (show Cells X2 (W.heap.size + 1) 25 [.slice none 0 0, .slice none 0 0, .int .i64 0, .bool false] from grownK (by have := Cells.new (W.drew.alloc (.cells #[] 35)) 25 [.slice none 0 0, .slice none 0 0, .int .i64 0, .bool false]; simpa using this) hg2 (by simp))
      refine hK.out _ _ (fun _ => keep2 hlt (HB2.out) hW0) (fun hS => ?_)
      clear hK K ho2 hg2 hat2
      replace hS := hS (by decide)
      change wpAnyE _ _ _ _ _ _ _ _ { tmps := (u0 :: (.pointer (some ⟨B0, 0, none⟩)) :: u2 :: u3 :: u4 :: u5 :: (.pointer (some ⟨W.heap.size + 1, 0, none⟩)) :: u7 :: u8 :: u9 :: u10 :: u11 :: u12 :: u13 :: u14 :: u15 :: u16 :: u17 :: u18 :: u19 :: u20 :: u21 :: u22 :: u23 :: u24 :: u25 :: u26 :: u27 :: u28 :: u29 :: u30 :: u31 :: (.slice (some ⟨W.heap.size, 0, none⟩) 0 0) :: (.pointer (some ⟨B0, 0, none⟩)) :: (.slice A ss.length c) :: (.slice (some ⟨g, 0, none⟩) ss.length cap) :: (.pointer (some ⟨B0, 2, none⟩)) :: (.int .i64 l) :: u38 :: u39 :: u40 :: u41 :: u42 :: u43 :: u44 :: u45 :: u46 :: u47 :: u48 :: u49 :: u50 :: u51 :: u52 :: u53 :: u54 :: u55 :: u56 :: u57 :: u58 :: u59 :: u60 :: u61 :: u62 :: u63 :: u64 :: u65 :: u66 :: u67 :: u68 :: u69 :: u70 :: u71 :: u72 :: u73 :: u74 :: u75 :: u76 :: u77 :: u78 :: u79 :: u80 :: u81 :: u82 :: u83 :: u84 :: u85 :: u86 :: u87 :: u88 :: u89 :: u90 :: u91 :: u92 :: u93 :: u94 :: []).toArray, defers := [] } X2
      refine wpAnyE_take (i := 6) (v := (.agg #[.slice (some ⟨g, 0, none⟩) ss.length cap, .slice none 0 0, .int .i64 l, .bool false])) rfl (by kernel_rfl) (by kernel_rfl) (by kernel_rfl) (by kernel_rfl) (by kernel_rfl) (fun _ _ _ h => h) (.inl ⟨rfl, fun X hX => ?_⟩) hS ?_
      · obtain ⟨z1, z2⟩ := hX; go_simp
      change wpAnyE _ _ _ _ _ _ _ _ { tmps := (u0 :: (.pointer (some ⟨B0, 0, none⟩)) :: u2 :: u3 :: u4 :: u5 :: (.pointer (some ⟨W.heap.size + 1, 0, none⟩)) :: u7 :: u8 :: u9 :: u10 :: u11 :: u12 :: u13 :: u14 :: u15 :: u16 :: u17 :: u18 :: u19 :: u20 :: u21 :: u22 :: u23 :: u24 :: u25 :: u26 :: u27 :: u28 :: u29 :: u30 :: u31 :: (.slice (some ⟨W.heap.size, 0, none⟩) 0 0) :: (.pointer (some ⟨B0, 0, none⟩)) :: (.slice A ss.length c) :: (.slice (some ⟨g, 0, none⟩) ss.length cap) :: (.pointer (some ⟨B0, 2, none⟩)) :: (.int .i64 l) :: (.agg #[.slice (some ⟨g, 0, none⟩) ss.length cap, .slice none 0 0, .int .i64 l, .bool false]) :: u39 :: u40 :: u41 :: u42 :: u43 :: u44 :: u45 :: u46 :: u47 :: u48 :: u49 :: u50 :: u51 :: u52 :: u53 :: u54 :: u55 :: u56 :: u57 :: u58 :: u59 :: u60 :: u61 :: u62 :: u63 :: u64 :: u65 :: u66 :: u67 :: u68 :: u69 :: u70 :: u71 :: u72 :: u73 :: u74 :: u75 :: u76 :: u77 :: u78 :: u79 :: u80 :: u81 :: u82 :: u83 :: u84 :: u85 :: u86 :: u87 :: u88 :: u89 :: u90 :: u91 :: u92 :: u93 :: u94 :: []).toArray, defers := [] } _
      have c60 := HC6.out.cell (k := 0) rfl
      have c61 := HC6.out.cell (k := 1) rfl
      have c62 := HC6.out.cell (k := 2) rfl
      have c63 := HC6.out.cell (k := 3) rfl
      have d60 := HC6.out.frozen 0
      have d61 := HC6.out.frozen 1
      have d62 := HC6.out.frozen 2
      have d63 := HC6.out.frozen 3
      have hne6 : g ≠ W.heap.size + 1 := ownS_ne HO2.out HC6.out
      have HN := Lib.hid (fun u32 => hN u32 g cap _ _ (cpy_set HC6.out HO2.out HB2.out (by omega) hne6 l))
      refine wpAnyE_one (i := 8) (by kernel_rfl) rfl (fun K hK => ?_)
      go_simp
      refine hK.out _ _ (fun h => absurd rfl h) (fun _ => ?_)
      exact wpAnyE_done (by kernel_rfl) (NoPanic.normal (HN.out _)) _
  ·
    go_simp
    refine hK.out _ _ (fun _ => keep2 hlt (drew_al (w1 := W) (.cells #[.slice none 0 0, .slice none 0 0, .int .i64 0, .bool false] 25)) hW0) (fun hS => ?_)
    clear hK K hS
    change wpAnyE _ _ _ _ _ _ _ _ { tmps := (u0 :: (.pointer (some ⟨B0, 0, none⟩)) :: u2 :: u3 :: u4 :: u5 :: (.pointer (some ⟨W.heap.size, 0, none⟩)) :: u7 :: u8 :: u9 :: u10 :: u11 :: u12 :: u13 :: u14 :: u15 :: u16 :: u17 :: u18 :: u19 :: u20 :: u21 :: u22 :: u23 :: u24 :: u25 :: u26 :: u27 :: u28 :: u29 :: u30 :: u31 :: u32 :: (.pointer (some ⟨B0, 0, none⟩)) :: (.slice A ss.length c) :: u35 :: (.pointer (some ⟨B0, 2, none⟩)) :: (.int .i64 l) :: u38 :: u39 :: u40 :: u41 :: u42 :: u43 :: u44 :: u45 :: u46 :: u47 :: u48 :: u49 :: u50 :: u51 :: u52 :: u53 :: u54 :: u55 :: u56 :: u57 :: u58 :: u59 :: u60 :: u61 :: u62 :: u63 :: u64 :: u65 :: u66 :: u67 :: u68 :: u69 :: u70 :: u71 :: u72 :: u73 :: u74 :: u75 :: u76 :: u77 :: u78 :: u79 :: u80 :: u81 :: u82 :: u83 :: u84 :: u85 :: u86 :: u87 :: u88 :: u89 :: u90 :: u91 :: u92 :: u93 :: u94 :: []).toArray, defers := [] } (W.drew.alloc (.cells #[.slice none 0 0, .slice none 0 0, .int .i64 0, .bool false] 25))
    refine wpAnyE_one (i := 0) (by kernel_rfl) rfl (fun K hK => ?_)
    go_simp
    refine hK.out _ _ (fun _ => keep2 hlt (drew_al2 (w1 := W) (.cells #[.slice none 0 0, .slice none 0 0, .int .i64 0, .bool false] 25) (.cells #[] 35)) hW0) (fun hS => ?_)
    clear hK K hS
    change wpAnyE _ _ _ _ _ _ _ _ { tmps := (u0 :: (.pointer (some ⟨B0, 0, none⟩)) :: u2 :: u3 :: u4 :: u5 :: (.pointer (some ⟨W.heap.size, 0, none⟩)) :: u7 :: u8 :: u9 :: u10 :: u11 :: u12 :: u13 :: u14 :: u15 :: u16 :: u17 :: u18 :: u19 :: u20 :: u21 :: u22 :: u23 :: u24 :: u25 :: u26 :: u27 :: u28 :: u29 :: u30 :: u31 :: (.slice (some ⟨W.heap.size + 1, 0, none⟩) 0 0) :: (.pointer (some ⟨B0, 0, none⟩)) :: (.slice A ss.length c) :: u35 :: (.pointer (some ⟨B0, 2, none⟩)) :: (.int .i64 l) :: u38 :: u39 :: u40 :: u41 :: u42 :: u43 :: u44 :: u45 :: u46 :: u47 :: u48 :: u49 :: u50 :: u51 :: u52 :: u53 :: u54 :: u55 :: u56 :: u57 :: u58 :: u59 :: u60 :: u61 :: u62 :: u63 :: u64 :: u65 :: u66 :: u67 :: u68 :: u69 :: u70 :: u71 :: u72 :: u73 :: u74 :: u75 :: u76 :: u77 :: u78 :: u79 :: u80 :: u81 :: u82 :: u83 :: u84 :: u85 :: u86 :: u87 :: u88 :: u89 :: u90 :: u91 :: u92 :: u93 :: u94 :: []).toArray, defers := [] } ((W.drew.alloc (.cells #[.slice none 0 0, .slice none 0 0, .int .i64 0, .bool false] 25)).alloc (.cells #[] 35))
    refine wpAnyE_one (i := 3) (by kernel_rfl) rfl (fun K hK => ?_)
    refine step_app rfl (.tmp 32) (.tmp 34) 22 (.slice (some ⟨W.heap.size + 1, 0, none⟩) 0 0) (.slice A ss.length c) rfl rfl rfl (appS_is (w := W.drew) (X := (W.drew.alloc (.cells #[.slice none 0 0, .slice none 0 0, .int .i64 0, .bool false] 25)).alloc (.cells #[] 35)) _ ((al1 W.drew (.cells #[.slice none 0 0, .slice none 0 0, .int .i64 0, .bool false] 25)).up (al1 (W.drew.alloc (.cells #[.slice none 0 0, .slice none 0 0, .int .i64 0, .bool false] 25)) (.cells #[] 35))) (hv.upb (show Below W.heap.size W W.drew from below_drewN (Below.refl _ W) 1)) (ownS_base (show OwnSs ((W.drew.alloc (.cells #[.slice none 0 0, .slice none 0 0, .int .i64 0, .bool false] 25)).alloc (.cells #[] 35)) (W.heap.size + 1) (.slice (some ⟨W.heap.size + 1, 0, none⟩) 0 0) [] from by have := ownS_made (W.drew.alloc (.cells #[.slice none 0 0, .slice none 0 0, .int .i64 0, .bool false] 25)); simpa using this) (by show W.heap.size ≤ _; omega)) (by simp; omega)) ?_
    rintro v2 X2 ⟨ho2, hg2, hat2⟩
    rw [List.nil_append] at ho2
    have HO2 := Lib.hid (show OwnSs X2 W.heap.size v2 ss from ho2)
    have HB2 := Lib.hid (show Below W.heap.size W X2 from Below.grown (drew_al2 (w1 := W) (.cells #[.slice none 0 0, .slice none 0 0, .int .i64 0, .bool false] 25) (.cells #[] 35)) hg2 (drew_al2 (w1 := W) (.cells #[.slice none 0 0, .slice none 0 0, .int .i64 0, .bool false] 25) (.cells #[] 35)).size (fun g hg => by simp [Value.ownBlock] at hg; omega))
    obtain ⟨g, cap, rfl, hg1, hg3⟩ := HO2.out.form hn
    have HC6 := Lib.hid (show Cells X2 W.heap.size 25 [.slice none 0 0, .slice none 0 0, .int .i64 0, .bool false] from grownK ((show Cells (W.drew.alloc (.cells #[.slice none 0 0, .slice none 0 0, .int .i64 0, .bool false] 25)) W.heap.size 25 [.slice none 0 0, .slice none 0 0, .int .i64 0, .bool false] from Cells.new W.drew 25 [.slice none 0 0, .slice none 0 0, .int .i64 0, .bool false]).upb (al1 _ (.cells #[] 35))) hg2 (by simp))
    refine hK.out _ _ (fun _ => keep2 hlt (HB2.out) hW0) (fun hS => ?_)
    clear hK K ho2 hg2 hat2
    replace hS := hS (by decide)
    change wpAnyE _ _ _ _ _ _ _ _ { tmps := (u0 :: (.pointer (some ⟨B0, 0, none⟩)) :: u2 :: u3 :: u4 :: u5 :: (.pointer (some ⟨W.heap.size, 0, none⟩)) :: u7 :: u8 :: u9 :: u10 :: u11 :: u12 :: u13 :: u14 :: u15 :: u16 :: u17 :: u18 :: u19 :: u20 :: u21 :: u22 :: u23 :: u24 :: u25 :: u26 :: u27 :: u28 :: u29 :: u30 :: u31 :: (.slice (some ⟨W.heap.size + 1, 0, none⟩) 0 0) :: (.pointer (some ⟨B0, 0, none⟩)) :: (.slice A ss.length c) :: (.slice (some ⟨g, 0, none⟩) ss.length cap) :: (.pointer (some ⟨B0, 2, none⟩)) :: (.int .i64 l) :: u38 :: u39 :: u40 :: u41 :: u42 :: u43 :: u44 :: u45 :: u46 :: u47 :: u48 :: u49 :: u50 :: u51 :: u52 :: u53 :: u54 :: u55 :: u56 :: u57 :: u58 :: u59 :: u60 :: u61 :: u62 :: u63 :: u64 :: u65 :: u66 :: u67 :: u68 :: u69 :: u70 :: u71 :: u72 :: u73 :: u74 :: u75 :: u76 :: u77 :: u78 :: u79 :: u80 :: u81 :: u82 :: u83 :: u84 :: u85 :: u86 :: u87 :: u88 :: u89 :: u90 :: u91 :: u92 :: u93 :: u94 :: []).toArray, defers := [] } X2
    refine wpAnyE_take (i := 6) (v := (.agg #[.slice (some ⟨g, 0, none⟩) ss.length cap, .slice none 0 0, .int .i64 l, .bool false])) rfl (by kernel_rfl) (by kernel_rfl) (by kernel_rfl) (by kernel_rfl) (by kernel_rfl) (fun _ _ _ h => h) (.inl ⟨rfl, fun X hX => ?_⟩) hS ?_
    · obtain ⟨z1, z2⟩ := hX; go_simp
    change wpAnyE _ _ _ _ _ _ _ _ { tmps := (u0 :: (.pointer (some ⟨B0, 0, none⟩)) :: u2 :: u3 :: u4 :: u5 :: (.pointer (some ⟨W.heap.size, 0, none⟩)) :: u7 :: u8 :: u9 :: u10 :: u11 :: u12 :: u13 :: u14 :: u15 :: u16 :: u17 :: u18 :: u19 :: u20 :: u21 :: u22 :: u23 :: u24 :: u25 :: u26 :: u27 :: u28 :: u29 :: u30 :: u31 :: (.slice (some ⟨W.heap.size + 1, 0, none⟩) 0 0) :: (.pointer (some ⟨B0, 0, none⟩)) :: (.slice A ss.length c) :: (.slice (some ⟨g, 0, none⟩) ss.length cap) :: (.pointer (some ⟨B0, 2, none⟩)) :: (.int .i64 l) :: (.agg #[.slice (some ⟨g, 0, none⟩) ss.length cap, .slice none 0 0, .int .i64 l, .bool false]) :: u39 :: u40 :: u41 :: u42 :: u43 :: u44 :: u45 :: u46 :: u47 :: u48 :: u49 :: u50 :: u51 :: u52 :: u53 :: u54 :: u55 :: u56 :: u57 :: u58 :: u59 :: u60 :: u61 :: u62 :: u63 :: u64 :: u65 :: u66 :: u67 :: u68 :: u69 :: u70 :: u71 :: u72 :: u73 :: u74 :: u75 :: u76 :: u77 :: u78 :: u79 :: u80 :: u81 :: u82 :: u83 :: u84 :: u85 :: u86 :: u87 :: u88 :: u89 :: u90 :: u91 :: u92 :: u93 :: u94 :: []).toArray, defers := [] } _
    have c60 := HC6.out.cell (k := 0) rfl
    have c61 := HC6.out.cell (k := 1) rfl
    have c62 := HC6.out.cell (k := 2) rfl
    have c63 := HC6.out.cell (k := 3) rfl
    have d60 := HC6.out.frozen 0
    have d61 := HC6.out.frozen 1
    have d62 := HC6.out.frozen 2
    have d63 := HC6.out.frozen 3
    have hne6 : g ≠ W.heap.size := ownS_ne HO2.out HC6.out
    have HN := Lib.hid (fun u32 => hN u32 g cap _ _ (cpy_set HC6.out HO2.out HB2.out (by omega) hne6 l))
    refine wpAnyE_one (i := 8) (by kernel_rfl) rfl (fun K hK => ?_)
    go_simp
    refine hK.out _ _ (fun h => absurd rfl h) (fun _ => ?_)
    exact wpAnyE_done (by kernel_rfl) (NoPanic.normal (HN.out _)) _

end Go.Proofs.Ytimpnpdhhhbmgaa
