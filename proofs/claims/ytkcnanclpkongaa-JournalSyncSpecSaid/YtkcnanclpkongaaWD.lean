/- The region of the reference's Sync that tears a sector. The region of the reference's Sync that copies the sectors. Walk of the reference's Sync. -/
import Derived.Test.YtkcnanclpkongaaWC
import Derived.Test.YtkcnanclpkongaaTA
import Derived.StillTailTactics
namespace Go.Proofs.Ytkcnanclpkongaa
section
open Go.RowKit
set_option linter.unusedVariables false
set_option linter.unusedSimpArgs false
set_option maxRecDepth 20000

def findRegion (n : Nat) : Code → Option Code
  | .region id ops d => if id = n then some (.region id ops d) else none
  | .seq a b => (findRegion n a).orElse (fun _ => findRegion n b)
  | .cond _ a b => (findRegion n a).orElse (fun _ => findRegion n b)
  | .block _ c => findRegion n c
  | .loop c => findRegion n c
  | .scope c => findRegion n c
  | .rangeFunc _ _ a b => (findRegion n a).orElse (fun _ => findRegion n b)
  | _ => none
noncomputable def tearReg : Code := (Try.f48.body.bind (findRegion 14)).getD .skip

theorem bytes_take {W : World} {A : Option Addr} {n c : Nat} {bs : By} (h : IsBytes W (.slice A n c) bs) {k c' : Nat} (hk : k ≤ bs.length) (hc : k ≤ c') : IsBytes W (.slice A k c') (bs.take k) := by
  obtain ⟨A', c2, e, h1, hr⟩ := h
  injection e with e
  subst e
  refine ⟨A, c', by rw [List.length_take, Nat.min_eq_left hk], by rw [List.length_take]; omega, fun hn => ?_⟩
  obtain ⟨b, off, ea, hb, hcc⟩ := hr (by intro h0; simp at h0; subst h0; simp at hn)
  exact ⟨b, off, ea, hb, fun i hi => by rw [hcc i (by simp at hi ⊢; omega)]; simp⟩
theorem bytes_drop {W : World} {b off n c : Nat} {bs : By} (h : IsBytes W (.slice (some ⟨b, off, none⟩) n c) bs) {k : Nat} (hk : k ≤ bs.length) : IsBytes W (.slice (some ⟨b, off + k, none⟩) (bs.length - k) (c - k)) (bs.drop k) := by
  obtain ⟨A', c2, e, h1, hr⟩ := h
  injection e with e1 e2 e3
  subst e1 e2 e3
  refine ⟨_, _, by rw [List.length_drop], by rw [List.length_drop]; omega, fun hn => ?_⟩
  obtain ⟨b', off', ea, hb, hcc⟩ := hr (by intro h0; simp at h0; subst h0; simp at hn)
  injection ea with ea
  injection ea with e1 e2
  subst e1 e2
  refine ⟨_, _, rfl, hb, fun i hi => ?_⟩
  rw [show off + k + i = off + (k + i) by omega, hcc (k + i) (by simp at hi ⊢; omega)]
  simp
theorem keepS {W X : World} {B6 B8 g m : Nat} {a b c d : Value} (h6 : B6 < W.heap.size) (h8 : B8 < W.heap.size) (hg : g < W.heap.size) (hb : Below W.heap.size W X) (h : W.cell? ⟨B6, 0, none⟩ = some a ∧ W.cell? ⟨B8, 0, none⟩ = some b ∧ W.cell? ⟨B8, 1, none⟩ = some c ∧ W.cell? ⟨g, m, none⟩ = some d) :
    X.cell? ⟨B6, 0, none⟩ = some a ∧ X.cell? ⟨B8, 0, none⟩ = some b ∧ X.cell? ⟨B8, 1, none⟩ = some c ∧ X.cell? ⟨g, m, none⟩ = some d :=
  ⟨((bcell hb).1 B6 0 h6).trans h.1, ((bcell hb).1 B8 0 h8).trans h.2.1, ((bcell hb).1 B8 1 h8).trans h.2.2.1, ((bcell hb).1 g m hg).trans h.2.2.2⟩

set_option maxRecDepth 100000 in
set_option maxHeartbeats 4000000 in
theorem tear_region {Q : Exit → Act → World → Prop} {W : World} {u0 u1 u2 u3 u4 u5 u7 u9 u10 u11 u12 u13 u14 u15 u16 u17 u18 u19 u20 u21 u22 u23 u24 u25 u26 u27 u28 u29 u30 u31 u32 u33 u34 u35 u36 u37 u38 u39 u40 u41 u42 u43 u44 u45 u46 u47 u48 u49 u50 u51 u52 u53 u54 u55 u56 u57 u58 u59 u60 u61 u62 u63 u64 u65 u66 u67 u68 u69 u70 u71 u72 u73 u74 u75 u76 u77 u78 u79 u80 u81 u82 u83 u84 u85 u86 u87 u88 u89 u90 u91 u92 u93 u94 : Value} {B6 B8 g n cap m c' b5 off5 c5 : Nat} {A' : Option Addr} {data OB : By}
    (hW0 : W.cell? ⟨B6, 0, none⟩ = some (.slice (some ⟨g, 0, none⟩) n cap) ∧ W.cell? ⟨B8, 0, none⟩ = some (.int .i64 m) ∧ W.cell? ⟨B8, 1, none⟩ = some (.slice A' 128 c') ∧ W.cell? ⟨g, m, none⟩ = some (.slice (some ⟨b5, off5, none⟩) 128 c5)) (hfr : W.frozen? ⟨g, m, none⟩ = false) (hm : m < n) (hD : IsBytes W (.slice A' 128 c') data) (hO : IsBytes W (.slice (some ⟨b5, off5, none⟩) 128 c5) OB) (hdl : data.length = 128) (hol : OB.length = 128) (hc' : 128 ≤ c') (hc5 : 128 ≤ c5)
    (hN : ∀ (v1 v2 : Value) (X2 : World), OwnBytes X2 W.heap.size v2 (data.take 64 ++ OB.drop 64) → Below W.heap.size W X2 → Q .normal { tmps := (u0 :: u1 :: u2 :: u3 :: u4 :: u5 :: (.pointer (some ⟨B6, 0, none⟩)) :: u7 :: (.pointer (some ⟨B8, 0, none⟩)) :: u9 :: u10 :: u11 :: u12 :: u13 :: u14 :: u15 :: u16 :: u17 :: u18 :: u19 :: u20 :: u21 :: u22 :: u23 :: u24 :: u25 :: u26 :: u27 :: u28 :: u29 :: u30 :: u31 :: u32 :: u33 :: u34 :: u35 :: u36 :: u37 :: u38 :: u39 :: u40 :: u41 :: u42 :: u43 :: u44 :: u45 :: u46 :: u47 :: u48 :: u49 :: u50 :: u51 :: u52 :: u53 :: u54 :: u55 :: u56 :: u57 :: u58 :: u59 :: u60 :: u61 :: u62 :: u63 :: u64 :: (.pointer (some ⟨B6, 0, none⟩)) :: (.slice (some ⟨g, 0, none⟩) n cap) :: (.pointer (some ⟨B8, 0, none⟩)) :: (.int .i64 m) :: (.slice (some ⟨W.heap.size, 0, none⟩) 0 0) :: (.pointer (some ⟨B8, 1, none⟩)) :: (.slice A' 128 c') :: (.slice A' 64 c') :: v1 :: (.pointer (some ⟨B6, 0, none⟩)) :: (.slice (some ⟨g, 0, none⟩) n cap) :: (.pointer (some ⟨B8, 0, none⟩)) :: (.int .i64 m) :: (.pointer (some ⟨g, m, none⟩)) :: (.slice (some ⟨b5, off5, none⟩) 128 c5) :: (.slice (some ⟨b5, off5 + 64, none⟩) 64 (c5 - 64)) :: v2 :: (.pointer (some ⟨g, m, none⟩)) :: u83 :: u84 :: u85 :: u86 :: u87 :: u88 :: u89 :: u90 :: u91 :: u92 :: u93 :: u94 :: []).toArray, defers := [] } (X2.setCell ⟨g, m, none⟩ v2)) :
    tearReg.wp Try.prog Q { tmps := (u0 :: u1 :: u2 :: u3 :: u4 :: u5 :: (.pointer (some ⟨B6, 0, none⟩)) :: u7 :: (.pointer (some ⟨B8, 0, none⟩)) :: u9 :: u10 :: u11 :: u12 :: u13 :: u14 :: u15 :: u16 :: u17 :: u18 :: u19 :: u20 :: u21 :: u22 :: u23 :: u24 :: u25 :: u26 :: u27 :: u28 :: u29 :: u30 :: u31 :: u32 :: u33 :: u34 :: u35 :: u36 :: u37 :: u38 :: u39 :: u40 :: u41 :: u42 :: u43 :: u44 :: u45 :: u46 :: u47 :: u48 :: u49 :: u50 :: u51 :: u52 :: u53 :: u54 :: u55 :: u56 :: u57 :: u58 :: u59 :: u60 :: u61 :: u62 :: u63 :: u64 :: u65 :: u66 :: u67 :: u68 :: u69 :: u70 :: u71 :: u72 :: u73 :: u74 :: u75 :: u76 :: u77 :: u78 :: u79 :: u80 :: u81 :: u82 :: u83 :: u84 :: u85 :: u86 :: u87 :: u88 :: u89 :: u90 :: u91 :: u92 :: u93 :: u94 :: []).toArray, defers := [] } W := by
  conv => arg 2; whnf
  have hlt6 : B6 < W.heap.size := cell_lt hW0.1
  have hlt8 : B8 < W.heap.size := cell_lt hW0.2.1
  have hltg : g < W.heap.size := cell_lt hW0.2.2.2
  have HD := Lib.hid (bytes_take (c' := c') hD (show 64 ≤ data.length by omega) (by omega))
  have HOD := Lib.hid (show IsBytes W (.slice (some ⟨b5, off5 + 64, none⟩) 64 (c5 - 64)) (OB.drop 64) by
    have := bytes_drop hO (show 64 ≤ OB.length by omega)
    rwa [hol] at this)
  clear hD hO
  have hc1 : (64 : Int) ≤ (c' : Int) := by omega
  have hc2 : 64 ≤ c' := by omega
  have hc3 : (64 : Int) ≤ (c5 : Int) := by omega
  have hc4 : 64 ≤ c5 := by omega
  have hc6 : ¬ c5 - 64 = 0 := by omega
  have hc7 : ¬ c5 ≤ 64 := by omega
  have hc8 : (128 : Int) ≤ (c5 : Int) := by omega
  have hc9 : ¬ (c5 = 64) := by omega
  have hmn : (m : Int) < (n : Int) := by omega
  have hS0 : (fun X : World => X.cell? ⟨B6, 0, none⟩ = some (.slice (some ⟨g, 0, none⟩) n cap) ∧ X.cell? ⟨B8, 0, none⟩ = some (.int .i64 m) ∧ X.cell? ⟨B8, 1, none⟩ = some (.slice A' 128 c') ∧ X.cell? ⟨g, m, none⟩ = some (.slice (some ⟨b5, off5, none⟩) 128 c5)) W.drew := hW0
  refine wp_region_noPanic ?_
  refine wp_region_E 18 (fun X : World => X.cell? ⟨B6, 0, none⟩ = some (.slice (some ⟨g, 0, none⟩) n cap) ∧ X.cell? ⟨B8, 0, none⟩ = some (.int .i64 m) ∧ X.cell? ⟨B8, 1, none⟩ = some (.slice A' 128 c') ∧ X.cell? ⟨g, m, none⟩ = some (.slice (some ⟨b5, off5, none⟩) 128 c5)) (by kernel_rfl) ?_
  refine wpAnyE_take (i := 0) (v := (.pointer (some ⟨B6, 0, none⟩))) rfl (by kernel_rfl) (by kernel_rfl) (by kernel_rfl) (by kernel_rfl) (by kernel_rfl) (fun _ _ _ h => h) (.inl ⟨rfl, fun X hX => ?_⟩) hS0 ?_
  · obtain ⟨z1, z2, z3, z4⟩ := hX; go_simp
  change wpAnyE _ _ _ _ _ _ _ _ { tmps := (u0 :: u1 :: u2 :: u3 :: u4 :: u5 :: (.pointer (some ⟨B6, 0, none⟩)) :: u7 :: (.pointer (some ⟨B8, 0, none⟩)) :: u9 :: u10 :: u11 :: u12 :: u13 :: u14 :: u15 :: u16 :: u17 :: u18 :: u19 :: u20 :: u21 :: u22 :: u23 :: u24 :: u25 :: u26 :: u27 :: u28 :: u29 :: u30 :: u31 :: u32 :: u33 :: u34 :: u35 :: u36 :: u37 :: u38 :: u39 :: u40 :: u41 :: u42 :: u43 :: u44 :: u45 :: u46 :: u47 :: u48 :: u49 :: u50 :: u51 :: u52 :: u53 :: u54 :: u55 :: u56 :: u57 :: u58 :: u59 :: u60 :: u61 :: u62 :: u63 :: u64 :: (.pointer (some ⟨B6, 0, none⟩)) :: u66 :: u67 :: u68 :: u69 :: u70 :: u71 :: u72 :: u73 :: u74 :: u75 :: u76 :: u77 :: u78 :: u79 :: u80 :: u81 :: u82 :: u83 :: u84 :: u85 :: u86 :: u87 :: u88 :: u89 :: u90 :: u91 :: u92 :: u93 :: u94 :: []).toArray, defers := [] } _
  refine wpAnyE_take (i := 1) (v := (.slice (some ⟨g, 0, none⟩) n cap)) rfl (by kernel_rfl) (by kernel_rfl) (by kernel_rfl) (by kernel_rfl) (by kernel_rfl) (fun _ _ _ h => h) (.inl ⟨rfl, fun X hX => ?_⟩) hS0 ?_
  · obtain ⟨z1, z2, z3, z4⟩ := hX; go_simp
  change wpAnyE _ _ _ _ _ _ _ _ { tmps := (u0 :: u1 :: u2 :: u3 :: u4 :: u5 :: (.pointer (some ⟨B6, 0, none⟩)) :: u7 :: (.pointer (some ⟨B8, 0, none⟩)) :: u9 :: u10 :: u11 :: u12 :: u13 :: u14 :: u15 :: u16 :: u17 :: u18 :: u19 :: u20 :: u21 :: u22 :: u23 :: u24 :: u25 :: u26 :: u27 :: u28 :: u29 :: u30 :: u31 :: u32 :: u33 :: u34 :: u35 :: u36 :: u37 :: u38 :: u39 :: u40 :: u41 :: u42 :: u43 :: u44 :: u45 :: u46 :: u47 :: u48 :: u49 :: u50 :: u51 :: u52 :: u53 :: u54 :: u55 :: u56 :: u57 :: u58 :: u59 :: u60 :: u61 :: u62 :: u63 :: u64 :: (.pointer (some ⟨B6, 0, none⟩)) :: (.slice (some ⟨g, 0, none⟩) n cap) :: u67 :: u68 :: u69 :: u70 :: u71 :: u72 :: u73 :: u74 :: u75 :: u76 :: u77 :: u78 :: u79 :: u80 :: u81 :: u82 :: u83 :: u84 :: u85 :: u86 :: u87 :: u88 :: u89 :: u90 :: u91 :: u92 :: u93 :: u94 :: []).toArray, defers := [] } _
  refine wpAnyE_take (i := 2) (v := (.pointer (some ⟨B8, 0, none⟩))) rfl (by kernel_rfl) (by kernel_rfl) (by kernel_rfl) (by kernel_rfl) (by kernel_rfl) (fun _ _ _ h => h) (.inl ⟨rfl, fun X hX => ?_⟩) hS0 ?_
  · obtain ⟨z1, z2, z3, z4⟩ := hX; go_simp
  change wpAnyE _ _ _ _ _ _ _ _ { tmps := (u0 :: u1 :: u2 :: u3 :: u4 :: u5 :: (.pointer (some ⟨B6, 0, none⟩)) :: u7 :: (.pointer (some ⟨B8, 0, none⟩)) :: u9 :: u10 :: u11 :: u12 :: u13 :: u14 :: u15 :: u16 :: u17 :: u18 :: u19 :: u20 :: u21 :: u22 :: u23 :: u24 :: u25 :: u26 :: u27 :: u28 :: u29 :: u30 :: u31 :: u32 :: u33 :: u34 :: u35 :: u36 :: u37 :: u38 :: u39 :: u40 :: u41 :: u42 :: u43 :: u44 :: u45 :: u46 :: u47 :: u48 :: u49 :: u50 :: u51 :: u52 :: u53 :: u54 :: u55 :: u56 :: u57 :: u58 :: u59 :: u60 :: u61 :: u62 :: u63 :: u64 :: (.pointer (some ⟨B6, 0, none⟩)) :: (.slice (some ⟨g, 0, none⟩) n cap) :: (.pointer (some ⟨B8, 0, none⟩)) :: u68 :: u69 :: u70 :: u71 :: u72 :: u73 :: u74 :: u75 :: u76 :: u77 :: u78 :: u79 :: u80 :: u81 :: u82 :: u83 :: u84 :: u85 :: u86 :: u87 :: u88 :: u89 :: u90 :: u91 :: u92 :: u93 :: u94 :: []).toArray, defers := [] } _
  refine wpAnyE_take (i := 3) (v := (.int .i64 m)) rfl (by kernel_rfl) (by kernel_rfl) (by kernel_rfl) (by kernel_rfl) (by kernel_rfl) (fun _ _ _ h => h) (.inl ⟨rfl, fun X hX => ?_⟩) hS0 ?_
  · obtain ⟨z1, z2, z3, z4⟩ := hX; go_simp
  change wpAnyE _ _ _ _ _ _ _ _ { tmps := (u0 :: u1 :: u2 :: u3 :: u4 :: u5 :: (.pointer (some ⟨B6, 0, none⟩)) :: u7 :: (.pointer (some ⟨B8, 0, none⟩)) :: u9 :: u10 :: u11 :: u12 :: u13 :: u14 :: u15 :: u16 :: u17 :: u18 :: u19 :: u20 :: u21 :: u22 :: u23 :: u24 :: u25 :: u26 :: u27 :: u28 :: u29 :: u30 :: u31 :: u32 :: u33 :: u34 :: u35 :: u36 :: u37 :: u38 :: u39 :: u40 :: u41 :: u42 :: u43 :: u44 :: u45 :: u46 :: u47 :: u48 :: u49 :: u50 :: u51 :: u52 :: u53 :: u54 :: u55 :: u56 :: u57 :: u58 :: u59 :: u60 :: u61 :: u62 :: u63 :: u64 :: (.pointer (some ⟨B6, 0, none⟩)) :: (.slice (some ⟨g, 0, none⟩) n cap) :: (.pointer (some ⟨B8, 0, none⟩)) :: (.int .i64 m) :: u69 :: u70 :: u71 :: u72 :: u73 :: u74 :: u75 :: u76 :: u77 :: u78 :: u79 :: u80 :: u81 :: u82 :: u83 :: u84 :: u85 :: u86 :: u87 :: u88 :: u89 :: u90 :: u91 :: u92 :: u93 :: u94 :: []).toArray, defers := [] } _
  refine wpAnyE_take (i := 5) (v := (.pointer (some ⟨B8, 1, none⟩))) rfl (by kernel_rfl) (by kernel_rfl) (by kernel_rfl) (by kernel_rfl) (by kernel_rfl) (fun _ _ _ h => h) (.inl ⟨rfl, fun X hX => ?_⟩) hS0 ?_
  · obtain ⟨z1, z2, z3, z4⟩ := hX; go_simp
  change wpAnyE _ _ _ _ _ _ _ _ { tmps := (u0 :: u1 :: u2 :: u3 :: u4 :: u5 :: (.pointer (some ⟨B6, 0, none⟩)) :: u7 :: (.pointer (some ⟨B8, 0, none⟩)) :: u9 :: u10 :: u11 :: u12 :: u13 :: u14 :: u15 :: u16 :: u17 :: u18 :: u19 :: u20 :: u21 :: u22 :: u23 :: u24 :: u25 :: u26 :: u27 :: u28 :: u29 :: u30 :: u31 :: u32 :: u33 :: u34 :: u35 :: u36 :: u37 :: u38 :: u39 :: u40 :: u41 :: u42 :: u43 :: u44 :: u45 :: u46 :: u47 :: u48 :: u49 :: u50 :: u51 :: u52 :: u53 :: u54 :: u55 :: u56 :: u57 :: u58 :: u59 :: u60 :: u61 :: u62 :: u63 :: u64 :: (.pointer (some ⟨B6, 0, none⟩)) :: (.slice (some ⟨g, 0, none⟩) n cap) :: (.pointer (some ⟨B8, 0, none⟩)) :: (.int .i64 m) :: u69 :: (.pointer (some ⟨B8, 1, none⟩)) :: u71 :: u72 :: u73 :: u74 :: u75 :: u76 :: u77 :: u78 :: u79 :: u80 :: u81 :: u82 :: u83 :: u84 :: u85 :: u86 :: u87 :: u88 :: u89 :: u90 :: u91 :: u92 :: u93 :: u94 :: []).toArray, defers := [] } _
  refine wpAnyE_take (i := 6) (v := (.slice A' 128 c')) rfl (by kernel_rfl) (by kernel_rfl) (by kernel_rfl) (by kernel_rfl) (by kernel_rfl) (fun _ _ _ h => h) (.inl ⟨rfl, fun X hX => ?_⟩) hS0 ?_
  · obtain ⟨z1, z2, z3, z4⟩ := hX; go_simp
  change wpAnyE _ _ _ _ _ _ _ _ { tmps := (u0 :: u1 :: u2 :: u3 :: u4 :: u5 :: (.pointer (some ⟨B6, 0, none⟩)) :: u7 :: (.pointer (some ⟨B8, 0, none⟩)) :: u9 :: u10 :: u11 :: u12 :: u13 :: u14 :: u15 :: u16 :: u17 :: u18 :: u19 :: u20 :: u21 :: u22 :: u23 :: u24 :: u25 :: u26 :: u27 :: u28 :: u29 :: u30 :: u31 :: u32 :: u33 :: u34 :: u35 :: u36 :: u37 :: u38 :: u39 :: u40 :: u41 :: u42 :: u43 :: u44 :: u45 :: u46 :: u47 :: u48 :: u49 :: u50 :: u51 :: u52 :: u53 :: u54 :: u55 :: u56 :: u57 :: u58 :: u59 :: u60 :: u61 :: u62 :: u63 :: u64 :: (.pointer (some ⟨B6, 0, none⟩)) :: (.slice (some ⟨g, 0, none⟩) n cap) :: (.pointer (some ⟨B8, 0, none⟩)) :: (.int .i64 m) :: u69 :: (.pointer (some ⟨B8, 1, none⟩)) :: (.slice A' 128 c') :: u72 :: u73 :: u74 :: u75 :: u76 :: u77 :: u78 :: u79 :: u80 :: u81 :: u82 :: u83 :: u84 :: u85 :: u86 :: u87 :: u88 :: u89 :: u90 :: u91 :: u92 :: u93 :: u94 :: []).toArray, defers := [] } _
  refine wpAnyE_take (i := 7) (v := (.slice A' 64 c')) rfl (by kernel_rfl) (by kernel_rfl) (by kernel_rfl) (by kernel_rfl) (by kernel_rfl) (fun _ _ _ h => h) (.inl ⟨rfl, fun X hX => ?_⟩) hS0 ?_
  · obtain ⟨z1, z2, z3, z4⟩ := hX; go_simp
  change wpAnyE _ _ _ _ _ _ _ _ { tmps := (u0 :: u1 :: u2 :: u3 :: u4 :: u5 :: (.pointer (some ⟨B6, 0, none⟩)) :: u7 :: (.pointer (some ⟨B8, 0, none⟩)) :: u9 :: u10 :: u11 :: u12 :: u13 :: u14 :: u15 :: u16 :: u17 :: u18 :: u19 :: u20 :: u21 :: u22 :: u23 :: u24 :: u25 :: u26 :: u27 :: u28 :: u29 :: u30 :: u31 :: u32 :: u33 :: u34 :: u35 :: u36 :: u37 :: u38 :: u39 :: u40 :: u41 :: u42 :: u43 :: u44 :: u45 :: u46 :: u47 :: u48 :: u49 :: u50 :: u51 :: u52 :: u53 :: u54 :: u55 :: u56 :: u57 :: u58 :: u59 :: u60 :: u61 :: u62 :: u63 :: u64 :: (.pointer (some ⟨B6, 0, none⟩)) :: (.slice (some ⟨g, 0, none⟩) n cap) :: (.pointer (some ⟨B8, 0, none⟩)) :: (.int .i64 m) :: u69 :: (.pointer (some ⟨B8, 1, none⟩)) :: (.slice A' 128 c') :: (.slice A' 64 c') :: u73 :: u74 :: u75 :: u76 :: u77 :: u78 :: u79 :: u80 :: u81 :: u82 :: u83 :: u84 :: u85 :: u86 :: u87 :: u88 :: u89 :: u90 :: u91 :: u92 :: u93 :: u94 :: []).toArray, defers := [] } _
  refine wpAnyE_take (i := 9) (v := (.pointer (some ⟨B6, 0, none⟩))) rfl (by kernel_rfl) (by kernel_rfl) (by kernel_rfl) (by kernel_rfl) (by kernel_rfl) (fun _ _ _ h => h) (.inl ⟨rfl, fun X hX => ?_⟩) hS0 ?_
  · obtain ⟨z1, z2, z3, z4⟩ := hX; go_simp
  change wpAnyE _ _ _ _ _ _ _ _ { tmps := (u0 :: u1 :: u2 :: u3 :: u4 :: u5 :: (.pointer (some ⟨B6, 0, none⟩)) :: u7 :: (.pointer (some ⟨B8, 0, none⟩)) :: u9 :: u10 :: u11 :: u12 :: u13 :: u14 :: u15 :: u16 :: u17 :: u18 :: u19 :: u20 :: u21 :: u22 :: u23 :: u24 :: u25 :: u26 :: u27 :: u28 :: u29 :: u30 :: u31 :: u32 :: u33 :: u34 :: u35 :: u36 :: u37 :: u38 :: u39 :: u40 :: u41 :: u42 :: u43 :: u44 :: u45 :: u46 :: u47 :: u48 :: u49 :: u50 :: u51 :: u52 :: u53 :: u54 :: u55 :: u56 :: u57 :: u58 :: u59 :: u60 :: u61 :: u62 :: u63 :: u64 :: (.pointer (some ⟨B6, 0, none⟩)) :: (.slice (some ⟨g, 0, none⟩) n cap) :: (.pointer (some ⟨B8, 0, none⟩)) :: (.int .i64 m) :: u69 :: (.pointer (some ⟨B8, 1, none⟩)) :: (.slice A' 128 c') :: (.slice A' 64 c') :: u73 :: (.pointer (some ⟨B6, 0, none⟩)) :: u75 :: u76 :: u77 :: u78 :: u79 :: u80 :: u81 :: u82 :: u83 :: u84 :: u85 :: u86 :: u87 :: u88 :: u89 :: u90 :: u91 :: u92 :: u93 :: u94 :: []).toArray, defers := [] } _
  refine wpAnyE_take (i := 10) (v := (.slice (some ⟨g, 0, none⟩) n cap)) rfl (by kernel_rfl) (by kernel_rfl) (by kernel_rfl) (by kernel_rfl) (by kernel_rfl) (fun _ _ _ h => h) (.inl ⟨rfl, fun X hX => ?_⟩) hS0 ?_
  · obtain ⟨z1, z2, z3, z4⟩ := hX; go_simp
  change wpAnyE _ _ _ _ _ _ _ _ { tmps := (u0 :: u1 :: u2 :: u3 :: u4 :: u5 :: (.pointer (some ⟨B6, 0, none⟩)) :: u7 :: (.pointer (some ⟨B8, 0, none⟩)) :: u9 :: u10 :: u11 :: u12 :: u13 :: u14 :: u15 :: u16 :: u17 :: u18 :: u19 :: u20 :: u21 :: u22 :: u23 :: u24 :: u25 :: u26 :: u27 :: u28 :: u29 :: u30 :: u31 :: u32 :: u33 :: u34 :: u35 :: u36 :: u37 :: u38 :: u39 :: u40 :: u41 :: u42 :: u43 :: u44 :: u45 :: u46 :: u47 :: u48 :: u49 :: u50 :: u51 :: u52 :: u53 :: u54 :: u55 :: u56 :: u57 :: u58 :: u59 :: u60 :: u61 :: u62 :: u63 :: u64 :: (.pointer (some ⟨B6, 0, none⟩)) :: (.slice (some ⟨g, 0, none⟩) n cap) :: (.pointer (some ⟨B8, 0, none⟩)) :: (.int .i64 m) :: u69 :: (.pointer (some ⟨B8, 1, none⟩)) :: (.slice A' 128 c') :: (.slice A' 64 c') :: u73 :: (.pointer (some ⟨B6, 0, none⟩)) :: (.slice (some ⟨g, 0, none⟩) n cap) :: u76 :: u77 :: u78 :: u79 :: u80 :: u81 :: u82 :: u83 :: u84 :: u85 :: u86 :: u87 :: u88 :: u89 :: u90 :: u91 :: u92 :: u93 :: u94 :: []).toArray, defers := [] } _
  refine wpAnyE_take (i := 11) (v := (.pointer (some ⟨B8, 0, none⟩))) rfl (by kernel_rfl) (by kernel_rfl) (by kernel_rfl) (by kernel_rfl) (by kernel_rfl) (fun _ _ _ h => h) (.inl ⟨rfl, fun X hX => ?_⟩) hS0 ?_
  · obtain ⟨z1, z2, z3, z4⟩ := hX; go_simp
  change wpAnyE _ _ _ _ _ _ _ _ { tmps := (u0 :: u1 :: u2 :: u3 :: u4 :: u5 :: (.pointer (some ⟨B6, 0, none⟩)) :: u7 :: (.pointer (some ⟨B8, 0, none⟩)) :: u9 :: u10 :: u11 :: u12 :: u13 :: u14 :: u15 :: u16 :: u17 :: u18 :: u19 :: u20 :: u21 :: u22 :: u23 :: u24 :: u25 :: u26 :: u27 :: u28 :: u29 :: u30 :: u31 :: u32 :: u33 :: u34 :: u35 :: u36 :: u37 :: u38 :: u39 :: u40 :: u41 :: u42 :: u43 :: u44 :: u45 :: u46 :: u47 :: u48 :: u49 :: u50 :: u51 :: u52 :: u53 :: u54 :: u55 :: u56 :: u57 :: u58 :: u59 :: u60 :: u61 :: u62 :: u63 :: u64 :: (.pointer (some ⟨B6, 0, none⟩)) :: (.slice (some ⟨g, 0, none⟩) n cap) :: (.pointer (some ⟨B8, 0, none⟩)) :: (.int .i64 m) :: u69 :: (.pointer (some ⟨B8, 1, none⟩)) :: (.slice A' 128 c') :: (.slice A' 64 c') :: u73 :: (.pointer (some ⟨B6, 0, none⟩)) :: (.slice (some ⟨g, 0, none⟩) n cap) :: (.pointer (some ⟨B8, 0, none⟩)) :: u77 :: u78 :: u79 :: u80 :: u81 :: u82 :: u83 :: u84 :: u85 :: u86 :: u87 :: u88 :: u89 :: u90 :: u91 :: u92 :: u93 :: u94 :: []).toArray, defers := [] } _
  refine wpAnyE_take (i := 12) (v := (.int .i64 m)) rfl (by kernel_rfl) (by kernel_rfl) (by kernel_rfl) (by kernel_rfl) (by kernel_rfl) (fun _ _ _ h => h) (.inl ⟨rfl, fun X hX => ?_⟩) hS0 ?_
  · obtain ⟨z1, z2, z3, z4⟩ := hX; go_simp
  change wpAnyE _ _ _ _ _ _ _ _ { tmps := (u0 :: u1 :: u2 :: u3 :: u4 :: u5 :: (.pointer (some ⟨B6, 0, none⟩)) :: u7 :: (.pointer (some ⟨B8, 0, none⟩)) :: u9 :: u10 :: u11 :: u12 :: u13 :: u14 :: u15 :: u16 :: u17 :: u18 :: u19 :: u20 :: u21 :: u22 :: u23 :: u24 :: u25 :: u26 :: u27 :: u28 :: u29 :: u30 :: u31 :: u32 :: u33 :: u34 :: u35 :: u36 :: u37 :: u38 :: u39 :: u40 :: u41 :: u42 :: u43 :: u44 :: u45 :: u46 :: u47 :: u48 :: u49 :: u50 :: u51 :: u52 :: u53 :: u54 :: u55 :: u56 :: u57 :: u58 :: u59 :: u60 :: u61 :: u62 :: u63 :: u64 :: (.pointer (some ⟨B6, 0, none⟩)) :: (.slice (some ⟨g, 0, none⟩) n cap) :: (.pointer (some ⟨B8, 0, none⟩)) :: (.int .i64 m) :: u69 :: (.pointer (some ⟨B8, 1, none⟩)) :: (.slice A' 128 c') :: (.slice A' 64 c') :: u73 :: (.pointer (some ⟨B6, 0, none⟩)) :: (.slice (some ⟨g, 0, none⟩) n cap) :: (.pointer (some ⟨B8, 0, none⟩)) :: (.int .i64 m) :: u78 :: u79 :: u80 :: u81 :: u82 :: u83 :: u84 :: u85 :: u86 :: u87 :: u88 :: u89 :: u90 :: u91 :: u92 :: u93 :: u94 :: []).toArray, defers := [] } _
  refine wpAnyE_take (i := 13) (v := (.pointer (some ⟨g, m, none⟩))) rfl (by kernel_rfl) (by kernel_rfl) (by kernel_rfl) (by kernel_rfl) (by kernel_rfl) (fun _ _ _ h => h) (.inl ⟨rfl, fun X hX => ?_⟩) hS0 ?_
  · obtain ⟨z1, z2, z3, z4⟩ := hX; go_simp
  change wpAnyE _ _ _ _ _ _ _ _ { tmps := (u0 :: u1 :: u2 :: u3 :: u4 :: u5 :: (.pointer (some ⟨B6, 0, none⟩)) :: u7 :: (.pointer (some ⟨B8, 0, none⟩)) :: u9 :: u10 :: u11 :: u12 :: u13 :: u14 :: u15 :: u16 :: u17 :: u18 :: u19 :: u20 :: u21 :: u22 :: u23 :: u24 :: u25 :: u26 :: u27 :: u28 :: u29 :: u30 :: u31 :: u32 :: u33 :: u34 :: u35 :: u36 :: u37 :: u38 :: u39 :: u40 :: u41 :: u42 :: u43 :: u44 :: u45 :: u46 :: u47 :: u48 :: u49 :: u50 :: u51 :: u52 :: u53 :: u54 :: u55 :: u56 :: u57 :: u58 :: u59 :: u60 :: u61 :: u62 :: u63 :: u64 :: (.pointer (some ⟨B6, 0, none⟩)) :: (.slice (some ⟨g, 0, none⟩) n cap) :: (.pointer (some ⟨B8, 0, none⟩)) :: (.int .i64 m) :: u69 :: (.pointer (some ⟨B8, 1, none⟩)) :: (.slice A' 128 c') :: (.slice A' 64 c') :: u73 :: (.pointer (some ⟨B6, 0, none⟩)) :: (.slice (some ⟨g, 0, none⟩) n cap) :: (.pointer (some ⟨B8, 0, none⟩)) :: (.int .i64 m) :: (.pointer (some ⟨g, m, none⟩)) :: u79 :: u80 :: u81 :: u82 :: u83 :: u84 :: u85 :: u86 :: u87 :: u88 :: u89 :: u90 :: u91 :: u92 :: u93 :: u94 :: []).toArray, defers := [] } _
  refine wpAnyE_take (i := 14) (v := (.slice (some ⟨b5, off5, none⟩) 128 c5)) rfl (by kernel_rfl) (by kernel_rfl) (by kernel_rfl) (by kernel_rfl) (by kernel_rfl) (fun _ _ _ h => h) (.inl ⟨rfl, fun X hX => ?_⟩) hS0 ?_
  · obtain ⟨z1, z2, z3, z4⟩ := hX; go_simp
  change wpAnyE _ _ _ _ _ _ _ _ { tmps := (u0 :: u1 :: u2 :: u3 :: u4 :: u5 :: (.pointer (some ⟨B6, 0, none⟩)) :: u7 :: (.pointer (some ⟨B8, 0, none⟩)) :: u9 :: u10 :: u11 :: u12 :: u13 :: u14 :: u15 :: u16 :: u17 :: u18 :: u19 :: u20 :: u21 :: u22 :: u23 :: u24 :: u25 :: u26 :: u27 :: u28 :: u29 :: u30 :: u31 :: u32 :: u33 :: u34 :: u35 :: u36 :: u37 :: u38 :: u39 :: u40 :: u41 :: u42 :: u43 :: u44 :: u45 :: u46 :: u47 :: u48 :: u49 :: u50 :: u51 :: u52 :: u53 :: u54 :: u55 :: u56 :: u57 :: u58 :: u59 :: u60 :: u61 :: u62 :: u63 :: u64 :: (.pointer (some ⟨B6, 0, none⟩)) :: (.slice (some ⟨g, 0, none⟩) n cap) :: (.pointer (some ⟨B8, 0, none⟩)) :: (.int .i64 m) :: u69 :: (.pointer (some ⟨B8, 1, none⟩)) :: (.slice A' 128 c') :: (.slice A' 64 c') :: u73 :: (.pointer (some ⟨B6, 0, none⟩)) :: (.slice (some ⟨g, 0, none⟩) n cap) :: (.pointer (some ⟨B8, 0, none⟩)) :: (.int .i64 m) :: (.pointer (some ⟨g, m, none⟩)) :: (.slice (some ⟨b5, off5, none⟩) 128 c5) :: u80 :: u81 :: u82 :: u83 :: u84 :: u85 :: u86 :: u87 :: u88 :: u89 :: u90 :: u91 :: u92 :: u93 :: u94 :: []).toArray, defers := [] } _
  refine wpAnyE_take (i := 15) (v := (.slice (some ⟨b5, off5 + 64, none⟩) 64 (c5 - 64))) rfl (by kernel_rfl) (by kernel_rfl) (by kernel_rfl) (by kernel_rfl) (by kernel_rfl) (fun _ _ _ h => h) (.inl ⟨rfl, fun X hX => ?_⟩) hS0 ?_
  · obtain ⟨z1, z2, z3, z4⟩ := hX; go_simp
  change wpAnyE _ _ _ _ _ _ _ _ { tmps := (u0 :: u1 :: u2 :: u3 :: u4 :: u5 :: (.pointer (some ⟨B6, 0, none⟩)) :: u7 :: (.pointer (some ⟨B8, 0, none⟩)) :: u9 :: u10 :: u11 :: u12 :: u13 :: u14 :: u15 :: u16 :: u17 :: u18 :: u19 :: u20 :: u21 :: u22 :: u23 :: u24 :: u25 :: u26 :: u27 :: u28 :: u29 :: u30 :: u31 :: u32 :: u33 :: u34 :: u35 :: u36 :: u37 :: u38 :: u39 :: u40 :: u41 :: u42 :: u43 :: u44 :: u45 :: u46 :: u47 :: u48 :: u49 :: u50 :: u51 :: u52 :: u53 :: u54 :: u55 :: u56 :: u57 :: u58 :: u59 :: u60 :: u61 :: u62 :: u63 :: u64 :: (.pointer (some ⟨B6, 0, none⟩)) :: (.slice (some ⟨g, 0, none⟩) n cap) :: (.pointer (some ⟨B8, 0, none⟩)) :: (.int .i64 m) :: u69 :: (.pointer (some ⟨B8, 1, none⟩)) :: (.slice A' 128 c') :: (.slice A' 64 c') :: u73 :: (.pointer (some ⟨B6, 0, none⟩)) :: (.slice (some ⟨g, 0, none⟩) n cap) :: (.pointer (some ⟨B8, 0, none⟩)) :: (.int .i64 m) :: (.pointer (some ⟨g, m, none⟩)) :: (.slice (some ⟨b5, off5, none⟩) 128 c5) :: (.slice (some ⟨b5, off5 + 64, none⟩) 64 (c5 - 64)) :: u81 :: u82 :: u83 :: u84 :: u85 :: u86 :: u87 :: u88 :: u89 :: u90 :: u91 :: u92 :: u93 :: u94 :: []).toArray, defers := [] } _
  refine wpAnyE_one (i := 4) (by kernel_rfl) rfl (fun K hK => ?_)
  go_simp
  refine hK.out _ _ (fun _ => keepS hlt6 hlt8 hltg (show Below W.heap.size W (W.drew.alloc (.cells #[] 5)) from (below_drewN (Below.refl _ W) 1).up (al1 W.drew _)) hW0) (fun hS1 => ?_)
  clear hK K
  replace hS1 := hS1 (by decide)
  change wpAnyE _ _ _ _ _ _ _ _ { tmps := (u0 :: u1 :: u2 :: u3 :: u4 :: u5 :: (.pointer (some ⟨B6, 0, none⟩)) :: u7 :: (.pointer (some ⟨B8, 0, none⟩)) :: u9 :: u10 :: u11 :: u12 :: u13 :: u14 :: u15 :: u16 :: u17 :: u18 :: u19 :: u20 :: u21 :: u22 :: u23 :: u24 :: u25 :: u26 :: u27 :: u28 :: u29 :: u30 :: u31 :: u32 :: u33 :: u34 :: u35 :: u36 :: u37 :: u38 :: u39 :: u40 :: u41 :: u42 :: u43 :: u44 :: u45 :: u46 :: u47 :: u48 :: u49 :: u50 :: u51 :: u52 :: u53 :: u54 :: u55 :: u56 :: u57 :: u58 :: u59 :: u60 :: u61 :: u62 :: u63 :: u64 :: (.pointer (some ⟨B6, 0, none⟩)) :: (.slice (some ⟨g, 0, none⟩) n cap) :: (.pointer (some ⟨B8, 0, none⟩)) :: (.int .i64 m) :: (.slice (some ⟨W.heap.size, 0, none⟩) 0 0) :: (.pointer (some ⟨B8, 1, none⟩)) :: (.slice A' 128 c') :: (.slice A' 64 c') :: u73 :: (.pointer (some ⟨B6, 0, none⟩)) :: (.slice (some ⟨g, 0, none⟩) n cap) :: (.pointer (some ⟨B8, 0, none⟩)) :: (.int .i64 m) :: (.pointer (some ⟨g, m, none⟩)) :: (.slice (some ⟨b5, off5, none⟩) 128 c5) :: (.slice (some ⟨b5, off5 + 64, none⟩) 64 (c5 - 64)) :: u81 :: u82 :: u83 :: u84 :: u85 :: u86 :: u87 :: u88 :: u89 :: u90 :: u91 :: u92 :: u93 :: u94 :: []).toArray, defers := [] } (W.drew.alloc (.cells #[] 5))
  refine wpAnyE_one (i := 8) (by kernel_rfl) rfl (fun K hK => ?_)
  refine step_app rfl (.tmp 69) (.tmp 72) 35 (.slice (some ⟨W.heap.size, 0, none⟩) 0 0) (.slice A' 64 c') rfl rfl rfl (appB_run (base := W.heap.size) _ (show OwnBytes (W.drew.alloc (.cells #[] 5)) W.heap.size (.slice (some ⟨W.heap.size, 0, none⟩) 0 0) [] from ownB_made W.drew) (HD.out.upb (show Below W.heap.size W (W.drew.alloc (.cells #[] 5)) from (below_drewN (Below.refl _ W) 1).up (al1 W.drew _))) (by simp; omega) (by simp)) ?_
  rintro v1 X1 ⟨ho1, hg1, hat1⟩
  have HB1 := Lib.hid (show Below W.heap.size W X1 from app_below (show Below W.heap.size W (W.drew.alloc (.cells #[] 5)) from (below_drewN (Below.refl _ W) 1).up (al1 W.drew _)) hg1 ownBlk)
  have HO1 := Lib.hid (show OwnBytes X1 W.heap.size v1 (data.take 64) by rwa [List.nil_append] at ho1)
  refine hK.out _ _ (fun _ => keepS hlt6 hlt8 hltg HB1.out hW0) (fun hS2 => ?_)
  clear hK K ho1 hg1 hat1 hS1
  replace hS2 := hS2 (by decide)
  change wpAnyE _ _ _ _ _ _ _ _ { tmps := (u0 :: u1 :: u2 :: u3 :: u4 :: u5 :: (.pointer (some ⟨B6, 0, none⟩)) :: u7 :: (.pointer (some ⟨B8, 0, none⟩)) :: u9 :: u10 :: u11 :: u12 :: u13 :: u14 :: u15 :: u16 :: u17 :: u18 :: u19 :: u20 :: u21 :: u22 :: u23 :: u24 :: u25 :: u26 :: u27 :: u28 :: u29 :: u30 :: u31 :: u32 :: u33 :: u34 :: u35 :: u36 :: u37 :: u38 :: u39 :: u40 :: u41 :: u42 :: u43 :: u44 :: u45 :: u46 :: u47 :: u48 :: u49 :: u50 :: u51 :: u52 :: u53 :: u54 :: u55 :: u56 :: u57 :: u58 :: u59 :: u60 :: u61 :: u62 :: u63 :: u64 :: (.pointer (some ⟨B6, 0, none⟩)) :: (.slice (some ⟨g, 0, none⟩) n cap) :: (.pointer (some ⟨B8, 0, none⟩)) :: (.int .i64 m) :: (.slice (some ⟨W.heap.size, 0, none⟩) 0 0) :: (.pointer (some ⟨B8, 1, none⟩)) :: (.slice A' 128 c') :: (.slice A' 64 c') :: v1 :: (.pointer (some ⟨B6, 0, none⟩)) :: (.slice (some ⟨g, 0, none⟩) n cap) :: (.pointer (some ⟨B8, 0, none⟩)) :: (.int .i64 m) :: (.pointer (some ⟨g, m, none⟩)) :: (.slice (some ⟨b5, off5, none⟩) 128 c5) :: (.slice (some ⟨b5, off5 + 64, none⟩) 64 (c5 - 64)) :: u81 :: u82 :: u83 :: u84 :: u85 :: u86 :: u87 :: u88 :: u89 :: u90 :: u91 :: u92 :: u93 :: u94 :: []).toArray, defers := [] } X1
  refine wpAnyE_one (i := 16) (by kernel_rfl) rfl (fun K hK => ?_)
  refine step_app rfl (.tmp 73) (.tmp 80) 35 v1 (.slice (some ⟨b5, off5 + 64, none⟩) 64 (c5 - 64)) rfl rfl rfl (appB_run (base := W.heap.size) _ HO1.out (HOD.out.upb HB1.out) (by simp; omega) HB1.out.size) ?_
  rintro v2 X2 ⟨ho2, hg2, hat2⟩
  have HB2 := Lib.hid (show Below W.heap.size W X2 from app_below HB1.out hg2 HO1.out.lt')
  have HO2 := Lib.hid ho2
  refine hK.out _ _ (fun _ => keepS hlt6 hlt8 hltg HB2.out hW0) (fun hS3 => ?_)
  clear hK K ho2 hg2 hat2 hS2
  replace hS3 := hS3 (by decide)
  change wpAnyE _ _ _ _ _ _ _ _ { tmps := (u0 :: u1 :: u2 :: u3 :: u4 :: u5 :: (.pointer (some ⟨B6, 0, none⟩)) :: u7 :: (.pointer (some ⟨B8, 0, none⟩)) :: u9 :: u10 :: u11 :: u12 :: u13 :: u14 :: u15 :: u16 :: u17 :: u18 :: u19 :: u20 :: u21 :: u22 :: u23 :: u24 :: u25 :: u26 :: u27 :: u28 :: u29 :: u30 :: u31 :: u32 :: u33 :: u34 :: u35 :: u36 :: u37 :: u38 :: u39 :: u40 :: u41 :: u42 :: u43 :: u44 :: u45 :: u46 :: u47 :: u48 :: u49 :: u50 :: u51 :: u52 :: u53 :: u54 :: u55 :: u56 :: u57 :: u58 :: u59 :: u60 :: u61 :: u62 :: u63 :: u64 :: (.pointer (some ⟨B6, 0, none⟩)) :: (.slice (some ⟨g, 0, none⟩) n cap) :: (.pointer (some ⟨B8, 0, none⟩)) :: (.int .i64 m) :: (.slice (some ⟨W.heap.size, 0, none⟩) 0 0) :: (.pointer (some ⟨B8, 1, none⟩)) :: (.slice A' 128 c') :: (.slice A' 64 c') :: v1 :: (.pointer (some ⟨B6, 0, none⟩)) :: (.slice (some ⟨g, 0, none⟩) n cap) :: (.pointer (some ⟨B8, 0, none⟩)) :: (.int .i64 m) :: (.pointer (some ⟨g, m, none⟩)) :: (.slice (some ⟨b5, off5, none⟩) 128 c5) :: (.slice (some ⟨b5, off5 + 64, none⟩) 64 (c5 - 64)) :: v2 :: u82 :: u83 :: u84 :: u85 :: u86 :: u87 :: u88 :: u89 :: u90 :: u91 :: u92 :: u93 :: u94 :: []).toArray, defers := [] } X2
  refine wpAnyE_take (i := 17) (v := (.pointer (some ⟨g, m, none⟩))) rfl (by kernel_rfl) (by kernel_rfl) (by kernel_rfl) (by kernel_rfl) (by kernel_rfl) (fun _ _ _ h => h) (.inl ⟨rfl, fun X hX => ?_⟩) hS3 ?_
  · obtain ⟨z1, z2, z3, z4⟩ := hX; go_simp
  change wpAnyE _ _ _ _ _ _ _ _ { tmps := (u0 :: u1 :: u2 :: u3 :: u4 :: u5 :: (.pointer (some ⟨B6, 0, none⟩)) :: u7 :: (.pointer (some ⟨B8, 0, none⟩)) :: u9 :: u10 :: u11 :: u12 :: u13 :: u14 :: u15 :: u16 :: u17 :: u18 :: u19 :: u20 :: u21 :: u22 :: u23 :: u24 :: u25 :: u26 :: u27 :: u28 :: u29 :: u30 :: u31 :: u32 :: u33 :: u34 :: u35 :: u36 :: u37 :: u38 :: u39 :: u40 :: u41 :: u42 :: u43 :: u44 :: u45 :: u46 :: u47 :: u48 :: u49 :: u50 :: u51 :: u52 :: u53 :: u54 :: u55 :: u56 :: u57 :: u58 :: u59 :: u60 :: u61 :: u62 :: u63 :: u64 :: (.pointer (some ⟨B6, 0, none⟩)) :: (.slice (some ⟨g, 0, none⟩) n cap) :: (.pointer (some ⟨B8, 0, none⟩)) :: (.int .i64 m) :: (.slice (some ⟨W.heap.size, 0, none⟩) 0 0) :: (.pointer (some ⟨B8, 1, none⟩)) :: (.slice A' 128 c') :: (.slice A' 64 c') :: v1 :: (.pointer (some ⟨B6, 0, none⟩)) :: (.slice (some ⟨g, 0, none⟩) n cap) :: (.pointer (some ⟨B8, 0, none⟩)) :: (.int .i64 m) :: (.pointer (some ⟨g, m, none⟩)) :: (.slice (some ⟨b5, off5, none⟩) 128 c5) :: (.slice (some ⟨b5, off5 + 64, none⟩) 64 (c5 - 64)) :: v2 :: (.pointer (some ⟨g, m, none⟩)) :: u83 :: u84 :: u85 :: u86 :: u87 :: u88 :: u89 :: u90 :: u91 :: u92 :: u93 :: u94 :: []).toArray, defers := [] } _
  obtain ⟨A2, c2, e2⟩ := HO2.out.shape
  have hgc := hS3.2.2.2
  have hgf : X2.frozen? ⟨g, m, none⟩ = false := by rw [(bcell HB2.out).2 g m hltg]; exact hfr
  refine wpAnyE_one (i := 18) (by kernel_rfl) rfl (fun K hK => ?_)
  have HN := Lib.hid (hN v1 v2 X2 HO2.out HB2.out)
  generalize (data.take 64 ++ OB.drop 64).length = q at e2
  subst e2
  go_simp
  refine hK.out _ _ (fun h => absurd rfl h) (fun _ => ?_)
  exact wpAnyE_done (by kernel_rfl) (NoPanic.normal HN.out) _

end
section
open Go.RowKit
set_option linter.unusedVariables false
set_option linter.unusedSimpArgs false
set_option maxRecDepth 20000

section
variable {P : Program} {ops : Array Oper} {Q : Exit → Act → World → Prop} {md : Region.Mode} {S : World → Prop}
/-- two operations that may come up -/
theorem wpAnyE_two {i j e : Nat} {o o' : Oper} {fuel : Nat} {listed : Array Bool} {a : Act} {w : World} (hr : Region.ready md ops listed = [i, j]) (ho : ops[i]? = some o) (ho' : ops[j]? = some o')
    (h : ∀ K' : Act → World → Prop, Shut (∀ a w, (i ≠ e → S w) → ((i ≠ e → S w) → wpAnyE P md ops Q S e fuel (listed.setIfInBounds i true) a w) → K' a w) → if Region.wanted o (yielded ops a.tmps) = true then Oper.wp P o a w K' Q else K' (a.put o.dst undef) w)
    (h' : ∀ K' : Act → World → Prop, Shut (∀ a w, (j ≠ e → S w) → ((j ≠ e → S w) → wpAnyE P md ops Q S e fuel (listed.setIfInBounds j true) a w) → K' a w) → if Region.wanted o' (yielded ops a.tmps) = true then Oper.wp P o' a w K' Q else K' (a.put o'.dst undef) w) :
    wpAnyE P md ops Q S e (fuel + 1) listed a w := by
  refine ⟨fun h0 => (by rw [h0] at hr; cases hr), fun k hk => ?_⟩
  rw [hr] at hk
  have hk2 : k = i ∨ k = j := by simpa using hk
  rcases hk2 with rfl | rfl
  · exact wpOp_step ho (fun K' hK => h K' (fun a w hS hW => hK a w ⟨hS, hW hS⟩))
  · exact wpOp_step ho' (fun K' hK => h' K' (fun a w hS hW => hK a w ⟨hS, hW hS⟩))
end
theorem ownS_base {W : World} {b b' : Nat} {v : Value} {ss : List By} (h : OwnSs W b v ss) (hb : b' ≤ b) : OwnSs W b' v ss := by
  obtain ⟨vs, hl, ho, hi⟩ := h
  refine ⟨vs, hl, ⟨ho.1, ?_⟩, hi⟩
  rcases ho.2 with h2 | ⟨g, cap, cur, hv, hg, r⟩
  · exact .inl h2
  · exact .inr ⟨g, cap, cur, hv, by omega, r⟩
theorem drew_al {w1 : World} (o : Obj) : Below w1.heap.size w1 (w1.drew.alloc o) := (below_drewN (Below.refl _ w1) 1).up (al1 w1.drew o)
theorem drew_al2 {w1 : World} (o o' : Obj) : Below w1.heap.size w1 ((w1.drew.alloc o).alloc o') := (drew_al o).up (al1 _ o')
theorem grownK {W W' : World} {B B' : Nat} {t : TypeId} {cs : List Value} (h : Cells W B t cs) (hg : W.grownBy W' (some B')) (hne : B ≠ B') : Cells W' B t cs := (hg.block B h.lt (fun e => hne (by injection e))).trans h

theorem ownS_ne {W : World} {base g n c B : Nat} {ss : List By} {cs : List Value} (h : OwnSs W base (.slice (some ⟨g, 0, none⟩) n c) ss) (hC : Cells W B 25 cs) : g ≠ B := by
  obtain ⟨vs, hl, ho, hi⟩ := h
  rintro rfl
  rcases ho.2 with ⟨h0, _⟩ | ⟨g', cap, cur, e, _, hg2, _⟩
  · cases h0
  · injection e with e
    injection e with e
    injection e with e
    subst e
    rw [show W.heap[g]? = _ from hC] at hg2
    injection hg2 with hg2
    injection hg2 with _ ht
    exact absurd ht (by decide)
/-- what stands behind the copy of the sectors -/
structure Cpy (w1 W : World) (B6 g cap : Nat) (n : Nat) (ss : List By) (l : Int) (st : Bool) : Prop where
  b : Cells W B6 25 [.slice (some ⟨g, 0, none⟩) n cap, .slice none 0 0, .int .i64 l, .bool st]
  o : OwnSs W w1.heap.size (.slice (some ⟨g, 0, none⟩) n cap) ss
  bel : Below w1.heap.size w1 W
  lo : w1.heap.size ≤ B6
  ne : g ≠ B6
theorem Cpy.glt {w1 W : World} {B6 g cap n : Nat} {ss : List By} {l : Int} {st : Bool} (h : Cpy w1 W B6 g cap n ss l st) : w1.heap.size ≤ g := h.o.lt' g rfl
theorem Cpy.upb {w1 W W' : World} {B6 g cap n : Nat} {ss : List By} {l : Int} {st : Bool} (h : Cpy w1 W B6 g cap n ss l st) (hb : Below W.heap.size W W') : Cpy w1 W' B6 g cap n ss l st :=
  ⟨h.b.upb hb, h.o.below hb, h.bel.up hb, h.lo, h.ne⟩
theorem Cpy.row {w1 W : World} {B6 g cap n : Nat} {ss : List By} {l : Int} {st : Bool} (h : Cpy w1 W B6 g cap n ss l st) (m : Nat) {u : Value} {b : By} (hu : OffB (some g) W u b) : Cpy w1 (W.setCell ⟨g, m, none⟩ u) B6 g cap n (ss.set m b) l st :=
  ⟨h.b.other (fun e => h.ne e.symm) m u, h.o.set m hu, h.bel.setCell (p := ⟨g, m, none⟩) h.glt u, h.lo, h.ne⟩
theorem Cpy.fld2 {w1 W : World} {B6 g cap n : Nat} {ss : List By} {l : Int} {st : Bool} (h : Cpy w1 W B6 g cap n ss l st) (l' : Int) : Cpy w1 (W.setCell ⟨B6, 2, none⟩ (.int .i64 l')) B6 g cap n ss l' st :=
  ⟨h.b.set (k := 2) (.int .i64 l'), h.o.box h.b (grown_set _ _ _ _), h.bel.setCell (p := ⟨B6, 2, none⟩) h.lo _, h.lo, h.ne⟩
theorem Cpy.fld3 {w1 W : World} {B6 g cap n : Nat} {ss : List By} {l : Int} {st : Bool} (h : Cpy w1 W B6 g cap n ss l st) (st' : Bool) : Cpy w1 (W.setCell ⟨B6, 3, none⟩ (.bool st')) B6 g cap n ss l st' :=
  ⟨h.b.set (k := 3) (.bool st'), h.o.box h.b (grown_set _ _ _ _), h.bel.setCell (p := ⟨B6, 3, none⟩) h.lo _, h.lo, h.ne⟩
theorem Cpy.drew {w1 W : World} {B6 g cap n : Nat} {ss : List By} {l : Int} {st : Bool} (h : Cpy w1 W B6 g cap n ss l st) : Cpy w1 W.drew B6 g cap n ss l st := h.upb (below_drewN (Below.refl _ W) 1)

theorem keep02 {W : World} {B B' : Nat} {a0 a1 a2 a3 : Value} (h : Cells W B 25 [a0, a1, a2, a3]) (hne : B ≠ B') (b0 b1 b2 b3 : Value) :
    ((((W.setCell ⟨B', 0, none⟩ b0).setCell ⟨B', 1, none⟩ b1).setCell ⟨B', 2, none⟩ b2).setCell ⟨B', 3, none⟩ b3).cell? ⟨B, 0, none⟩ = some a0 ∧
    ((((W.setCell ⟨B', 0, none⟩ b0).setCell ⟨B', 1, none⟩ b1).setCell ⟨B', 2, none⟩ b2).setCell ⟨B', 3, none⟩ b3).cell? ⟨B, 2, none⟩ = some a2 := by
  obtain ⟨h1, _, h3⟩ := keep4 h hne b0 b1 b2 b3
  exact ⟨h1, h3⟩
theorem cpy_new {w1 X : World} {g cap n : Nat} {ss : List By} (ho : OwnSs X w1.heap.size (.slice (some ⟨g, 0, none⟩) n cap) ss) (hb : Below w1.heap.size w1 X) (l : Int) (hg : g < X.heap.size) :
    Cpy w1 (X.alloc (.cells #[.slice (some ⟨g, 0, none⟩) n cap, .slice none 0 0, .int .i64 l, .bool false] 25)) X.heap.size g cap n ss l false :=
  ⟨Cells.new X 25 [.slice (some ⟨g, 0, none⟩) n cap, .slice none 0 0, .int .i64 l, .bool false], ho.below (al1 _ _), hb.up (al1 _ _), hb.size, by omega⟩
theorem cpy_set {w1 X : World} {B6 g cap n : Nat} {ss : List By} (hC : Cells X B6 25 [.slice none 0 0, .slice none 0 0, .int .i64 0, .bool false]) (ho : OwnSs X w1.heap.size (.slice (some ⟨g, 0, none⟩) n cap) ss) (hb : Below w1.heap.size w1 X) (hlo : w1.heap.size ≤ B6) (hne : g ≠ B6) (l : Int) :
    Cpy w1 ((((X.setCell ⟨B6, 0, none⟩ (.slice (some ⟨g, 0, none⟩) n cap)).setCell ⟨B6, 1, none⟩ (.slice none 0 0)).setCell ⟨B6, 2, none⟩ (.int .i64 l)).setCell ⟨B6, 3, none⟩ (.bool false)) B6 g cap n ss l false :=
  ⟨hC.set4 _ _ _ _, ho.box hC (grown_set4 _ _ _ _ _ _), below_set4 hb hlo _ _ _ _, hlo, hne⟩


noncomputable def copyReg : Code := (Try.f48.body.bind (findRegion 7)).getD .skip
theorem keep2 {W X : World} {B0 : Nat} {a b : Value} (h6 : B0 < W.heap.size) (hb : Below W.heap.size W X) (h : W.cell? ⟨B0, 0, none⟩ = some a ∧ W.cell? ⟨B0, 2, none⟩ = some b) :
    X.cell? ⟨B0, 0, none⟩ = some a ∧ X.cell? ⟨B0, 2, none⟩ = some b := ⟨((bcell hb).1 B0 0 h6).trans h.1, ((bcell hb).1 B0 2 h6).trans h.2⟩

set_option maxRecDepth 100000 in
set_option maxHeartbeats 4000000 in
theorem copy_region {Q : Exit → Act → World → Prop} {W : World} {u0 u2 u3 u4 u5 u6 u7 u8 u9 u10 u11 u12 u13 u14 u15 u16 u17 u18 u19 u20 u21 u22 u23 u24 u25 u26 u27 u28 u29 u30 u31 u32 u33 u34 u35 u36 u37 u38 u39 u40 u41 u42 u43 u44 u45 u46 u47 u48 u49 u50 u51 u52 u53 u54 u55 u56 u57 u58 u59 u60 u61 u62 u63 u64 u65 u66 u67 u68 u69 u70 u71 u72 u73 u74 u75 u76 u77 u78 u79 u80 u81 u82 u83 u84 u85 u86 u87 u88 u89 u90 u91 u92 u93 u94 : Value} {B0 c : Nat} {A : Option Addr} {ss : List By} {l : Int}
    (hW0 : W.cell? ⟨B0, 0, none⟩ = some (.slice A ss.length c) ∧ W.cell? ⟨B0, 2, none⟩ = some (.int .i64 l)) (hv : IsBs W (.slice A ss.length c) ss) (hn : 0 < ss.length) (hl : ss.length ≤ 4096)
    (hN : ∀ (v32 : Value) (g cap B6 : Nat) (X : World), Cpy W X B6 g cap ss.length ss l false → Q .normal { tmps := (u0 :: (.pointer (some ⟨B0, 0, none⟩)) :: u2 :: u3 :: u4 :: u5 :: (.pointer (some ⟨B6, 0, none⟩)) :: u7 :: u8 :: u9 :: u10 :: u11 :: u12 :: u13 :: u14 :: u15 :: u16 :: u17 :: u18 :: u19 :: u20 :: u21 :: u22 :: u23 :: u24 :: u25 :: u26 :: u27 :: u28 :: u29 :: u30 :: u31 :: v32 :: (.pointer (some ⟨B0, 0, none⟩)) :: (.slice A ss.length c) :: (.slice (some ⟨g, 0, none⟩) ss.length cap) :: (.pointer (some ⟨B0, 2, none⟩)) :: (.int .i64 l) :: (.agg #[.slice (some ⟨g, 0, none⟩) ss.length cap, .slice none 0 0, .int .i64 l, .bool false]) :: u39 :: u40 :: u41 :: u42 :: u43 :: u44 :: u45 :: u46 :: u47 :: u48 :: u49 :: u50 :: u51 :: u52 :: u53 :: u54 :: u55 :: u56 :: u57 :: u58 :: u59 :: u60 :: u61 :: u62 :: u63 :: u64 :: u65 :: u66 :: u67 :: u68 :: u69 :: u70 :: u71 :: u72 :: u73 :: u74 :: u75 :: u76 :: u77 :: u78 :: u79 :: u80 :: u81 :: u82 :: u83 :: u84 :: u85 :: u86 :: u87 :: u88 :: u89 :: u90 :: u91 :: u92 :: u93 :: u94 :: []).toArray, defers := [] } X) :
    copyReg.wp Try.prog Q { tmps := (u0 :: (.pointer (some ⟨B0, 0, none⟩)) :: u2 :: u3 :: u4 :: u5 :: u6 :: u7 :: u8 :: u9 :: u10 :: u11 :: u12 :: u13 :: u14 :: u15 :: u16 :: u17 :: u18 :: u19 :: u20 :: u21 :: u22 :: u23 :: u24 :: u25 :: u26 :: u27 :: u28 :: u29 :: u30 :: u31 :: u32 :: u33 :: u34 :: u35 :: u36 :: u37 :: u38 :: u39 :: u40 :: u41 :: u42 :: u43 :: u44 :: u45 :: u46 :: u47 :: u48 :: u49 :: u50 :: u51 :: u52 :: u53 :: u54 :: u55 :: u56 :: u57 :: u58 :: u59 :: u60 :: u61 :: u62 :: u63 :: u64 :: u65 :: u66 :: u67 :: u68 :: u69 :: u70 :: u71 :: u72 :: u73 :: u74 :: u75 :: u76 :: u77 :: u78 :: u79 :: u80 :: u81 :: u82 :: u83 :: u84 :: u85 :: u86 :: u87 :: u88 :: u89 :: u90 :: u91 :: u92 :: u93 :: u94 :: []).toArray, defers := [] } W := by
  conv => arg 2; whnf
  have hlt : B0 < W.heap.size := cell_lt hW0.1
  have hS0 : (fun X : World => X.cell? ⟨B0, 0, none⟩ = some (.slice A ss.length c) ∧ X.cell? ⟨B0, 2, none⟩ = some (.int .i64 l)) W.drew := hW0
  refine wp_region_noPanic ?_
  refine wp_region_E 8 (fun X : World => X.cell? ⟨B0, 0, none⟩ = some (.slice A ss.length c) ∧ X.cell? ⟨B0, 2, none⟩ = some (.int .i64 l)) (by kernel_rfl) ?_
  refine wpAnyE_take (i := 1) (v := (.pointer (some ⟨B0, 0, none⟩))) rfl (by kernel_rfl) (by kernel_rfl) (by kernel_rfl) (by kernel_rfl) (by kernel_rfl) (fun _ _ _ h => h) (.inl ⟨rfl, fun X hX => ?_⟩) hS0 ?_
  · obtain ⟨z1, z2⟩ := hX; go_simp
  change wpAnyE _ _ _ _ _ _ _ _ { tmps := (u0 :: (.pointer (some ⟨B0, 0, none⟩)) :: u2 :: u3 :: u4 :: u5 :: u6 :: u7 :: u8 :: u9 :: u10 :: u11 :: u12 :: u13 :: u14 :: u15 :: u16 :: u17 :: u18 :: u19 :: u20 :: u21 :: u22 :: u23 :: u24 :: u25 :: u26 :: u27 :: u28 :: u29 :: u30 :: u31 :: u32 :: (.pointer (some ⟨B0, 0, none⟩)) :: u34 :: u35 :: u36 :: u37 :: u38 :: u39 :: u40 :: u41 :: u42 :: u43 :: u44 :: u45 :: u46 :: u47 :: u48 :: u49 :: u50 :: u51 :: u52 :: u53 :: u54 :: u55 :: u56 :: u57 :: u58 :: u59 :: u60 :: u61 :: u62 :: u63 :: u64 :: u65 :: u66 :: u67 :: u68 :: u69 :: u70 :: u71 :: u72 :: u73 :: u74 :: u75 :: u76 :: u77 :: u78 :: u79 :: u80 :: u81 :: u82 :: u83 :: u84 :: u85 :: u86 :: u87 :: u88 :: u89 :: u90 :: u91 :: u92 :: u93 :: u94 :: []).toArray, defers := [] } _
  refine wpAnyE_take (i := 2) (v := (.slice A ss.length c)) rfl (by kernel_rfl) (by kernel_rfl) (by kernel_rfl) (by kernel_rfl) (by kernel_rfl) (fun _ _ _ h => h) (.inl ⟨rfl, fun X hX => ?_⟩) hS0 ?_
  · obtain ⟨z1, z2⟩ := hX; go_simp
  change wpAnyE _ _ _ _ _ _ _ _ { tmps := (u0 :: (.pointer (some ⟨B0, 0, none⟩)) :: u2 :: u3 :: u4 :: u5 :: u6 :: u7 :: u8 :: u9 :: u10 :: u11 :: u12 :: u13 :: u14 :: u15 :: u16 :: u17 :: u18 :: u19 :: u20 :: u21 :: u22 :: u23 :: u24 :: u25 :: u26 :: u27 :: u28 :: u29 :: u30 :: u31 :: u32 :: (.pointer (some ⟨B0, 0, none⟩)) :: (.slice A ss.length c) :: u35 :: u36 :: u37 :: u38 :: u39 :: u40 :: u41 :: u42 :: u43 :: u44 :: u45 :: u46 :: u47 :: u48 :: u49 :: u50 :: u51 :: u52 :: u53 :: u54 :: u55 :: u56 :: u57 :: u58 :: u59 :: u60 :: u61 :: u62 :: u63 :: u64 :: u65 :: u66 :: u67 :: u68 :: u69 :: u70 :: u71 :: u72 :: u73 :: u74 :: u75 :: u76 :: u77 :: u78 :: u79 :: u80 :: u81 :: u82 :: u83 :: u84 :: u85 :: u86 :: u87 :: u88 :: u89 :: u90 :: u91 :: u92 :: u93 :: u94 :: []).toArray, defers := [] } _
  refine wpAnyE_take (i := 4) (v := (.pointer (some ⟨B0, 2, none⟩))) rfl (by kernel_rfl) (by kernel_rfl) (by kernel_rfl) (by kernel_rfl) (by kernel_rfl) (fun _ _ _ h => h) (.inl ⟨rfl, fun X hX => ?_⟩) hS0 ?_
  · obtain ⟨z1, z2⟩ := hX; go_simp
  change wpAnyE _ _ _ _ _ _ _ _ { tmps := (u0 :: (.pointer (some ⟨B0, 0, none⟩)) :: u2 :: u3 :: u4 :: u5 :: u6 :: u7 :: u8 :: u9 :: u10 :: u11 :: u12 :: u13 :: u14 :: u15 :: u16 :: u17 :: u18 :: u19 :: u20 :: u21 :: u22 :: u23 :: u24 :: u25 :: u26 :: u27 :: u28 :: u29 :: u30 :: u31 :: u32 :: (.pointer (some ⟨B0, 0, none⟩)) :: (.slice A ss.length c) :: u35 :: (.pointer (some ⟨B0, 2, none⟩)) :: u37 :: u38 :: u39 :: u40 :: u41 :: u42 :: u43 :: u44 :: u45 :: u46 :: u47 :: u48 :: u49 :: u50 :: u51 :: u52 :: u53 :: u54 :: u55 :: u56 :: u57 :: u58 :: u59 :: u60 :: u61 :: u62 :: u63 :: u64 :: u65 :: u66 :: u67 :: u68 :: u69 :: u70 :: u71 :: u72 :: u73 :: u74 :: u75 :: u76 :: u77 :: u78 :: u79 :: u80 :: u81 :: u82 :: u83 :: u84 :: u85 :: u86 :: u87 :: u88 :: u89 :: u90 :: u91 :: u92 :: u93 :: u94 :: []).toArray, defers := [] } _
  refine wpAnyE_take (i := 5) (v := (.int .i64 l)) rfl (by kernel_rfl) (by kernel_rfl) (by kernel_rfl) (by kernel_rfl) (by kernel_rfl) (fun _ _ _ h => h) (.inl ⟨rfl, fun X hX => ?_⟩) hS0 ?_
  · obtain ⟨z1, z2⟩ := hX; go_simp
  change wpAnyE _ _ _ _ _ _ _ _ { tmps := (u0 :: (.pointer (some ⟨B0, 0, none⟩)) :: u2 :: u3 :: u4 :: u5 :: u6 :: u7 :: u8 :: u9 :: u10 :: u11 :: u12 :: u13 :: u14 :: u15 :: u16 :: u17 :: u18 :: u19 :: u20 :: u21 :: u22 :: u23 :: u24 :: u25 :: u26 :: u27 :: u28 :: u29 :: u30 :: u31 :: u32 :: (.pointer (some ⟨B0, 0, none⟩)) :: (.slice A ss.length c) :: u35 :: (.pointer (some ⟨B0, 2, none⟩)) :: (.int .i64 l) :: u38 :: u39 :: u40 :: u41 :: u42 :: u43 :: u44 :: u45 :: u46 :: u47 :: u48 :: u49 :: u50 :: u51 :: u52 :: u53 :: u54 :: u55 :: u56 :: u57 :: u58 :: u59 :: u60 :: u61 :: u62 :: u63 :: u64 :: u65 :: u66 :: u67 :: u68 :: u69 :: u70 :: u71 :: u72 :: u73 :: u74 :: u75 :: u76 :: u77 :: u78 :: u79 :: u80 :: u81 :: u82 :: u83 :: u84 :: u85 :: u86 :: u87 :: u88 :: u89 :: u90 :: u91 :: u92 :: u93 :: u94 :: []).toArray, defers := [] } _
  refine wpAnyE_two (i := 0) (j := 7) (by kernel_rfl) rfl rfl (fun K hK => ?_) (fun K hK => ?_)
  ·
    go_simp
    refine hK.out _ _ (fun _ => keep2 hlt (drew_al (w1 := W) (.cells #[] 35)) hW0) (fun hS => ?_)
    clear hK K hS
    change wpAnyE _ _ _ _ _ _ _ _ { tmps := (u0 :: (.pointer (some ⟨B0, 0, none⟩)) :: u2 :: u3 :: u4 :: u5 :: u6 :: u7 :: u8 :: u9 :: u10 :: u11 :: u12 :: u13 :: u14 :: u15 :: u16 :: u17 :: u18 :: u19 :: u20 :: u21 :: u22 :: u23 :: u24 :: u25 :: u26 :: u27 :: u28 :: u29 :: u30 :: u31 :: (.slice (some ⟨W.heap.size, 0, none⟩) 0 0) :: (.pointer (some ⟨B0, 0, none⟩)) :: (.slice A ss.length c) :: u35 :: (.pointer (some ⟨B0, 2, none⟩)) :: (.int .i64 l) :: u38 :: u39 :: u40 :: u41 :: u42 :: u43 :: u44 :: u45 :: u46 :: u47 :: u48 :: u49 :: u50 :: u51 :: u52 :: u53 :: u54 :: u55 :: u56 :: u57 :: u58 :: u59 :: u60 :: u61 :: u62 :: u63 :: u64 :: u65 :: u66 :: u67 :: u68 :: u69 :: u70 :: u71 :: u72 :: u73 :: u74 :: u75 :: u76 :: u77 :: u78 :: u79 :: u80 :: u81 :: u82 :: u83 :: u84 :: u85 :: u86 :: u87 :: u88 :: u89 :: u90 :: u91 :: u92 :: u93 :: u94 :: []).toArray, defers := [] } (W.drew.alloc (.cells #[] 35))
    refine wpAnyE_two (i := 3) (j := 7) (by kernel_rfl) rfl rfl (fun K hK => ?_) (fun K hK => ?_)
    ·
      refine step_app rfl (.tmp 32) (.tmp 34) 22 (.slice (some ⟨W.heap.size, 0, none⟩) 0 0) (.slice A ss.length c) rfl rfl rfl (appS_is (w := W.drew) (X := W.drew.alloc (.cells #[] 35)) _ (al1 W.drew (.cells #[] 35)) (hv.upb (show Below W.heap.size W W.drew from below_drewN (Below.refl _ W) 1)) (ownS_made W.drew) (by simp; omega)) ?_
      rintro v2 X2 ⟨ho2, hg2, hat2⟩
      rw [List.nil_append] at ho2
      have HO2 := Lib.hid (show OwnSs X2 W.heap.size v2 ss from ho2)
      have HB2 := Lib.hid (show Below W.heap.size W X2 from Below.grown (drew_al (w1 := W) (.cells #[] 35)) hg2 (drew_al (w1 := W) (.cells #[] 35)).size (fun g hg => by simp [Value.ownBlock] at hg; omega))
      obtain ⟨g, cap, rfl, hg1, hg3⟩ := HO2.out.form hn
      refine hK.out _ _ (fun _ => keep2 hlt (HB2.out) hW0) (fun hS => ?_)
      clear hK K ho2 hg2 hat2
      replace hS := hS (by decide)
      change wpAnyE _ _ _ _ _ _ _ _ { tmps := (u0 :: (.pointer (some ⟨B0, 0, none⟩)) :: u2 :: u3 :: u4 :: u5 :: u6 :: u7 :: u8 :: u9 :: u10 :: u11 :: u12 :: u13 :: u14 :: u15 :: u16 :: u17 :: u18 :: u19 :: u20 :: u21 :: u22 :: u23 :: u24 :: u25 :: u26 :: u27 :: u28 :: u29 :: u30 :: u31 :: (.slice (some ⟨W.heap.size, 0, none⟩) 0 0) :: (.pointer (some ⟨B0, 0, none⟩)) :: (.slice A ss.length c) :: (.slice (some ⟨g, 0, none⟩) ss.length cap) :: (.pointer (some ⟨B0, 2, none⟩)) :: (.int .i64 l) :: u38 :: u39 :: u40 :: u41 :: u42 :: u43 :: u44 :: u45 :: u46 :: u47 :: u48 :: u49 :: u50 :: u51 :: u52 :: u53 :: u54 :: u55 :: u56 :: u57 :: u58 :: u59 :: u60 :: u61 :: u62 :: u63 :: u64 :: u65 :: u66 :: u67 :: u68 :: u69 :: u70 :: u71 :: u72 :: u73 :: u74 :: u75 :: u76 :: u77 :: u78 :: u79 :: u80 :: u81 :: u82 :: u83 :: u84 :: u85 :: u86 :: u87 :: u88 :: u89 :: u90 :: u91 :: u92 :: u93 :: u94 :: []).toArray, defers := [] } X2
      refine wpAnyE_take (i := 6) (v := (.agg #[.slice (some ⟨g, 0, none⟩) ss.length cap, .slice none 0 0, .int .i64 l, .bool false])) rfl (by kernel_rfl) (by kernel_rfl) (by kernel_rfl) (by kernel_rfl) (by kernel_rfl) (fun _ _ _ h => h) (.inl ⟨rfl, fun X hX => ?_⟩) hS ?_
      · obtain ⟨z1, z2⟩ := hX; go_simp
      change wpAnyE _ _ _ _ _ _ _ _ { tmps := (u0 :: (.pointer (some ⟨B0, 0, none⟩)) :: u2 :: u3 :: u4 :: u5 :: u6 :: u7 :: u8 :: u9 :: u10 :: u11 :: u12 :: u13 :: u14 :: u15 :: u16 :: u17 :: u18 :: u19 :: u20 :: u21 :: u22 :: u23 :: u24 :: u25 :: u26 :: u27 :: u28 :: u29 :: u30 :: u31 :: (.slice (some ⟨W.heap.size, 0, none⟩) 0 0) :: (.pointer (some ⟨B0, 0, none⟩)) :: (.slice A ss.length c) :: (.slice (some ⟨g, 0, none⟩) ss.length cap) :: (.pointer (some ⟨B0, 2, none⟩)) :: (.int .i64 l) :: (.agg #[.slice (some ⟨g, 0, none⟩) ss.length cap, .slice none 0 0, .int .i64 l, .bool false]) :: u39 :: u40 :: u41 :: u42 :: u43 :: u44 :: u45 :: u46 :: u47 :: u48 :: u49 :: u50 :: u51 :: u52 :: u53 :: u54 :: u55 :: u56 :: u57 :: u58 :: u59 :: u60 :: u61 :: u62 :: u63 :: u64 :: u65 :: u66 :: u67 :: u68 :: u69 :: u70 :: u71 :: u72 :: u73 :: u74 :: u75 :: u76 :: u77 :: u78 :: u79 :: u80 :: u81 :: u82 :: u83 :: u84 :: u85 :: u86 :: u87 :: u88 :: u89 :: u90 :: u91 :: u92 :: u93 :: u94 :: []).toArray, defers := [] } _
      have HN := Lib.hid (fun u32 => hN u32 g cap _ _ (cpy_new HO2.out HB2.out l hg3))
      refine wpAnyE_one (i := 7) (by kernel_rfl) rfl (fun K hK => ?_)
      go_simp
      refine hK.out _ _ (fun _ => keep2 hlt (HB2.out.up (al1 X2 (.cells #[.slice none 0 0, .slice none 0 0, .int .i64 0, .bool false] 25))) hW0) (fun hS => ?_)
      clear hK K hS
      change wpAnyE _ _ _ _ _ _ _ _ { tmps := (u0 :: (.pointer (some ⟨B0, 0, none⟩)) :: u2 :: u3 :: u4 :: u5 :: (.pointer (some ⟨X2.heap.size, 0, none⟩)) :: u7 :: u8 :: u9 :: u10 :: u11 :: u12 :: u13 :: u14 :: u15 :: u16 :: u17 :: u18 :: u19 :: u20 :: u21 :: u22 :: u23 :: u24 :: u25 :: u26 :: u27 :: u28 :: u29 :: u30 :: u31 :: (.slice (some ⟨W.heap.size, 0, none⟩) 0 0) :: (.pointer (some ⟨B0, 0, none⟩)) :: (.slice A ss.length c) :: (.slice (some ⟨g, 0, none⟩) ss.length cap) :: (.pointer (some ⟨B0, 2, none⟩)) :: (.int .i64 l) :: (.agg #[.slice (some ⟨g, 0, none⟩) ss.length cap, .slice none 0 0, .int .i64 l, .bool false]) :: u39 :: u40 :: u41 :: u42 :: u43 :: u44 :: u45 :: u46 :: u47 :: u48 :: u49 :: u50 :: u51 :: u52 :: u53 :: u54 :: u55 :: u56 :: u57 :: u58 :: u59 :: u60 :: u61 :: u62 :: u63 :: u64 :: u65 :: u66 :: u67 :: u68 :: u69 :: u70 :: u71 :: u72 :: u73 :: u74 :: u75 :: u76 :: u77 :: u78 :: u79 :: u80 :: u81 :: u82 :: u83 :: u84 :: u85 :: u86 :: u87 :: u88 :: u89 :: u90 :: u91 :: u92 :: u93 :: u94 :: []).toArray, defers := [] } (X2.alloc (.cells #[.slice none 0 0, .slice none 0 0, .int .i64 0, .bool false] 25))
      refine wpAnyE_one (i := 8) (by kernel_rfl) rfl (fun K hK => ?_)
      go_simp
      refine hK.out _ _ (fun h => absurd rfl h) (fun _ => ?_)
      exact wpAnyE_done (by kernel_rfl) (NoPanic.normal (HN.out _)) _
    ·
      go_simp
      refine hK.out _ _ (fun _ => keep2 hlt (drew_al2 (w1 := W) (.cells #[] 35) (.cells #[.slice none 0 0, .slice none 0 0, .int .i64 0, .bool false] 25)) hW0) (fun hS => ?_)
      clear hK K hS
      change wpAnyE _ _ _ _ _ _ _ _ { tmps := (u0 :: (.pointer (some ⟨B0, 0, none⟩)) :: u2 :: u3 :: u4 :: u5 :: (.pointer (some ⟨W.heap.size + 1, 0, none⟩)) :: u7 :: u8 :: u9 :: u10 :: u11 :: u12 :: u13 :: u14 :: u15 :: u16 :: u17 :: u18 :: u19 :: u20 :: u21 :: u22 :: u23 :: u24 :: u25 :: u26 :: u27 :: u28 :: u29 :: u30 :: u31 :: (.slice (some ⟨W.heap.size, 0, none⟩) 0 0) :: (.pointer (some ⟨B0, 0, none⟩)) :: (.slice A ss.length c) :: u35 :: (.pointer (some ⟨B0, 2, none⟩)) :: (.int .i64 l) :: u38 :: u39 :: u40 :: u41 :: u42 :: u43 :: u44 :: u45 :: u46 :: u47 :: u48 :: u49 :: u50 :: u51 :: u52 :: u53 :: u54 :: u55 :: u56 :: u57 :: u58 :: u59 :: u60 :: u61 :: u62 :: u63 :: u64 :: u65 :: u66 :: u67 :: u68 :: u69 :: u70 :: u71 :: u72 :: u73 :: u74 :: u75 :: u76 :: u77 :: u78 :: u79 :: u80 :: u81 :: u82 :: u83 :: u84 :: u85 :: u86 :: u87 :: u88 :: u89 :: u90 :: u91 :: u92 :: u93 :: u94 :: []).toArray, defers := [] } ((W.drew.alloc (.cells #[] 35)).alloc (.cells #[.slice none 0 0, .slice none 0 0, .int .i64 0, .bool false] 25))
      refine wpAnyE_one (i := 3) (by kernel_rfl) rfl (fun K hK => ?_)
      refine step_app rfl (.tmp 32) (.tmp 34) 22 (.slice (some ⟨W.heap.size, 0, none⟩) 0 0) (.slice A ss.length c) rfl rfl rfl (appS_is (w := W.drew) (X := (W.drew.alloc (.cells #[] 35)).alloc (.cells #[.slice none 0 0, .slice none 0 0, .int .i64 0, .bool false] 25)) _ ((al1 W.drew (.cells #[] 35)).up (al1 (W.drew.alloc (.cells #[] 35)) (.cells #[.slice none 0 0, .slice none 0 0, .int .i64 0, .bool false] 25))) (hv.upb (show Below W.heap.size W W.drew from below_drewN (Below.refl _ W) 1)) ((ownS_made W.drew).below (al1 (W.drew.alloc (.cells #[] 35)) (.cells #[.slice none 0 0, .slice none 0 0, .int .i64 0, .bool false] 25))) (by simp; omega)) ?_
      rintro v2 X2 ⟨ho2, hg2, hat2⟩
      rw [List.nil_append] at ho2
      have HO2 := Lib.hid (show OwnSs X2 W.heap.size v2 ss from ho2)
      have HB2 := Lib.hid (show Below W.heap.size W X2 from Below.grown (drew_al2 (w1 := W) (.cells #[] 35) (.cells #[.slice none 0 0, .slice none 0 0, .int .i64 0, .bool false] 25)) hg2 (drew_al2 (w1 := W) (.cells #[] 35) (.cells #[.slice none 0 0, .slice none 0 0, .int .i64 0, .bool false] 25)).size (fun g hg => by simp [Value.ownBlock] at hg; omega))
      obtain ⟨g, cap, rfl, hg1, hg3⟩ := HO2.out.form hn
      have HC6 := Lib.hid (show Cells X2 (W.heap.size + 1) 25 [.slice none 0 0, .slice none 0 0, .int .i64 0, .bool false] from grownK (by have := Cells.new (W.drew.alloc (.cells #[] 35)) 25 [.slice none 0 0, .slice none 0 0, .int .i64 0, .bool false]; simpa using this) hg2 (by simp))
      refine hK.out _ _ (fun _ => keep2 hlt (HB2.out) hW0) (fun hS => ?_)
      clear hK K ho2 hg2 hat2
      replace hS := hS (by decide)
      change wpAnyE _ _ _ _ _ _ _ _ { tmps := (u0 :: (.pointer (some ⟨B0, 0, none⟩)) :: u2 :: u3 :: u4 :: u5 :: (.pointer (some ⟨W.heap.size + 1, 0, none⟩)) :: u7 :: u8 :: u9 :: u10 :: u11 :: u12 :: u13 :: u14 :: u15 :: u16 :: u17 :: u18 :: u19 :: u20 :: u21 :: u22 :: u23 :: u24 :: u25 :: u26 :: u27 :: u28 :: u29 :: u30 :: u31 :: (.slice (some ⟨W.heap.size, 0, none⟩) 0 0) :: (.pointer (some ⟨B0, 0, none⟩)) :: (.slice A ss.length c) :: (.slice (some ⟨g, 0, none⟩) ss.length cap) :: (.pointer (some ⟨B0, 2, none⟩)) :: (.int .i64 l) :: u38 :: u39 :: u40 :: u41 :: u42 :: u43 :: u44 :: u45 :: u46 :: u47 :: u48 :: u49 :: u50 :: u51 :: u52 :: u53 :: u54 :: u55 :: u56 :: u57 :: u58 :: u59 :: u60 :: u61 :: u62 :: u63 :: u64 :: u65 :: u66 :: u67 :: u68 :: u69 :: u70 :: u71 :: u72 :: u73 :: u74 :: u75 :: u76 :: u77 :: u78 :: u79 :: u80 :: u81 :: u82 :: u83 :: u84 :: u85 :: u86 :: u87 :: u88 :: u89 :: u90 :: u91 :: u92 :: u93 :: u94 :: []).toArray, defers := [] } X2
      refine wpAnyE_take (i := 6) (v := (.agg #[.slice (some ⟨g, 0, none⟩) ss.length cap, .slice none 0 0, .int .i64 l, .bool false])) rfl (by kernel_rfl) (by kernel_rfl) (by kernel_rfl) (by kernel_rfl) (by kernel_rfl) (fun _ _ _ h => h) (.inl ⟨rfl, fun X hX => ?_⟩) hS ?_
      · obtain ⟨z1, z2⟩ := hX; go_simp
      change wpAnyE _ _ _ _ _ _ _ _ { tmps := (u0 :: (.pointer (some ⟨B0, 0, none⟩)) :: u2 :: u3 :: u4 :: u5 :: (.pointer (some ⟨W.heap.size + 1, 0, none⟩)) :: u7 :: u8 :: u9 :: u10 :: u11 :: u12 :: u13 :: u14 :: u15 :: u16 :: u17 :: u18 :: u19 :: u20 :: u21 :: u22 :: u23 :: u24 :: u25 :: u26 :: u27 :: u28 :: u29 :: u30 :: u31 :: (.slice (some ⟨W.heap.size, 0, none⟩) 0 0) :: (.pointer (some ⟨B0, 0, none⟩)) :: (.slice A ss.length c) :: (.slice (some ⟨g, 0, none⟩) ss.length cap) :: (.pointer (some ⟨B0, 2, none⟩)) :: (.int .i64 l) :: (.agg #[.slice (some ⟨g, 0, none⟩) ss.length cap, .slice none 0 0, .int .i64 l, .bool false]) :: u39 :: u40 :: u41 :: u42 :: u43 :: u44 :: u45 :: u46 :: u47 :: u48 :: u49 :: u50 :: u51 :: u52 :: u53 :: u54 :: u55 :: u56 :: u57 :: u58 :: u59 :: u60 :: u61 :: u62 :: u63 :: u64 :: u65 :: u66 :: u67 :: u68 :: u69 :: u70 :: u71 :: u72 :: u73 :: u74 :: u75 :: u76 :: u77 :: u78 :: u79 :: u80 :: u81 :: u82 :: u83 :: u84 :: u85 :: u86 :: u87 :: u88 :: u89 :: u90 :: u91 :: u92 :: u93 :: u94 :: []).toArray, defers := [] } _
      have c60 := HC6.out.cell (k := 0) rfl
      have c61 := HC6.out.cell (k := 1) rfl
      have c62 := HC6.out.cell (k := 2) rfl
      have c63 := HC6.out.cell (k := 3) rfl
      have d60 := HC6.out.frozen 0
      have d61 := HC6.out.frozen 1
      have d62 := HC6.out.frozen 2
      have d63 := HC6.out.frozen 3
      have hne6 : g ≠ W.heap.size + 1 := ownS_ne HO2.out HC6.out
      have HN := Lib.hid (fun u32 => hN u32 g cap _ _ (cpy_set HC6.out HO2.out HB2.out (by omega) hne6 l))
      refine wpAnyE_one (i := 8) (by kernel_rfl) rfl (fun K hK => ?_)
      go_simp
      refine hK.out _ _ (fun h => absurd rfl h) (fun _ => ?_)
      exact wpAnyE_done (by kernel_rfl) (NoPanic.normal (HN.out _)) _
  ·
    go_simp
    refine hK.out _ _ (fun _ => keep2 hlt (drew_al (w1 := W) (.cells #[.slice none 0 0, .slice none 0 0, .int .i64 0, .bool false] 25)) hW0) (fun hS => ?_)
    clear hK K hS
    change wpAnyE _ _ _ _ _ _ _ _ { tmps := (u0 :: (.pointer (some ⟨B0, 0, none⟩)) :: u2 :: u3 :: u4 :: u5 :: (.pointer (some ⟨W.heap.size, 0, none⟩)) :: u7 :: u8 :: u9 :: u10 :: u11 :: u12 :: u13 :: u14 :: u15 :: u16 :: u17 :: u18 :: u19 :: u20 :: u21 :: u22 :: u23 :: u24 :: u25 :: u26 :: u27 :: u28 :: u29 :: u30 :: u31 :: u32 :: (.pointer (some ⟨B0, 0, none⟩)) :: (.slice A ss.length c) :: u35 :: (.pointer (some ⟨B0, 2, none⟩)) :: (.int .i64 l) :: u38 :: u39 :: u40 :: u41 :: u42 :: u43 :: u44 :: u45 :: u46 :: u47 :: u48 :: u49 :: u50 :: u51 :: u52 :: u53 :: u54 :: u55 :: u56 :: u57 :: u58 :: u59 :: u60 :: u61 :: u62 :: u63 :: u64 :: u65 :: u66 :: u67 :: u68 :: u69 :: u70 :: u71 :: u72 :: u73 :: u74 :: u75 :: u76 :: u77 :: u78 :: u79 :: u80 :: u81 :: u82 :: u83 :: u84 :: u85 :: u86 :: u87 :: u88 :: u89 :: u90 :: u91 :: u92 :: u93 :: u94 :: []).toArray, defers := [] } (W.drew.alloc (.cells #[.slice none 0 0, .slice none 0 0, .int .i64 0, .bool false] 25))
    refine wpAnyE_one (i := 0) (by kernel_rfl) rfl (fun K hK => ?_)
    go_simp
    refine hK.out _ _ (fun _ => keep2 hlt (drew_al2 (w1 := W) (.cells #[.slice none 0 0, .slice none 0 0, .int .i64 0, .bool false] 25) (.cells #[] 35)) hW0) (fun hS => ?_)
    clear hK K hS
    change wpAnyE _ _ _ _ _ _ _ _ { tmps := (u0 :: (.pointer (some ⟨B0, 0, none⟩)) :: u2 :: u3 :: u4 :: u5 :: (.pointer (some ⟨W.heap.size, 0, none⟩)) :: u7 :: u8 :: u9 :: u10 :: u11 :: u12 :: u13 :: u14 :: u15 :: u16 :: u17 :: u18 :: u19 :: u20 :: u21 :: u22 :: u23 :: u24 :: u25 :: u26 :: u27 :: u28 :: u29 :: u30 :: u31 :: (.slice (some ⟨W.heap.size + 1, 0, none⟩) 0 0) :: (.pointer (some ⟨B0, 0, none⟩)) :: (.slice A ss.length c) :: u35 :: (.pointer (some ⟨B0, 2, none⟩)) :: (.int .i64 l) :: u38 :: u39 :: u40 :: u41 :: u42 :: u43 :: u44 :: u45 :: u46 :: u47 :: u48 :: u49 :: u50 :: u51 :: u52 :: u53 :: u54 :: u55 :: u56 :: u57 :: u58 :: u59 :: u60 :: u61 :: u62 :: u63 :: u64 :: u65 :: u66 :: u67 :: u68 :: u69 :: u70 :: u71 :: u72 :: u73 :: u74 :: u75 :: u76 :: u77 :: u78 :: u79 :: u80 :: u81 :: u82 :: u83 :: u84 :: u85 :: u86 :: u87 :: u88 :: u89 :: u90 :: u91 :: u92 :: u93 :: u94 :: []).toArray, defers := [] } ((W.drew.alloc (.cells #[.slice none 0 0, .slice none 0 0, .int .i64 0, .bool false] 25)).alloc (.cells #[] 35))
    refine wpAnyE_one (i := 3) (by kernel_rfl) rfl (fun K hK => ?_)
    refine step_app rfl (.tmp 32) (.tmp 34) 22 (.slice (some ⟨W.heap.size + 1, 0, none⟩) 0 0) (.slice A ss.length c) rfl rfl rfl (appS_is (w := W.drew) (X := (W.drew.alloc (.cells #[.slice none 0 0, .slice none 0 0, .int .i64 0, .bool false] 25)).alloc (.cells #[] 35)) _ ((al1 W.drew (.cells #[.slice none 0 0, .slice none 0 0, .int .i64 0, .bool false] 25)).up (al1 (W.drew.alloc (.cells #[.slice none 0 0, .slice none 0 0, .int .i64 0, .bool false] 25)) (.cells #[] 35))) (hv.upb (show Below W.heap.size W W.drew from below_drewN (Below.refl _ W) 1)) (ownS_base (show OwnSs ((W.drew.alloc (.cells #[.slice none 0 0, .slice none 0 0, .int .i64 0, .bool false] 25)).alloc (.cells #[] 35)) (W.heap.size + 1) (.slice (some ⟨W.heap.size + 1, 0, none⟩) 0 0) [] from by have := ownS_made (W.drew.alloc (.cells #[.slice none 0 0, .slice none 0 0, .int .i64 0, .bool false] 25)); simpa using this) (by show W.heap.size ≤ _; omega)) (by simp; omega)) ?_
    rintro v2 X2 ⟨ho2, hg2, hat2⟩
    rw [List.nil_append] at ho2
    have HO2 := Lib.hid (show OwnSs X2 W.heap.size v2 ss from ho2)
    have HB2 := Lib.hid (show Below W.heap.size W X2 from Below.grown (drew_al2 (w1 := W) (.cells #[.slice none 0 0, .slice none 0 0, .int .i64 0, .bool false] 25) (.cells #[] 35)) hg2 (drew_al2 (w1 := W) (.cells #[.slice none 0 0, .slice none 0 0, .int .i64 0, .bool false] 25) (.cells #[] 35)).size (fun g hg => by simp [Value.ownBlock] at hg; omega))
    obtain ⟨g, cap, rfl, hg1, hg3⟩ := HO2.out.form hn
    have HC6 := Lib.hid (show Cells X2 W.heap.size 25 [.slice none 0 0, .slice none 0 0, .int .i64 0, .bool false] from grownK ((show Cells (W.drew.alloc (.cells #[.slice none 0 0, .slice none 0 0, .int .i64 0, .bool false] 25)) W.heap.size 25 [.slice none 0 0, .slice none 0 0, .int .i64 0, .bool false] from Cells.new W.drew 25 [.slice none 0 0, .slice none 0 0, .int .i64 0, .bool false]).upb (al1 _ (.cells #[] 35))) hg2 (by simp))
    refine hK.out _ _ (fun _ => keep2 hlt (HB2.out) hW0) (fun hS => ?_)
    clear hK K ho2 hg2 hat2
    replace hS := hS (by decide)
    change wpAnyE _ _ _ _ _ _ _ _ { tmps := (u0 :: (.pointer (some ⟨B0, 0, none⟩)) :: u2 :: u3 :: u4 :: u5 :: (.pointer (some ⟨W.heap.size, 0, none⟩)) :: u7 :: u8 :: u9 :: u10 :: u11 :: u12 :: u13 :: u14 :: u15 :: u16 :: u17 :: u18 :: u19 :: u20 :: u21 :: u22 :: u23 :: u24 :: u25 :: u26 :: u27 :: u28 :: u29 :: u30 :: u31 :: (.slice (some ⟨W.heap.size + 1, 0, none⟩) 0 0) :: (.pointer (some ⟨B0, 0, none⟩)) :: (.slice A ss.length c) :: (.slice (some ⟨g, 0, none⟩) ss.length cap) :: (.pointer (some ⟨B0, 2, none⟩)) :: (.int .i64 l) :: u38 :: u39 :: u40 :: u41 :: u42 :: u43 :: u44 :: u45 :: u46 :: u47 :: u48 :: u49 :: u50 :: u51 :: u52 :: u53 :: u54 :: u55 :: u56 :: u57 :: u58 :: u59 :: u60 :: u61 :: u62 :: u63 :: u64 :: u65 :: u66 :: u67 :: u68 :: u69 :: u70 :: u71 :: u72 :: u73 :: u74 :: u75 :: u76 :: u77 :: u78 :: u79 :: u80 :: u81 :: u82 :: u83 :: u84 :: u85 :: u86 :: u87 :: u88 :: u89 :: u90 :: u91 :: u92 :: u93 :: u94 :: []).toArray, defers := [] } X2
    refine wpAnyE_take (i := 6) (v := (.agg #[.slice (some ⟨g, 0, none⟩) ss.length cap, .slice none 0 0, .int .i64 l, .bool false])) rfl (by kernel_rfl) (by kernel_rfl) (by kernel_rfl) (by kernel_rfl) (by kernel_rfl) (fun _ _ _ h => h) (.inl ⟨rfl, fun X hX => ?_⟩) hS ?_
    · obtain ⟨z1, z2⟩ := hX; go_simp
    change wpAnyE _ _ _ _ _ _ _ _ { tmps := (u0 :: (.pointer (some ⟨B0, 0, none⟩)) :: u2 :: u3 :: u4 :: u5 :: (.pointer (some ⟨W.heap.size, 0, none⟩)) :: u7 :: u8 :: u9 :: u10 :: u11 :: u12 :: u13 :: u14 :: u15 :: u16 :: u17 :: u18 :: u19 :: u20 :: u21 :: u22 :: u23 :: u24 :: u25 :: u26 :: u27 :: u28 :: u29 :: u30 :: u31 :: (.slice (some ⟨W.heap.size + 1, 0, none⟩) 0 0) :: (.pointer (some ⟨B0, 0, none⟩)) :: (.slice A ss.length c) :: (.slice (some ⟨g, 0, none⟩) ss.length cap) :: (.pointer (some ⟨B0, 2, none⟩)) :: (.int .i64 l) :: (.agg #[.slice (some ⟨g, 0, none⟩) ss.length cap, .slice none 0 0, .int .i64 l, .bool false]) :: u39 :: u40 :: u41 :: u42 :: u43 :: u44 :: u45 :: u46 :: u47 :: u48 :: u49 :: u50 :: u51 :: u52 :: u53 :: u54 :: u55 :: u56 :: u57 :: u58 :: u59 :: u60 :: u61 :: u62 :: u63 :: u64 :: u65 :: u66 :: u67 :: u68 :: u69 :: u70 :: u71 :: u72 :: u73 :: u74 :: u75 :: u76 :: u77 :: u78 :: u79 :: u80 :: u81 :: u82 :: u83 :: u84 :: u85 :: u86 :: u87 :: u88 :: u89 :: u90 :: u91 :: u92 :: u93 :: u94 :: []).toArray, defers := [] } _
    have c60 := HC6.out.cell (k := 0) rfl
    have c61 := HC6.out.cell (k := 1) rfl
    have c62 := HC6.out.cell (k := 2) rfl
    have c63 := HC6.out.cell (k := 3) rfl
    have d60 := HC6.out.frozen 0
    have d61 := HC6.out.frozen 1
    have d62 := HC6.out.frozen 2
    have d63 := HC6.out.frozen 3
    have hne6 : g ≠ W.heap.size := ownS_ne HO2.out HC6.out
    have HN := Lib.hid (fun u32 => hN u32 g cap _ _ (cpy_set HC6.out HO2.out HB2.out (by omega) hne6 l))
    refine wpAnyE_one (i := 8) (by kernel_rfl) rfl (fun K hK => ?_)
    go_simp
    refine hK.out _ _ (fun h => absurd rfl h) (fun _ => ?_)
    exact wpAnyE_done (by kernel_rfl) (NoPanic.normal (HN.out _)) _

end
section
open Go.RowKit
set_option linter.unusedVariables false
set_option linter.unusedSimpArgs false
set_option maxRecDepth 20000

theorem addr_of {W : World} {A : Option Addr} {n c : Nat} {bs : By} (h : IsBytes W (.slice A n c) bs) (hn : 0 < bs.length) : ∃ b off, A = some ⟨b, off, none⟩ := by
  obtain ⟨A', c', e, _, hr⟩ := h
  injection e with e
  subst e
  obtain ⟨b, off, e, _⟩ := hr (by intro h0; simp at h0; subst h0; simp at hn)
  exact ⟨b, off, e⟩

set_option maxHeartbeats 8000000 in
set_option maxRecDepth 100000 in
theorem refSync_any {d : Dk} {v : Value} {w : World} (hv : IsD w v d) :
    Calls Try.prog 48 #[v] w fun e w' => ∃ x, e = .returned (.tuple #[x, .int .i64 (Dv.syE d)]) ∧ IsD w' x (Dv.sy d) ∧ Below w.heap.size w w' := by
  have HV := Lib.hid hv
  obtain ⟨A, c, A2, c2, rfl, h1, h2⟩ := hv.open_
  obtain ⟨ss, ps, left, st⟩ := d
  simp only at HV h1 h2 ⊢
  have H1 := Lib.hid h1
  have H2 := Lib.hid h2
  clear hv h1 h2
  obtain ⟨e0, he⟩ : ∃ e, Dv.syE ⟨ss, ps, left, st⟩ = e := ⟨_, rfl⟩
  obtain ⟨r0, hr⟩ : ∃ e, Dv.sy ⟨ss, ps, left, st⟩ = e := ⟨_, rfl⟩
  rw [he, hr]
  have HE := Lib.hid he
  have HR := Lib.hid hr
  clear he hr
  have HX := Lib.hid ((Cells.new w 25 [Value.slice A ss.length c, Value.slice A2 ps.length c2, Value.int IntKind.i64 left, Value.bool st]).upb (al1 _ (.cells #[.slice none 0 0, .slice none 0 0, .int .i64 0, .bool false] 25)))
  have HZ := Lib.hid (Cells.new (w.alloc (.cells [Value.slice A ss.length c, Value.slice A2 ps.length c2, Value.int IntKind.i64 left, Value.bool st].toArray 25)) 25 [.slice none 0 0, .slice none 0 0, .int .i64 0, .bool false])
  have HB := Lib.hid ((al1 w (.cells [Value.slice A ss.length c, Value.slice A2 ps.length c2, Value.int IntKind.i64 left, Value.bool st].toArray 25)).up (al1 _ (.cells #[.slice none 0 0, .slice none 0 0, .int .i64 0, .bool false] 25)))
  obtain ⟨k0, hk0⟩ : ∃ k0, Dv.chk ⟨ss, ps, left, st⟩ = k0 := ⟨_, rfl⟩
  have HK0 := Lib.hid hk0
  have HRI := Lib.hid (show Dv.Run ⟨ss, ps, left, st⟩ ↔ k0 = 0 ∧ st = false by rw [← hk0]; exact run_iff)
  clear hk0
  go_enter Try.func48, Try.ntmps48
  go_wp2_with (fail)
  refine (refCheck_is (HV.out.upb HB.out) HK0.out).mono ?_
  rintro e w1 ⟨rfl, b1⟩
  have HX1 := Lib.hid (HX.out.upb b1)
  have HZ1 := Lib.hid (HZ.out.upb b1)
  have HB1 := Lib.hid (HB.out.up b1)
  clear b1 HX HZ HB
  simp only [World.size_alloc] at HZ1
  have hzw := HZ1.out.lt
  have z0 := HZ1.out.cell (k := 0) rfl
  have z1 := HZ1.out.cell (k := 1) rfl
  have z2 := HZ1.out.cell (k := 2) rfl
  have z3 := HZ1.out.cell (k := 3) rfl
  have f0 := HZ1.out.frozen 0
  have f1 := HZ1.out.frozen 1
  have f2 := HZ1.out.frozen 2
  have f3 := HZ1.out.frozen 3
  have hxw := HX1.out.lt
  have x0 := HX1.out.cell (k := 0) rfl
  have x1 := HX1.out.cell (k := 1) rfl
  have x2 := HX1.out.cell (k := 2) rfl
  have x3 := HX1.out.cell (k := 3) rfl
  by_cases hk : k0 = 0
  case neg =>
    have hkb : (k0 != 0) = true := by simpa using hk
    have hkc : (k0 == 0) = false := by simpa using hk
    have hn : ¬ Dv.Run ⟨ss, ps, left, st⟩ := fun h => hk (HRI.out.1 h).1
    obtain rfl : e0 = 40 := by rw [← HE.out]; exact if_neg hn
    obtain rfl : r0 = d0 := by rw [← HR.out]; exact if_neg hn
    clear hk hn
    go_wp2_with (fail)
    refine bodyPost_ret (dk_out rfl rfl rfl (HZ1.out.set4 (.slice none 0 0) (.slice none 0 0) (.int .i64 0) (.bool false))) rfl ?_
    exact ⟨_, rfl, IsD.zero, below_set4 HB1.out (by omega) _ _ _ _⟩
  case pos =>
  subst hk
  cases st with
  | true =>
    have hn : ¬ Dv.Run ⟨ss, ps, left, true⟩ := fun h => by have := h.2; cases this
    obtain rfl : e0 = 40 := by rw [← HE.out]; exact if_neg hn
    obtain rfl : r0 = d0 := by rw [← HR.out]; exact if_neg hn
    clear hn
    go_wp2_with (fail)
    refine bodyPost_ret (dk_out rfl rfl rfl (HZ1.out.set4 (.slice none 0 0) (.slice none 0 0) (.int .i64 0) (.bool false))) rfl ?_
    exact ⟨_, rfl, IsD.zero, below_set4 HB1.out (by omega) _ _ _ _⟩
  | false =>
  have HRUN := Lib.hid (HRI.out.2 ⟨rfl, rfl⟩)
  have HOK := Lib.hid (show ∀ k (h : k < ps.length), 0 ≤ ps[k].at_ ∧ ps[k].at_ < (ss.length : Int) ∧ ps[k].data.length = 128 from fun k h => HRUN.out.1.w h)
  have HLN := Lib.hid (show 1 ≤ ss.length ∧ ss.length ≤ 4096 ∧ ps.length ≤ 4096 from ⟨HRUN.out.1.n1, HRUN.out.1.n2, HRUN.out.1.p2⟩)
  have HS128 := Lib.hid (show ∀ (j : Nat), ∀ q ∈ Dv.put ss (ps.take j), q.length = 128 from fun j => put_128 (fun q hq => Dv.any_ss.1 HRUN.out.1.ss q hq) (fun q hq => (Dv.any_ps.1 HRUN.out.1.ps q (List.mem_of_mem_take hq)).2.2))
  by_cases hs : 0 ≤ left ∧ left < (ps.length : Int)
  · have dt1 : decide (0 ≤ left) = true := decide_eq_true hs.1
    have dt2 : decide (left < (ps.length : Int)) = true := decide_eq_true hs.2
    obtain ⟨k, rfl⟩ : ∃ k : Nat, left = k := ⟨left.toNat, by omega⟩
    have hk : k < ps.length := by omega
    obtain rfl : e0 = 40 := by rw [← HE.out]; unfold Dv.syE; rw [if_pos HRUN.out, if_pos (show Dv.Stops ⟨ss, ps, (k : Int), false⟩ from hs)]
    have HR2 := Lib.hid (show r0 = ⟨Dv.halfS ⟨ss, ps, k, false⟩ k, [], 0, true⟩ by rw [← HR.out]; unfold Dv.sy; rw [if_pos HRUN.out, if_pos (show Dv.Stops ⟨ss, ps, (k : Int), false⟩ from hs)]; rfl)
    have hlt64 : ps.length ≤ 4096 := HLN.out.2.2
    clear hs
    go_wp2_with (fail)
    refine copy_region ⟨x0, x2⟩ (H1.out.upb HB1.out) HLN.out.1 HLN.out.2.1 ?_
    rintro v32 g cap B6 X3 hc3
    clear z0 z1 z2 z3 f0 f1 f2 f3 x0 x1 x2 x3 hzw hxw
    have HC3 := Lib.hid hc3
    clear hc3
    go_wp2_with (fail)
    go_loopw [7] (fun i wr => ∃ j : Nat, i = .int .i64 j ∧ j ≤ k ∧ Hid (Cpy w1 wr B6 g cap ss.length (Dv.put ss (ps.take j)) (k : Int) false)) (fun i _ => k - (intOf i).toNat)
    case atStart => exact ⟨0, rfl, Nat.zero_le _, HC3⟩
    case round =>
      obtain ⟨j, rfl, hj, HC⟩ := hrel
      have HXr := Lib.hid (HX1.out.upb HC.out.bel)
      have x1 := HXr.out.cell (k := 1) rfl
      have hxr := HXr.out.lt
      have c60 := HC.out.b.cell (k := 0) rfl
      have c6l := HC.out.b.lt
      by_cases hlt2 : j < k
      · have hjl : j < ps.length := by omega
        have hjd : decide ((j : Int) < (k : Int)) = true := decide_eq_true (by omega)
        obtain ⟨b, off, A', c', hA, hbb, hc1, hc2, hc3⟩ := ws_at H2.out hjl
        subst hA
        have h1 : wr.cell? ⟨b, off + j * 2, none⟩ = some (.int .i64 ps[j].at_) := by rw [(bcell (HB1.out.up HC.out.bel)).1 b _ hbb, hc1]
        have h2 : wr.cell? ⟨b, off + j * 2 + 1, none⟩ = some (.slice A' ps[j].data.length c') := by rw [(bcell (HB1.out.up HC.out.bel)).1 b _ hbb, hc2]
        have hbw : b < wr.heap.size := Nat.lt_of_lt_of_le hbb (HB1.out.up HC.out.bel).size
        have H3 := Lib.hid (hc3.upb HB1.out)
        have HS := Lib.hid (Dv.put_succ hjl ss)
        have hr := HOK.out j hjl
        clear hc1 hc2 hc3
        generalize ps[j] = p at *
        obtain ⟨at0, data⟩ := p
        simp only at h1 h2 H3 HS hr
        obtain ⟨m, rfl⟩ : ∃ m : Nat, at0 = m := ⟨at0.toNat, by omega⟩
        have hmn : m < ss.length := by omega
        have hpl : m < (Dv.put ss (ps.take j)).length := by rw [Dv.put_len]; exact hmn
        obtain ⟨v5, hcc⟩ : ∃ v5, wr.cell? ⟨g, m, none⟩ = some v5 := by obtain ⟨A5, c5, hcc, _⟩ := HC.out.o.cell hpl; exact ⟨_, hcc⟩
        have hff := HC.out.o.frozen m
        have HXn := Lib.hid (HC.out.drew.row m (OffB.of H3.out (show Below w1.heap.size w1 wr.drew from HC.out.drew.bel) (by intro g' h; injection h with h; have := HC.out.glt; omega)))
        clear hr hpl
        go_wp2_with (fail)
        go_still_tail 15, (by kernel_rfl)
        go_wp2_with (fail)
        go_roundw
        case rel => exact ⟨j + 1, by go_num, by omega, by rw [HS.out]; exact HXn⟩
        case measure => first | omega | (simp [intOf]; done) | (simp [intOf]; omega)
      · have hjk : j = k := by omega
        subst hjk
        have hd9 : decide ((j : Int) < (j : Int)) = false := decide_eq_false (by omega)
        obtain ⟨b, off, A', c', hA, hbb, hc1, hc2, hc3⟩ := ws_at H2.out hk
        subst hA
        have h1 : wr.cell? ⟨b, off + j * 2, none⟩ = some (.int .i64 ps[j].at_) := by rw [(bcell (HB1.out.up HC.out.bel)).1 b _ hbb, hc1]
        have h2 : wr.cell? ⟨b, off + j * 2 + 1, none⟩ = some (.slice A' ps[j].data.length c') := by rw [(bcell (HB1.out.up HC.out.bel)).1 b _ hbb, hc2]
        have hbw : b < wr.heap.size := Nat.lt_of_lt_of_le hbb (HB1.out.up HC.out.bel).size
        have H3 := Lib.hid hc3
        have hr3 := HOK.out j hk
        have HPS := Lib.hid (show ps[j]? = some ps[j] from List.getElem?_eq_getElem hk)
        obtain ⟨SS, hSS⟩ : ∃ SS, Dv.put ss (ps.take j) = SS := ⟨_, rfl⟩
        have HSL := Lib.hid (show SS.length = ss.length by rw [← hSS, Dv.put_len])
        have HSS := Lib.hid hSS
        rw [hSS] at HC
        clear hc1 hc2 hc3 hSS
        generalize ps[j] = p at *
        obtain ⟨at0, data⟩ := p
        simp only at h1 h2 H3 HPS hr3
        obtain ⟨m, rfl⟩ : ∃ m : Nat, at0 = m := ⟨at0.toNat, by omega⟩
        have hmn : m < ss.length := by omega
        have hdl : data.length = 128 := hr3.2.2
        have hml : m < SS.length := by rw [HSL.out]; exact hmn
        obtain ⟨OB, hOB⟩ : ∃ OB, SS[m]? = some OB := ⟨_, List.getElem?_eq_getElem hml⟩
        have hs128 : OB.length = 128 := HS128.out j _ (by rw [HSS.out]; exact List.mem_of_getElem? hOB)
        have HOB := Lib.hid hOB
        obtain ⟨A5, c5, hcc, hcb⟩ := HC.out.o.cellq hOB
        have hc5 : 128 ≤ c5 := by obtain ⟨_, c9, e9, h9, _⟩ := id hcb; injection e9 with _ _ e9; omega
        have hcp : 128 ≤ c' := by obtain ⟨_, c9, e9, h9, _⟩ := id H3.out; injection e9 with _ _ e9; omega
        obtain ⟨b5, off5, rfl⟩ := addr_of hcb (by omega)
        rw [hs128] at hcc hcb
        rw [hdl] at h2 H3
        have HCB := Lib.hid hcb
        have HL128 := Lib.hid (And.intro hs128 hdl)
        have hgw : g < wr.heap.size := cell_lt hcc
        have hff := HC.out.o.frozen m
        have HK4 := Lib.hid (Cells.new wr 76 [.int .i64 m, .slice A' 128 c'])
        have HAL := Lib.hid (al1 wr (.cells #[.int .i64 m, .slice A' 128 c'] 76))
        clear hcb hr3 hOB hs128 hdl
        go_wp2_with (fail)
        refine tear_region (g := g) (m := m) (n := ss.length) (cap := cap) (data := data) (OB := OB) (B6 := B6) (B8 := wr.heap.size) ⟨?_, ?_, ?_, ?_⟩ ?_ hmn ((H3.out.upb (HB1.out.up HC.out.bel)).upb HAL.out) (HCB.out.upb HAL.out) HL128.out.2 HL128.out.1 hcp hc5 ?_
        · exact (HC.out.b.upb HAL.out).cell rfl
        · exact HK4.out.cell rfl
        · exact HK4.out.cell rfl
        · exact ((bcell HAL.out).1 g m hgw).trans hcc
        · exact ((bcell HAL.out).2 g m hgw).trans hff
        rintro v1 v2 X4 ho4 hb4
        obtain ⟨A4, c4, e4⟩ := ho4.shape
        rw [show (data.take 64 ++ OB.drop 64).length = 128 by rw [List.length_append, List.length_take, List.length_drop, HL128.out.1, HL128.out.2]; rfl] at e4
        subst e4
        have HC4 := Lib.hid (((HC.out.upb HAL.out).upb hb4).row m (ho4.off (g := g) (by simp; omega)))
        clear ho4 hb4 h1 h2 hcc hff c60 x1
        have HZ4 := Lib.hid (HZ1.out.upb HC4.out.bel)
        have HB4 := Lib.hid (HB1.out.up HC4.out.bel)
        generalize X4.setCell ⟨g, m, none⟩ (.slice A4 128 c4) = X5 at *
        have c60 := HC4.out.b.cell (k := 0) rfl
        have c61 := HC4.out.b.cell (k := 1) rfl
        have c62 := HC4.out.b.cell (k := 2) rfl
        have c63 := HC4.out.b.cell (k := 3) rfl
        have d62 := HC4.out.b.frozen 2
        have d63 := HC4.out.b.frozen 3
        have hlo := HC4.out.lo
        have hB1 := HZ1.out.lt
        have n6 : w.heap.size + 1 ≠ B6 := by omega
        have n6' : B6 ≠ w.heap.size + 1 := by omega
        have hzw := HZ4.out.lt
        have z0 := HZ4.out.cell (k := 0) rfl
        have z1 := HZ4.out.cell (k := 1) rfl
        have z2 := HZ4.out.cell (k := 2) rfl
        have z3 := HZ4.out.cell (k := 3) rfl
        have f0 := HZ4.out.frozen 0
        have f1 := HZ4.out.frozen 1
        have f2 := HZ4.out.frozen 2
        have f3 := HZ4.out.frozen 3
        go_wp2_with (fail)
        have HC5 := (HC4.out.fld2 0).fld3 true
        have HZ5 := HZ1.out.upb HC5.bel
        have HB5 := HB1.out.up HC5.bel
        have HO6 := HC5.o.box HZ5 (grown_set4 _ (w.heap.size + 1) (.slice (some ⟨g, 0, none⟩) ss.length cap) (.slice none 0 0) (.int .i64 0) (.bool true))
        have HZ6 := HZ5.set4 (.slice (some ⟨g, 0, none⟩) ss.length cap) (.slice none 0 0) (.int .i64 0) (.bool true)
        have hb := below_set4 HB5 (show w.heap.size ≤ w.heap.size + 1 by omega) (.slice (some ⟨g, 0, none⟩) ss.length cap) (.slice none 0 0) (.int .i64 0) (.bool true)
        refine bodyPost_ret (dk_out rfl rfl rfl HZ6) rfl ?_
        refine ⟨_, rfl, ?_, hb⟩
        have hfin : r0 = ⟨SS.set m (data.take 64 ++ OB.drop 64), [], 0, true⟩ := by
          rw [HR2.out]
          have h9 := HOB.out
          rw [← HSS.out] at h9 ⊢
          simp only [Dv.halfS, HPS.out, Int.toNat_natCast, List.getD_eq_getElem?_getD, h9, Option.getD_some]
          rfl
        rw [hfin]
        exact isD_mk HO6.is IsWs.nil
  · have hns : ¬ Dv.Stops ⟨ss, ps, left, false⟩ := hs
    obtain rfl : e0 = 0 := by rw [← HE.out]; unfold Dv.syE; rw [if_pos HRUN.out, if_neg hns]
    have HR1 := Lib.hid (show r0 = ⟨Dv.put ss ps, [], if 0 ≤ left then left - ps.length else left, false⟩ by rw [← HR.out]; unfold Dv.sy; rw [if_pos HRUN.out, if_neg hns])
    have hl2 := HRUN.out.1.l2
    have hlt64 : ps.length ≤ 4096 := HLN.out.2.2
    simp only at hl2
    clear hns
    by_cases h0 : 0 ≤ left
    · have dt1 : decide (0 ≤ left) = true := decide_eq_true h0
      have dt2 : decide (left < (ps.length : Int)) = false := decide_eq_false (by omega)
      have HR2 := Lib.hid (show r0 = ⟨Dv.put ss ps, [], left - ps.length, false⟩ by rw [HR1.out, if_pos h0])
      have hw64 : IntKind.i64.wrap (left - (ps.length : Int)) = left - (ps.length : Int) := by rw [IntKind.wrap_i64]; omega
      have hw65 : (0 : Int) ≤ left - (ps.length : Int) := by omega
      have hw66 : left - (ps.length : Int) ≤ 65536 := by omega
      clear hs
      go_wp2_with (fail)
      refine copy_region ⟨x0, x2⟩ (H1.out.upb HB1.out) HLN.out.1 HLN.out.2.1 ?_
      rintro v32 g cap B6 X3 hc3
      clear z0 z1 z2 z3 f0 f1 f2 f3 x0 x1 x2 x3 hzw hxw
      have HC3 := Lib.hid hc3
      clear hc3
      go_wp2_with (fail)
      go_loopw [7] (fun i wr => ∃ j : Nat, i = .int .i64 j ∧ j ≤ ps.length ∧ Hid (Cpy w1 wr B6 g cap ss.length (Dv.put ss (ps.take j)) left false)) (fun i _ => ps.length - (intOf i).toNat)
      case atStart => exact ⟨0, rfl, Nat.zero_le _, HC3⟩
      case round =>
        obtain ⟨j, rfl, hj, HC⟩ := hrel
        have HXr := Lib.hid (HX1.out.upb HC.out.bel)
        have x1 := HXr.out.cell (k := 1) rfl
        have hxr := HXr.out.lt
        have c60 := HC.out.b.cell (k := 0) rfl
        have c6l := HC.out.b.lt
        by_cases hlt2 : j < ps.length
        · have hjl : j < ps.length := by omega
          have hjd : decide ((j : Int) < (ps.length : Int)) = true := decide_eq_true (by omega)
          obtain ⟨b, off, A', c', hA, hbb, hc1, hc2, hc3⟩ := ws_at H2.out hjl
          subst hA
          have h1 : wr.cell? ⟨b, off + j * 2, none⟩ = some (.int .i64 ps[j].at_) := by rw [(bcell (HB1.out.up HC.out.bel)).1 b _ hbb, hc1]
          have h2 : wr.cell? ⟨b, off + j * 2 + 1, none⟩ = some (.slice A' ps[j].data.length c') := by rw [(bcell (HB1.out.up HC.out.bel)).1 b _ hbb, hc2]
          have hbw : b < wr.heap.size := Nat.lt_of_lt_of_le hbb (HB1.out.up HC.out.bel).size
          have H3 := Lib.hid (hc3.upb HB1.out)
          have HS := Lib.hid (Dv.put_succ hjl ss)
          have hr := HOK.out j hjl
          clear hc1 hc2 hc3
          generalize ps[j] = p at *
          obtain ⟨at0, data⟩ := p
          simp only at h1 h2 H3 HS hr
          obtain ⟨m, rfl⟩ : ∃ m : Nat, at0 = m := ⟨at0.toNat, by omega⟩
          have hmn : m < ss.length := by omega
          have hpl : m < (Dv.put ss (ps.take j)).length := by rw [Dv.put_len]; exact hmn
          obtain ⟨v5, hcc⟩ : ∃ v5, wr.cell? ⟨g, m, none⟩ = some v5 := by obtain ⟨A5, c5, hcc, _⟩ := HC.out.o.cell hpl; exact ⟨_, hcc⟩
          have hff := HC.out.o.frozen m
          have HXn := Lib.hid (HC.out.drew.row m (OffB.of H3.out (show Below w1.heap.size w1 wr.drew from HC.out.drew.bel) (by intro g' h; injection h with h; have := HC.out.glt; omega)))
          clear hr hpl
          go_wp2_with (fail)
          go_still_tail 15, (by kernel_rfl)
          go_wp2_with (fail)
          go_roundw
          case rel => exact ⟨j + 1, by go_num, by omega, by rw [HS.out]; exact HXn⟩
          case measure => first | omega | (simp [intOf]; done) | (simp [intOf]; omega)
        · have hjk : j = ps.length := by omega
          subst hjk
          have hd9 : decide ((ps.length : Int) < (ps.length : Int)) = false := decide_eq_false (by omega)
          have HC4 := Lib.hid (show Cpy w1 wr B6 g cap ss.length (Dv.put ss ps) left false by have := HC.out; rwa [List.take_length] at this)
          have HZ4 := Lib.hid (HZ1.out.upb HC4.out.bel)
          clear x1
          have c61 := HC4.out.b.cell (k := 1) rfl
          have c62 := HC4.out.b.cell (k := 2) rfl
          have c63 := HC4.out.b.cell (k := 3) rfl
          have d62 := HC4.out.b.frozen 2
          have hlo := HC4.out.lo
          have hB1 := HZ1.out.lt
          have n6 : w.heap.size + 1 ≠ B6 := by omega
          have n6' : B6 ≠ w.heap.size + 1 := by omega
          have hzw := HZ4.out.lt
          have z0 := HZ4.out.cell (k := 0) rfl
          have z1 := HZ4.out.cell (k := 1) rfl
          have z2 := HZ4.out.cell (k := 2) rfl
          have z3 := HZ4.out.cell (k := 3) rfl
          have f0 := HZ4.out.frozen 0
          have f1 := HZ4.out.frozen 1
          have f2 := HZ4.out.frozen 2
          have f3 := HZ4.out.frozen 3
          go_wp2_with (fail)
          have HC5 := HC4.out.fld2 (left - ps.length)
          have HZ5 := HZ1.out.upb HC5.bel
          have HB5 := HB1.out.up HC5.bel
          have HO6 := HC5.o.box HZ5 (grown_set4 _ (w.heap.size + 1) (.slice (some ⟨g, 0, none⟩) ss.length cap) (.slice none 0 0) (.int .i64 (left - ps.length)) (.bool false))
          have HZ6 := HZ5.set4 (.slice (some ⟨g, 0, none⟩) ss.length cap) (.slice none 0 0) (.int .i64 (left - ps.length)) (.bool false)
          have hb := below_set4 HB5 (show w.heap.size ≤ w.heap.size + 1 by omega) (.slice (some ⟨g, 0, none⟩) ss.length cap) (.slice none 0 0) (.int .i64 (left - ps.length)) (.bool false)
          refine bodyPost_ret (dk_out rfl rfl rfl HZ6) rfl ?_
          exact ⟨_, rfl, by rw [HR2.out]; exact isD_mk HO6.is IsWs.nil, hb⟩
    · have dt1 : decide (0 ≤ left) = false := decide_eq_false h0
      have HR2 := Lib.hid (show r0 = ⟨Dv.put ss ps, [], left, false⟩ by rw [HR1.out, if_neg h0])
      clear hs
      go_wp2_with (fail)
      refine copy_region ⟨x0, x2⟩ (H1.out.upb HB1.out) HLN.out.1 HLN.out.2.1 ?_
      rintro v32 g cap B6 X3 hc3
      clear z0 z1 z2 z3 f0 f1 f2 f3 x0 x1 x2 x3 hzw hxw
      have HC3 := Lib.hid hc3
      clear hc3
      go_wp2_with (fail)
      go_loopw [7] (fun i wr => ∃ j : Nat, i = .int .i64 j ∧ j ≤ ps.length ∧ Hid (Cpy w1 wr B6 g cap ss.length (Dv.put ss (ps.take j)) left false)) (fun i _ => ps.length - (intOf i).toNat)
      case atStart => exact ⟨0, rfl, Nat.zero_le _, HC3⟩
      case round =>
        obtain ⟨j, rfl, hj, HC⟩ := hrel
        have HXr := Lib.hid (HX1.out.upb HC.out.bel)
        have x1 := HXr.out.cell (k := 1) rfl
        have hxr := HXr.out.lt
        have c60 := HC.out.b.cell (k := 0) rfl
        have c6l := HC.out.b.lt
        by_cases hlt2 : j < ps.length
        · have hjl : j < ps.length := by omega
          have hjd : decide ((j : Int) < (ps.length : Int)) = true := decide_eq_true (by omega)
          obtain ⟨b, off, A', c', hA, hbb, hc1, hc2, hc3⟩ := ws_at H2.out hjl
          subst hA
          have h1 : wr.cell? ⟨b, off + j * 2, none⟩ = some (.int .i64 ps[j].at_) := by rw [(bcell (HB1.out.up HC.out.bel)).1 b _ hbb, hc1]
          have h2 : wr.cell? ⟨b, off + j * 2 + 1, none⟩ = some (.slice A' ps[j].data.length c') := by rw [(bcell (HB1.out.up HC.out.bel)).1 b _ hbb, hc2]
          have hbw : b < wr.heap.size := Nat.lt_of_lt_of_le hbb (HB1.out.up HC.out.bel).size
          have H3 := Lib.hid (hc3.upb HB1.out)
          have HS := Lib.hid (Dv.put_succ hjl ss)
          have hr := HOK.out j hjl
          clear hc1 hc2 hc3
          generalize ps[j] = p at *
          obtain ⟨at0, data⟩ := p
          simp only at h1 h2 H3 HS hr
          obtain ⟨m, rfl⟩ : ∃ m : Nat, at0 = m := ⟨at0.toNat, by omega⟩
          have hmn : m < ss.length := by omega
          have hpl : m < (Dv.put ss (ps.take j)).length := by rw [Dv.put_len]; exact hmn
          obtain ⟨v5, hcc⟩ : ∃ v5, wr.cell? ⟨g, m, none⟩ = some v5 := by obtain ⟨A5, c5, hcc, _⟩ := HC.out.o.cell hpl; exact ⟨_, hcc⟩
          have hff := HC.out.o.frozen m
          have HXn := Lib.hid (HC.out.drew.row m (OffB.of H3.out (show Below w1.heap.size w1 wr.drew from HC.out.drew.bel) (by intro g' h; injection h with h; have := HC.out.glt; omega)))
          clear hr hpl
          go_wp2_with (fail)
          go_still_tail 15, (by kernel_rfl)
          go_wp2_with (fail)
          go_roundw
          case rel => exact ⟨j + 1, by go_num, by omega, by rw [HS.out]; exact HXn⟩
          case measure => first | omega | (simp [intOf]; done) | (simp [intOf]; omega)
        · have hjk : j = ps.length := by omega
          subst hjk
          have hd9 : decide ((ps.length : Int) < (ps.length : Int)) = false := decide_eq_false (by omega)
          have HC4 := Lib.hid (show Cpy w1 wr B6 g cap ss.length (Dv.put ss ps) left false by have := HC.out; rwa [List.take_length] at this)
          have HZ4 := Lib.hid (HZ1.out.upb HC4.out.bel)
          clear x1
          have c61 := HC4.out.b.cell (k := 1) rfl
          have c62 := HC4.out.b.cell (k := 2) rfl
          have c63 := HC4.out.b.cell (k := 3) rfl
          have d62 := HC4.out.b.frozen 2
          have hlo := HC4.out.lo
          have hB1 := HZ1.out.lt
          have n6 : w.heap.size + 1 ≠ B6 := by omega
          have n6' : B6 ≠ w.heap.size + 1 := by omega
          have hzw := HZ4.out.lt
          have z0 := HZ4.out.cell (k := 0) rfl
          have z1 := HZ4.out.cell (k := 1) rfl
          have z2 := HZ4.out.cell (k := 2) rfl
          have z3 := HZ4.out.cell (k := 3) rfl
          have f0 := HZ4.out.frozen 0
          have f1 := HZ4.out.frozen 1
          have f2 := HZ4.out.frozen 2
          have f3 := HZ4.out.frozen 3
          go_wp2_with (fail)
          have HC5 := HC4.out
          have HZ5 := HZ1.out.upb HC5.bel
          have HB5 := HB1.out.up HC5.bel
          have HO6 := HC5.o.box HZ5 (grown_set4 _ (w.heap.size + 1) (.slice (some ⟨g, 0, none⟩) ss.length cap) (.slice none 0 0) (.int .i64 (left)) (.bool false))
          have HZ6 := HZ5.set4 (.slice (some ⟨g, 0, none⟩) ss.length cap) (.slice none 0 0) (.int .i64 (left)) (.bool false)
          have hb := below_set4 HB5 (show w.heap.size ≤ w.heap.size + 1 by omega) (.slice (some ⟨g, 0, none⟩) ss.length cap) (.slice none 0 0) (.int .i64 (left)) (.bool false)
          refine bodyPost_ret (dk_out rfl rfl rfl HZ6) rfl ?_
          exact ⟨_, rfl, by rw [HR2.out]; exact isD_mk HO6.is IsWs.nil, hb⟩
end
end Go.Proofs.Ytkcnanclpkongaa
