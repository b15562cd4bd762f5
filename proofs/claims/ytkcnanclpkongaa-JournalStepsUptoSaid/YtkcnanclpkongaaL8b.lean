/- The regions of JournalSteps that add records and write them. -/
import Derived.Test.YtkcnanclpkongaaTC
import Derived.Deep.RegionHeld3
namespace Go.Proofs.Ytkcnanclpkongaa
open Go.RowKit
set_option linter.unusedVariables false
set_option linter.unusedSimpArgs false
set_option maxRecDepth 20000

theorem IsBs.offF {W W' : World} {v : Value} {rs : List By} (h : IsBs W v rs) {B : Nat} (hnb : NR B v rs) {A n c A2 n2 c2 l st} (hC : Cells W B 25 [.slice A n c, .slice A2 n2 c2, .int .i64 l, .bool st]) (hg : W.grownBy W' (some B)) : IsBs W' v rs := by
  by_cases hr : rs = []
  · subst hr
    obtain ⟨A', c', vs, e1, hc, hl, _, hi⟩ := h
    obtain rfl : vs = [] := List.eq_nil_of_length_eq_zero hl
    exact ⟨A', c', [], e1, hc, rfl, fun h0 => absurd rfl h0, fun i h => by simp at h⟩
  · exact h.offD (hnb hr) hC hg
theorem box_ne {X : World} {b1 b2 : Nat} {A A2 A3 : Option Addr} {n c n2 c2 n3 c3 : Nat} {m s l : Int} {t : Bool} (h1 : Cells X b1 29 [.slice A n c, .int .i64 m, .int .i64 s]) (h2 : Cells X b2 25 [.slice A2 n2 c2, .slice A3 n3 c3, .int .i64 l, .bool t]) : b1 ≠ b2 := fun h => by
  subst h
  have q1 := h1.cell (k := 1) rfl
  have q2 := h2.cell (k := 1) rfl
  rw [q1] at q2
  injection q2 with q2
  cases q2
theorem Add_is {u : Value} {A : Option Addr} {c : Nat} {s : Int} {js rs jb : List By} {w : World} (hv : IsJ w (.agg #[.slice A js.length c, .int .i64 40, .int .i64 s]) ⟨js, 40, s⟩) (hu : IsBs w u rs) (hl : rs.length ≤ 9223372036854775807) (hle : ∀ k (h : k < rs.length), rs[k].length ≤ 140737488351232) (hs : 0 ≤ s ∧ s ≤ js.length) (hus : Jn.used js ≤ 40) (ha : Jn.addN 40 js rs = jb) :
    Calls Try.prog 28 #[.agg #[.slice A js.length c, .int .i64 40, .int .i64 s], u] w fun e w' => ∃ A' c', e = .returned (.agg #[.slice A' jb.length c', .int .i64 40, .int .i64 s]) ∧ IsJ w' (.agg #[.slice A' jb.length c', .int .i64 40, .int .i64 s]) ⟨jb, 40, s⟩ ∧ Below w.heap.size w w' ∧
      ∀ B, B < w.heap.size → NR B (.slice A js.length c) js → NR B (.slice A' jb.length c') jb := by subst ha; exact Add_any hv hu hl hle hs hus
noncomputable def sops (n : Nat) : Array Oper := match Try.f8.body.bind (findRegion n) with
  | some (.region _ ops _) => ops
  | _ => #[]
set_option maxHeartbeats 4000000 in
set_option maxRecDepth 100000 in
theorem steps_reg11 {Q : Exit → Act → World → Prop} {a : Act} {W : World} {u0 : Value} {BJ BD : Nat} {A0 A5 A6 : Option Addr} {c0 c5 c6 : Nat} {s : Int} {js jb rs0 ss s1 : List By}
    (hsz : a.tmps.size = 154) (e7 : a.eval (.tmp 7) = .func (.func 28) #[] #[]) (eJ : a.eval (.tmp 8) = .pointer (some ⟨BJ, 0, none⟩)) (eD : a.eval (.tmp 5) = .pointer (some ⟨BD, 0, none⟩)) (er0 : a.eval (.tmp 0) = u0) (hu0 : IsBs W u0 rs0) (hl0 : rs0.length ≤ 9223372036854775807) (hle0 : ∀ k (h : k < rs0.length), rs0[k].length ≤ 140737488351232)
    (zJ : Cells W BJ 29 [.slice A0 js.length c0, .int .i64 40, .int .i64 s]) (zD : Cells W BD 25 [.slice A5 ss.length c5, .slice A6 0 c6, .int .i64 (-1), .bool false]) (hj : IsJ W (.agg #[.slice A0 js.length c0, .int .i64 40, .int .i64 s]) ⟨js, 40, s⟩) (hd : IsD W (.agg #[.slice A5 ss.length c5, .slice A6 0 c6, .int .i64 (-1), .bool false]) ⟨ss, [], -1, false⟩)
    (hs : 0 ≤ s ∧ s ≤ js.length) (hus0 : Jn.used js ≤ 40) (hus1 : Jn.used jb ≤ 40) (ha0 : Jn.addN 40 js rs0 = jb)
    (sE : Jn.syncE ⟨jb, 40, s⟩ ⟨ss, [], -1, false⟩ = 0) (sJ : Jn.syncJ ⟨jb, 40, s⟩ ⟨ss, [], -1, false⟩ = ⟨jb, 40, jb.length⟩) (sD : Jn.syncD ⟨jb, 40, s⟩ ⟨ss, [], -1, false⟩ = ⟨s1, [], -1, false⟩)
    (hN : ∀ (X : World) (b1 b2 : Nat) (w1 : Value) (A2 A3 A4 : Option Addr) (c2 c3 c4 : Nat), Below W.heap.size W X → W.heap.size ≤ b1 → W.heap.size ≤ b2 → Cells X b1 29 [.slice A2 jb.length c2, .int .i64 40, .int .i64 jb.length] → Cells X b2 25 [.slice A3 s1.length c3, .slice A4 0 c4, .int .i64 (-1), .bool false] → IsJ X (.agg #[.slice A2 jb.length c2, .int .i64 40, .int .i64 jb.length]) ⟨jb, 40, jb.length⟩ → IsD X (.agg #[.slice A3 s1.length c3, .slice A4 0 c4, .int .i64 (-1), .bool false]) ⟨s1, [], -1, false⟩ → Q .normal (((((((((((((a.put (some 67) (.func (.func 28) #[] #[])).put (some 68) ((.agg #[.slice A0 js.length c0, .int .i64 40, .int .i64 s]))).put (some 69) (u0)).put (some 71) ((.agg #[.slice A5 ss.length c5, .slice A6 0 c6, .int .i64 (-1), .bool false]))).put (some 70) (w1)).put (some 72) ((.tuple #[(.agg #[.slice A2 jb.length c2, .int .i64 40, .int .i64 jb.length]), (.agg #[.slice A3 s1.length c3, .slice A4 0 c4, .int .i64 (-1), .bool false]), .int .i64 0]))).put (some 66) ((.tuple #[(.agg #[.slice A2 jb.length c2, .int .i64 40, .int .i64 jb.length]), (.agg #[.slice A3 s1.length c3, .slice A4 0 c4, .int .i64 (-1), .bool false]), .int .i64 0]))).put (some 73) ((.agg #[.slice A2 jb.length c2, .int .i64 40, .int .i64 jb.length]))).put (some 74) ((.agg #[.slice A3 s1.length c3, .slice A4 0 c4, .int .i64 (-1), .bool false]))).put (some 75) ((.int .i64 0))).put (some 13) (.pointer (some ⟨b1, 0, none⟩))).put (some 14) (.pointer (some ⟨b2, 0, none⟩))).put (some 15) (.int .i64 0)) X) :
    (Code.region 11 (sops 11) true).wp Try.prog Q a W := by
  have hb0 : Below W.heap.size W W.drew := below_drewN (Below.refl _ W) 1
  have hsize : (sops 11).size = 15 := by kernel_rfl
  refine wp_region_noPanic ?_
  refine wp_region_U 14 (fun X => Below W.heap.size W X) (by kernel_rfl) ?_
  rw [hsize]
  have s211 : ∀ (X : World) (w1 : Value) (A2 A3 A4 : Option Addr) (c2 c3 c4 : Nat) (b1 : Nat) (b2 : Nat), Below W.heap.size W X → IsJ X (.agg #[.slice A2 jb.length c2, .int .i64 40, .int .i64 jb.length]) ⟨jb, 40, jb.length⟩ → IsD X (.agg #[.slice A3 s1.length c3, .slice A4 0 c4, .int .i64 (-1), .bool false]) ⟨s1, [], -1, false⟩ → Cells X b1 29 [.slice none 0 0, .int .i64 0, .int .i64 0] → W.heap.size ≤ b1 → NR b1 (.slice A2 jb.length c2) jb → NB b1 (.agg #[.slice A3 s1.length c3, .slice A4 0 c4, .int .i64 (-1), .bool false]) (⟨s1, [], -1, false⟩ : Dk) → Cells X b2 25 [.slice none 0 0, .slice none 0 0, .int .i64 0, .bool false] → W.heap.size ≤ b2 → NR b2 (.slice A2 jb.length c2) jb → NB b2 (.agg #[.slice A3 s1.length c3, .slice A4 0 c4, .int .i64 (-1), .bool false]) (⟨s1, [], -1, false⟩ : Dk) → wpAnyU Try.prog .any (sops 11) (NoPanic Q) (fun X => Below W.heap.size W X) 14 3 #[true, true, true, true, true, true, true, true, true, true, true, true, false, false, false] ((((((((((((a.put (some 67) (.func (.func 28) #[] #[])).put (some 68) ((.agg #[.slice A0 js.length c0, .int .i64 40, .int .i64 s]))).put (some 69) (u0)).put (some 71) ((.agg #[.slice A5 ss.length c5, .slice A6 0 c6, .int .i64 (-1), .bool false]))).put (some 70) (w1)).put (some 72) ((.tuple #[(.agg #[.slice A2 jb.length c2, .int .i64 40, .int .i64 jb.length]), (.agg #[.slice A3 s1.length c3, .slice A4 0 c4, .int .i64 (-1), .bool false]), .int .i64 0]))).put (some 66) ((.tuple #[(.agg #[.slice A2 jb.length c2, .int .i64 40, .int .i64 jb.length]), (.agg #[.slice A3 s1.length c3, .slice A4 0 c4, .int .i64 (-1), .bool false]), .int .i64 0]))).put (some 73) ((.agg #[.slice A2 jb.length c2, .int .i64 40, .int .i64 jb.length]))).put (some 74) ((.agg #[.slice A3 s1.length c3, .slice A4 0 c4, .int .i64 (-1), .bool false]))).put (some 75) ((.int .i64 0))).put (some 13) (.pointer (some ⟨b1, 0, none⟩))).put (some 14) (.pointer (some ⟨b2, 0, none⟩))) X := by
    intro X w1 A2 A3 A4 c2 c3 c4 b1 b2 hX hjk hdk z1 h1 nr1 nb1 z2 h2 nr2 nb2
    refine wpAnyU_go1 (i := 12) (by kernel_rfl) ?_
    refine wpOp_store29 rfl rfl rfl rfl ((ev_ne (by decide)).trans ((ev_eq (by simp only [put_sz, hsz]; decide)))) ((ev_ne (by decide)).trans ((ev_ne (by decide)).trans ((ev_ne (by decide)).trans ((ev_ne (by decide)).trans ((ev_eq (by simp only [put_sz, hsz]; decide))))))) z1 ?_
    have g1 := grown_set3 X b1 (.slice A2 jb.length c2) (.int .i64 40) (.int .i64 jb.length)
    have hne := box_ne z1 z2
    have hX1 := below_set3 hX h1 (.slice A2 jb.length c2) (.int .i64 40) (.int .i64 jb.length)
    have z2' := grownK z2 g1 (fun h => hne h.symm)
    refine ⟨hX1, ?_⟩
    refine wpAnyU_at (L' := #[true, true, true, true, true, true, true, true, true, true, true, true, true, false, false]) (by kernel_rfl) ?_
    refine wpAnyU_go1 (i := 13) (by kernel_rfl) ?_
    refine wpOp_store25 rfl rfl rfl rfl ((ev_eq (by simp only [put_sz, hsz]; decide))) ((ev_ne (by decide)).trans ((ev_ne (by decide)).trans ((ev_ne (by decide)).trans ((ev_eq (by simp only [put_sz, hsz]; decide)))))) z2' ?_
    have g2 := grown_set4 (set3 X b1 (.slice A2 jb.length c2) (.int .i64 40) (.int .i64 jb.length)) b2 (.slice A3 s1.length c3) (.slice A4 0 c4) (.int .i64 (-1)) (.bool false)
    have hX2 := below_set4 hX1 h2 (.slice A3 s1.length c3) (.slice A4 0 c4) (.int .i64 (-1)) (.bool false)
    refine ⟨hX2, ?_⟩
    refine wpAnyU_at (L' := #[true, true, true, true, true, true, true, true, true, true, true, true, true, true, false]) (by kernel_rfl) ?_
    refine wpAnyU_yield (i := 14) (v := .int .i64 0) 15 (by kernel_rfl) rfl rfl (yi_assign rfl rfl ((ev_ne (by decide)).trans ((ev_ne (by decide)).trans ((ev_eq (by simp only [put_sz, hsz]; decide)))))) hX2 ?_
    refine wpAnyU_done (by kernel_rfl) (NoPanic.normal ?_) _
    exact hN _ b1 b2 w1 A2 A3 A4 c2 c3 c4 hX2 h1 h2 (grownK (z1.set3 _ _ _) g2 hne) (z2'.set4 _ _ _ _) (isJ_mk (((isJ_bs hjk).offE nr1 z1 g1).offF nr2 z2' g2)) ((hdk.boxJ rfl nb1 z1 g1).box nb2 z2' g2)
  have s201 : ∀ (X : World) (w1 : Value) (A2 A3 A4 : Option Addr) (c2 c3 c4 : Nat) (b2 : Nat), Below W.heap.size W X → IsJ X (.agg #[.slice A2 jb.length c2, .int .i64 40, .int .i64 jb.length]) ⟨jb, 40, jb.length⟩ → IsD X (.agg #[.slice A3 s1.length c3, .slice A4 0 c4, .int .i64 (-1), .bool false]) ⟨s1, [], -1, false⟩ → Cells X b2 25 [.slice none 0 0, .slice none 0 0, .int .i64 0, .bool false] → W.heap.size ≤ b2 → NR b2 (.slice A2 jb.length c2) jb → NB b2 (.agg #[.slice A3 s1.length c3, .slice A4 0 c4, .int .i64 (-1), .bool false]) (⟨s1, [], -1, false⟩ : Dk) → wpAnyU Try.prog .any (sops 11) (NoPanic Q) (fun X => Below W.heap.size W X) 14 4 #[true, true, true, true, true, true, true, true, true, true, false, true, false, false, false] (((((((((((a.put (some 67) (.func (.func 28) #[] #[])).put (some 68) ((.agg #[.slice A0 js.length c0, .int .i64 40, .int .i64 s]))).put (some 69) (u0)).put (some 71) ((.agg #[.slice A5 ss.length c5, .slice A6 0 c6, .int .i64 (-1), .bool false]))).put (some 70) (w1)).put (some 72) ((.tuple #[(.agg #[.slice A2 jb.length c2, .int .i64 40, .int .i64 jb.length]), (.agg #[.slice A3 s1.length c3, .slice A4 0 c4, .int .i64 (-1), .bool false]), .int .i64 0]))).put (some 66) ((.tuple #[(.agg #[.slice A2 jb.length c2, .int .i64 40, .int .i64 jb.length]), (.agg #[.slice A3 s1.length c3, .slice A4 0 c4, .int .i64 (-1), .bool false]), .int .i64 0]))).put (some 73) ((.agg #[.slice A2 jb.length c2, .int .i64 40, .int .i64 jb.length]))).put (some 74) ((.agg #[.slice A3 s1.length c3, .slice A4 0 c4, .int .i64 (-1), .bool false]))).put (some 75) ((.int .i64 0))).put (some 14) (.pointer (some ⟨b2, 0, none⟩))) X := by
    intro X w1 A2 A3 A4 c2 c3 c4 b2 hX hjk hdk z2 h2 nr2 nb2
    refine wpAnyU_go1 (i := 10) (by kernel_rfl) ?_
    ·
      refine wpOp_alloc29 (t := 13) rfl rfl rfl rfl ?_
      have hal := al1 X (.cells #[.slice none 0 0, .int .i64 0, .int .i64 0] 29)
      refine ⟨hX.up hal, ?_⟩
      refine wpAnyU_at (L' := #[true, true, true, true, true, true, true, true, true, true, true, true, false, false, false]) (by kernel_rfl) ?_
      rw [put_comm (s := 14) (t := 13) (by decide)]
      exact s211 _ w1 A2 A3 A4 c2 c3 c4 X.heap.size b2 (hX.up hal) (hjk.upb hal) (hdk.upb hal) (Cells.new X 29 [.slice none 0 0, .int .i64 0, .int .i64 0]) hX.size (nr_of_bs (isJ_bs hjk) (Nat.le_refl _)) (nb_new hdk (Nat.le_refl _)) (z2.upb hal) h2 nr2 nb2
  have s210 : ∀ (X : World) (w1 : Value) (A2 A3 A4 : Option Addr) (c2 c3 c4 : Nat) (b1 : Nat), Below W.heap.size W X → IsJ X (.agg #[.slice A2 jb.length c2, .int .i64 40, .int .i64 jb.length]) ⟨jb, 40, jb.length⟩ → IsD X (.agg #[.slice A3 s1.length c3, .slice A4 0 c4, .int .i64 (-1), .bool false]) ⟨s1, [], -1, false⟩ → Cells X b1 29 [.slice none 0 0, .int .i64 0, .int .i64 0] → W.heap.size ≤ b1 → NR b1 (.slice A2 jb.length c2) jb → NB b1 (.agg #[.slice A3 s1.length c3, .slice A4 0 c4, .int .i64 (-1), .bool false]) (⟨s1, [], -1, false⟩ : Dk) → wpAnyU Try.prog .any (sops 11) (NoPanic Q) (fun X => Below W.heap.size W X) 14 4 #[true, true, true, true, true, true, true, true, true, true, true, false, false, false, false] (((((((((((a.put (some 67) (.func (.func 28) #[] #[])).put (some 68) ((.agg #[.slice A0 js.length c0, .int .i64 40, .int .i64 s]))).put (some 69) (u0)).put (some 71) ((.agg #[.slice A5 ss.length c5, .slice A6 0 c6, .int .i64 (-1), .bool false]))).put (some 70) (w1)).put (some 72) ((.tuple #[(.agg #[.slice A2 jb.length c2, .int .i64 40, .int .i64 jb.length]), (.agg #[.slice A3 s1.length c3, .slice A4 0 c4, .int .i64 (-1), .bool false]), .int .i64 0]))).put (some 66) ((.tuple #[(.agg #[.slice A2 jb.length c2, .int .i64 40, .int .i64 jb.length]), (.agg #[.slice A3 s1.length c3, .slice A4 0 c4, .int .i64 (-1), .bool false]), .int .i64 0]))).put (some 73) ((.agg #[.slice A2 jb.length c2, .int .i64 40, .int .i64 jb.length]))).put (some 74) ((.agg #[.slice A3 s1.length c3, .slice A4 0 c4, .int .i64 (-1), .bool false]))).put (some 75) ((.int .i64 0))).put (some 13) (.pointer (some ⟨b1, 0, none⟩))) X := by
    intro X w1 A2 A3 A4 c2 c3 c4 b1 hX hjk hdk z1 h1 nr1 nb1
    refine wpAnyU_go1 (i := 11) (by kernel_rfl) ?_
    ·
      refine wpOp_alloc25 (t := 14) rfl rfl rfl rfl ?_
      have hal := al1 X (.cells #[.slice none 0 0, .slice none 0 0, .int .i64 0, .bool false] 25)
      refine ⟨hX.up hal, ?_⟩
      refine wpAnyU_at (L' := #[true, true, true, true, true, true, true, true, true, true, true, true, false, false, false]) (by kernel_rfl) ?_
      exact s211 _ w1 A2 A3 A4 c2 c3 c4 b1 X.heap.size (hX.up hal) (hjk.upb hal) (hdk.upb hal) (z1.upb hal) h1 nr1 nb1 (Cells.new X 25 [.slice none 0 0, .slice none 0 0, .int .i64 0, .bool false]) hX.size (nr_of_bs (isJ_bs hjk) (Nat.le_refl _)) (nb_new hdk (Nat.le_refl _))
  have s200 : ∀ (X : World) (w1 : Value) (A2 A3 A4 : Option Addr) (c2 c3 c4 : Nat), Below W.heap.size W X → IsJ X (.agg #[.slice A2 jb.length c2, .int .i64 40, .int .i64 jb.length]) ⟨jb, 40, jb.length⟩ → IsD X (.agg #[.slice A3 s1.length c3, .slice A4 0 c4, .int .i64 (-1), .bool false]) ⟨s1, [], -1, false⟩ → wpAnyU Try.prog .any (sops 11) (NoPanic Q) (fun X => Below W.heap.size W X) 14 5 #[true, true, true, true, true, true, true, true, true, true, false, false, false, false, false] ((((((((((a.put (some 67) (.func (.func 28) #[] #[])).put (some 68) ((.agg #[.slice A0 js.length c0, .int .i64 40, .int .i64 s]))).put (some 69) (u0)).put (some 71) ((.agg #[.slice A5 ss.length c5, .slice A6 0 c6, .int .i64 (-1), .bool false]))).put (some 70) (w1)).put (some 72) ((.tuple #[(.agg #[.slice A2 jb.length c2, .int .i64 40, .int .i64 jb.length]), (.agg #[.slice A3 s1.length c3, .slice A4 0 c4, .int .i64 (-1), .bool false]), .int .i64 0]))).put (some 66) ((.tuple #[(.agg #[.slice A2 jb.length c2, .int .i64 40, .int .i64 jb.length]), (.agg #[.slice A3 s1.length c3, .slice A4 0 c4, .int .i64 (-1), .bool false]), .int .i64 0]))).put (some 73) ((.agg #[.slice A2 jb.length c2, .int .i64 40, .int .i64 jb.length]))).put (some 74) ((.agg #[.slice A3 s1.length c3, .slice A4 0 c4, .int .i64 (-1), .bool false]))).put (some 75) ((.int .i64 0))) X := by
    intro X w1 A2 A3 A4 c2 c3 c4 hX hjk hdk
    refine wpAnyU_go2 (i := 10) (i2 := 11) (by kernel_rfl) ?_ ?_
    ·
      refine wpOp_alloc29 (t := 13) rfl rfl rfl rfl ?_
      have hal := al1 X (.cells #[.slice none 0 0, .int .i64 0, .int .i64 0] 29)
      refine ⟨hX.up hal, ?_⟩
      refine wpAnyU_at (L' := #[true, true, true, true, true, true, true, true, true, true, true, false, false, false, false]) (by kernel_rfl) ?_
      exact s210 _ w1 A2 A3 A4 c2 c3 c4 X.heap.size (hX.up hal) (hjk.upb hal) (hdk.upb hal) (Cells.new X 29 [.slice none 0 0, .int .i64 0, .int .i64 0]) hX.size (nr_of_bs (isJ_bs hjk) (Nat.le_refl _)) (nb_new hdk (Nat.le_refl _))
    ·
      refine wpOp_alloc25 (t := 14) rfl rfl rfl rfl ?_
      have hal := al1 X (.cells #[.slice none 0 0, .slice none 0 0, .int .i64 0, .bool false] 25)
      refine ⟨hX.up hal, ?_⟩
      refine wpAnyU_at (L' := #[true, true, true, true, true, true, true, true, true, true, false, true, false, false, false]) (by kernel_rfl) ?_
      exact s201 _ w1 A2 A3 A4 c2 c3 c4 X.heap.size (hX.up hal) (hjk.upb hal) (hdk.upb hal) (Cells.new X 25 [.slice none 0 0, .slice none 0 0, .int .i64 0, .bool false]) hX.size (nr_of_bs (isJ_bs hjk) (Nat.le_refl _)) (nb_new hdk (Nat.le_refl _))
  have s111 : ∀ (X : World) (B1 : Option Addr) (d1 : Nat) (b1 : Nat) (b2 : Nat), Below W.heap.size W X → IsJ X (.agg #[.slice B1 jb.length d1, .int .i64 40, .int .i64 s]) ⟨jb, 40, s⟩ → Cells X b1 29 [.slice none 0 0, .int .i64 0, .int .i64 0] → W.heap.size ≤ b1 → NR b1 (.slice B1 jb.length d1) jb → Cells X b2 25 [.slice none 0 0, .slice none 0 0, .int .i64 0, .bool false] → W.heap.size ≤ b2 → NR b2 (.slice B1 jb.length d1) jb → wpAnyU Try.prog .any (sops 11) (NoPanic Q) (fun X => Below W.heap.size W X) 14 8 #[true, true, true, true, true, false, false, false, false, false, true, true, false, false, false] (((((((a.put (some 67) (.func (.func 28) #[] #[])).put (some 68) ((.agg #[.slice A0 js.length c0, .int .i64 40, .int .i64 s]))).put (some 69) (u0)).put (some 71) ((.agg #[.slice A5 ss.length c5, .slice A6 0 c6, .int .i64 (-1), .bool false]))).put (some 70) ((.agg #[.slice B1 jb.length d1, .int .i64 40, .int .i64 s]))).put (some 13) (.pointer (some ⟨b1, 0, none⟩))).put (some 14) (.pointer (some ⟨b2, 0, none⟩))) X := by
    intro X B1 d1 b1 b2 hX hjk z1 h1 nr1 z2 h2 nr2
    refine wpAnyU_go1 (i := 5) (by kernel_rfl) ?_
    ·
      have q1 : (((((((a.put (some 67) (.func (.func 28) #[] #[])).put (some 68) ((.agg #[.slice A0 js.length c0, .int .i64 40, .int .i64 s]))).put (some 69) (u0)).put (some 71) ((.agg #[.slice A5 ss.length c5, .slice A6 0 c6, .int .i64 (-1), .bool false]))).put (some 70) ((.agg #[.slice B1 jb.length d1, .int .i64 40, .int .i64 s]))).put (some 13) (.pointer (some ⟨b1, 0, none⟩))).put (some 14) (.pointer (some ⟨b2, 0, none⟩))).eval (.tmp 70) = (.agg #[.slice B1 jb.length d1, .int .i64 40, .int .i64 s]) := (ev_ne (by decide)).trans ((ev_ne (by decide)).trans ((ev_eq (by simp only [put_sz, hsz]; decide))))
      have q2 : (((((((a.put (some 67) (.func (.func 28) #[] #[])).put (some 68) ((.agg #[.slice A0 js.length c0, .int .i64 40, .int .i64 s]))).put (some 69) (u0)).put (some 71) ((.agg #[.slice A5 ss.length c5, .slice A6 0 c6, .int .i64 (-1), .bool false]))).put (some 70) ((.agg #[.slice B1 jb.length d1, .int .i64 40, .int .i64 s]))).put (some 13) (.pointer (some ⟨b1, 0, none⟩))).put (some 14) (.pointer (some ⟨b2, 0, none⟩))).eval (.tmp 71) = (.agg #[.slice A5 ss.length c5, .slice A6 0 c6, .int .i64 (-1), .bool false]) := (ev_ne (by decide)).trans ((ev_ne (by decide)).trans ((ev_ne (by decide)).trans ((ev_eq (by simp only [put_sz, hsz]; decide)))))
      refine wpOp_call (t := 72) rfl rfl rfl (.func 21) #[.tmp 70, .tmp 71] _ rfl 21 rfl #[(.agg #[.slice B1 jb.length d1, .int .i64 40, .int .i64 s]), (.agg #[.slice A5 ss.length c5, .slice A6 0 c6, .int .i64 (-1), .bool false])] (by simp only [List.map_toArray, List.map_cons, List.map_nil]; rw [q1, q2]) (enters_of Try.func21 (by kernel_rfl) rfl) (JSync_is (n := jb.length) (m := 40) (s := jb.length) hjk (Jn.sm_used (by show Jn.used jb ≤ 4096; omega)) (hd.upb hX) sE sJ sD rfl rfl rfl) ?_
      rintro e X2 ⟨A2, c2, A3, c3, A4, c4, rfl, hj2, hd2, hb, hsj, hsd⟩
      clear q1 q2
      refine ⟨_, rfl, hX.up hb, ?_⟩
      refine wpAnyU_at (L' := #[true, true, true, true, true, true, false, false, false, false, true, true, false, false, false]) (by kernel_rfl) ?_
      refine wpAnyU_takeD (i := 6) (v := (.tuple #[(.agg #[.slice A2 jb.length c2, .int .i64 40, .int .i64 jb.length]), (.agg #[.slice A3 s1.length c3, .slice A4 0 c4, .int .i64 (-1), .bool false]), .int .i64 0])) 66 rfl rfl (by kernel_rfl) (by kernel_rfl) (by kernel_rfl) (by kernel_rfl) (by kernel_rfl) (by kernel_rfl) (fun _ _ _ h => h) (yi_move rfl rfl ((ev_eq (by simp only [put_sz, hsz]; decide)))) (hX.up hb) ?_
      refine wpAnyU_at (L' := #[true, true, true, true, true, true, true, false, false, false, true, true, false, false, false]) (by kernel_rfl) ?_
      refine wpAnyU_takeD (i := 7) (v := (.agg #[.slice A2 jb.length c2, .int .i64 40, .int .i64 jb.length])) 73 rfl rfl (by kernel_rfl) (by kernel_rfl) (by kernel_rfl) (by kernel_rfl) (by kernel_rfl) (by kernel_rfl) (fun _ _ _ h => h) (yi_ext rfl rfl ((ev_eq (by simp only [put_sz, hsz]; decide))) rfl) (hX.up hb) ?_
      refine wpAnyU_at (L' := #[true, true, true, true, true, true, true, true, false, false, true, true, false, false, false]) (by kernel_rfl) ?_
      refine wpAnyU_takeD (i := 8) (v := (.agg #[.slice A3 s1.length c3, .slice A4 0 c4, .int .i64 (-1), .bool false])) 74 rfl rfl (by kernel_rfl) (by kernel_rfl) (by kernel_rfl) (by kernel_rfl) (by kernel_rfl) (by kernel_rfl) (fun _ _ _ h => h) (yi_ext rfl rfl ((ev_ne (by decide)).trans ((ev_eq (by simp only [put_sz, hsz]; decide)))) rfl) (hX.up hb) ?_
      refine wpAnyU_at (L' := #[true, true, true, true, true, true, true, true, true, false, true, true, false, false, false]) (by kernel_rfl) ?_
      refine wpAnyU_takeD (i := 9) (v := (.int .i64 0)) 75 rfl rfl (by kernel_rfl) (by kernel_rfl) (by kernel_rfl) (by kernel_rfl) (by kernel_rfl) (by kernel_rfl) (fun _ _ _ h => h) (yi_ext rfl rfl ((ev_ne (by decide)).trans ((ev_ne (by decide)).trans ((ev_eq (by simp only [put_sz, hsz]; decide))))) rfl) (hX.up hb) ?_
      refine wpAnyU_at (L' := #[true, true, true, true, true, true, true, true, true, true, true, true, false, false, false]) (by kernel_rfl) ?_
      rw [put_comm (s := 14) (t := 72) (by decide), put_comm (s := 13) (t := 72) (by decide), put_comm (s := 14) (t := 66) (by decide), put_comm (s := 13) (t := 66) (by decide), put_comm (s := 14) (t := 73) (by decide), put_comm (s := 13) (t := 73) (by decide), put_comm (s := 14) (t := 74) (by decide), put_comm (s := 13) (t := 74) (by decide), put_comm (s := 14) (t := 75) (by decide), put_comm (s := 13) (t := 75) (by decide)]
      exact s211 X2 (.agg #[.slice B1 jb.length d1, .int .i64 40, .int .i64 s]) A2 A3 A4 c2 c3 c4 b1 b2 (hX.up hb) hj2 hd2 (z1.upb hb) h1 (nr_of_sec hsj z1.lt nr1) (nb_sec (hd.upb hX) hd2 hsd (nb_new hd h1) z1.lt) (z2.upb hb) h2 (nr_of_sec hsj z2.lt nr2) (nb_sec (hd.upb hX) hd2 hsd (nb_new hd h2) z2.lt)
  have s101 : ∀ (X : World) (B1 : Option Addr) (d1 : Nat) (b2 : Nat), Below W.heap.size W X → IsJ X (.agg #[.slice B1 jb.length d1, .int .i64 40, .int .i64 s]) ⟨jb, 40, s⟩ → Cells X b2 25 [.slice none 0 0, .slice none 0 0, .int .i64 0, .bool false] → W.heap.size ≤ b2 → NR b2 (.slice B1 jb.length d1) jb → wpAnyU Try.prog .any (sops 11) (NoPanic Q) (fun X => Below W.heap.size W X) 14 9 #[true, true, true, true, true, false, false, false, false, false, false, true, false, false, false] ((((((a.put (some 67) (.func (.func 28) #[] #[])).put (some 68) ((.agg #[.slice A0 js.length c0, .int .i64 40, .int .i64 s]))).put (some 69) (u0)).put (some 71) ((.agg #[.slice A5 ss.length c5, .slice A6 0 c6, .int .i64 (-1), .bool false]))).put (some 70) ((.agg #[.slice B1 jb.length d1, .int .i64 40, .int .i64 s]))).put (some 14) (.pointer (some ⟨b2, 0, none⟩))) X := by
    intro X B1 d1 b2 hX hjk z2 h2 nr2
    refine wpAnyU_go2 (i := 5) (i2 := 10) (by kernel_rfl) ?_ ?_
    ·
      have q1 : ((((((a.put (some 67) (.func (.func 28) #[] #[])).put (some 68) ((.agg #[.slice A0 js.length c0, .int .i64 40, .int .i64 s]))).put (some 69) (u0)).put (some 71) ((.agg #[.slice A5 ss.length c5, .slice A6 0 c6, .int .i64 (-1), .bool false]))).put (some 70) ((.agg #[.slice B1 jb.length d1, .int .i64 40, .int .i64 s]))).put (some 14) (.pointer (some ⟨b2, 0, none⟩))).eval (.tmp 70) = (.agg #[.slice B1 jb.length d1, .int .i64 40, .int .i64 s]) := (ev_ne (by decide)).trans ((ev_eq (by simp only [put_sz, hsz]; decide)))
      have q2 : ((((((a.put (some 67) (.func (.func 28) #[] #[])).put (some 68) ((.agg #[.slice A0 js.length c0, .int .i64 40, .int .i64 s]))).put (some 69) (u0)).put (some 71) ((.agg #[.slice A5 ss.length c5, .slice A6 0 c6, .int .i64 (-1), .bool false]))).put (some 70) ((.agg #[.slice B1 jb.length d1, .int .i64 40, .int .i64 s]))).put (some 14) (.pointer (some ⟨b2, 0, none⟩))).eval (.tmp 71) = (.agg #[.slice A5 ss.length c5, .slice A6 0 c6, .int .i64 (-1), .bool false]) := (ev_ne (by decide)).trans ((ev_ne (by decide)).trans ((ev_eq (by simp only [put_sz, hsz]; decide))))
      refine wpOp_call (t := 72) rfl rfl rfl (.func 21) #[.tmp 70, .tmp 71] _ rfl 21 rfl #[(.agg #[.slice B1 jb.length d1, .int .i64 40, .int .i64 s]), (.agg #[.slice A5 ss.length c5, .slice A6 0 c6, .int .i64 (-1), .bool false])] (by simp only [List.map_toArray, List.map_cons, List.map_nil]; rw [q1, q2]) (enters_of Try.func21 (by kernel_rfl) rfl) (JSync_is (n := jb.length) (m := 40) (s := jb.length) hjk (Jn.sm_used (by show Jn.used jb ≤ 4096; omega)) (hd.upb hX) sE sJ sD rfl rfl rfl) ?_
      rintro e X2 ⟨A2, c2, A3, c3, A4, c4, rfl, hj2, hd2, hb, hsj, hsd⟩
      clear q1 q2
      refine ⟨_, rfl, hX.up hb, ?_⟩
      refine wpAnyU_at (L' := #[true, true, true, true, true, true, false, false, false, false, false, true, false, false, false]) (by kernel_rfl) ?_
      refine wpAnyU_takeD (i := 6) (v := (.tuple #[(.agg #[.slice A2 jb.length c2, .int .i64 40, .int .i64 jb.length]), (.agg #[.slice A3 s1.length c3, .slice A4 0 c4, .int .i64 (-1), .bool false]), .int .i64 0])) 66 rfl rfl (by kernel_rfl) (by kernel_rfl) (by kernel_rfl) (by kernel_rfl) (by kernel_rfl) (by kernel_rfl) (fun _ _ _ h => h) (yi_move rfl rfl ((ev_eq (by simp only [put_sz, hsz]; decide)))) (hX.up hb) ?_
      refine wpAnyU_at (L' := #[true, true, true, true, true, true, true, false, false, false, false, true, false, false, false]) (by kernel_rfl) ?_
      refine wpAnyU_takeD (i := 7) (v := (.agg #[.slice A2 jb.length c2, .int .i64 40, .int .i64 jb.length])) 73 rfl rfl (by kernel_rfl) (by kernel_rfl) (by kernel_rfl) (by kernel_rfl) (by kernel_rfl) (by kernel_rfl) (fun _ _ _ h => h) (yi_ext rfl rfl ((ev_eq (by simp only [put_sz, hsz]; decide))) rfl) (hX.up hb) ?_
      refine wpAnyU_at (L' := #[true, true, true, true, true, true, true, true, false, false, false, true, false, false, false]) (by kernel_rfl) ?_
      refine wpAnyU_takeD (i := 8) (v := (.agg #[.slice A3 s1.length c3, .slice A4 0 c4, .int .i64 (-1), .bool false])) 74 rfl rfl (by kernel_rfl) (by kernel_rfl) (by kernel_rfl) (by kernel_rfl) (by kernel_rfl) (by kernel_rfl) (fun _ _ _ h => h) (yi_ext rfl rfl ((ev_ne (by decide)).trans ((ev_eq (by simp only [put_sz, hsz]; decide)))) rfl) (hX.up hb) ?_
      refine wpAnyU_at (L' := #[true, true, true, true, true, true, true, true, true, false, false, true, false, false, false]) (by kernel_rfl) ?_
      refine wpAnyU_takeD (i := 9) (v := (.int .i64 0)) 75 rfl rfl (by kernel_rfl) (by kernel_rfl) (by kernel_rfl) (by kernel_rfl) (by kernel_rfl) (by kernel_rfl) (fun _ _ _ h => h) (yi_ext rfl rfl ((ev_ne (by decide)).trans ((ev_ne (by decide)).trans ((ev_eq (by simp only [put_sz, hsz]; decide))))) rfl) (hX.up hb) ?_
      refine wpAnyU_at (L' := #[true, true, true, true, true, true, true, true, true, true, false, true, false, false, false]) (by kernel_rfl) ?_
      rw [put_comm (s := 14) (t := 72) (by decide), put_comm (s := 14) (t := 66) (by decide), put_comm (s := 14) (t := 73) (by decide), put_comm (s := 14) (t := 74) (by decide), put_comm (s := 14) (t := 75) (by decide)]
      exact s201 X2 (.agg #[.slice B1 jb.length d1, .int .i64 40, .int .i64 s]) A2 A3 A4 c2 c3 c4 b2 (hX.up hb) hj2 hd2 (z2.upb hb) h2 (nr_of_sec hsj z2.lt nr2) (nb_sec (hd.upb hX) hd2 hsd (nb_new hd h2) z2.lt)
    ·
      refine wpOp_alloc29 (t := 13) rfl rfl rfl rfl ?_
      have hal := al1 X (.cells #[.slice none 0 0, .int .i64 0, .int .i64 0] 29)
      refine ⟨hX.up hal, ?_⟩
      refine wpAnyU_at (L' := #[true, true, true, true, true, false, false, false, false, false, true, true, false, false, false]) (by kernel_rfl) ?_
      rw [put_comm (s := 14) (t := 13) (by decide)]
      exact s111 _ B1 d1 X.heap.size b2 (hX.up hal) (hjk.upb hal) (Cells.new X 29 [.slice none 0 0, .int .i64 0, .int .i64 0]) hX.size (nr_of_bs (isJ_bs hjk) (Nat.le_refl _)) (z2.upb hal) h2 nr2
  have s110 : ∀ (X : World) (B1 : Option Addr) (d1 : Nat) (b1 : Nat), Below W.heap.size W X → IsJ X (.agg #[.slice B1 jb.length d1, .int .i64 40, .int .i64 s]) ⟨jb, 40, s⟩ → Cells X b1 29 [.slice none 0 0, .int .i64 0, .int .i64 0] → W.heap.size ≤ b1 → NR b1 (.slice B1 jb.length d1) jb → wpAnyU Try.prog .any (sops 11) (NoPanic Q) (fun X => Below W.heap.size W X) 14 9 #[true, true, true, true, true, false, false, false, false, false, true, false, false, false, false] ((((((a.put (some 67) (.func (.func 28) #[] #[])).put (some 68) ((.agg #[.slice A0 js.length c0, .int .i64 40, .int .i64 s]))).put (some 69) (u0)).put (some 71) ((.agg #[.slice A5 ss.length c5, .slice A6 0 c6, .int .i64 (-1), .bool false]))).put (some 70) ((.agg #[.slice B1 jb.length d1, .int .i64 40, .int .i64 s]))).put (some 13) (.pointer (some ⟨b1, 0, none⟩))) X := by
    intro X B1 d1 b1 hX hjk z1 h1 nr1
    refine wpAnyU_go2 (i := 5) (i2 := 11) (by kernel_rfl) ?_ ?_
    ·
      have q1 : ((((((a.put (some 67) (.func (.func 28) #[] #[])).put (some 68) ((.agg #[.slice A0 js.length c0, .int .i64 40, .int .i64 s]))).put (some 69) (u0)).put (some 71) ((.agg #[.slice A5 ss.length c5, .slice A6 0 c6, .int .i64 (-1), .bool false]))).put (some 70) ((.agg #[.slice B1 jb.length d1, .int .i64 40, .int .i64 s]))).put (some 13) (.pointer (some ⟨b1, 0, none⟩))).eval (.tmp 70) = (.agg #[.slice B1 jb.length d1, .int .i64 40, .int .i64 s]) := (ev_ne (by decide)).trans ((ev_eq (by simp only [put_sz, hsz]; decide)))
      have q2 : ((((((a.put (some 67) (.func (.func 28) #[] #[])).put (some 68) ((.agg #[.slice A0 js.length c0, .int .i64 40, .int .i64 s]))).put (some 69) (u0)).put (some 71) ((.agg #[.slice A5 ss.length c5, .slice A6 0 c6, .int .i64 (-1), .bool false]))).put (some 70) ((.agg #[.slice B1 jb.length d1, .int .i64 40, .int .i64 s]))).put (some 13) (.pointer (some ⟨b1, 0, none⟩))).eval (.tmp 71) = (.agg #[.slice A5 ss.length c5, .slice A6 0 c6, .int .i64 (-1), .bool false]) := (ev_ne (by decide)).trans ((ev_ne (by decide)).trans ((ev_eq (by simp only [put_sz, hsz]; decide))))
      refine wpOp_call (t := 72) rfl rfl rfl (.func 21) #[.tmp 70, .tmp 71] _ rfl 21 rfl #[(.agg #[.slice B1 jb.length d1, .int .i64 40, .int .i64 s]), (.agg #[.slice A5 ss.length c5, .slice A6 0 c6, .int .i64 (-1), .bool false])] (by simp only [List.map_toArray, List.map_cons, List.map_nil]; rw [q1, q2]) (enters_of Try.func21 (by kernel_rfl) rfl) (JSync_is (n := jb.length) (m := 40) (s := jb.length) hjk (Jn.sm_used (by show Jn.used jb ≤ 4096; omega)) (hd.upb hX) sE sJ sD rfl rfl rfl) ?_
      rintro e X2 ⟨A2, c2, A3, c3, A4, c4, rfl, hj2, hd2, hb, hsj, hsd⟩
      clear q1 q2
      refine ⟨_, rfl, hX.up hb, ?_⟩
      refine wpAnyU_at (L' := #[true, true, true, true, true, true, false, false, false, false, true, false, false, false, false]) (by kernel_rfl) ?_
      refine wpAnyU_takeD (i := 6) (v := (.tuple #[(.agg #[.slice A2 jb.length c2, .int .i64 40, .int .i64 jb.length]), (.agg #[.slice A3 s1.length c3, .slice A4 0 c4, .int .i64 (-1), .bool false]), .int .i64 0])) 66 rfl rfl (by kernel_rfl) (by kernel_rfl) (by kernel_rfl) (by kernel_rfl) (by kernel_rfl) (by kernel_rfl) (fun _ _ _ h => h) (yi_move rfl rfl ((ev_eq (by simp only [put_sz, hsz]; decide)))) (hX.up hb) ?_
      refine wpAnyU_at (L' := #[true, true, true, true, true, true, true, false, false, false, true, false, false, false, false]) (by kernel_rfl) ?_
      refine wpAnyU_takeD (i := 7) (v := (.agg #[.slice A2 jb.length c2, .int .i64 40, .int .i64 jb.length])) 73 rfl rfl (by kernel_rfl) (by kernel_rfl) (by kernel_rfl) (by kernel_rfl) (by kernel_rfl) (by kernel_rfl) (fun _ _ _ h => h) (yi_ext rfl rfl ((ev_eq (by simp only [put_sz, hsz]; decide))) rfl) (hX.up hb) ?_
      refine wpAnyU_at (L' := #[true, true, true, true, true, true, true, true, false, false, true, false, false, false, false]) (by kernel_rfl) ?_
      refine wpAnyU_takeD (i := 8) (v := (.agg #[.slice A3 s1.length c3, .slice A4 0 c4, .int .i64 (-1), .bool false])) 74 rfl rfl (by kernel_rfl) (by kernel_rfl) (by kernel_rfl) (by kernel_rfl) (by kernel_rfl) (by kernel_rfl) (fun _ _ _ h => h) (yi_ext rfl rfl ((ev_ne (by decide)).trans ((ev_eq (by simp only [put_sz, hsz]; decide)))) rfl) (hX.up hb) ?_
      refine wpAnyU_at (L' := #[true, true, true, true, true, true, true, true, true, false, true, false, false, false, false]) (by kernel_rfl) ?_
      refine wpAnyU_takeD (i := 9) (v := (.int .i64 0)) 75 rfl rfl (by kernel_rfl) (by kernel_rfl) (by kernel_rfl) (by kernel_rfl) (by kernel_rfl) (by kernel_rfl) (fun _ _ _ h => h) (yi_ext rfl rfl ((ev_ne (by decide)).trans ((ev_ne (by decide)).trans ((ev_eq (by simp only [put_sz, hsz]; decide))))) rfl) (hX.up hb) ?_
      refine wpAnyU_at (L' := #[true, true, true, true, true, true, true, true, true, true, true, false, false, false, false]) (by kernel_rfl) ?_
      rw [put_comm (s := 13) (t := 72) (by decide), put_comm (s := 13) (t := 66) (by decide), put_comm (s := 13) (t := 73) (by decide), put_comm (s := 13) (t := 74) (by decide), put_comm (s := 13) (t := 75) (by decide)]
      exact s210 X2 (.agg #[.slice B1 jb.length d1, .int .i64 40, .int .i64 s]) A2 A3 A4 c2 c3 c4 b1 (hX.up hb) hj2 hd2 (z1.upb hb) h1 (nr_of_sec hsj z1.lt nr1) (nb_sec (hd.upb hX) hd2 hsd (nb_new hd h1) z1.lt)
    ·
      refine wpOp_alloc25 (t := 14) rfl rfl rfl rfl ?_
      have hal := al1 X (.cells #[.slice none 0 0, .slice none 0 0, .int .i64 0, .bool false] 25)
      refine ⟨hX.up hal, ?_⟩
      refine wpAnyU_at (L' := #[true, true, true, true, true, false, false, false, false, false, true, true, false, false, false]) (by kernel_rfl) ?_
      exact s111 _ B1 d1 b1 X.heap.size (hX.up hal) (hjk.upb hal) (z1.upb hal) h1 nr1 (Cells.new X 25 [.slice none 0 0, .slice none 0 0, .int .i64 0, .bool false]) hX.size (nr_of_bs (isJ_bs hjk) (Nat.le_refl _))
  have s100 : ∀ (X : World) (B1 : Option Addr) (d1 : Nat), Below W.heap.size W X → IsJ X (.agg #[.slice B1 jb.length d1, .int .i64 40, .int .i64 s]) ⟨jb, 40, s⟩ → wpAnyU Try.prog .any (sops 11) (NoPanic Q) (fun X => Below W.heap.size W X) 14 10 #[true, true, true, true, true, false, false, false, false, false, false, false, false, false, false] (((((a.put (some 67) (.func (.func 28) #[] #[])).put (some 68) ((.agg #[.slice A0 js.length c0, .int .i64 40, .int .i64 s]))).put (some 69) (u0)).put (some 71) ((.agg #[.slice A5 ss.length c5, .slice A6 0 c6, .int .i64 (-1), .bool false]))).put (some 70) ((.agg #[.slice B1 jb.length d1, .int .i64 40, .int .i64 s]))) X := by
    intro X B1 d1 hX hjk
    refine wpAnyU_go3 (i := 5) (i2 := 10) (i3 := 11) (by kernel_rfl) ?_ ?_ ?_
    ·
      have q1 : (((((a.put (some 67) (.func (.func 28) #[] #[])).put (some 68) ((.agg #[.slice A0 js.length c0, .int .i64 40, .int .i64 s]))).put (some 69) (u0)).put (some 71) ((.agg #[.slice A5 ss.length c5, .slice A6 0 c6, .int .i64 (-1), .bool false]))).put (some 70) ((.agg #[.slice B1 jb.length d1, .int .i64 40, .int .i64 s]))).eval (.tmp 70) = (.agg #[.slice B1 jb.length d1, .int .i64 40, .int .i64 s]) := (ev_eq (by simp only [put_sz, hsz]; decide))
      have q2 : (((((a.put (some 67) (.func (.func 28) #[] #[])).put (some 68) ((.agg #[.slice A0 js.length c0, .int .i64 40, .int .i64 s]))).put (some 69) (u0)).put (some 71) ((.agg #[.slice A5 ss.length c5, .slice A6 0 c6, .int .i64 (-1), .bool false]))).put (some 70) ((.agg #[.slice B1 jb.length d1, .int .i64 40, .int .i64 s]))).eval (.tmp 71) = (.agg #[.slice A5 ss.length c5, .slice A6 0 c6, .int .i64 (-1), .bool false]) := (ev_ne (by decide)).trans ((ev_eq (by simp only [put_sz, hsz]; decide)))
      refine wpOp_call (t := 72) rfl rfl rfl (.func 21) #[.tmp 70, .tmp 71] _ rfl 21 rfl #[(.agg #[.slice B1 jb.length d1, .int .i64 40, .int .i64 s]), (.agg #[.slice A5 ss.length c5, .slice A6 0 c6, .int .i64 (-1), .bool false])] (by simp only [List.map_toArray, List.map_cons, List.map_nil]; rw [q1, q2]) (enters_of Try.func21 (by kernel_rfl) rfl) (JSync_is (n := jb.length) (m := 40) (s := jb.length) hjk (Jn.sm_used (by show Jn.used jb ≤ 4096; omega)) (hd.upb hX) sE sJ sD rfl rfl rfl) ?_
      rintro e X2 ⟨A2, c2, A3, c3, A4, c4, rfl, hj2, hd2, hb, hsj, hsd⟩
      clear q1 q2
      refine ⟨_, rfl, hX.up hb, ?_⟩
      refine wpAnyU_at (L' := #[true, true, true, true, true, true, false, false, false, false, false, false, false, false, false]) (by kernel_rfl) ?_
      refine wpAnyU_takeD (i := 6) (v := (.tuple #[(.agg #[.slice A2 jb.length c2, .int .i64 40, .int .i64 jb.length]), (.agg #[.slice A3 s1.length c3, .slice A4 0 c4, .int .i64 (-1), .bool false]), .int .i64 0])) 66 rfl rfl (by kernel_rfl) (by kernel_rfl) (by kernel_rfl) (by kernel_rfl) (by kernel_rfl) (by kernel_rfl) (fun _ _ _ h => h) (yi_move rfl rfl ((ev_eq (by simp only [put_sz, hsz]; decide)))) (hX.up hb) ?_
      refine wpAnyU_at (L' := #[true, true, true, true, true, true, true, false, false, false, false, false, false, false, false]) (by kernel_rfl) ?_
      refine wpAnyU_takeD (i := 7) (v := (.agg #[.slice A2 jb.length c2, .int .i64 40, .int .i64 jb.length])) 73 rfl rfl (by kernel_rfl) (by kernel_rfl) (by kernel_rfl) (by kernel_rfl) (by kernel_rfl) (by kernel_rfl) (fun _ _ _ h => h) (yi_ext rfl rfl ((ev_eq (by simp only [put_sz, hsz]; decide))) rfl) (hX.up hb) ?_
      refine wpAnyU_at (L' := #[true, true, true, true, true, true, true, true, false, false, false, false, false, false, false]) (by kernel_rfl) ?_
      refine wpAnyU_takeD (i := 8) (v := (.agg #[.slice A3 s1.length c3, .slice A4 0 c4, .int .i64 (-1), .bool false])) 74 rfl rfl (by kernel_rfl) (by kernel_rfl) (by kernel_rfl) (by kernel_rfl) (by kernel_rfl) (by kernel_rfl) (fun _ _ _ h => h) (yi_ext rfl rfl ((ev_ne (by decide)).trans ((ev_eq (by simp only [put_sz, hsz]; decide)))) rfl) (hX.up hb) ?_
      refine wpAnyU_at (L' := #[true, true, true, true, true, true, true, true, true, false, false, false, false, false, false]) (by kernel_rfl) ?_
      refine wpAnyU_takeD (i := 9) (v := (.int .i64 0)) 75 rfl rfl (by kernel_rfl) (by kernel_rfl) (by kernel_rfl) (by kernel_rfl) (by kernel_rfl) (by kernel_rfl) (fun _ _ _ h => h) (yi_ext rfl rfl ((ev_ne (by decide)).trans ((ev_ne (by decide)).trans ((ev_eq (by simp only [put_sz, hsz]; decide))))) rfl) (hX.up hb) ?_
      refine wpAnyU_at (L' := #[true, true, true, true, true, true, true, true, true, true, false, false, false, false, false]) (by kernel_rfl) ?_
      exact s200 X2 (.agg #[.slice B1 jb.length d1, .int .i64 40, .int .i64 s]) A2 A3 A4 c2 c3 c4 (hX.up hb) hj2 hd2
    ·
      refine wpOp_alloc29 (t := 13) rfl rfl rfl rfl ?_
      have hal := al1 X (.cells #[.slice none 0 0, .int .i64 0, .int .i64 0] 29)
      refine ⟨hX.up hal, ?_⟩
      refine wpAnyU_at (L' := #[true, true, true, true, true, false, false, false, false, false, true, false, false, false, false]) (by kernel_rfl) ?_
      exact s110 _ B1 d1 X.heap.size (hX.up hal) (hjk.upb hal) (Cells.new X 29 [.slice none 0 0, .int .i64 0, .int .i64 0]) hX.size (nr_of_bs (isJ_bs hjk) (Nat.le_refl _))
    ·
      refine wpOp_alloc25 (t := 14) rfl rfl rfl rfl ?_
      have hal := al1 X (.cells #[.slice none 0 0, .slice none 0 0, .int .i64 0, .bool false] 25)
      refine ⟨hX.up hal, ?_⟩
      refine wpAnyU_at (L' := #[true, true, true, true, true, false, false, false, false, false, false, true, false, false, false]) (by kernel_rfl) ?_
      exact s101 _ B1 d1 X.heap.size (hX.up hal) (hjk.upb hal) (Cells.new X 25 [.slice none 0 0, .slice none 0 0, .int .i64 0, .bool false]) hX.size (nr_of_bs (isJ_bs hjk) (Nat.le_refl _))
  have s011 : ∀ (X : World) (b1 : Nat) (b2 : Nat), Below W.heap.size W X → Cells X b1 29 [.slice none 0 0, .int .i64 0, .int .i64 0] → W.heap.size ≤ b1 → Cells X b2 25 [.slice none 0 0, .slice none 0 0, .int .i64 0, .bool false] → W.heap.size ≤ b2 → wpAnyU Try.prog .any (sops 11) (NoPanic Q) (fun X => Below W.heap.size W X) 14 9 #[true, true, true, false, true, false, false, false, false, false, true, true, false, false, false] ((((((a.put (some 67) (.func (.func 28) #[] #[])).put (some 68) ((.agg #[.slice A0 js.length c0, .int .i64 40, .int .i64 s]))).put (some 69) (u0)).put (some 71) ((.agg #[.slice A5 ss.length c5, .slice A6 0 c6, .int .i64 (-1), .bool false]))).put (some 13) (.pointer (some ⟨b1, 0, none⟩))).put (some 14) (.pointer (some ⟨b2, 0, none⟩))) X := by
    intro X b1 b2 hX z1 h1 z2 h2
    refine wpAnyU_go1 (i := 3) (by kernel_rfl) ?_
    ·
      have q1 : ((((((a.put (some 67) (.func (.func 28) #[] #[])).put (some 68) ((.agg #[.slice A0 js.length c0, .int .i64 40, .int .i64 s]))).put (some 69) (u0)).put (some 71) ((.agg #[.slice A5 ss.length c5, .slice A6 0 c6, .int .i64 (-1), .bool false]))).put (some 13) (.pointer (some ⟨b1, 0, none⟩))).put (some 14) (.pointer (some ⟨b2, 0, none⟩))).eval (.tmp 68) = (.agg #[.slice A0 js.length c0, .int .i64 40, .int .i64 s]) := (ev_ne (by decide)).trans ((ev_ne (by decide)).trans ((ev_ne (by decide)).trans ((ev_ne (by decide)).trans ((ev_eq (by simp only [put_sz, hsz]; decide))))))
      have q2 : ((((((a.put (some 67) (.func (.func 28) #[] #[])).put (some 68) ((.agg #[.slice A0 js.length c0, .int .i64 40, .int .i64 s]))).put (some 69) (u0)).put (some 71) ((.agg #[.slice A5 ss.length c5, .slice A6 0 c6, .int .i64 (-1), .bool false]))).put (some 13) (.pointer (some ⟨b1, 0, none⟩))).put (some 14) (.pointer (some ⟨b2, 0, none⟩))).eval (.tmp 69) = u0 := (ev_ne (by decide)).trans ((ev_ne (by decide)).trans ((ev_ne (by decide)).trans ((ev_eq (by simp only [put_sz, hsz]; decide)))))
      refine wpOp_call (t := 70) rfl rfl rfl (.tmp 67) #[.tmp 68, .tmp 69] _ rfl 28 ((ev_ne (by decide)).trans ((ev_ne (by decide)).trans ((ev_ne (by decide)).trans ((ev_ne (by decide)).trans ((ev_ne (by decide)).trans ((ev_eq (by simp only [put_sz, hsz]; decide)))))))) #[(.agg #[.slice A0 js.length c0, .int .i64 40, .int .i64 s]), u0] (by simp only [List.map_toArray, List.map_cons, List.map_nil]; rw [q1, q2]) (enters_of Try.func28 (by kernel_rfl) rfl) (Add_is (hj.upb hX) (hu0.upb hX) hl0 hle0 hs hus0 ha0) ?_
      rintro e X2 ⟨B1, d1, rfl, hj2, hb, hnr⟩
      clear q1 q2
      refine ⟨_, rfl, hX.up hb, ?_⟩
      refine wpAnyU_at (L' := #[true, true, true, true, true, false, false, false, false, false, true, true, false, false, false]) (by kernel_rfl) ?_
      rw [put_comm (s := 14) (t := 70) (by decide), put_comm (s := 13) (t := 70) (by decide)]
      exact s111 X2 B1 d1 b1 b2 (hX.up hb) hj2 (z1.upb hb) h1 (hnr b1 z1.lt (nr_of_bs (isJ_bs hj) h1)) (z2.upb hb) h2 (hnr b2 z2.lt (nr_of_bs (isJ_bs hj) h2))
  have s001 : ∀ (X : World) (b2 : Nat), Below W.heap.size W X → Cells X b2 25 [.slice none 0 0, .slice none 0 0, .int .i64 0, .bool false] → W.heap.size ≤ b2 → wpAnyU Try.prog .any (sops 11) (NoPanic Q) (fun X => Below W.heap.size W X) 14 10 #[true, true, true, false, true, false, false, false, false, false, false, true, false, false, false] (((((a.put (some 67) (.func (.func 28) #[] #[])).put (some 68) ((.agg #[.slice A0 js.length c0, .int .i64 40, .int .i64 s]))).put (some 69) (u0)).put (some 71) ((.agg #[.slice A5 ss.length c5, .slice A6 0 c6, .int .i64 (-1), .bool false]))).put (some 14) (.pointer (some ⟨b2, 0, none⟩))) X := by
    intro X b2 hX z2 h2
    refine wpAnyU_go2 (i := 3) (i2 := 10) (by kernel_rfl) ?_ ?_
    ·
      have q1 : (((((a.put (some 67) (.func (.func 28) #[] #[])).put (some 68) ((.agg #[.slice A0 js.length c0, .int .i64 40, .int .i64 s]))).put (some 69) (u0)).put (some 71) ((.agg #[.slice A5 ss.length c5, .slice A6 0 c6, .int .i64 (-1), .bool false]))).put (some 14) (.pointer (some ⟨b2, 0, none⟩))).eval (.tmp 68) = (.agg #[.slice A0 js.length c0, .int .i64 40, .int .i64 s]) := (ev_ne (by decide)).trans ((ev_ne (by decide)).trans ((ev_ne (by decide)).trans ((ev_eq (by simp only [put_sz, hsz]; decide)))))
      have q2 : (((((a.put (some 67) (.func (.func 28) #[] #[])).put (some 68) ((.agg #[.slice A0 js.length c0, .int .i64 40, .int .i64 s]))).put (some 69) (u0)).put (some 71) ((.agg #[.slice A5 ss.length c5, .slice A6 0 c6, .int .i64 (-1), .bool false]))).put (some 14) (.pointer (some ⟨b2, 0, none⟩))).eval (.tmp 69) = u0 := (ev_ne (by decide)).trans ((ev_ne (by decide)).trans ((ev_eq (by simp only [put_sz, hsz]; decide))))
      refine wpOp_call (t := 70) rfl rfl rfl (.tmp 67) #[.tmp 68, .tmp 69] _ rfl 28 ((ev_ne (by decide)).trans ((ev_ne (by decide)).trans ((ev_ne (by decide)).trans ((ev_ne (by decide)).trans ((ev_eq (by simp only [put_sz, hsz]; decide))))))) #[(.agg #[.slice A0 js.length c0, .int .i64 40, .int .i64 s]), u0] (by simp only [List.map_toArray, List.map_cons, List.map_nil]; rw [q1, q2]) (enters_of Try.func28 (by kernel_rfl) rfl) (Add_is (hj.upb hX) (hu0.upb hX) hl0 hle0 hs hus0 ha0) ?_
      rintro e X2 ⟨B1, d1, rfl, hj2, hb, hnr⟩
      clear q1 q2
      refine ⟨_, rfl, hX.up hb, ?_⟩
      refine wpAnyU_at (L' := #[true, true, true, true, true, false, false, false, false, false, false, true, false, false, false]) (by kernel_rfl) ?_
      rw [put_comm (s := 14) (t := 70) (by decide)]
      exact s101 X2 B1 d1 b2 (hX.up hb) hj2 (z2.upb hb) h2 (hnr b2 z2.lt (nr_of_bs (isJ_bs hj) h2))
    ·
      refine wpOp_alloc29 (t := 13) rfl rfl rfl rfl ?_
      have hal := al1 X (.cells #[.slice none 0 0, .int .i64 0, .int .i64 0] 29)
      refine ⟨hX.up hal, ?_⟩
      refine wpAnyU_at (L' := #[true, true, true, false, true, false, false, false, false, false, true, true, false, false, false]) (by kernel_rfl) ?_
      rw [put_comm (s := 14) (t := 13) (by decide)]
      exact s011 _ X.heap.size b2 (hX.up hal) (Cells.new X 29 [.slice none 0 0, .int .i64 0, .int .i64 0]) hX.size (z2.upb hal) h2
  have s010 : ∀ (X : World) (b1 : Nat), Below W.heap.size W X → Cells X b1 29 [.slice none 0 0, .int .i64 0, .int .i64 0] → W.heap.size ≤ b1 → wpAnyU Try.prog .any (sops 11) (NoPanic Q) (fun X => Below W.heap.size W X) 14 10 #[true, true, true, false, true, false, false, false, false, false, true, false, false, false, false] (((((a.put (some 67) (.func (.func 28) #[] #[])).put (some 68) ((.agg #[.slice A0 js.length c0, .int .i64 40, .int .i64 s]))).put (some 69) (u0)).put (some 71) ((.agg #[.slice A5 ss.length c5, .slice A6 0 c6, .int .i64 (-1), .bool false]))).put (some 13) (.pointer (some ⟨b1, 0, none⟩))) X := by
    intro X b1 hX z1 h1
    refine wpAnyU_go2 (i := 3) (i2 := 11) (by kernel_rfl) ?_ ?_
    ·
      have q1 : (((((a.put (some 67) (.func (.func 28) #[] #[])).put (some 68) ((.agg #[.slice A0 js.length c0, .int .i64 40, .int .i64 s]))).put (some 69) (u0)).put (some 71) ((.agg #[.slice A5 ss.length c5, .slice A6 0 c6, .int .i64 (-1), .bool false]))).put (some 13) (.pointer (some ⟨b1, 0, none⟩))).eval (.tmp 68) = (.agg #[.slice A0 js.length c0, .int .i64 40, .int .i64 s]) := (ev_ne (by decide)).trans ((ev_ne (by decide)).trans ((ev_ne (by decide)).trans ((ev_eq (by simp only [put_sz, hsz]; decide)))))
      have q2 : (((((a.put (some 67) (.func (.func 28) #[] #[])).put (some 68) ((.agg #[.slice A0 js.length c0, .int .i64 40, .int .i64 s]))).put (some 69) (u0)).put (some 71) ((.agg #[.slice A5 ss.length c5, .slice A6 0 c6, .int .i64 (-1), .bool false]))).put (some 13) (.pointer (some ⟨b1, 0, none⟩))).eval (.tmp 69) = u0 := (ev_ne (by decide)).trans ((ev_ne (by decide)).trans ((ev_eq (by simp only [put_sz, hsz]; decide))))
      refine wpOp_call (t := 70) rfl rfl rfl (.tmp 67) #[.tmp 68, .tmp 69] _ rfl 28 ((ev_ne (by decide)).trans ((ev_ne (by decide)).trans ((ev_ne (by decide)).trans ((ev_ne (by decide)).trans ((ev_eq (by simp only [put_sz, hsz]; decide))))))) #[(.agg #[.slice A0 js.length c0, .int .i64 40, .int .i64 s]), u0] (by simp only [List.map_toArray, List.map_cons, List.map_nil]; rw [q1, q2]) (enters_of Try.func28 (by kernel_rfl) rfl) (Add_is (hj.upb hX) (hu0.upb hX) hl0 hle0 hs hus0 ha0) ?_
      rintro e X2 ⟨B1, d1, rfl, hj2, hb, hnr⟩
      clear q1 q2
      refine ⟨_, rfl, hX.up hb, ?_⟩
      refine wpAnyU_at (L' := #[true, true, true, true, true, false, false, false, false, false, true, false, false, false, false]) (by kernel_rfl) ?_
      rw [put_comm (s := 13) (t := 70) (by decide)]
      exact s110 X2 B1 d1 b1 (hX.up hb) hj2 (z1.upb hb) h1 (hnr b1 z1.lt (nr_of_bs (isJ_bs hj) h1))
    ·
      refine wpOp_alloc25 (t := 14) rfl rfl rfl rfl ?_
      have hal := al1 X (.cells #[.slice none 0 0, .slice none 0 0, .int .i64 0, .bool false] 25)
      refine ⟨hX.up hal, ?_⟩
      refine wpAnyU_at (L' := #[true, true, true, false, true, false, false, false, false, false, true, true, false, false, false]) (by kernel_rfl) ?_
      exact s011 _ b1 X.heap.size (hX.up hal) (z1.upb hal) h1 (Cells.new X 25 [.slice none 0 0, .slice none 0 0, .int .i64 0, .bool false]) hX.size
  have s000 : ∀ (X : World) , Below W.heap.size W X → wpAnyU Try.prog .any (sops 11) (NoPanic Q) (fun X => Below W.heap.size W X) 14 11 #[true, true, true, false, true, false, false, false, false, false, false, false, false, false, false] ((((a.put (some 67) (.func (.func 28) #[] #[])).put (some 68) ((.agg #[.slice A0 js.length c0, .int .i64 40, .int .i64 s]))).put (some 69) (u0)).put (some 71) ((.agg #[.slice A5 ss.length c5, .slice A6 0 c6, .int .i64 (-1), .bool false]))) X := by
    intro X hX
    refine wpAnyU_go3 (i := 3) (i2 := 10) (i3 := 11) (by kernel_rfl) ?_ ?_ ?_
    ·
      have q1 : ((((a.put (some 67) (.func (.func 28) #[] #[])).put (some 68) ((.agg #[.slice A0 js.length c0, .int .i64 40, .int .i64 s]))).put (some 69) (u0)).put (some 71) ((.agg #[.slice A5 ss.length c5, .slice A6 0 c6, .int .i64 (-1), .bool false]))).eval (.tmp 68) = (.agg #[.slice A0 js.length c0, .int .i64 40, .int .i64 s]) := (ev_ne (by decide)).trans ((ev_ne (by decide)).trans ((ev_eq (by simp only [put_sz, hsz]; decide))))
      have q2 : ((((a.put (some 67) (.func (.func 28) #[] #[])).put (some 68) ((.agg #[.slice A0 js.length c0, .int .i64 40, .int .i64 s]))).put (some 69) (u0)).put (some 71) ((.agg #[.slice A5 ss.length c5, .slice A6 0 c6, .int .i64 (-1), .bool false]))).eval (.tmp 69) = u0 := (ev_ne (by decide)).trans ((ev_eq (by simp only [put_sz, hsz]; decide)))
      refine wpOp_call (t := 70) rfl rfl rfl (.tmp 67) #[.tmp 68, .tmp 69] _ rfl 28 ((ev_ne (by decide)).trans ((ev_ne (by decide)).trans ((ev_ne (by decide)).trans ((ev_eq (by simp only [put_sz, hsz]; decide)))))) #[(.agg #[.slice A0 js.length c0, .int .i64 40, .int .i64 s]), u0] (by simp only [List.map_toArray, List.map_cons, List.map_nil]; rw [q1, q2]) (enters_of Try.func28 (by kernel_rfl) rfl) (Add_is (hj.upb hX) (hu0.upb hX) hl0 hle0 hs hus0 ha0) ?_
      rintro e X2 ⟨B1, d1, rfl, hj2, hb, hnr⟩
      clear q1 q2
      refine ⟨_, rfl, hX.up hb, ?_⟩
      refine wpAnyU_at (L' := #[true, true, true, true, true, false, false, false, false, false, false, false, false, false, false]) (by kernel_rfl) ?_
      exact s100 X2 B1 d1 (hX.up hb) hj2
    ·
      refine wpOp_alloc29 (t := 13) rfl rfl rfl rfl ?_
      have hal := al1 X (.cells #[.slice none 0 0, .int .i64 0, .int .i64 0] 29)
      refine ⟨hX.up hal, ?_⟩
      refine wpAnyU_at (L' := #[true, true, true, false, true, false, false, false, false, false, true, false, false, false, false]) (by kernel_rfl) ?_
      exact s010 _ X.heap.size (hX.up hal) (Cells.new X 29 [.slice none 0 0, .int .i64 0, .int .i64 0]) hX.size
    ·
      refine wpOp_alloc25 (t := 14) rfl rfl rfl rfl ?_
      have hal := al1 X (.cells #[.slice none 0 0, .slice none 0 0, .int .i64 0, .bool false] 25)
      refine ⟨hX.up hal, ?_⟩
      refine wpAnyU_at (L' := #[true, true, true, false, true, false, false, false, false, false, false, true, false, false, false]) (by kernel_rfl) ?_
      exact s001 _ X.heap.size (hX.up hal) (Cells.new X 25 [.slice none 0 0, .slice none 0 0, .int .i64 0, .bool false]) hX.size
  refine wpAnyU_at (L' := #[false, false, false, false, false, false, false, false, false, false, false, false, false, false, false]) (by kernel_rfl) ?_
  refine wpAnyU_takeD (i := 0) (v := .func (.func 28) #[] #[]) 67 rfl rfl (by kernel_rfl) (by kernel_rfl) (by kernel_rfl) (by kernel_rfl) (by kernel_rfl) (by kernel_rfl) (fun _ _ _ h => h) (yi_move rfl rfl (e7)) hb0 ?_
  refine wpAnyU_at (L' := #[true, false, false, false, false, false, false, false, false, false, false, false, false, false, false]) (by kernel_rfl) ?_
  refine wpAnyU_takeD (i := 1) (v := (.agg #[.slice A0 js.length c0, .int .i64 40, .int .i64 s])) 68 rfl rfl (by kernel_rfl) (by kernel_rfl) (by kernel_rfl) (by kernel_rfl) (by kernel_rfl) (by kernel_rfl) (fun _ _ _ h => h) (yi_load29 rfl rfl ((ev_ne (by decide)).trans (eJ)) (fun X hX => zJ.upb hX)) hb0 ?_
  refine wpAnyU_at (L' := #[true, true, false, false, false, false, false, false, false, false, false, false, false, false, false]) (by kernel_rfl) ?_
  refine wpAnyU_takeD (i := 2) (v := u0) 69 rfl rfl (by kernel_rfl) (by kernel_rfl) (by kernel_rfl) (by kernel_rfl) (by kernel_rfl) (by kernel_rfl) (fun _ _ _ h => h) (yi_move rfl rfl ((ev_ne (by decide)).trans ((ev_ne (by decide)).trans (er0)))) hb0 ?_
  refine wpAnyU_at (L' := #[true, true, true, false, false, false, false, false, false, false, false, false, false, false, false]) (by kernel_rfl) ?_
  refine wpAnyU_takeD (i := 4) (v := (.agg #[.slice A5 ss.length c5, .slice A6 0 c6, .int .i64 (-1), .bool false])) 71 rfl rfl (by kernel_rfl) (by kernel_rfl) (by kernel_rfl) (by kernel_rfl) (by kernel_rfl) (by kernel_rfl) (fun _ _ _ h => h) (yi_load25 rfl rfl ((ev_ne (by decide)).trans ((ev_ne (by decide)).trans ((ev_ne (by decide)).trans (eD)))) (fun X hX => zD.upb hX)) hb0 ?_
  refine wpAnyU_at (L' := #[true, true, true, false, true, false, false, false, false, false, false, false, false, false, false]) (by kernel_rfl) ?_
  exact s000 _ hb0
set_option maxHeartbeats 4000000 in
set_option maxRecDepth 100000 in
theorem steps_reg12 {Q : Exit → Act → World → Prop} {a : Act} {W : World} {u0 : Value} {BJ BD : Nat} {A0 A5 A6 : Option Addr} {c0 c5 c6 : Nat} {s : Int} {js jb rs0 ss s1 : List By}
    (hsz : a.tmps.size = 154) (e7 : a.eval (.tmp 7) = .func (.func 28) #[] #[]) (eJ : a.eval (.tmp 13) = .pointer (some ⟨BJ, 0, none⟩)) (eD : a.eval (.tmp 14) = .pointer (some ⟨BD, 0, none⟩)) (er0 : a.eval (.tmp 1) = u0) (hu0 : IsBs W u0 rs0) (hl0 : rs0.length ≤ 9223372036854775807) (hle0 : ∀ k (h : k < rs0.length), rs0[k].length ≤ 140737488351232)
    (zJ : Cells W BJ 29 [.slice A0 js.length c0, .int .i64 40, .int .i64 s]) (zD : Cells W BD 25 [.slice A5 ss.length c5, .slice A6 0 c6, .int .i64 (-1), .bool false]) (hj : IsJ W (.agg #[.slice A0 js.length c0, .int .i64 40, .int .i64 s]) ⟨js, 40, s⟩) (hd : IsD W (.agg #[.slice A5 ss.length c5, .slice A6 0 c6, .int .i64 (-1), .bool false]) ⟨ss, [], -1, false⟩)
    (hs : 0 ≤ s ∧ s ≤ js.length) (hus0 : Jn.used js ≤ 40) (hus1 : Jn.used jb ≤ 40) (ha0 : Jn.addN 40 js rs0 = jb)
    (sE : Jn.syncE ⟨jb, 40, s⟩ ⟨ss, [], -1, false⟩ = 0) (sJ : Jn.syncJ ⟨jb, 40, s⟩ ⟨ss, [], -1, false⟩ = ⟨jb, 40, jb.length⟩) (sD : Jn.syncD ⟨jb, 40, s⟩ ⟨ss, [], -1, false⟩ = ⟨s1, [], -1, false⟩)
    (hN : ∀ (X : World) (b1 b2 : Nat) (w1 : Value) (A2 A3 A4 : Option Addr) (c2 c3 c4 : Nat), Below W.heap.size W X → W.heap.size ≤ b1 → W.heap.size ≤ b2 → Cells X b1 29 [.slice A2 jb.length c2, .int .i64 40, .int .i64 jb.length] → Cells X b2 25 [.slice A3 s1.length c3, .slice A4 0 c4, .int .i64 (-1), .bool false] → IsJ X (.agg #[.slice A2 jb.length c2, .int .i64 40, .int .i64 jb.length]) ⟨jb, 40, jb.length⟩ → IsD X (.agg #[.slice A3 s1.length c3, .slice A4 0 c4, .int .i64 (-1), .bool false]) ⟨s1, [], -1, false⟩ → Q .normal (((((((((((((a.put (some 77) (.func (.func 28) #[] #[])).put (some 78) ((.agg #[.slice A0 js.length c0, .int .i64 40, .int .i64 s]))).put (some 79) (u0)).put (some 81) ((.agg #[.slice A5 ss.length c5, .slice A6 0 c6, .int .i64 (-1), .bool false]))).put (some 80) (w1)).put (some 82) ((.tuple #[(.agg #[.slice A2 jb.length c2, .int .i64 40, .int .i64 jb.length]), (.agg #[.slice A3 s1.length c3, .slice A4 0 c4, .int .i64 (-1), .bool false]), .int .i64 0]))).put (some 76) ((.tuple #[(.agg #[.slice A2 jb.length c2, .int .i64 40, .int .i64 jb.length]), (.agg #[.slice A3 s1.length c3, .slice A4 0 c4, .int .i64 (-1), .bool false]), .int .i64 0]))).put (some 83) ((.agg #[.slice A2 jb.length c2, .int .i64 40, .int .i64 jb.length]))).put (some 84) ((.agg #[.slice A3 s1.length c3, .slice A4 0 c4, .int .i64 (-1), .bool false]))).put (some 85) ((.int .i64 0))).put (some 16) (.pointer (some ⟨b1, 0, none⟩))).put (some 17) (.pointer (some ⟨b2, 0, none⟩))).put (some 18) (.int .i64 0)) X) :
    (Code.region 12 (sops 12) true).wp Try.prog Q a W := by
  have hb0 : Below W.heap.size W W.drew := below_drewN (Below.refl _ W) 1
  have hsize : (sops 12).size = 15 := by kernel_rfl
  refine wp_region_noPanic ?_
  refine wp_region_U 14 (fun X => Below W.heap.size W X) (by kernel_rfl) ?_
  rw [hsize]
  have s211 : ∀ (X : World) (w1 : Value) (A2 A3 A4 : Option Addr) (c2 c3 c4 : Nat) (b1 : Nat) (b2 : Nat), Below W.heap.size W X → IsJ X (.agg #[.slice A2 jb.length c2, .int .i64 40, .int .i64 jb.length]) ⟨jb, 40, jb.length⟩ → IsD X (.agg #[.slice A3 s1.length c3, .slice A4 0 c4, .int .i64 (-1), .bool false]) ⟨s1, [], -1, false⟩ → Cells X b1 29 [.slice none 0 0, .int .i64 0, .int .i64 0] → W.heap.size ≤ b1 → NR b1 (.slice A2 jb.length c2) jb → NB b1 (.agg #[.slice A3 s1.length c3, .slice A4 0 c4, .int .i64 (-1), .bool false]) (⟨s1, [], -1, false⟩ : Dk) → Cells X b2 25 [.slice none 0 0, .slice none 0 0, .int .i64 0, .bool false] → W.heap.size ≤ b2 → NR b2 (.slice A2 jb.length c2) jb → NB b2 (.agg #[.slice A3 s1.length c3, .slice A4 0 c4, .int .i64 (-1), .bool false]) (⟨s1, [], -1, false⟩ : Dk) → wpAnyU Try.prog .any (sops 12) (NoPanic Q) (fun X => Below W.heap.size W X) 14 3 #[true, true, true, true, true, true, true, true, true, true, true, true, false, false, false] ((((((((((((a.put (some 77) (.func (.func 28) #[] #[])).put (some 78) ((.agg #[.slice A0 js.length c0, .int .i64 40, .int .i64 s]))).put (some 79) (u0)).put (some 81) ((.agg #[.slice A5 ss.length c5, .slice A6 0 c6, .int .i64 (-1), .bool false]))).put (some 80) (w1)).put (some 82) ((.tuple #[(.agg #[.slice A2 jb.length c2, .int .i64 40, .int .i64 jb.length]), (.agg #[.slice A3 s1.length c3, .slice A4 0 c4, .int .i64 (-1), .bool false]), .int .i64 0]))).put (some 76) ((.tuple #[(.agg #[.slice A2 jb.length c2, .int .i64 40, .int .i64 jb.length]), (.agg #[.slice A3 s1.length c3, .slice A4 0 c4, .int .i64 (-1), .bool false]), .int .i64 0]))).put (some 83) ((.agg #[.slice A2 jb.length c2, .int .i64 40, .int .i64 jb.length]))).put (some 84) ((.agg #[.slice A3 s1.length c3, .slice A4 0 c4, .int .i64 (-1), .bool false]))).put (some 85) ((.int .i64 0))).put (some 16) (.pointer (some ⟨b1, 0, none⟩))).put (some 17) (.pointer (some ⟨b2, 0, none⟩))) X := by
    intro X w1 A2 A3 A4 c2 c3 c4 b1 b2 hX hjk hdk z1 h1 nr1 nb1 z2 h2 nr2 nb2
    refine wpAnyU_go1 (i := 12) (by kernel_rfl) ?_
    refine wpOp_store29 rfl rfl rfl rfl ((ev_ne (by decide)).trans ((ev_eq (by simp only [put_sz, hsz]; decide)))) ((ev_ne (by decide)).trans ((ev_ne (by decide)).trans ((ev_ne (by decide)).trans ((ev_ne (by decide)).trans ((ev_eq (by simp only [put_sz, hsz]; decide))))))) z1 ?_
    have g1 := grown_set3 X b1 (.slice A2 jb.length c2) (.int .i64 40) (.int .i64 jb.length)
    have hne := box_ne z1 z2
    have hX1 := below_set3 hX h1 (.slice A2 jb.length c2) (.int .i64 40) (.int .i64 jb.length)
    have z2' := grownK z2 g1 (fun h => hne h.symm)
    refine ⟨hX1, ?_⟩
    refine wpAnyU_at (L' := #[true, true, true, true, true, true, true, true, true, true, true, true, true, false, false]) (by kernel_rfl) ?_
    refine wpAnyU_go1 (i := 13) (by kernel_rfl) ?_
    refine wpOp_store25 rfl rfl rfl rfl ((ev_eq (by simp only [put_sz, hsz]; decide))) ((ev_ne (by decide)).trans ((ev_ne (by decide)).trans ((ev_ne (by decide)).trans ((ev_eq (by simp only [put_sz, hsz]; decide)))))) z2' ?_
    have g2 := grown_set4 (set3 X b1 (.slice A2 jb.length c2) (.int .i64 40) (.int .i64 jb.length)) b2 (.slice A3 s1.length c3) (.slice A4 0 c4) (.int .i64 (-1)) (.bool false)
    have hX2 := below_set4 hX1 h2 (.slice A3 s1.length c3) (.slice A4 0 c4) (.int .i64 (-1)) (.bool false)
    refine ⟨hX2, ?_⟩
    refine wpAnyU_at (L' := #[true, true, true, true, true, true, true, true, true, true, true, true, true, true, false]) (by kernel_rfl) ?_
    refine wpAnyU_yield (i := 14) (v := .int .i64 0) 18 (by kernel_rfl) rfl rfl (yi_assign rfl rfl ((ev_ne (by decide)).trans ((ev_ne (by decide)).trans ((ev_eq (by simp only [put_sz, hsz]; decide)))))) hX2 ?_
    refine wpAnyU_done (by kernel_rfl) (NoPanic.normal ?_) _
    exact hN _ b1 b2 w1 A2 A3 A4 c2 c3 c4 hX2 h1 h2 (grownK (z1.set3 _ _ _) g2 hne) (z2'.set4 _ _ _ _) (isJ_mk (((isJ_bs hjk).offE nr1 z1 g1).offF nr2 z2' g2)) ((hdk.boxJ rfl nb1 z1 g1).box nb2 z2' g2)
  have s201 : ∀ (X : World) (w1 : Value) (A2 A3 A4 : Option Addr) (c2 c3 c4 : Nat) (b2 : Nat), Below W.heap.size W X → IsJ X (.agg #[.slice A2 jb.length c2, .int .i64 40, .int .i64 jb.length]) ⟨jb, 40, jb.length⟩ → IsD X (.agg #[.slice A3 s1.length c3, .slice A4 0 c4, .int .i64 (-1), .bool false]) ⟨s1, [], -1, false⟩ → Cells X b2 25 [.slice none 0 0, .slice none 0 0, .int .i64 0, .bool false] → W.heap.size ≤ b2 → NR b2 (.slice A2 jb.length c2) jb → NB b2 (.agg #[.slice A3 s1.length c3, .slice A4 0 c4, .int .i64 (-1), .bool false]) (⟨s1, [], -1, false⟩ : Dk) → wpAnyU Try.prog .any (sops 12) (NoPanic Q) (fun X => Below W.heap.size W X) 14 4 #[true, true, true, true, true, true, true, true, true, true, false, true, false, false, false] (((((((((((a.put (some 77) (.func (.func 28) #[] #[])).put (some 78) ((.agg #[.slice A0 js.length c0, .int .i64 40, .int .i64 s]))).put (some 79) (u0)).put (some 81) ((.agg #[.slice A5 ss.length c5, .slice A6 0 c6, .int .i64 (-1), .bool false]))).put (some 80) (w1)).put (some 82) ((.tuple #[(.agg #[.slice A2 jb.length c2, .int .i64 40, .int .i64 jb.length]), (.agg #[.slice A3 s1.length c3, .slice A4 0 c4, .int .i64 (-1), .bool false]), .int .i64 0]))).put (some 76) ((.tuple #[(.agg #[.slice A2 jb.length c2, .int .i64 40, .int .i64 jb.length]), (.agg #[.slice A3 s1.length c3, .slice A4 0 c4, .int .i64 (-1), .bool false]), .int .i64 0]))).put (some 83) ((.agg #[.slice A2 jb.length c2, .int .i64 40, .int .i64 jb.length]))).put (some 84) ((.agg #[.slice A3 s1.length c3, .slice A4 0 c4, .int .i64 (-1), .bool false]))).put (some 85) ((.int .i64 0))).put (some 17) (.pointer (some ⟨b2, 0, none⟩))) X := by
    intro X w1 A2 A3 A4 c2 c3 c4 b2 hX hjk hdk z2 h2 nr2 nb2
    refine wpAnyU_go1 (i := 10) (by kernel_rfl) ?_
    ·
      refine wpOp_alloc29 (t := 16) rfl rfl rfl rfl ?_
      have hal := al1 X (.cells #[.slice none 0 0, .int .i64 0, .int .i64 0] 29)
      refine ⟨hX.up hal, ?_⟩
      refine wpAnyU_at (L' := #[true, true, true, true, true, true, true, true, true, true, true, true, false, false, false]) (by kernel_rfl) ?_
      rw [put_comm (s := 17) (t := 16) (by decide)]
      exact s211 _ w1 A2 A3 A4 c2 c3 c4 X.heap.size b2 (hX.up hal) (hjk.upb hal) (hdk.upb hal) (Cells.new X 29 [.slice none 0 0, .int .i64 0, .int .i64 0]) hX.size (nr_of_bs (isJ_bs hjk) (Nat.le_refl _)) (nb_new hdk (Nat.le_refl _)) (z2.upb hal) h2 nr2 nb2
  have s210 : ∀ (X : World) (w1 : Value) (A2 A3 A4 : Option Addr) (c2 c3 c4 : Nat) (b1 : Nat), Below W.heap.size W X → IsJ X (.agg #[.slice A2 jb.length c2, .int .i64 40, .int .i64 jb.length]) ⟨jb, 40, jb.length⟩ → IsD X (.agg #[.slice A3 s1.length c3, .slice A4 0 c4, .int .i64 (-1), .bool false]) ⟨s1, [], -1, false⟩ → Cells X b1 29 [.slice none 0 0, .int .i64 0, .int .i64 0] → W.heap.size ≤ b1 → NR b1 (.slice A2 jb.length c2) jb → NB b1 (.agg #[.slice A3 s1.length c3, .slice A4 0 c4, .int .i64 (-1), .bool false]) (⟨s1, [], -1, false⟩ : Dk) → wpAnyU Try.prog .any (sops 12) (NoPanic Q) (fun X => Below W.heap.size W X) 14 4 #[true, true, true, true, true, true, true, true, true, true, true, false, false, false, false] (((((((((((a.put (some 77) (.func (.func 28) #[] #[])).put (some 78) ((.agg #[.slice A0 js.length c0, .int .i64 40, .int .i64 s]))).put (some 79) (u0)).put (some 81) ((.agg #[.slice A5 ss.length c5, .slice A6 0 c6, .int .i64 (-1), .bool false]))).put (some 80) (w1)).put (some 82) ((.tuple #[(.agg #[.slice A2 jb.length c2, .int .i64 40, .int .i64 jb.length]), (.agg #[.slice A3 s1.length c3, .slice A4 0 c4, .int .i64 (-1), .bool false]), .int .i64 0]))).put (some 76) ((.tuple #[(.agg #[.slice A2 jb.length c2, .int .i64 40, .int .i64 jb.length]), (.agg #[.slice A3 s1.length c3, .slice A4 0 c4, .int .i64 (-1), .bool false]), .int .i64 0]))).put (some 83) ((.agg #[.slice A2 jb.length c2, .int .i64 40, .int .i64 jb.length]))).put (some 84) ((.agg #[.slice A3 s1.length c3, .slice A4 0 c4, .int .i64 (-1), .bool false]))).put (some 85) ((.int .i64 0))).put (some 16) (.pointer (some ⟨b1, 0, none⟩))) X := by
    intro X w1 A2 A3 A4 c2 c3 c4 b1 hX hjk hdk z1 h1 nr1 nb1
    refine wpAnyU_go1 (i := 11) (by kernel_rfl) ?_
    ·
      refine wpOp_alloc25 (t := 17) rfl rfl rfl rfl ?_
      have hal := al1 X (.cells #[.slice none 0 0, .slice none 0 0, .int .i64 0, .bool false] 25)
      refine ⟨hX.up hal, ?_⟩
      refine wpAnyU_at (L' := #[true, true, true, true, true, true, true, true, true, true, true, true, false, false, false]) (by kernel_rfl) ?_
      exact s211 _ w1 A2 A3 A4 c2 c3 c4 b1 X.heap.size (hX.up hal) (hjk.upb hal) (hdk.upb hal) (z1.upb hal) h1 nr1 nb1 (Cells.new X 25 [.slice none 0 0, .slice none 0 0, .int .i64 0, .bool false]) hX.size (nr_of_bs (isJ_bs hjk) (Nat.le_refl _)) (nb_new hdk (Nat.le_refl _))
  have s200 : ∀ (X : World) (w1 : Value) (A2 A3 A4 : Option Addr) (c2 c3 c4 : Nat), Below W.heap.size W X → IsJ X (.agg #[.slice A2 jb.length c2, .int .i64 40, .int .i64 jb.length]) ⟨jb, 40, jb.length⟩ → IsD X (.agg #[.slice A3 s1.length c3, .slice A4 0 c4, .int .i64 (-1), .bool false]) ⟨s1, [], -1, false⟩ → wpAnyU Try.prog .any (sops 12) (NoPanic Q) (fun X => Below W.heap.size W X) 14 5 #[true, true, true, true, true, true, true, true, true, true, false, false, false, false, false] ((((((((((a.put (some 77) (.func (.func 28) #[] #[])).put (some 78) ((.agg #[.slice A0 js.length c0, .int .i64 40, .int .i64 s]))).put (some 79) (u0)).put (some 81) ((.agg #[.slice A5 ss.length c5, .slice A6 0 c6, .int .i64 (-1), .bool false]))).put (some 80) (w1)).put (some 82) ((.tuple #[(.agg #[.slice A2 jb.length c2, .int .i64 40, .int .i64 jb.length]), (.agg #[.slice A3 s1.length c3, .slice A4 0 c4, .int .i64 (-1), .bool false]), .int .i64 0]))).put (some 76) ((.tuple #[(.agg #[.slice A2 jb.length c2, .int .i64 40, .int .i64 jb.length]), (.agg #[.slice A3 s1.length c3, .slice A4 0 c4, .int .i64 (-1), .bool false]), .int .i64 0]))).put (some 83) ((.agg #[.slice A2 jb.length c2, .int .i64 40, .int .i64 jb.length]))).put (some 84) ((.agg #[.slice A3 s1.length c3, .slice A4 0 c4, .int .i64 (-1), .bool false]))).put (some 85) ((.int .i64 0))) X := by
    intro X w1 A2 A3 A4 c2 c3 c4 hX hjk hdk
    refine wpAnyU_go2 (i := 10) (i2 := 11) (by kernel_rfl) ?_ ?_
    ·
      refine wpOp_alloc29 (t := 16) rfl rfl rfl rfl ?_
      have hal := al1 X (.cells #[.slice none 0 0, .int .i64 0, .int .i64 0] 29)
      refine ⟨hX.up hal, ?_⟩
      refine wpAnyU_at (L' := #[true, true, true, true, true, true, true, true, true, true, true, false, false, false, false]) (by kernel_rfl) ?_
      exact s210 _ w1 A2 A3 A4 c2 c3 c4 X.heap.size (hX.up hal) (hjk.upb hal) (hdk.upb hal) (Cells.new X 29 [.slice none 0 0, .int .i64 0, .int .i64 0]) hX.size (nr_of_bs (isJ_bs hjk) (Nat.le_refl _)) (nb_new hdk (Nat.le_refl _))
    ·
      refine wpOp_alloc25 (t := 17) rfl rfl rfl rfl ?_
      have hal := al1 X (.cells #[.slice none 0 0, .slice none 0 0, .int .i64 0, .bool false] 25)
      refine ⟨hX.up hal, ?_⟩
      refine wpAnyU_at (L' := #[true, true, true, true, true, true, true, true, true, true, false, true, false, false, false]) (by kernel_rfl) ?_
      exact s201 _ w1 A2 A3 A4 c2 c3 c4 X.heap.size (hX.up hal) (hjk.upb hal) (hdk.upb hal) (Cells.new X 25 [.slice none 0 0, .slice none 0 0, .int .i64 0, .bool false]) hX.size (nr_of_bs (isJ_bs hjk) (Nat.le_refl _)) (nb_new hdk (Nat.le_refl _))
  have s111 : ∀ (X : World) (B1 : Option Addr) (d1 : Nat) (b1 : Nat) (b2 : Nat), Below W.heap.size W X → IsJ X (.agg #[.slice B1 jb.length d1, .int .i64 40, .int .i64 s]) ⟨jb, 40, s⟩ → Cells X b1 29 [.slice none 0 0, .int .i64 0, .int .i64 0] → W.heap.size ≤ b1 → NR b1 (.slice B1 jb.length d1) jb → Cells X b2 25 [.slice none 0 0, .slice none 0 0, .int .i64 0, .bool false] → W.heap.size ≤ b2 → NR b2 (.slice B1 jb.length d1) jb → wpAnyU Try.prog .any (sops 12) (NoPanic Q) (fun X => Below W.heap.size W X) 14 8 #[true, true, true, true, true, false, false, false, false, false, true, true, false, false, false] (((((((a.put (some 77) (.func (.func 28) #[] #[])).put (some 78) ((.agg #[.slice A0 js.length c0, .int .i64 40, .int .i64 s]))).put (some 79) (u0)).put (some 81) ((.agg #[.slice A5 ss.length c5, .slice A6 0 c6, .int .i64 (-1), .bool false]))).put (some 80) ((.agg #[.slice B1 jb.length d1, .int .i64 40, .int .i64 s]))).put (some 16) (.pointer (some ⟨b1, 0, none⟩))).put (some 17) (.pointer (some ⟨b2, 0, none⟩))) X := by
    intro X B1 d1 b1 b2 hX hjk z1 h1 nr1 z2 h2 nr2
    refine wpAnyU_go1 (i := 5) (by kernel_rfl) ?_
    ·
      have q1 : (((((((a.put (some 77) (.func (.func 28) #[] #[])).put (some 78) ((.agg #[.slice A0 js.length c0, .int .i64 40, .int .i64 s]))).put (some 79) (u0)).put (some 81) ((.agg #[.slice A5 ss.length c5, .slice A6 0 c6, .int .i64 (-1), .bool false]))).put (some 80) ((.agg #[.slice B1 jb.length d1, .int .i64 40, .int .i64 s]))).put (some 16) (.pointer (some ⟨b1, 0, none⟩))).put (some 17) (.pointer (some ⟨b2, 0, none⟩))).eval (.tmp 80) = (.agg #[.slice B1 jb.length d1, .int .i64 40, .int .i64 s]) := (ev_ne (by decide)).trans ((ev_ne (by decide)).trans ((ev_eq (by simp only [put_sz, hsz]; decide))))
      have q2 : (((((((a.put (some 77) (.func (.func 28) #[] #[])).put (some 78) ((.agg #[.slice A0 js.length c0, .int .i64 40, .int .i64 s]))).put (some 79) (u0)).put (some 81) ((.agg #[.slice A5 ss.length c5, .slice A6 0 c6, .int .i64 (-1), .bool false]))).put (some 80) ((.agg #[.slice B1 jb.length d1, .int .i64 40, .int .i64 s]))).put (some 16) (.pointer (some ⟨b1, 0, none⟩))).put (some 17) (.pointer (some ⟨b2, 0, none⟩))).eval (.tmp 81) = (.agg #[.slice A5 ss.length c5, .slice A6 0 c6, .int .i64 (-1), .bool false]) := (ev_ne (by decide)).trans ((ev_ne (by decide)).trans ((ev_ne (by decide)).trans ((ev_eq (by simp only [put_sz, hsz]; decide)))))
      refine wpOp_call (t := 82) rfl rfl rfl (.func 21) #[.tmp 80, .tmp 81] _ rfl 21 rfl #[(.agg #[.slice B1 jb.length d1, .int .i64 40, .int .i64 s]), (.agg #[.slice A5 ss.length c5, .slice A6 0 c6, .int .i64 (-1), .bool false])] (by simp only [List.map_toArray, List.map_cons, List.map_nil]; rw [q1, q2]) (enters_of Try.func21 (by kernel_rfl) rfl) (JSync_is (n := jb.length) (m := 40) (s := jb.length) hjk (Jn.sm_used (by show Jn.used jb ≤ 4096; omega)) (hd.upb hX) sE sJ sD rfl rfl rfl) ?_
      rintro e X2 ⟨A2, c2, A3, c3, A4, c4, rfl, hj2, hd2, hb, hsj, hsd⟩
      clear q1 q2
      refine ⟨_, rfl, hX.up hb, ?_⟩
      refine wpAnyU_at (L' := #[true, true, true, true, true, true, false, false, false, false, true, true, false, false, false]) (by kernel_rfl) ?_
      refine wpAnyU_takeD (i := 6) (v := (.tuple #[(.agg #[.slice A2 jb.length c2, .int .i64 40, .int .i64 jb.length]), (.agg #[.slice A3 s1.length c3, .slice A4 0 c4, .int .i64 (-1), .bool false]), .int .i64 0])) 76 rfl rfl (by kernel_rfl) (by kernel_rfl) (by kernel_rfl) (by kernel_rfl) (by kernel_rfl) (by kernel_rfl) (fun _ _ _ h => h) (yi_move rfl rfl ((ev_eq (by simp only [put_sz, hsz]; decide)))) (hX.up hb) ?_
      refine wpAnyU_at (L' := #[true, true, true, true, true, true, true, false, false, false, true, true, false, false, false]) (by kernel_rfl) ?_
      refine wpAnyU_takeD (i := 7) (v := (.agg #[.slice A2 jb.length c2, .int .i64 40, .int .i64 jb.length])) 83 rfl rfl (by kernel_rfl) (by kernel_rfl) (by kernel_rfl) (by kernel_rfl) (by kernel_rfl) (by kernel_rfl) (fun _ _ _ h => h) (yi_ext rfl rfl ((ev_eq (by simp only [put_sz, hsz]; decide))) rfl) (hX.up hb) ?_
      refine wpAnyU_at (L' := #[true, true, true, true, true, true, true, true, false, false, true, true, false, false, false]) (by kernel_rfl) ?_
      refine wpAnyU_takeD (i := 8) (v := (.agg #[.slice A3 s1.length c3, .slice A4 0 c4, .int .i64 (-1), .bool false])) 84 rfl rfl (by kernel_rfl) (by kernel_rfl) (by kernel_rfl) (by kernel_rfl) (by kernel_rfl) (by kernel_rfl) (fun _ _ _ h => h) (yi_ext rfl rfl ((ev_ne (by decide)).trans ((ev_eq (by simp only [put_sz, hsz]; decide)))) rfl) (hX.up hb) ?_
      refine wpAnyU_at (L' := #[true, true, true, true, true, true, true, true, true, false, true, true, false, false, false]) (by kernel_rfl) ?_
      refine wpAnyU_takeD (i := 9) (v := (.int .i64 0)) 85 rfl rfl (by kernel_rfl) (by kernel_rfl) (by kernel_rfl) (by kernel_rfl) (by kernel_rfl) (by kernel_rfl) (fun _ _ _ h => h) (yi_ext rfl rfl ((ev_ne (by decide)).trans ((ev_ne (by decide)).trans ((ev_eq (by simp only [put_sz, hsz]; decide))))) rfl) (hX.up hb) ?_
      refine wpAnyU_at (L' := #[true, true, true, true, true, true, true, true, true, true, true, true, false, false, false]) (by kernel_rfl) ?_
      rw [put_comm (s := 17) (t := 82) (by decide), put_comm (s := 16) (t := 82) (by decide), put_comm (s := 17) (t := 76) (by decide), put_comm (s := 16) (t := 76) (by decide), put_comm (s := 17) (t := 83) (by decide), put_comm (s := 16) (t := 83) (by decide), put_comm (s := 17) (t := 84) (by decide), put_comm (s := 16) (t := 84) (by decide), put_comm (s := 17) (t := 85) (by decide), put_comm (s := 16) (t := 85) (by decide)]
      exact s211 X2 (.agg #[.slice B1 jb.length d1, .int .i64 40, .int .i64 s]) A2 A3 A4 c2 c3 c4 b1 b2 (hX.up hb) hj2 hd2 (z1.upb hb) h1 (nr_of_sec hsj z1.lt nr1) (nb_sec (hd.upb hX) hd2 hsd (nb_new hd h1) z1.lt) (z2.upb hb) h2 (nr_of_sec hsj z2.lt nr2) (nb_sec (hd.upb hX) hd2 hsd (nb_new hd h2) z2.lt)
  have s101 : ∀ (X : World) (B1 : Option Addr) (d1 : Nat) (b2 : Nat), Below W.heap.size W X → IsJ X (.agg #[.slice B1 jb.length d1, .int .i64 40, .int .i64 s]) ⟨jb, 40, s⟩ → Cells X b2 25 [.slice none 0 0, .slice none 0 0, .int .i64 0, .bool false] → W.heap.size ≤ b2 → NR b2 (.slice B1 jb.length d1) jb → wpAnyU Try.prog .any (sops 12) (NoPanic Q) (fun X => Below W.heap.size W X) 14 9 #[true, true, true, true, true, false, false, false, false, false, false, true, false, false, false] ((((((a.put (some 77) (.func (.func 28) #[] #[])).put (some 78) ((.agg #[.slice A0 js.length c0, .int .i64 40, .int .i64 s]))).put (some 79) (u0)).put (some 81) ((.agg #[.slice A5 ss.length c5, .slice A6 0 c6, .int .i64 (-1), .bool false]))).put (some 80) ((.agg #[.slice B1 jb.length d1, .int .i64 40, .int .i64 s]))).put (some 17) (.pointer (some ⟨b2, 0, none⟩))) X := by
    intro X B1 d1 b2 hX hjk z2 h2 nr2
    refine wpAnyU_go2 (i := 5) (i2 := 10) (by kernel_rfl) ?_ ?_
    ·
      have q1 : ((((((a.put (some 77) (.func (.func 28) #[] #[])).put (some 78) ((.agg #[.slice A0 js.length c0, .int .i64 40, .int .i64 s]))).put (some 79) (u0)).put (some 81) ((.agg #[.slice A5 ss.length c5, .slice A6 0 c6, .int .i64 (-1), .bool false]))).put (some 80) ((.agg #[.slice B1 jb.length d1, .int .i64 40, .int .i64 s]))).put (some 17) (.pointer (some ⟨b2, 0, none⟩))).eval (.tmp 80) = (.agg #[.slice B1 jb.length d1, .int .i64 40, .int .i64 s]) := (ev_ne (by decide)).trans ((ev_eq (by simp only [put_sz, hsz]; decide)))
      have q2 : ((((((a.put (some 77) (.func (.func 28) #[] #[])).put (some 78) ((.agg #[.slice A0 js.length c0, .int .i64 40, .int .i64 s]))).put (some 79) (u0)).put (some 81) ((.agg #[.slice A5 ss.length c5, .slice A6 0 c6, .int .i64 (-1), .bool false]))).put (some 80) ((.agg #[.slice B1 jb.length d1, .int .i64 40, .int .i64 s]))).put (some 17) (.pointer (some ⟨b2, 0, none⟩))).eval (.tmp 81) = (.agg #[.slice A5 ss.length c5, .slice A6 0 c6, .int .i64 (-1), .bool false]) := (ev_ne (by decide)).trans ((ev_ne (by decide)).trans ((ev_eq (by simp only [put_sz, hsz]; decide))))
      refine wpOp_call (t := 82) rfl rfl rfl (.func 21) #[.tmp 80, .tmp 81] _ rfl 21 rfl #[(.agg #[.slice B1 jb.length d1, .int .i64 40, .int .i64 s]), (.agg #[.slice A5 ss.length c5, .slice A6 0 c6, .int .i64 (-1), .bool false])] (by simp only [List.map_toArray, List.map_cons, List.map_nil]; rw [q1, q2]) (enters_of Try.func21 (by kernel_rfl) rfl) (JSync_is (n := jb.length) (m := 40) (s := jb.length) hjk (Jn.sm_used (by show Jn.used jb ≤ 4096; omega)) (hd.upb hX) sE sJ sD rfl rfl rfl) ?_
      rintro e X2 ⟨A2, c2, A3, c3, A4, c4, rfl, hj2, hd2, hb, hsj, hsd⟩
      clear q1 q2
      refine ⟨_, rfl, hX.up hb, ?_⟩
      refine wpAnyU_at (L' := #[true, true, true, true, true, true, false, false, false, false, false, true, false, false, false]) (by kernel_rfl) ?_
      refine wpAnyU_takeD (i := 6) (v := (.tuple #[(.agg #[.slice A2 jb.length c2, .int .i64 40, .int .i64 jb.length]), (.agg #[.slice A3 s1.length c3, .slice A4 0 c4, .int .i64 (-1), .bool false]), .int .i64 0])) 76 rfl rfl (by kernel_rfl) (by kernel_rfl) (by kernel_rfl) (by kernel_rfl) (by kernel_rfl) (by kernel_rfl) (fun _ _ _ h => h) (yi_move rfl rfl ((ev_eq (by simp only [put_sz, hsz]; decide)))) (hX.up hb) ?_
      refine wpAnyU_at (L' := #[true, true, true, true, true, true, true, false, false, false, false, true, false, false, false]) (by kernel_rfl) ?_
      refine wpAnyU_takeD (i := 7) (v := (.agg #[.slice A2 jb.length c2, .int .i64 40, .int .i64 jb.length])) 83 rfl rfl (by kernel_rfl) (by kernel_rfl) (by kernel_rfl) (by kernel_rfl) (by kernel_rfl) (by kernel_rfl) (fun _ _ _ h => h) (yi_ext rfl rfl ((ev_eq (by simp only [put_sz, hsz]; decide))) rfl) (hX.up hb) ?_
      refine wpAnyU_at (L' := #[true, true, true, true, true, true, true, true, false, false, false, true, false, false, false]) (by kernel_rfl) ?_
      refine wpAnyU_takeD (i := 8) (v := (.agg #[.slice A3 s1.length c3, .slice A4 0 c4, .int .i64 (-1), .bool false])) 84 rfl rfl (by kernel_rfl) (by kernel_rfl) (by kernel_rfl) (by kernel_rfl) (by kernel_rfl) (by kernel_rfl) (fun _ _ _ h => h) (yi_ext rfl rfl ((ev_ne (by decide)).trans ((ev_eq (by simp only [put_sz, hsz]; decide)))) rfl) (hX.up hb) ?_
      refine wpAnyU_at (L' := #[true, true, true, true, true, true, true, true, true, false, false, true, false, false, false]) (by kernel_rfl) ?_
      refine wpAnyU_takeD (i := 9) (v := (.int .i64 0)) 85 rfl rfl (by kernel_rfl) (by kernel_rfl) (by kernel_rfl) (by kernel_rfl) (by kernel_rfl) (by kernel_rfl) (fun _ _ _ h => h) (yi_ext rfl rfl ((ev_ne (by decide)).trans ((ev_ne (by decide)).trans ((ev_eq (by simp only [put_sz, hsz]; decide))))) rfl) (hX.up hb) ?_
      refine wpAnyU_at (L' := #[true, true, true, true, true, true, true, true, true, true, false, true, false, false, false]) (by kernel_rfl) ?_
      rw [put_comm (s := 17) (t := 82) (by decide), put_comm (s := 17) (t := 76) (by decide), put_comm (s := 17) (t := 83) (by decide), put_comm (s := 17) (t := 84) (by decide), put_comm (s := 17) (t := 85) (by decide)]
      exact s201 X2 (.agg #[.slice B1 jb.length d1, .int .i64 40, .int .i64 s]) A2 A3 A4 c2 c3 c4 b2 (hX.up hb) hj2 hd2 (z2.upb hb) h2 (nr_of_sec hsj z2.lt nr2) (nb_sec (hd.upb hX) hd2 hsd (nb_new hd h2) z2.lt)
    ·
      refine wpOp_alloc29 (t := 16) rfl rfl rfl rfl ?_
      have hal := al1 X (.cells #[.slice none 0 0, .int .i64 0, .int .i64 0] 29)
      refine ⟨hX.up hal, ?_⟩
      refine wpAnyU_at (L' := #[true, true, true, true, true, false, false, false, false, false, true, true, false, false, false]) (by kernel_rfl) ?_
      rw [put_comm (s := 17) (t := 16) (by decide)]
      exact s111 _ B1 d1 X.heap.size b2 (hX.up hal) (hjk.upb hal) (Cells.new X 29 [.slice none 0 0, .int .i64 0, .int .i64 0]) hX.size (nr_of_bs (isJ_bs hjk) (Nat.le_refl _)) (z2.upb hal) h2 nr2
  have s110 : ∀ (X : World) (B1 : Option Addr) (d1 : Nat) (b1 : Nat), Below W.heap.size W X → IsJ X (.agg #[.slice B1 jb.length d1, .int .i64 40, .int .i64 s]) ⟨jb, 40, s⟩ → Cells X b1 29 [.slice none 0 0, .int .i64 0, .int .i64 0] → W.heap.size ≤ b1 → NR b1 (.slice B1 jb.length d1) jb → wpAnyU Try.prog .any (sops 12) (NoPanic Q) (fun X => Below W.heap.size W X) 14 9 #[true, true, true, true, true, false, false, false, false, false, true, false, false, false, false] ((((((a.put (some 77) (.func (.func 28) #[] #[])).put (some 78) ((.agg #[.slice A0 js.length c0, .int .i64 40, .int .i64 s]))).put (some 79) (u0)).put (some 81) ((.agg #[.slice A5 ss.length c5, .slice A6 0 c6, .int .i64 (-1), .bool false]))).put (some 80) ((.agg #[.slice B1 jb.length d1, .int .i64 40, .int .i64 s]))).put (some 16) (.pointer (some ⟨b1, 0, none⟩))) X := by
    intro X B1 d1 b1 hX hjk z1 h1 nr1
    refine wpAnyU_go2 (i := 5) (i2 := 11) (by kernel_rfl) ?_ ?_
    ·
      have q1 : ((((((a.put (some 77) (.func (.func 28) #[] #[])).put (some 78) ((.agg #[.slice A0 js.length c0, .int .i64 40, .int .i64 s]))).put (some 79) (u0)).put (some 81) ((.agg #[.slice A5 ss.length c5, .slice A6 0 c6, .int .i64 (-1), .bool false]))).put (some 80) ((.agg #[.slice B1 jb.length d1, .int .i64 40, .int .i64 s]))).put (some 16) (.pointer (some ⟨b1, 0, none⟩))).eval (.tmp 80) = (.agg #[.slice B1 jb.length d1, .int .i64 40, .int .i64 s]) := (ev_ne (by decide)).trans ((ev_eq (by simp only [put_sz, hsz]; decide)))
      have q2 : ((((((a.put (some 77) (.func (.func 28) #[] #[])).put (some 78) ((.agg #[.slice A0 js.length c0, .int .i64 40, .int .i64 s]))).put (some 79) (u0)).put (some 81) ((.agg #[.slice A5 ss.length c5, .slice A6 0 c6, .int .i64 (-1), .bool false]))).put (some 80) ((.agg #[.slice B1 jb.length d1, .int .i64 40, .int .i64 s]))).put (some 16) (.pointer (some ⟨b1, 0, none⟩))).eval (.tmp 81) = (.agg #[.slice A5 ss.length c5, .slice A6 0 c6, .int .i64 (-1), .bool false]) := (ev_ne (by decide)).trans ((ev_ne (by decide)).trans ((ev_eq (by simp only [put_sz, hsz]; decide))))
      refine wpOp_call (t := 82) rfl rfl rfl (.func 21) #[.tmp 80, .tmp 81] _ rfl 21 rfl #[(.agg #[.slice B1 jb.length d1, .int .i64 40, .int .i64 s]), (.agg #[.slice A5 ss.length c5, .slice A6 0 c6, .int .i64 (-1), .bool false])] (by simp only [List.map_toArray, List.map_cons, List.map_nil]; rw [q1, q2]) (enters_of Try.func21 (by kernel_rfl) rfl) (JSync_is (n := jb.length) (m := 40) (s := jb.length) hjk (Jn.sm_used (by show Jn.used jb ≤ 4096; omega)) (hd.upb hX) sE sJ sD rfl rfl rfl) ?_
      rintro e X2 ⟨A2, c2, A3, c3, A4, c4, rfl, hj2, hd2, hb, hsj, hsd⟩
      clear q1 q2
      refine ⟨_, rfl, hX.up hb, ?_⟩
      refine wpAnyU_at (L' := #[true, true, true, true, true, true, false, false, false, false, true, false, false, false, false]) (by kernel_rfl) ?_
      refine wpAnyU_takeD (i := 6) (v := (.tuple #[(.agg #[.slice A2 jb.length c2, .int .i64 40, .int .i64 jb.length]), (.agg #[.slice A3 s1.length c3, .slice A4 0 c4, .int .i64 (-1), .bool false]), .int .i64 0])) 76 rfl rfl (by kernel_rfl) (by kernel_rfl) (by kernel_rfl) (by kernel_rfl) (by kernel_rfl) (by kernel_rfl) (fun _ _ _ h => h) (yi_move rfl rfl ((ev_eq (by simp only [put_sz, hsz]; decide)))) (hX.up hb) ?_
      refine wpAnyU_at (L' := #[true, true, true, true, true, true, true, false, false, false, true, false, false, false, false]) (by kernel_rfl) ?_
      refine wpAnyU_takeD (i := 7) (v := (.agg #[.slice A2 jb.length c2, .int .i64 40, .int .i64 jb.length])) 83 rfl rfl (by kernel_rfl) (by kernel_rfl) (by kernel_rfl) (by kernel_rfl) (by kernel_rfl) (by kernel_rfl) (fun _ _ _ h => h) (yi_ext rfl rfl ((ev_eq (by simp only [put_sz, hsz]; decide))) rfl) (hX.up hb) ?_
      refine wpAnyU_at (L' := #[true, true, true, true, true, true, true, true, false, false, true, false, false, false, false]) (by kernel_rfl) ?_
      refine wpAnyU_takeD (i := 8) (v := (.agg #[.slice A3 s1.length c3, .slice A4 0 c4, .int .i64 (-1), .bool false])) 84 rfl rfl (by kernel_rfl) (by kernel_rfl) (by kernel_rfl) (by kernel_rfl) (by kernel_rfl) (by kernel_rfl) (fun _ _ _ h => h) (yi_ext rfl rfl ((ev_ne (by decide)).trans ((ev_eq (by simp only [put_sz, hsz]; decide)))) rfl) (hX.up hb) ?_
      refine wpAnyU_at (L' := #[true, true, true, true, true, true, true, true, true, false, true, false, false, false, false]) (by kernel_rfl) ?_
      refine wpAnyU_takeD (i := 9) (v := (.int .i64 0)) 85 rfl rfl (by kernel_rfl) (by kernel_rfl) (by kernel_rfl) (by kernel_rfl) (by kernel_rfl) (by kernel_rfl) (fun _ _ _ h => h) (yi_ext rfl rfl ((ev_ne (by decide)).trans ((ev_ne (by decide)).trans ((ev_eq (by simp only [put_sz, hsz]; decide))))) rfl) (hX.up hb) ?_
      refine wpAnyU_at (L' := #[true, true, true, true, true, true, true, true, true, true, true, false, false, false, false]) (by kernel_rfl) ?_
      rw [put_comm (s := 16) (t := 82) (by decide), put_comm (s := 16) (t := 76) (by decide), put_comm (s := 16) (t := 83) (by decide), put_comm (s := 16) (t := 84) (by decide), put_comm (s := 16) (t := 85) (by decide)]
      exact s210 X2 (.agg #[.slice B1 jb.length d1, .int .i64 40, .int .i64 s]) A2 A3 A4 c2 c3 c4 b1 (hX.up hb) hj2 hd2 (z1.upb hb) h1 (nr_of_sec hsj z1.lt nr1) (nb_sec (hd.upb hX) hd2 hsd (nb_new hd h1) z1.lt)
    ·
      refine wpOp_alloc25 (t := 17) rfl rfl rfl rfl ?_
      have hal := al1 X (.cells #[.slice none 0 0, .slice none 0 0, .int .i64 0, .bool false] 25)
      refine ⟨hX.up hal, ?_⟩
      refine wpAnyU_at (L' := #[true, true, true, true, true, false, false, false, false, false, true, true, false, false, false]) (by kernel_rfl) ?_
      exact s111 _ B1 d1 b1 X.heap.size (hX.up hal) (hjk.upb hal) (z1.upb hal) h1 nr1 (Cells.new X 25 [.slice none 0 0, .slice none 0 0, .int .i64 0, .bool false]) hX.size (nr_of_bs (isJ_bs hjk) (Nat.le_refl _))
  have s100 : ∀ (X : World) (B1 : Option Addr) (d1 : Nat), Below W.heap.size W X → IsJ X (.agg #[.slice B1 jb.length d1, .int .i64 40, .int .i64 s]) ⟨jb, 40, s⟩ → wpAnyU Try.prog .any (sops 12) (NoPanic Q) (fun X => Below W.heap.size W X) 14 10 #[true, true, true, true, true, false, false, false, false, false, false, false, false, false, false] (((((a.put (some 77) (.func (.func 28) #[] #[])).put (some 78) ((.agg #[.slice A0 js.length c0, .int .i64 40, .int .i64 s]))).put (some 79) (u0)).put (some 81) ((.agg #[.slice A5 ss.length c5, .slice A6 0 c6, .int .i64 (-1), .bool false]))).put (some 80) ((.agg #[.slice B1 jb.length d1, .int .i64 40, .int .i64 s]))) X := by
    intro X B1 d1 hX hjk
    refine wpAnyU_go3 (i := 5) (i2 := 10) (i3 := 11) (by kernel_rfl) ?_ ?_ ?_
    ·
      have q1 : (((((a.put (some 77) (.func (.func 28) #[] #[])).put (some 78) ((.agg #[.slice A0 js.length c0, .int .i64 40, .int .i64 s]))).put (some 79) (u0)).put (some 81) ((.agg #[.slice A5 ss.length c5, .slice A6 0 c6, .int .i64 (-1), .bool false]))).put (some 80) ((.agg #[.slice B1 jb.length d1, .int .i64 40, .int .i64 s]))).eval (.tmp 80) = (.agg #[.slice B1 jb.length d1, .int .i64 40, .int .i64 s]) := (ev_eq (by simp only [put_sz, hsz]; decide))
      have q2 : (((((a.put (some 77) (.func (.func 28) #[] #[])).put (some 78) ((.agg #[.slice A0 js.length c0, .int .i64 40, .int .i64 s]))).put (some 79) (u0)).put (some 81) ((.agg #[.slice A5 ss.length c5, .slice A6 0 c6, .int .i64 (-1), .bool false]))).put (some 80) ((.agg #[.slice B1 jb.length d1, .int .i64 40, .int .i64 s]))).eval (.tmp 81) = (.agg #[.slice A5 ss.length c5, .slice A6 0 c6, .int .i64 (-1), .bool false]) := (ev_ne (by decide)).trans ((ev_eq (by simp only [put_sz, hsz]; decide)))
      refine wpOp_call (t := 82) rfl rfl rfl (.func 21) #[.tmp 80, .tmp 81] _ rfl 21 rfl #[(.agg #[.slice B1 jb.length d1, .int .i64 40, .int .i64 s]), (.agg #[.slice A5 ss.length c5, .slice A6 0 c6, .int .i64 (-1), .bool false])] (by simp only [List.map_toArray, List.map_cons, List.map_nil]; rw [q1, q2]) (enters_of Try.func21 (by kernel_rfl) rfl) (JSync_is (n := jb.length) (m := 40) (s := jb.length) hjk (Jn.sm_used (by show Jn.used jb ≤ 4096; omega)) (hd.upb hX) sE sJ sD rfl rfl rfl) ?_
      rintro e X2 ⟨A2, c2, A3, c3, A4, c4, rfl, hj2, hd2, hb, hsj, hsd⟩
      clear q1 q2
      refine ⟨_, rfl, hX.up hb, ?_⟩
      refine wpAnyU_at (L' := #[true, true, true, true, true, true, false, false, false, false, false, false, false, false, false]) (by kernel_rfl) ?_
      refine wpAnyU_takeD (i := 6) (v := (.tuple #[(.agg #[.slice A2 jb.length c2, .int .i64 40, .int .i64 jb.length]), (.agg #[.slice A3 s1.length c3, .slice A4 0 c4, .int .i64 (-1), .bool false]), .int .i64 0])) 76 rfl rfl (by kernel_rfl) (by kernel_rfl) (by kernel_rfl) (by kernel_rfl) (by kernel_rfl) (by kernel_rfl) (fun _ _ _ h => h) (yi_move rfl rfl ((ev_eq (by simp only [put_sz, hsz]; decide)))) (hX.up hb) ?_
      refine wpAnyU_at (L' := #[true, true, true, true, true, true, true, false, false, false, false, false, false, false, false]) (by kernel_rfl) ?_
      refine wpAnyU_takeD (i := 7) (v := (.agg #[.slice A2 jb.length c2, .int .i64 40, .int .i64 jb.length])) 83 rfl rfl (by kernel_rfl) (by kernel_rfl) (by kernel_rfl) (by kernel_rfl) (by kernel_rfl) (by kernel_rfl) (fun _ _ _ h => h) (yi_ext rfl rfl ((ev_eq (by simp only [put_sz, hsz]; decide))) rfl) (hX.up hb) ?_
      refine wpAnyU_at (L' := #[true, true, true, true, true, true, true, true, false, false, false, false, false, false, false]) (by kernel_rfl) ?_
      refine wpAnyU_takeD (i := 8) (v := (.agg #[.slice A3 s1.length c3, .slice A4 0 c4, .int .i64 (-1), .bool false])) 84 rfl rfl (by kernel_rfl) (by kernel_rfl) (by kernel_rfl) (by kernel_rfl) (by kernel_rfl) (by kernel_rfl) (fun _ _ _ h => h) (yi_ext rfl rfl ((ev_ne (by decide)).trans ((ev_eq (by simp only [put_sz, hsz]; decide)))) rfl) (hX.up hb) ?_
      refine wpAnyU_at (L' := #[true, true, true, true, true, true, true, true, true, false, false, false, false, false, false]) (by kernel_rfl) ?_
      refine wpAnyU_takeD (i := 9) (v := (.int .i64 0)) 85 rfl rfl (by kernel_rfl) (by kernel_rfl) (by kernel_rfl) (by kernel_rfl) (by kernel_rfl) (by kernel_rfl) (fun _ _ _ h => h) (yi_ext rfl rfl ((ev_ne (by decide)).trans ((ev_ne (by decide)).trans ((ev_eq (by simp only [put_sz, hsz]; decide))))) rfl) (hX.up hb) ?_
      refine wpAnyU_at (L' := #[true, true, true, true, true, true, true, true, true, true, false, false, false, false, false]) (by kernel_rfl) ?_
      exact s200 X2 (.agg #[.slice B1 jb.length d1, .int .i64 40, .int .i64 s]) A2 A3 A4 c2 c3 c4 (hX.up hb) hj2 hd2
    ·
      refine wpOp_alloc29 (t := 16) rfl rfl rfl rfl ?_
      have hal := al1 X (.cells #[.slice none 0 0, .int .i64 0, .int .i64 0] 29)
      refine ⟨hX.up hal, ?_⟩
      refine wpAnyU_at (L' := #[true, true, true, true, true, false, false, false, false, false, true, false, false, false, false]) (by kernel_rfl) ?_
      exact s110 _ B1 d1 X.heap.size (hX.up hal) (hjk.upb hal) (Cells.new X 29 [.slice none 0 0, .int .i64 0, .int .i64 0]) hX.size (nr_of_bs (isJ_bs hjk) (Nat.le_refl _))
    ·
      refine wpOp_alloc25 (t := 17) rfl rfl rfl rfl ?_
      have hal := al1 X (.cells #[.slice none 0 0, .slice none 0 0, .int .i64 0, .bool false] 25)
      refine ⟨hX.up hal, ?_⟩
      refine wpAnyU_at (L' := #[true, true, true, true, true, false, false, false, false, false, false, true, false, false, false]) (by kernel_rfl) ?_
      exact s101 _ B1 d1 X.heap.size (hX.up hal) (hjk.upb hal) (Cells.new X 25 [.slice none 0 0, .slice none 0 0, .int .i64 0, .bool false]) hX.size (nr_of_bs (isJ_bs hjk) (Nat.le_refl _))
  have s011 : ∀ (X : World) (b1 : Nat) (b2 : Nat), Below W.heap.size W X → Cells X b1 29 [.slice none 0 0, .int .i64 0, .int .i64 0] → W.heap.size ≤ b1 → Cells X b2 25 [.slice none 0 0, .slice none 0 0, .int .i64 0, .bool false] → W.heap.size ≤ b2 → wpAnyU Try.prog .any (sops 12) (NoPanic Q) (fun X => Below W.heap.size W X) 14 9 #[true, true, true, false, true, false, false, false, false, false, true, true, false, false, false] ((((((a.put (some 77) (.func (.func 28) #[] #[])).put (some 78) ((.agg #[.slice A0 js.length c0, .int .i64 40, .int .i64 s]))).put (some 79) (u0)).put (some 81) ((.agg #[.slice A5 ss.length c5, .slice A6 0 c6, .int .i64 (-1), .bool false]))).put (some 16) (.pointer (some ⟨b1, 0, none⟩))).put (some 17) (.pointer (some ⟨b2, 0, none⟩))) X := by
    intro X b1 b2 hX z1 h1 z2 h2
    refine wpAnyU_go1 (i := 3) (by kernel_rfl) ?_
    ·
      have q1 : ((((((a.put (some 77) (.func (.func 28) #[] #[])).put (some 78) ((.agg #[.slice A0 js.length c0, .int .i64 40, .int .i64 s]))).put (some 79) (u0)).put (some 81) ((.agg #[.slice A5 ss.length c5, .slice A6 0 c6, .int .i64 (-1), .bool false]))).put (some 16) (.pointer (some ⟨b1, 0, none⟩))).put (some 17) (.pointer (some ⟨b2, 0, none⟩))).eval (.tmp 78) = (.agg #[.slice A0 js.length c0, .int .i64 40, .int .i64 s]) := (ev_ne (by decide)).trans ((ev_ne (by decide)).trans ((ev_ne (by decide)).trans ((ev_ne (by decide)).trans ((ev_eq (by simp only [put_sz, hsz]; decide))))))
      have q2 : ((((((a.put (some 77) (.func (.func 28) #[] #[])).put (some 78) ((.agg #[.slice A0 js.length c0, .int .i64 40, .int .i64 s]))).put (some 79) (u0)).put (some 81) ((.agg #[.slice A5 ss.length c5, .slice A6 0 c6, .int .i64 (-1), .bool false]))).put (some 16) (.pointer (some ⟨b1, 0, none⟩))).put (some 17) (.pointer (some ⟨b2, 0, none⟩))).eval (.tmp 79) = u0 := (ev_ne (by decide)).trans ((ev_ne (by decide)).trans ((ev_ne (by decide)).trans ((ev_eq (by simp only [put_sz, hsz]; decide)))))
      refine wpOp_call (t := 80) rfl rfl rfl (.tmp 77) #[.tmp 78, .tmp 79] _ rfl 28 ((ev_ne (by decide)).trans ((ev_ne (by decide)).trans ((ev_ne (by decide)).trans ((ev_ne (by decide)).trans ((ev_ne (by decide)).trans ((ev_eq (by simp only [put_sz, hsz]; decide)))))))) #[(.agg #[.slice A0 js.length c0, .int .i64 40, .int .i64 s]), u0] (by simp only [List.map_toArray, List.map_cons, List.map_nil]; rw [q1, q2]) (enters_of Try.func28 (by kernel_rfl) rfl) (Add_is (hj.upb hX) (hu0.upb hX) hl0 hle0 hs hus0 ha0) ?_
      rintro e X2 ⟨B1, d1, rfl, hj2, hb, hnr⟩
      clear q1 q2
      refine ⟨_, rfl, hX.up hb, ?_⟩
      refine wpAnyU_at (L' := #[true, true, true, true, true, false, false, false, false, false, true, true, false, false, false]) (by kernel_rfl) ?_
      rw [put_comm (s := 17) (t := 80) (by decide), put_comm (s := 16) (t := 80) (by decide)]
      exact s111 X2 B1 d1 b1 b2 (hX.up hb) hj2 (z1.upb hb) h1 (hnr b1 z1.lt (nr_of_bs (isJ_bs hj) h1)) (z2.upb hb) h2 (hnr b2 z2.lt (nr_of_bs (isJ_bs hj) h2))
  have s001 : ∀ (X : World) (b2 : Nat), Below W.heap.size W X → Cells X b2 25 [.slice none 0 0, .slice none 0 0, .int .i64 0, .bool false] → W.heap.size ≤ b2 → wpAnyU Try.prog .any (sops 12) (NoPanic Q) (fun X => Below W.heap.size W X) 14 10 #[true, true, true, false, true, false, false, false, false, false, false, true, false, false, false] (((((a.put (some 77) (.func (.func 28) #[] #[])).put (some 78) ((.agg #[.slice A0 js.length c0, .int .i64 40, .int .i64 s]))).put (some 79) (u0)).put (some 81) ((.agg #[.slice A5 ss.length c5, .slice A6 0 c6, .int .i64 (-1), .bool false]))).put (some 17) (.pointer (some ⟨b2, 0, none⟩))) X := by
    intro X b2 hX z2 h2
    refine wpAnyU_go2 (i := 3) (i2 := 10) (by kernel_rfl) ?_ ?_
    ·
      have q1 : (((((a.put (some 77) (.func (.func 28) #[] #[])).put (some 78) ((.agg #[.slice A0 js.length c0, .int .i64 40, .int .i64 s]))).put (some 79) (u0)).put (some 81) ((.agg #[.slice A5 ss.length c5, .slice A6 0 c6, .int .i64 (-1), .bool false]))).put (some 17) (.pointer (some ⟨b2, 0, none⟩))).eval (.tmp 78) = (.agg #[.slice A0 js.length c0, .int .i64 40, .int .i64 s]) := (ev_ne (by decide)).trans ((ev_ne (by decide)).trans ((ev_ne (by decide)).trans ((ev_eq (by simp only [put_sz, hsz]; decide)))))
      have q2 : (((((a.put (some 77) (.func (.func 28) #[] #[])).put (some 78) ((.agg #[.slice A0 js.length c0, .int .i64 40, .int .i64 s]))).put (some 79) (u0)).put (some 81) ((.agg #[.slice A5 ss.length c5, .slice A6 0 c6, .int .i64 (-1), .bool false]))).put (some 17) (.pointer (some ⟨b2, 0, none⟩))).eval (.tmp 79) = u0 := (ev_ne (by decide)).trans ((ev_ne (by decide)).trans ((ev_eq (by simp only [put_sz, hsz]; decide))))
      refine wpOp_call (t := 80) rfl rfl rfl (.tmp 77) #[.tmp 78, .tmp 79] _ rfl 28 ((ev_ne (by decide)).trans ((ev_ne (by decide)).trans ((ev_ne (by decide)).trans ((ev_ne (by decide)).trans ((ev_eq (by simp only [put_sz, hsz]; decide))))))) #[(.agg #[.slice A0 js.length c0, .int .i64 40, .int .i64 s]), u0] (by simp only [List.map_toArray, List.map_cons, List.map_nil]; rw [q1, q2]) (enters_of Try.func28 (by kernel_rfl) rfl) (Add_is (hj.upb hX) (hu0.upb hX) hl0 hle0 hs hus0 ha0) ?_
      rintro e X2 ⟨B1, d1, rfl, hj2, hb, hnr⟩
      clear q1 q2
      refine ⟨_, rfl, hX.up hb, ?_⟩
      refine wpAnyU_at (L' := #[true, true, true, true, true, false, false, false, false, false, false, true, false, false, false]) (by kernel_rfl) ?_
      rw [put_comm (s := 17) (t := 80) (by decide)]
      exact s101 X2 B1 d1 b2 (hX.up hb) hj2 (z2.upb hb) h2 (hnr b2 z2.lt (nr_of_bs (isJ_bs hj) h2))
    ·
      refine wpOp_alloc29 (t := 16) rfl rfl rfl rfl ?_
      have hal := al1 X (.cells #[.slice none 0 0, .int .i64 0, .int .i64 0] 29)
      refine ⟨hX.up hal, ?_⟩
      refine wpAnyU_at (L' := #[true, true, true, false, true, false, false, false, false, false, true, true, false, false, false]) (by kernel_rfl) ?_
      rw [put_comm (s := 17) (t := 16) (by decide)]
      exact s011 _ X.heap.size b2 (hX.up hal) (Cells.new X 29 [.slice none 0 0, .int .i64 0, .int .i64 0]) hX.size (z2.upb hal) h2
  have s010 : ∀ (X : World) (b1 : Nat), Below W.heap.size W X → Cells X b1 29 [.slice none 0 0, .int .i64 0, .int .i64 0] → W.heap.size ≤ b1 → wpAnyU Try.prog .any (sops 12) (NoPanic Q) (fun X => Below W.heap.size W X) 14 10 #[true, true, true, false, true, false, false, false, false, false, true, false, false, false, false] (((((a.put (some 77) (.func (.func 28) #[] #[])).put (some 78) ((.agg #[.slice A0 js.length c0, .int .i64 40, .int .i64 s]))).put (some 79) (u0)).put (some 81) ((.agg #[.slice A5 ss.length c5, .slice A6 0 c6, .int .i64 (-1), .bool false]))).put (some 16) (.pointer (some ⟨b1, 0, none⟩))) X := by
    intro X b1 hX z1 h1
    refine wpAnyU_go2 (i := 3) (i2 := 11) (by kernel_rfl) ?_ ?_
    ·
      have q1 : (((((a.put (some 77) (.func (.func 28) #[] #[])).put (some 78) ((.agg #[.slice A0 js.length c0, .int .i64 40, .int .i64 s]))).put (some 79) (u0)).put (some 81) ((.agg #[.slice A5 ss.length c5, .slice A6 0 c6, .int .i64 (-1), .bool false]))).put (some 16) (.pointer (some ⟨b1, 0, none⟩))).eval (.tmp 78) = (.agg #[.slice A0 js.length c0, .int .i64 40, .int .i64 s]) := (ev_ne (by decide)).trans ((ev_ne (by decide)).trans ((ev_ne (by decide)).trans ((ev_eq (by simp only [put_sz, hsz]; decide)))))
      have q2 : (((((a.put (some 77) (.func (.func 28) #[] #[])).put (some 78) ((.agg #[.slice A0 js.length c0, .int .i64 40, .int .i64 s]))).put (some 79) (u0)).put (some 81) ((.agg #[.slice A5 ss.length c5, .slice A6 0 c6, .int .i64 (-1), .bool false]))).put (some 16) (.pointer (some ⟨b1, 0, none⟩))).eval (.tmp 79) = u0 := (ev_ne (by decide)).trans ((ev_ne (by decide)).trans ((ev_eq (by simp only [put_sz, hsz]; decide))))
      refine wpOp_call (t := 80) rfl rfl rfl (.tmp 77) #[.tmp 78, .tmp 79] _ rfl 28 ((ev_ne (by decide)).trans ((ev_ne (by decide)).trans ((ev_ne (by decide)).trans ((ev_ne (by decide)).trans ((ev_eq (by simp only [put_sz, hsz]; decide))))))) #[(.agg #[.slice A0 js.length c0, .int .i64 40, .int .i64 s]), u0] (by simp only [List.map_toArray, List.map_cons, List.map_nil]; rw [q1, q2]) (enters_of Try.func28 (by kernel_rfl) rfl) (Add_is (hj.upb hX) (hu0.upb hX) hl0 hle0 hs hus0 ha0) ?_
      rintro e X2 ⟨B1, d1, rfl, hj2, hb, hnr⟩
      clear q1 q2
      refine ⟨_, rfl, hX.up hb, ?_⟩
      refine wpAnyU_at (L' := #[true, true, true, true, true, false, false, false, false, false, true, false, false, false, false]) (by kernel_rfl) ?_
      rw [put_comm (s := 16) (t := 80) (by decide)]
      exact s110 X2 B1 d1 b1 (hX.up hb) hj2 (z1.upb hb) h1 (hnr b1 z1.lt (nr_of_bs (isJ_bs hj) h1))
    ·
      refine wpOp_alloc25 (t := 17) rfl rfl rfl rfl ?_
      have hal := al1 X (.cells #[.slice none 0 0, .slice none 0 0, .int .i64 0, .bool false] 25)
      refine ⟨hX.up hal, ?_⟩
      refine wpAnyU_at (L' := #[true, true, true, false, true, false, false, false, false, false, true, true, false, false, false]) (by kernel_rfl) ?_
      exact s011 _ b1 X.heap.size (hX.up hal) (z1.upb hal) h1 (Cells.new X 25 [.slice none 0 0, .slice none 0 0, .int .i64 0, .bool false]) hX.size
  have s000 : ∀ (X : World) , Below W.heap.size W X → wpAnyU Try.prog .any (sops 12) (NoPanic Q) (fun X => Below W.heap.size W X) 14 11 #[true, true, true, false, true, false, false, false, false, false, false, false, false, false, false] ((((a.put (some 77) (.func (.func 28) #[] #[])).put (some 78) ((.agg #[.slice A0 js.length c0, .int .i64 40, .int .i64 s]))).put (some 79) (u0)).put (some 81) ((.agg #[.slice A5 ss.length c5, .slice A6 0 c6, .int .i64 (-1), .bool false]))) X := by
    intro X hX
    refine wpAnyU_go3 (i := 3) (i2 := 10) (i3 := 11) (by kernel_rfl) ?_ ?_ ?_
    ·
      have q1 : ((((a.put (some 77) (.func (.func 28) #[] #[])).put (some 78) ((.agg #[.slice A0 js.length c0, .int .i64 40, .int .i64 s]))).put (some 79) (u0)).put (some 81) ((.agg #[.slice A5 ss.length c5, .slice A6 0 c6, .int .i64 (-1), .bool false]))).eval (.tmp 78) = (.agg #[.slice A0 js.length c0, .int .i64 40, .int .i64 s]) := (ev_ne (by decide)).trans ((ev_ne (by decide)).trans ((ev_eq (by simp only [put_sz, hsz]; decide))))
      have q2 : ((((a.put (some 77) (.func (.func 28) #[] #[])).put (some 78) ((.agg #[.slice A0 js.length c0, .int .i64 40, .int .i64 s]))).put (some 79) (u0)).put (some 81) ((.agg #[.slice A5 ss.length c5, .slice A6 0 c6, .int .i64 (-1), .bool false]))).eval (.tmp 79) = u0 := (ev_ne (by decide)).trans ((ev_eq (by simp only [put_sz, hsz]; decide)))
      refine wpOp_call (t := 80) rfl rfl rfl (.tmp 77) #[.tmp 78, .tmp 79] _ rfl 28 ((ev_ne (by decide)).trans ((ev_ne (by decide)).trans ((ev_ne (by decide)).trans ((ev_eq (by simp only [put_sz, hsz]; decide)))))) #[(.agg #[.slice A0 js.length c0, .int .i64 40, .int .i64 s]), u0] (by simp only [List.map_toArray, List.map_cons, List.map_nil]; rw [q1, q2]) (enters_of Try.func28 (by kernel_rfl) rfl) (Add_is (hj.upb hX) (hu0.upb hX) hl0 hle0 hs hus0 ha0) ?_
      rintro e X2 ⟨B1, d1, rfl, hj2, hb, hnr⟩
      clear q1 q2
      refine ⟨_, rfl, hX.up hb, ?_⟩
      refine wpAnyU_at (L' := #[true, true, true, true, true, false, false, false, false, false, false, false, false, false, false]) (by kernel_rfl) ?_
      exact s100 X2 B1 d1 (hX.up hb) hj2
    ·
      refine wpOp_alloc29 (t := 16) rfl rfl rfl rfl ?_
      have hal := al1 X (.cells #[.slice none 0 0, .int .i64 0, .int .i64 0] 29)
      refine ⟨hX.up hal, ?_⟩
      refine wpAnyU_at (L' := #[true, true, true, false, true, false, false, false, false, false, true, false, false, false, false]) (by kernel_rfl) ?_
      exact s010 _ X.heap.size (hX.up hal) (Cells.new X 29 [.slice none 0 0, .int .i64 0, .int .i64 0]) hX.size
    ·
      refine wpOp_alloc25 (t := 17) rfl rfl rfl rfl ?_
      have hal := al1 X (.cells #[.slice none 0 0, .slice none 0 0, .int .i64 0, .bool false] 25)
      refine ⟨hX.up hal, ?_⟩
      refine wpAnyU_at (L' := #[true, true, true, false, true, false, false, false, false, false, false, true, false, false, false]) (by kernel_rfl) ?_
      exact s001 _ X.heap.size (hX.up hal) (Cells.new X 25 [.slice none 0 0, .slice none 0 0, .int .i64 0, .bool false]) hX.size
  refine wpAnyU_at (L' := #[false, false, false, false, false, false, false, false, false, false, false, false, false, false, false]) (by kernel_rfl) ?_
  refine wpAnyU_takeD (i := 0) (v := .func (.func 28) #[] #[]) 77 rfl rfl (by kernel_rfl) (by kernel_rfl) (by kernel_rfl) (by kernel_rfl) (by kernel_rfl) (by kernel_rfl) (fun _ _ _ h => h) (yi_move rfl rfl (e7)) hb0 ?_
  refine wpAnyU_at (L' := #[true, false, false, false, false, false, false, false, false, false, false, false, false, false, false]) (by kernel_rfl) ?_
  refine wpAnyU_takeD (i := 1) (v := (.agg #[.slice A0 js.length c0, .int .i64 40, .int .i64 s])) 78 rfl rfl (by kernel_rfl) (by kernel_rfl) (by kernel_rfl) (by kernel_rfl) (by kernel_rfl) (by kernel_rfl) (fun _ _ _ h => h) (yi_load29 rfl rfl ((ev_ne (by decide)).trans (eJ)) (fun X hX => zJ.upb hX)) hb0 ?_
  refine wpAnyU_at (L' := #[true, true, false, false, false, false, false, false, false, false, false, false, false, false, false]) (by kernel_rfl) ?_
  refine wpAnyU_takeD (i := 2) (v := u0) 79 rfl rfl (by kernel_rfl) (by kernel_rfl) (by kernel_rfl) (by kernel_rfl) (by kernel_rfl) (by kernel_rfl) (fun _ _ _ h => h) (yi_move rfl rfl ((ev_ne (by decide)).trans ((ev_ne (by decide)).trans (er0)))) hb0 ?_
  refine wpAnyU_at (L' := #[true, true, true, false, false, false, false, false, false, false, false, false, false, false, false]) (by kernel_rfl) ?_
  refine wpAnyU_takeD (i := 4) (v := (.agg #[.slice A5 ss.length c5, .slice A6 0 c6, .int .i64 (-1), .bool false])) 81 rfl rfl (by kernel_rfl) (by kernel_rfl) (by kernel_rfl) (by kernel_rfl) (by kernel_rfl) (by kernel_rfl) (fun _ _ _ h => h) (yi_load25 rfl rfl ((ev_ne (by decide)).trans ((ev_ne (by decide)).trans ((ev_ne (by decide)).trans (eD)))) (fun X hX => zD.upb hX)) hb0 ?_
  refine wpAnyU_at (L' := #[true, true, true, false, true, false, false, false, false, false, false, false, false, false, false]) (by kernel_rfl) ?_
  exact s000 _ hb0
set_option maxHeartbeats 4000000 in
set_option maxRecDepth 100000 in
theorem steps_reg10 {Q : Exit → Act → World → Prop} {a : Act} {W : World} {u0 u1 : Value} {BJ BD : Nat} {A0 A5 A6 : Option Addr} {c0 c5 c6 : Nat} {s : Int} {js j1 jb rs0 rs1 ss s1 : List By}
    (hsz : a.tmps.size = 154) (e7 : a.eval (.tmp 7) = .func (.func 28) #[] #[]) (eJ : a.eval (.tmp 8) = .pointer (some ⟨BJ, 0, none⟩)) (eD : a.eval (.tmp 5) = .pointer (some ⟨BD, 0, none⟩)) (er0 : a.eval (.tmp 0) = u0) (hu0 : IsBs W u0 rs0) (hl0 : rs0.length ≤ 9223372036854775807) (hle0 : ∀ k (h : k < rs0.length), rs0[k].length ≤ 140737488351232) (er1 : a.eval (.tmp 1) = u1) (hu1 : IsBs W u1 rs1) (hl1 : rs1.length ≤ 9223372036854775807) (hle1 : ∀ k (h : k < rs1.length), rs1[k].length ≤ 140737488351232)
    (zJ : Cells W BJ 29 [.slice A0 js.length c0, .int .i64 40, .int .i64 s]) (zD : Cells W BD 25 [.slice A5 ss.length c5, .slice A6 0 c6, .int .i64 (-1), .bool false]) (hj : IsJ W (.agg #[.slice A0 js.length c0, .int .i64 40, .int .i64 s]) ⟨js, 40, s⟩) (hd : IsD W (.agg #[.slice A5 ss.length c5, .slice A6 0 c6, .int .i64 (-1), .bool false]) ⟨ss, [], -1, false⟩)
    (hs : 0 ≤ s ∧ s ≤ js.length) (hus0 : Jn.used js ≤ 40) (hus1 : Jn.used j1 ≤ 40) (hus2 : Jn.used jb ≤ 40) (hs1 : s ≤ j1.length) (ha0 : Jn.addN 40 js rs0 = j1) (ha1 : Jn.addN 40 j1 rs1 = jb)
    (sE : Jn.syncE ⟨jb, 40, s⟩ ⟨ss, [], -1, false⟩ = 0) (sJ : Jn.syncJ ⟨jb, 40, s⟩ ⟨ss, [], -1, false⟩ = ⟨jb, 40, jb.length⟩) (sD : Jn.syncD ⟨jb, 40, s⟩ ⟨ss, [], -1, false⟩ = ⟨s1, [], -1, false⟩)
    (hN : ∀ (X : World) (b1 b2 : Nat) (w1 w2 : Value) (A2 A3 A4 : Option Addr) (c2 c3 c4 : Nat), Below W.heap.size W X → W.heap.size ≤ b1 → W.heap.size ≤ b2 → Cells X b1 29 [.slice A2 jb.length c2, .int .i64 40, .int .i64 jb.length] → Cells X b2 25 [.slice A3 s1.length c3, .slice A4 0 c4, .int .i64 (-1), .bool false] → IsJ X (.agg #[.slice A2 jb.length c2, .int .i64 40, .int .i64 jb.length]) ⟨jb, 40, jb.length⟩ → IsD X (.agg #[.slice A3 s1.length c3, .slice A4 0 c4, .int .i64 (-1), .bool false]) ⟨s1, [], -1, false⟩ → Q .normal ((((((((((((((((a.put (some 54) (.func (.func 28) #[] #[])).put (some 55) (.func (.func 28) #[] #[])).put (some 56) ((.agg #[.slice A0 js.length c0, .int .i64 40, .int .i64 s]))).put (some 57) (u0)).put (some 59) (u1)).put (some 61) ((.agg #[.slice A5 ss.length c5, .slice A6 0 c6, .int .i64 (-1), .bool false]))).put (some 58) (w1)).put (some 60) (w2)).put (some 62) ((.tuple #[(.agg #[.slice A2 jb.length c2, .int .i64 40, .int .i64 jb.length]), (.agg #[.slice A3 s1.length c3, .slice A4 0 c4, .int .i64 (-1), .bool false]), .int .i64 0]))).put (some 53) ((.tuple #[(.agg #[.slice A2 jb.length c2, .int .i64 40, .int .i64 jb.length]), (.agg #[.slice A3 s1.length c3, .slice A4 0 c4, .int .i64 (-1), .bool false]), .int .i64 0]))).put (some 63) ((.agg #[.slice A2 jb.length c2, .int .i64 40, .int .i64 jb.length]))).put (some 64) ((.agg #[.slice A3 s1.length c3, .slice A4 0 c4, .int .i64 (-1), .bool false]))).put (some 65) ((.int .i64 0))).put (some 10) (.pointer (some ⟨b1, 0, none⟩))).put (some 11) (.pointer (some ⟨b2, 0, none⟩))).put (some 12) (.int .i64 0)) X) :
    (Code.region 10 (sops 10) true).wp Try.prog Q a W := by
  have hb0 : Below W.heap.size W W.drew := below_drewN (Below.refl _ W) 1
  have hsize : (sops 10).size = 18 := by kernel_rfl
  refine wp_region_noPanic ?_
  refine wp_region_U 17 (fun X => Below W.heap.size W X) (by kernel_rfl) ?_
  rw [hsize]
  have s311 : ∀ (X : World) (w1 w2 : Value) (A2 A3 A4 : Option Addr) (c2 c3 c4 : Nat) (b1 : Nat) (b2 : Nat), Below W.heap.size W X → IsJ X (.agg #[.slice A2 jb.length c2, .int .i64 40, .int .i64 jb.length]) ⟨jb, 40, jb.length⟩ → IsD X (.agg #[.slice A3 s1.length c3, .slice A4 0 c4, .int .i64 (-1), .bool false]) ⟨s1, [], -1, false⟩ → Cells X b1 29 [.slice none 0 0, .int .i64 0, .int .i64 0] → W.heap.size ≤ b1 → NR b1 (.slice A2 jb.length c2) jb → NB b1 (.agg #[.slice A3 s1.length c3, .slice A4 0 c4, .int .i64 (-1), .bool false]) (⟨s1, [], -1, false⟩ : Dk) → Cells X b2 25 [.slice none 0 0, .slice none 0 0, .int .i64 0, .bool false] → W.heap.size ≤ b2 → NR b2 (.slice A2 jb.length c2) jb → NB b2 (.agg #[.slice A3 s1.length c3, .slice A4 0 c4, .int .i64 (-1), .bool false]) (⟨s1, [], -1, false⟩ : Dk) → wpAnyU Try.prog .any (sops 10) (NoPanic Q) (fun X => Below W.heap.size W X) 17 3 #[true, true, true, true, true, true, true, true, true, true, true, true, true, true, true, false, false, false] (((((((((((((((a.put (some 54) (.func (.func 28) #[] #[])).put (some 55) (.func (.func 28) #[] #[])).put (some 56) ((.agg #[.slice A0 js.length c0, .int .i64 40, .int .i64 s]))).put (some 57) (u0)).put (some 59) (u1)).put (some 61) ((.agg #[.slice A5 ss.length c5, .slice A6 0 c6, .int .i64 (-1), .bool false]))).put (some 58) (w1)).put (some 60) (w2)).put (some 62) ((.tuple #[(.agg #[.slice A2 jb.length c2, .int .i64 40, .int .i64 jb.length]), (.agg #[.slice A3 s1.length c3, .slice A4 0 c4, .int .i64 (-1), .bool false]), .int .i64 0]))).put (some 53) ((.tuple #[(.agg #[.slice A2 jb.length c2, .int .i64 40, .int .i64 jb.length]), (.agg #[.slice A3 s1.length c3, .slice A4 0 c4, .int .i64 (-1), .bool false]), .int .i64 0]))).put (some 63) ((.agg #[.slice A2 jb.length c2, .int .i64 40, .int .i64 jb.length]))).put (some 64) ((.agg #[.slice A3 s1.length c3, .slice A4 0 c4, .int .i64 (-1), .bool false]))).put (some 65) ((.int .i64 0))).put (some 10) (.pointer (some ⟨b1, 0, none⟩))).put (some 11) (.pointer (some ⟨b2, 0, none⟩))) X := by
    intro X w1 w2 A2 A3 A4 c2 c3 c4 b1 b2 hX hjk hdk z1 h1 nr1 nb1 z2 h2 nr2 nb2
    refine wpAnyU_go1 (i := 15) (by kernel_rfl) ?_
    refine wpOp_store29 rfl rfl rfl rfl ((ev_ne (by decide)).trans ((ev_eq (by simp only [put_sz, hsz]; decide)))) ((ev_ne (by decide)).trans ((ev_ne (by decide)).trans ((ev_ne (by decide)).trans ((ev_ne (by decide)).trans ((ev_eq (by simp only [put_sz, hsz]; decide))))))) z1 ?_
    have g1 := grown_set3 X b1 (.slice A2 jb.length c2) (.int .i64 40) (.int .i64 jb.length)
    have hne := box_ne z1 z2
    have hX1 := below_set3 hX h1 (.slice A2 jb.length c2) (.int .i64 40) (.int .i64 jb.length)
    have z2' := grownK z2 g1 (fun h => hne h.symm)
    refine ⟨hX1, ?_⟩
    refine wpAnyU_at (L' := #[true, true, true, true, true, true, true, true, true, true, true, true, true, true, true, true, false, false]) (by kernel_rfl) ?_
    refine wpAnyU_go1 (i := 16) (by kernel_rfl) ?_
    refine wpOp_store25 rfl rfl rfl rfl ((ev_eq (by simp only [put_sz, hsz]; decide))) ((ev_ne (by decide)).trans ((ev_ne (by decide)).trans ((ev_ne (by decide)).trans ((ev_eq (by simp only [put_sz, hsz]; decide)))))) z2' ?_
    have g2 := grown_set4 (set3 X b1 (.slice A2 jb.length c2) (.int .i64 40) (.int .i64 jb.length)) b2 (.slice A3 s1.length c3) (.slice A4 0 c4) (.int .i64 (-1)) (.bool false)
    have hX2 := below_set4 hX1 h2 (.slice A3 s1.length c3) (.slice A4 0 c4) (.int .i64 (-1)) (.bool false)
    refine ⟨hX2, ?_⟩
    refine wpAnyU_at (L' := #[true, true, true, true, true, true, true, true, true, true, true, true, true, true, true, true, true, false]) (by kernel_rfl) ?_
    refine wpAnyU_yield (i := 17) (v := .int .i64 0) 12 (by kernel_rfl) rfl rfl (yi_assign rfl rfl ((ev_ne (by decide)).trans ((ev_ne (by decide)).trans ((ev_eq (by simp only [put_sz, hsz]; decide)))))) hX2 ?_
    refine wpAnyU_done (by kernel_rfl) (NoPanic.normal ?_) _
    exact hN _ b1 b2 w1 w2 A2 A3 A4 c2 c3 c4 hX2 h1 h2 (grownK (z1.set3 _ _ _) g2 hne) (z2'.set4 _ _ _ _) (isJ_mk (((isJ_bs hjk).offE nr1 z1 g1).offF nr2 z2' g2)) ((hdk.boxJ rfl nb1 z1 g1).box nb2 z2' g2)
  have s301 : ∀ (X : World) (w1 w2 : Value) (A2 A3 A4 : Option Addr) (c2 c3 c4 : Nat) (b2 : Nat), Below W.heap.size W X → IsJ X (.agg #[.slice A2 jb.length c2, .int .i64 40, .int .i64 jb.length]) ⟨jb, 40, jb.length⟩ → IsD X (.agg #[.slice A3 s1.length c3, .slice A4 0 c4, .int .i64 (-1), .bool false]) ⟨s1, [], -1, false⟩ → Cells X b2 25 [.slice none 0 0, .slice none 0 0, .int .i64 0, .bool false] → W.heap.size ≤ b2 → NR b2 (.slice A2 jb.length c2) jb → NB b2 (.agg #[.slice A3 s1.length c3, .slice A4 0 c4, .int .i64 (-1), .bool false]) (⟨s1, [], -1, false⟩ : Dk) → wpAnyU Try.prog .any (sops 10) (NoPanic Q) (fun X => Below W.heap.size W X) 17 4 #[true, true, true, true, true, true, true, true, true, true, true, true, true, false, true, false, false, false] ((((((((((((((a.put (some 54) (.func (.func 28) #[] #[])).put (some 55) (.func (.func 28) #[] #[])).put (some 56) ((.agg #[.slice A0 js.length c0, .int .i64 40, .int .i64 s]))).put (some 57) (u0)).put (some 59) (u1)).put (some 61) ((.agg #[.slice A5 ss.length c5, .slice A6 0 c6, .int .i64 (-1), .bool false]))).put (some 58) (w1)).put (some 60) (w2)).put (some 62) ((.tuple #[(.agg #[.slice A2 jb.length c2, .int .i64 40, .int .i64 jb.length]), (.agg #[.slice A3 s1.length c3, .slice A4 0 c4, .int .i64 (-1), .bool false]), .int .i64 0]))).put (some 53) ((.tuple #[(.agg #[.slice A2 jb.length c2, .int .i64 40, .int .i64 jb.length]), (.agg #[.slice A3 s1.length c3, .slice A4 0 c4, .int .i64 (-1), .bool false]), .int .i64 0]))).put (some 63) ((.agg #[.slice A2 jb.length c2, .int .i64 40, .int .i64 jb.length]))).put (some 64) ((.agg #[.slice A3 s1.length c3, .slice A4 0 c4, .int .i64 (-1), .bool false]))).put (some 65) ((.int .i64 0))).put (some 11) (.pointer (some ⟨b2, 0, none⟩))) X := by
    intro X w1 w2 A2 A3 A4 c2 c3 c4 b2 hX hjk hdk z2 h2 nr2 nb2
    refine wpAnyU_go1 (i := 13) (by kernel_rfl) ?_
    ·
      refine wpOp_alloc29 (t := 10) rfl rfl rfl rfl ?_
      have hal := al1 X (.cells #[.slice none 0 0, .int .i64 0, .int .i64 0] 29)
      refine ⟨hX.up hal, ?_⟩
      refine wpAnyU_at (L' := #[true, true, true, true, true, true, true, true, true, true, true, true, true, true, true, false, false, false]) (by kernel_rfl) ?_
      rw [put_comm (s := 11) (t := 10) (by decide)]
      exact s311 _ w1 w2 A2 A3 A4 c2 c3 c4 X.heap.size b2 (hX.up hal) (hjk.upb hal) (hdk.upb hal) (Cells.new X 29 [.slice none 0 0, .int .i64 0, .int .i64 0]) hX.size (nr_of_bs (isJ_bs hjk) (Nat.le_refl _)) (nb_new hdk (Nat.le_refl _)) (z2.upb hal) h2 nr2 nb2
  have s310 : ∀ (X : World) (w1 w2 : Value) (A2 A3 A4 : Option Addr) (c2 c3 c4 : Nat) (b1 : Nat), Below W.heap.size W X → IsJ X (.agg #[.slice A2 jb.length c2, .int .i64 40, .int .i64 jb.length]) ⟨jb, 40, jb.length⟩ → IsD X (.agg #[.slice A3 s1.length c3, .slice A4 0 c4, .int .i64 (-1), .bool false]) ⟨s1, [], -1, false⟩ → Cells X b1 29 [.slice none 0 0, .int .i64 0, .int .i64 0] → W.heap.size ≤ b1 → NR b1 (.slice A2 jb.length c2) jb → NB b1 (.agg #[.slice A3 s1.length c3, .slice A4 0 c4, .int .i64 (-1), .bool false]) (⟨s1, [], -1, false⟩ : Dk) → wpAnyU Try.prog .any (sops 10) (NoPanic Q) (fun X => Below W.heap.size W X) 17 4 #[true, true, true, true, true, true, true, true, true, true, true, true, true, true, false, false, false, false] ((((((((((((((a.put (some 54) (.func (.func 28) #[] #[])).put (some 55) (.func (.func 28) #[] #[])).put (some 56) ((.agg #[.slice A0 js.length c0, .int .i64 40, .int .i64 s]))).put (some 57) (u0)).put (some 59) (u1)).put (some 61) ((.agg #[.slice A5 ss.length c5, .slice A6 0 c6, .int .i64 (-1), .bool false]))).put (some 58) (w1)).put (some 60) (w2)).put (some 62) ((.tuple #[(.agg #[.slice A2 jb.length c2, .int .i64 40, .int .i64 jb.length]), (.agg #[.slice A3 s1.length c3, .slice A4 0 c4, .int .i64 (-1), .bool false]), .int .i64 0]))).put (some 53) ((.tuple #[(.agg #[.slice A2 jb.length c2, .int .i64 40, .int .i64 jb.length]), (.agg #[.slice A3 s1.length c3, .slice A4 0 c4, .int .i64 (-1), .bool false]), .int .i64 0]))).put (some 63) ((.agg #[.slice A2 jb.length c2, .int .i64 40, .int .i64 jb.length]))).put (some 64) ((.agg #[.slice A3 s1.length c3, .slice A4 0 c4, .int .i64 (-1), .bool false]))).put (some 65) ((.int .i64 0))).put (some 10) (.pointer (some ⟨b1, 0, none⟩))) X := by
    intro X w1 w2 A2 A3 A4 c2 c3 c4 b1 hX hjk hdk z1 h1 nr1 nb1
    refine wpAnyU_go1 (i := 14) (by kernel_rfl) ?_
    ·
      refine wpOp_alloc25 (t := 11) rfl rfl rfl rfl ?_
      have hal := al1 X (.cells #[.slice none 0 0, .slice none 0 0, .int .i64 0, .bool false] 25)
      refine ⟨hX.up hal, ?_⟩
      refine wpAnyU_at (L' := #[true, true, true, true, true, true, true, true, true, true, true, true, true, true, true, false, false, false]) (by kernel_rfl) ?_
      exact s311 _ w1 w2 A2 A3 A4 c2 c3 c4 b1 X.heap.size (hX.up hal) (hjk.upb hal) (hdk.upb hal) (z1.upb hal) h1 nr1 nb1 (Cells.new X 25 [.slice none 0 0, .slice none 0 0, .int .i64 0, .bool false]) hX.size (nr_of_bs (isJ_bs hjk) (Nat.le_refl _)) (nb_new hdk (Nat.le_refl _))
  have s300 : ∀ (X : World) (w1 w2 : Value) (A2 A3 A4 : Option Addr) (c2 c3 c4 : Nat), Below W.heap.size W X → IsJ X (.agg #[.slice A2 jb.length c2, .int .i64 40, .int .i64 jb.length]) ⟨jb, 40, jb.length⟩ → IsD X (.agg #[.slice A3 s1.length c3, .slice A4 0 c4, .int .i64 (-1), .bool false]) ⟨s1, [], -1, false⟩ → wpAnyU Try.prog .any (sops 10) (NoPanic Q) (fun X => Below W.heap.size W X) 17 5 #[true, true, true, true, true, true, true, true, true, true, true, true, true, false, false, false, false, false] (((((((((((((a.put (some 54) (.func (.func 28) #[] #[])).put (some 55) (.func (.func 28) #[] #[])).put (some 56) ((.agg #[.slice A0 js.length c0, .int .i64 40, .int .i64 s]))).put (some 57) (u0)).put (some 59) (u1)).put (some 61) ((.agg #[.slice A5 ss.length c5, .slice A6 0 c6, .int .i64 (-1), .bool false]))).put (some 58) (w1)).put (some 60) (w2)).put (some 62) ((.tuple #[(.agg #[.slice A2 jb.length c2, .int .i64 40, .int .i64 jb.length]), (.agg #[.slice A3 s1.length c3, .slice A4 0 c4, .int .i64 (-1), .bool false]), .int .i64 0]))).put (some 53) ((.tuple #[(.agg #[.slice A2 jb.length c2, .int .i64 40, .int .i64 jb.length]), (.agg #[.slice A3 s1.length c3, .slice A4 0 c4, .int .i64 (-1), .bool false]), .int .i64 0]))).put (some 63) ((.agg #[.slice A2 jb.length c2, .int .i64 40, .int .i64 jb.length]))).put (some 64) ((.agg #[.slice A3 s1.length c3, .slice A4 0 c4, .int .i64 (-1), .bool false]))).put (some 65) ((.int .i64 0))) X := by
    intro X w1 w2 A2 A3 A4 c2 c3 c4 hX hjk hdk
    refine wpAnyU_go2 (i := 13) (i2 := 14) (by kernel_rfl) ?_ ?_
    ·
      refine wpOp_alloc29 (t := 10) rfl rfl rfl rfl ?_
      have hal := al1 X (.cells #[.slice none 0 0, .int .i64 0, .int .i64 0] 29)
      refine ⟨hX.up hal, ?_⟩
      refine wpAnyU_at (L' := #[true, true, true, true, true, true, true, true, true, true, true, true, true, true, false, false, false, false]) (by kernel_rfl) ?_
      exact s310 _ w1 w2 A2 A3 A4 c2 c3 c4 X.heap.size (hX.up hal) (hjk.upb hal) (hdk.upb hal) (Cells.new X 29 [.slice none 0 0, .int .i64 0, .int .i64 0]) hX.size (nr_of_bs (isJ_bs hjk) (Nat.le_refl _)) (nb_new hdk (Nat.le_refl _))
    ·
      refine wpOp_alloc25 (t := 11) rfl rfl rfl rfl ?_
      have hal := al1 X (.cells #[.slice none 0 0, .slice none 0 0, .int .i64 0, .bool false] 25)
      refine ⟨hX.up hal, ?_⟩
      refine wpAnyU_at (L' := #[true, true, true, true, true, true, true, true, true, true, true, true, true, false, true, false, false, false]) (by kernel_rfl) ?_
      exact s301 _ w1 w2 A2 A3 A4 c2 c3 c4 X.heap.size (hX.up hal) (hjk.upb hal) (hdk.upb hal) (Cells.new X 25 [.slice none 0 0, .slice none 0 0, .int .i64 0, .bool false]) hX.size (nr_of_bs (isJ_bs hjk) (Nat.le_refl _)) (nb_new hdk (Nat.le_refl _))
  have s211 : ∀ (X : World) (w1 : Value) (B2 : Option Addr) (d2 : Nat) (b1 : Nat) (b2 : Nat), Below W.heap.size W X → IsJ X (.agg #[.slice B2 jb.length d2, .int .i64 40, .int .i64 s]) ⟨jb, 40, s⟩ → Cells X b1 29 [.slice none 0 0, .int .i64 0, .int .i64 0] → W.heap.size ≤ b1 → NR b1 (.slice B2 jb.length d2) jb → Cells X b2 25 [.slice none 0 0, .slice none 0 0, .int .i64 0, .bool false] → W.heap.size ≤ b2 → NR b2 (.slice B2 jb.length d2) jb → wpAnyU Try.prog .any (sops 10) (NoPanic Q) (fun X => Below W.heap.size W X) 17 8 #[true, true, true, true, true, true, true, true, false, false, false, false, false, true, true, false, false, false] ((((((((((a.put (some 54) (.func (.func 28) #[] #[])).put (some 55) (.func (.func 28) #[] #[])).put (some 56) ((.agg #[.slice A0 js.length c0, .int .i64 40, .int .i64 s]))).put (some 57) (u0)).put (some 59) (u1)).put (some 61) ((.agg #[.slice A5 ss.length c5, .slice A6 0 c6, .int .i64 (-1), .bool false]))).put (some 58) (w1)).put (some 60) ((.agg #[.slice B2 jb.length d2, .int .i64 40, .int .i64 s]))).put (some 10) (.pointer (some ⟨b1, 0, none⟩))).put (some 11) (.pointer (some ⟨b2, 0, none⟩))) X := by
    intro X w1 B2 d2 b1 b2 hX hjk z1 h1 nr1 z2 h2 nr2
    refine wpAnyU_go1 (i := 8) (by kernel_rfl) ?_
    ·
      have q1 : ((((((((((a.put (some 54) (.func (.func 28) #[] #[])).put (some 55) (.func (.func 28) #[] #[])).put (some 56) ((.agg #[.slice A0 js.length c0, .int .i64 40, .int .i64 s]))).put (some 57) (u0)).put (some 59) (u1)).put (some 61) ((.agg #[.slice A5 ss.length c5, .slice A6 0 c6, .int .i64 (-1), .bool false]))).put (some 58) (w1)).put (some 60) ((.agg #[.slice B2 jb.length d2, .int .i64 40, .int .i64 s]))).put (some 10) (.pointer (some ⟨b1, 0, none⟩))).put (some 11) (.pointer (some ⟨b2, 0, none⟩))).eval (.tmp 60) = (.agg #[.slice B2 jb.length d2, .int .i64 40, .int .i64 s]) := (ev_ne (by decide)).trans ((ev_ne (by decide)).trans ((ev_eq (by simp only [put_sz, hsz]; decide))))
      have q2 : ((((((((((a.put (some 54) (.func (.func 28) #[] #[])).put (some 55) (.func (.func 28) #[] #[])).put (some 56) ((.agg #[.slice A0 js.length c0, .int .i64 40, .int .i64 s]))).put (some 57) (u0)).put (some 59) (u1)).put (some 61) ((.agg #[.slice A5 ss.length c5, .slice A6 0 c6, .int .i64 (-1), .bool false]))).put (some 58) (w1)).put (some 60) ((.agg #[.slice B2 jb.length d2, .int .i64 40, .int .i64 s]))).put (some 10) (.pointer (some ⟨b1, 0, none⟩))).put (some 11) (.pointer (some ⟨b2, 0, none⟩))).eval (.tmp 61) = (.agg #[.slice A5 ss.length c5, .slice A6 0 c6, .int .i64 (-1), .bool false]) := (ev_ne (by decide)).trans ((ev_ne (by decide)).trans ((ev_ne (by decide)).trans ((ev_ne (by decide)).trans ((ev_eq (by simp only [put_sz, hsz]; decide))))))
      refine wpOp_call (t := 62) rfl rfl rfl (.func 21) #[.tmp 60, .tmp 61] _ rfl 21 rfl #[(.agg #[.slice B2 jb.length d2, .int .i64 40, .int .i64 s]), (.agg #[.slice A5 ss.length c5, .slice A6 0 c6, .int .i64 (-1), .bool false])] (by simp only [List.map_toArray, List.map_cons, List.map_nil]; rw [q1, q2]) (enters_of Try.func21 (by kernel_rfl) rfl) (JSync_is (n := jb.length) (m := 40) (s := jb.length) hjk (Jn.sm_used (by show Jn.used jb ≤ 4096; omega)) (hd.upb hX) sE sJ sD rfl rfl rfl) ?_
      rintro e X2 ⟨A2, c2, A3, c3, A4, c4, rfl, hj2, hd2, hb, hsj, hsd⟩
      clear q1 q2
      refine ⟨_, rfl, hX.up hb, ?_⟩
      refine wpAnyU_at (L' := #[true, true, true, true, true, true, true, true, true, false, false, false, false, true, true, false, false, false]) (by kernel_rfl) ?_
      refine wpAnyU_takeD (i := 9) (v := (.tuple #[(.agg #[.slice A2 jb.length c2, .int .i64 40, .int .i64 jb.length]), (.agg #[.slice A3 s1.length c3, .slice A4 0 c4, .int .i64 (-1), .bool false]), .int .i64 0])) 53 rfl rfl (by kernel_rfl) (by kernel_rfl) (by kernel_rfl) (by kernel_rfl) (by kernel_rfl) (by kernel_rfl) (fun _ _ _ h => h) (yi_move rfl rfl ((ev_eq (by simp only [put_sz, hsz]; decide)))) (hX.up hb) ?_
      refine wpAnyU_at (L' := #[true, true, true, true, true, true, true, true, true, true, false, false, false, true, true, false, false, false]) (by kernel_rfl) ?_
      refine wpAnyU_takeD (i := 10) (v := (.agg #[.slice A2 jb.length c2, .int .i64 40, .int .i64 jb.length])) 63 rfl rfl (by kernel_rfl) (by kernel_rfl) (by kernel_rfl) (by kernel_rfl) (by kernel_rfl) (by kernel_rfl) (fun _ _ _ h => h) (yi_ext rfl rfl ((ev_eq (by simp only [put_sz, hsz]; decide))) rfl) (hX.up hb) ?_
      refine wpAnyU_at (L' := #[true, true, true, true, true, true, true, true, true, true, true, false, false, true, true, false, false, false]) (by kernel_rfl) ?_
      refine wpAnyU_takeD (i := 11) (v := (.agg #[.slice A3 s1.length c3, .slice A4 0 c4, .int .i64 (-1), .bool false])) 64 rfl rfl (by kernel_rfl) (by kernel_rfl) (by kernel_rfl) (by kernel_rfl) (by kernel_rfl) (by kernel_rfl) (fun _ _ _ h => h) (yi_ext rfl rfl ((ev_ne (by decide)).trans ((ev_eq (by simp only [put_sz, hsz]; decide)))) rfl) (hX.up hb) ?_
      refine wpAnyU_at (L' := #[true, true, true, true, true, true, true, true, true, true, true, true, false, true, true, false, false, false]) (by kernel_rfl) ?_
      refine wpAnyU_takeD (i := 12) (v := (.int .i64 0)) 65 rfl rfl (by kernel_rfl) (by kernel_rfl) (by kernel_rfl) (by kernel_rfl) (by kernel_rfl) (by kernel_rfl) (fun _ _ _ h => h) (yi_ext rfl rfl ((ev_ne (by decide)).trans ((ev_ne (by decide)).trans ((ev_eq (by simp only [put_sz, hsz]; decide))))) rfl) (hX.up hb) ?_
      refine wpAnyU_at (L' := #[true, true, true, true, true, true, true, true, true, true, true, true, true, true, true, false, false, false]) (by kernel_rfl) ?_
      rw [put_comm (s := 11) (t := 62) (by decide), put_comm (s := 10) (t := 62) (by decide), put_comm (s := 11) (t := 53) (by decide), put_comm (s := 10) (t := 53) (by decide), put_comm (s := 11) (t := 63) (by decide), put_comm (s := 10) (t := 63) (by decide), put_comm (s := 11) (t := 64) (by decide), put_comm (s := 10) (t := 64) (by decide), put_comm (s := 11) (t := 65) (by decide), put_comm (s := 10) (t := 65) (by decide)]
      exact s311 X2 w1 (.agg #[.slice B2 jb.length d2, .int .i64 40, .int .i64 s]) A2 A3 A4 c2 c3 c4 b1 b2 (hX.up hb) hj2 hd2 (z1.upb hb) h1 (nr_of_sec hsj z1.lt nr1) (nb_sec (hd.upb hX) hd2 hsd (nb_new hd h1) z1.lt) (z2.upb hb) h2 (nr_of_sec hsj z2.lt nr2) (nb_sec (hd.upb hX) hd2 hsd (nb_new hd h2) z2.lt)
  have s201 : ∀ (X : World) (w1 : Value) (B2 : Option Addr) (d2 : Nat) (b2 : Nat), Below W.heap.size W X → IsJ X (.agg #[.slice B2 jb.length d2, .int .i64 40, .int .i64 s]) ⟨jb, 40, s⟩ → Cells X b2 25 [.slice none 0 0, .slice none 0 0, .int .i64 0, .bool false] → W.heap.size ≤ b2 → NR b2 (.slice B2 jb.length d2) jb → wpAnyU Try.prog .any (sops 10) (NoPanic Q) (fun X => Below W.heap.size W X) 17 9 #[true, true, true, true, true, true, true, true, false, false, false, false, false, false, true, false, false, false] (((((((((a.put (some 54) (.func (.func 28) #[] #[])).put (some 55) (.func (.func 28) #[] #[])).put (some 56) ((.agg #[.slice A0 js.length c0, .int .i64 40, .int .i64 s]))).put (some 57) (u0)).put (some 59) (u1)).put (some 61) ((.agg #[.slice A5 ss.length c5, .slice A6 0 c6, .int .i64 (-1), .bool false]))).put (some 58) (w1)).put (some 60) ((.agg #[.slice B2 jb.length d2, .int .i64 40, .int .i64 s]))).put (some 11) (.pointer (some ⟨b2, 0, none⟩))) X := by
    intro X w1 B2 d2 b2 hX hjk z2 h2 nr2
    refine wpAnyU_go2 (i := 8) (i2 := 13) (by kernel_rfl) ?_ ?_
    ·
      have q1 : (((((((((a.put (some 54) (.func (.func 28) #[] #[])).put (some 55) (.func (.func 28) #[] #[])).put (some 56) ((.agg #[.slice A0 js.length c0, .int .i64 40, .int .i64 s]))).put (some 57) (u0)).put (some 59) (u1)).put (some 61) ((.agg #[.slice A5 ss.length c5, .slice A6 0 c6, .int .i64 (-1), .bool false]))).put (some 58) (w1)).put (some 60) ((.agg #[.slice B2 jb.length d2, .int .i64 40, .int .i64 s]))).put (some 11) (.pointer (some ⟨b2, 0, none⟩))).eval (.tmp 60) = (.agg #[.slice B2 jb.length d2, .int .i64 40, .int .i64 s]) := (ev_ne (by decide)).trans ((ev_eq (by simp only [put_sz, hsz]; decide)))
      have q2 : (((((((((a.put (some 54) (.func (.func 28) #[] #[])).put (some 55) (.func (.func 28) #[] #[])).put (some 56) ((.agg #[.slice A0 js.length c0, .int .i64 40, .int .i64 s]))).put (some 57) (u0)).put (some 59) (u1)).put (some 61) ((.agg #[.slice A5 ss.length c5, .slice A6 0 c6, .int .i64 (-1), .bool false]))).put (some 58) (w1)).put (some 60) ((.agg #[.slice B2 jb.length d2, .int .i64 40, .int .i64 s]))).put (some 11) (.pointer (some ⟨b2, 0, none⟩))).eval (.tmp 61) = (.agg #[.slice A5 ss.length c5, .slice A6 0 c6, .int .i64 (-1), .bool false]) := (ev_ne (by decide)).trans ((ev_ne (by decide)).trans ((ev_ne (by decide)).trans ((ev_eq (by simp only [put_sz, hsz]; decide)))))
      refine wpOp_call (t := 62) rfl rfl rfl (.func 21) #[.tmp 60, .tmp 61] _ rfl 21 rfl #[(.agg #[.slice B2 jb.length d2, .int .i64 40, .int .i64 s]), (.agg #[.slice A5 ss.length c5, .slice A6 0 c6, .int .i64 (-1), .bool false])] (by simp only [List.map_toArray, List.map_cons, List.map_nil]; rw [q1, q2]) (enters_of Try.func21 (by kernel_rfl) rfl) (JSync_is (n := jb.length) (m := 40) (s := jb.length) hjk (Jn.sm_used (by show Jn.used jb ≤ 4096; omega)) (hd.upb hX) sE sJ sD rfl rfl rfl) ?_
      rintro e X2 ⟨A2, c2, A3, c3, A4, c4, rfl, hj2, hd2, hb, hsj, hsd⟩
      clear q1 q2
      refine ⟨_, rfl, hX.up hb, ?_⟩
      refine wpAnyU_at (L' := #[true, true, true, true, true, true, true, true, true, false, false, false, false, false, true, false, false, false]) (by kernel_rfl) ?_
      refine wpAnyU_takeD (i := 9) (v := (.tuple #[(.agg #[.slice A2 jb.length c2, .int .i64 40, .int .i64 jb.length]), (.agg #[.slice A3 s1.length c3, .slice A4 0 c4, .int .i64 (-1), .bool false]), .int .i64 0])) 53 rfl rfl (by kernel_rfl) (by kernel_rfl) (by kernel_rfl) (by kernel_rfl) (by kernel_rfl) (by kernel_rfl) (fun _ _ _ h => h) (yi_move rfl rfl ((ev_eq (by simp only [put_sz, hsz]; decide)))) (hX.up hb) ?_
      refine wpAnyU_at (L' := #[true, true, true, true, true, true, true, true, true, true, false, false, false, false, true, false, false, false]) (by kernel_rfl) ?_
      refine wpAnyU_takeD (i := 10) (v := (.agg #[.slice A2 jb.length c2, .int .i64 40, .int .i64 jb.length])) 63 rfl rfl (by kernel_rfl) (by kernel_rfl) (by kernel_rfl) (by kernel_rfl) (by kernel_rfl) (by kernel_rfl) (fun _ _ _ h => h) (yi_ext rfl rfl ((ev_eq (by simp only [put_sz, hsz]; decide))) rfl) (hX.up hb) ?_
      refine wpAnyU_at (L' := #[true, true, true, true, true, true, true, true, true, true, true, false, false, false, true, false, false, false]) (by kernel_rfl) ?_
      refine wpAnyU_takeD (i := 11) (v := (.agg #[.slice A3 s1.length c3, .slice A4 0 c4, .int .i64 (-1), .bool false])) 64 rfl rfl (by kernel_rfl) (by kernel_rfl) (by kernel_rfl) (by kernel_rfl) (by kernel_rfl) (by kernel_rfl) (fun _ _ _ h => h) (yi_ext rfl rfl ((ev_ne (by decide)).trans ((ev_eq (by simp only [put_sz, hsz]; decide)))) rfl) (hX.up hb) ?_
      refine wpAnyU_at (L' := #[true, true, true, true, true, true, true, true, true, true, true, true, false, false, true, false, false, false]) (by kernel_rfl) ?_
      refine wpAnyU_takeD (i := 12) (v := (.int .i64 0)) 65 rfl rfl (by kernel_rfl) (by kernel_rfl) (by kernel_rfl) (by kernel_rfl) (by kernel_rfl) (by kernel_rfl) (fun _ _ _ h => h) (yi_ext rfl rfl ((ev_ne (by decide)).trans ((ev_ne (by decide)).trans ((ev_eq (by simp only [put_sz, hsz]; decide))))) rfl) (hX.up hb) ?_
      refine wpAnyU_at (L' := #[true, true, true, true, true, true, true, true, true, true, true, true, true, false, true, false, false, false]) (by kernel_rfl) ?_
      rw [put_comm (s := 11) (t := 62) (by decide), put_comm (s := 11) (t := 53) (by decide), put_comm (s := 11) (t := 63) (by decide), put_comm (s := 11) (t := 64) (by decide), put_comm (s := 11) (t := 65) (by decide)]
      exact s301 X2 w1 (.agg #[.slice B2 jb.length d2, .int .i64 40, .int .i64 s]) A2 A3 A4 c2 c3 c4 b2 (hX.up hb) hj2 hd2 (z2.upb hb) h2 (nr_of_sec hsj z2.lt nr2) (nb_sec (hd.upb hX) hd2 hsd (nb_new hd h2) z2.lt)
    ·
      refine wpOp_alloc29 (t := 10) rfl rfl rfl rfl ?_
      have hal := al1 X (.cells #[.slice none 0 0, .int .i64 0, .int .i64 0] 29)
      refine ⟨hX.up hal, ?_⟩
      refine wpAnyU_at (L' := #[true, true, true, true, true, true, true, true, false, false, false, false, false, true, true, false, false, false]) (by kernel_rfl) ?_
      rw [put_comm (s := 11) (t := 10) (by decide)]
      exact s211 _ w1 B2 d2 X.heap.size b2 (hX.up hal) (hjk.upb hal) (Cells.new X 29 [.slice none 0 0, .int .i64 0, .int .i64 0]) hX.size (nr_of_bs (isJ_bs hjk) (Nat.le_refl _)) (z2.upb hal) h2 nr2
  have s210 : ∀ (X : World) (w1 : Value) (B2 : Option Addr) (d2 : Nat) (b1 : Nat), Below W.heap.size W X → IsJ X (.agg #[.slice B2 jb.length d2, .int .i64 40, .int .i64 s]) ⟨jb, 40, s⟩ → Cells X b1 29 [.slice none 0 0, .int .i64 0, .int .i64 0] → W.heap.size ≤ b1 → NR b1 (.slice B2 jb.length d2) jb → wpAnyU Try.prog .any (sops 10) (NoPanic Q) (fun X => Below W.heap.size W X) 17 9 #[true, true, true, true, true, true, true, true, false, false, false, false, false, true, false, false, false, false] (((((((((a.put (some 54) (.func (.func 28) #[] #[])).put (some 55) (.func (.func 28) #[] #[])).put (some 56) ((.agg #[.slice A0 js.length c0, .int .i64 40, .int .i64 s]))).put (some 57) (u0)).put (some 59) (u1)).put (some 61) ((.agg #[.slice A5 ss.length c5, .slice A6 0 c6, .int .i64 (-1), .bool false]))).put (some 58) (w1)).put (some 60) ((.agg #[.slice B2 jb.length d2, .int .i64 40, .int .i64 s]))).put (some 10) (.pointer (some ⟨b1, 0, none⟩))) X := by
    intro X w1 B2 d2 b1 hX hjk z1 h1 nr1
    refine wpAnyU_go2 (i := 8) (i2 := 14) (by kernel_rfl) ?_ ?_
    ·
      have q1 : (((((((((a.put (some 54) (.func (.func 28) #[] #[])).put (some 55) (.func (.func 28) #[] #[])).put (some 56) ((.agg #[.slice A0 js.length c0, .int .i64 40, .int .i64 s]))).put (some 57) (u0)).put (some 59) (u1)).put (some 61) ((.agg #[.slice A5 ss.length c5, .slice A6 0 c6, .int .i64 (-1), .bool false]))).put (some 58) (w1)).put (some 60) ((.agg #[.slice B2 jb.length d2, .int .i64 40, .int .i64 s]))).put (some 10) (.pointer (some ⟨b1, 0, none⟩))).eval (.tmp 60) = (.agg #[.slice B2 jb.length d2, .int .i64 40, .int .i64 s]) := (ev_ne (by decide)).trans ((ev_eq (by simp only [put_sz, hsz]; decide)))
      have q2 : (((((((((a.put (some 54) (.func (.func 28) #[] #[])).put (some 55) (.func (.func 28) #[] #[])).put (some 56) ((.agg #[.slice A0 js.length c0, .int .i64 40, .int .i64 s]))).put (some 57) (u0)).put (some 59) (u1)).put (some 61) ((.agg #[.slice A5 ss.length c5, .slice A6 0 c6, .int .i64 (-1), .bool false]))).put (some 58) (w1)).put (some 60) ((.agg #[.slice B2 jb.length d2, .int .i64 40, .int .i64 s]))).put (some 10) (.pointer (some ⟨b1, 0, none⟩))).eval (.tmp 61) = (.agg #[.slice A5 ss.length c5, .slice A6 0 c6, .int .i64 (-1), .bool false]) := (ev_ne (by decide)).trans ((ev_ne (by decide)).trans ((ev_ne (by decide)).trans ((ev_eq (by simp only [put_sz, hsz]; decide)))))
      refine wpOp_call (t := 62) rfl rfl rfl (.func 21) #[.tmp 60, .tmp 61] _ rfl 21 rfl #[(.agg #[.slice B2 jb.length d2, .int .i64 40, .int .i64 s]), (.agg #[.slice A5 ss.length c5, .slice A6 0 c6, .int .i64 (-1), .bool false])] (by simp only [List.map_toArray, List.map_cons, List.map_nil]; rw [q1, q2]) (enters_of Try.func21 (by kernel_rfl) rfl) (JSync_is (n := jb.length) (m := 40) (s := jb.length) hjk (Jn.sm_used (by show Jn.used jb ≤ 4096; omega)) (hd.upb hX) sE sJ sD rfl rfl rfl) ?_
      rintro e X2 ⟨A2, c2, A3, c3, A4, c4, rfl, hj2, hd2, hb, hsj, hsd⟩
      clear q1 q2
      refine ⟨_, rfl, hX.up hb, ?_⟩
      refine wpAnyU_at (L' := #[true, true, true, true, true, true, true, true, true, false, false, false, false, true, false, false, false, false]) (by kernel_rfl) ?_
      refine wpAnyU_takeD (i := 9) (v := (.tuple #[(.agg #[.slice A2 jb.length c2, .int .i64 40, .int .i64 jb.length]), (.agg #[.slice A3 s1.length c3, .slice A4 0 c4, .int .i64 (-1), .bool false]), .int .i64 0])) 53 rfl rfl (by kernel_rfl) (by kernel_rfl) (by kernel_rfl) (by kernel_rfl) (by kernel_rfl) (by kernel_rfl) (fun _ _ _ h => h) (yi_move rfl rfl ((ev_eq (by simp only [put_sz, hsz]; decide)))) (hX.up hb) ?_
      refine wpAnyU_at (L' := #[true, true, true, true, true, true, true, true, true, true, false, false, false, true, false, false, false, false]) (by kernel_rfl) ?_
      refine wpAnyU_takeD (i := 10) (v := (.agg #[.slice A2 jb.length c2, .int .i64 40, .int .i64 jb.length])) 63 rfl rfl (by kernel_rfl) (by kernel_rfl) (by kernel_rfl) (by kernel_rfl) (by kernel_rfl) (by kernel_rfl) (fun _ _ _ h => h) (yi_ext rfl rfl ((ev_eq (by simp only [put_sz, hsz]; decide))) rfl) (hX.up hb) ?_
      refine wpAnyU_at (L' := #[true, true, true, true, true, true, true, true, true, true, true, false, false, true, false, false, false, false]) (by kernel_rfl) ?_
      refine wpAnyU_takeD (i := 11) (v := (.agg #[.slice A3 s1.length c3, .slice A4 0 c4, .int .i64 (-1), .bool false])) 64 rfl rfl (by kernel_rfl) (by kernel_rfl) (by kernel_rfl) (by kernel_rfl) (by kernel_rfl) (by kernel_rfl) (fun _ _ _ h => h) (yi_ext rfl rfl ((ev_ne (by decide)).trans ((ev_eq (by simp only [put_sz, hsz]; decide)))) rfl) (hX.up hb) ?_
      refine wpAnyU_at (L' := #[true, true, true, true, true, true, true, true, true, true, true, true, false, true, false, false, false, false]) (by kernel_rfl) ?_
      refine wpAnyU_takeD (i := 12) (v := (.int .i64 0)) 65 rfl rfl (by kernel_rfl) (by kernel_rfl) (by kernel_rfl) (by kernel_rfl) (by kernel_rfl) (by kernel_rfl) (fun _ _ _ h => h) (yi_ext rfl rfl ((ev_ne (by decide)).trans ((ev_ne (by decide)).trans ((ev_eq (by simp only [put_sz, hsz]; decide))))) rfl) (hX.up hb) ?_
      refine wpAnyU_at (L' := #[true, true, true, true, true, true, true, true, true, true, true, true, true, true, false, false, false, false]) (by kernel_rfl) ?_
      rw [put_comm (s := 10) (t := 62) (by decide), put_comm (s := 10) (t := 53) (by decide), put_comm (s := 10) (t := 63) (by decide), put_comm (s := 10) (t := 64) (by decide), put_comm (s := 10) (t := 65) (by decide)]
      exact s310 X2 w1 (.agg #[.slice B2 jb.length d2, .int .i64 40, .int .i64 s]) A2 A3 A4 c2 c3 c4 b1 (hX.up hb) hj2 hd2 (z1.upb hb) h1 (nr_of_sec hsj z1.lt nr1) (nb_sec (hd.upb hX) hd2 hsd (nb_new hd h1) z1.lt)
    ·
      refine wpOp_alloc25 (t := 11) rfl rfl rfl rfl ?_
      have hal := al1 X (.cells #[.slice none 0 0, .slice none 0 0, .int .i64 0, .bool false] 25)
      refine ⟨hX.up hal, ?_⟩
      refine wpAnyU_at (L' := #[true, true, true, true, true, true, true, true, false, false, false, false, false, true, true, false, false, false]) (by kernel_rfl) ?_
      exact s211 _ w1 B2 d2 b1 X.heap.size (hX.up hal) (hjk.upb hal) (z1.upb hal) h1 nr1 (Cells.new X 25 [.slice none 0 0, .slice none 0 0, .int .i64 0, .bool false]) hX.size (nr_of_bs (isJ_bs hjk) (Nat.le_refl _))
  have s200 : ∀ (X : World) (w1 : Value) (B2 : Option Addr) (d2 : Nat), Below W.heap.size W X → IsJ X (.agg #[.slice B2 jb.length d2, .int .i64 40, .int .i64 s]) ⟨jb, 40, s⟩ → wpAnyU Try.prog .any (sops 10) (NoPanic Q) (fun X => Below W.heap.size W X) 17 10 #[true, true, true, true, true, true, true, true, false, false, false, false, false, false, false, false, false, false] ((((((((a.put (some 54) (.func (.func 28) #[] #[])).put (some 55) (.func (.func 28) #[] #[])).put (some 56) ((.agg #[.slice A0 js.length c0, .int .i64 40, .int .i64 s]))).put (some 57) (u0)).put (some 59) (u1)).put (some 61) ((.agg #[.slice A5 ss.length c5, .slice A6 0 c6, .int .i64 (-1), .bool false]))).put (some 58) (w1)).put (some 60) ((.agg #[.slice B2 jb.length d2, .int .i64 40, .int .i64 s]))) X := by
    intro X w1 B2 d2 hX hjk
    refine wpAnyU_go3 (i := 8) (i2 := 13) (i3 := 14) (by kernel_rfl) ?_ ?_ ?_
    ·
      have q1 : ((((((((a.put (some 54) (.func (.func 28) #[] #[])).put (some 55) (.func (.func 28) #[] #[])).put (some 56) ((.agg #[.slice A0 js.length c0, .int .i64 40, .int .i64 s]))).put (some 57) (u0)).put (some 59) (u1)).put (some 61) ((.agg #[.slice A5 ss.length c5, .slice A6 0 c6, .int .i64 (-1), .bool false]))).put (some 58) (w1)).put (some 60) ((.agg #[.slice B2 jb.length d2, .int .i64 40, .int .i64 s]))).eval (.tmp 60) = (.agg #[.slice B2 jb.length d2, .int .i64 40, .int .i64 s]) := (ev_eq (by simp only [put_sz, hsz]; decide))
      have q2 : ((((((((a.put (some 54) (.func (.func 28) #[] #[])).put (some 55) (.func (.func 28) #[] #[])).put (some 56) ((.agg #[.slice A0 js.length c0, .int .i64 40, .int .i64 s]))).put (some 57) (u0)).put (some 59) (u1)).put (some 61) ((.agg #[.slice A5 ss.length c5, .slice A6 0 c6, .int .i64 (-1), .bool false]))).put (some 58) (w1)).put (some 60) ((.agg #[.slice B2 jb.length d2, .int .i64 40, .int .i64 s]))).eval (.tmp 61) = (.agg #[.slice A5 ss.length c5, .slice A6 0 c6, .int .i64 (-1), .bool false]) := (ev_ne (by decide)).trans ((ev_ne (by decide)).trans ((ev_eq (by simp only [put_sz, hsz]; decide))))
      refine wpOp_call (t := 62) rfl rfl rfl (.func 21) #[.tmp 60, .tmp 61] _ rfl 21 rfl #[(.agg #[.slice B2 jb.length d2, .int .i64 40, .int .i64 s]), (.agg #[.slice A5 ss.length c5, .slice A6 0 c6, .int .i64 (-1), .bool false])] (by simp only [List.map_toArray, List.map_cons, List.map_nil]; rw [q1, q2]) (enters_of Try.func21 (by kernel_rfl) rfl) (JSync_is (n := jb.length) (m := 40) (s := jb.length) hjk (Jn.sm_used (by show Jn.used jb ≤ 4096; omega)) (hd.upb hX) sE sJ sD rfl rfl rfl) ?_
      rintro e X2 ⟨A2, c2, A3, c3, A4, c4, rfl, hj2, hd2, hb, hsj, hsd⟩
      clear q1 q2
      refine ⟨_, rfl, hX.up hb, ?_⟩
      refine wpAnyU_at (L' := #[true, true, true, true, true, true, true, true, true, false, false, false, false, false, false, false, false, false]) (by kernel_rfl) ?_
      refine wpAnyU_takeD (i := 9) (v := (.tuple #[(.agg #[.slice A2 jb.length c2, .int .i64 40, .int .i64 jb.length]), (.agg #[.slice A3 s1.length c3, .slice A4 0 c4, .int .i64 (-1), .bool false]), .int .i64 0])) 53 rfl rfl (by kernel_rfl) (by kernel_rfl) (by kernel_rfl) (by kernel_rfl) (by kernel_rfl) (by kernel_rfl) (fun _ _ _ h => h) (yi_move rfl rfl ((ev_eq (by simp only [put_sz, hsz]; decide)))) (hX.up hb) ?_
      refine wpAnyU_at (L' := #[true, true, true, true, true, true, true, true, true, true, false, false, false, false, false, false, false, false]) (by kernel_rfl) ?_
      refine wpAnyU_takeD (i := 10) (v := (.agg #[.slice A2 jb.length c2, .int .i64 40, .int .i64 jb.length])) 63 rfl rfl (by kernel_rfl) (by kernel_rfl) (by kernel_rfl) (by kernel_rfl) (by kernel_rfl) (by kernel_rfl) (fun _ _ _ h => h) (yi_ext rfl rfl ((ev_eq (by simp only [put_sz, hsz]; decide))) rfl) (hX.up hb) ?_
      refine wpAnyU_at (L' := #[true, true, true, true, true, true, true, true, true, true, true, false, false, false, false, false, false, false]) (by kernel_rfl) ?_
      refine wpAnyU_takeD (i := 11) (v := (.agg #[.slice A3 s1.length c3, .slice A4 0 c4, .int .i64 (-1), .bool false])) 64 rfl rfl (by kernel_rfl) (by kernel_rfl) (by kernel_rfl) (by kernel_rfl) (by kernel_rfl) (by kernel_rfl) (fun _ _ _ h => h) (yi_ext rfl rfl ((ev_ne (by decide)).trans ((ev_eq (by simp only [put_sz, hsz]; decide)))) rfl) (hX.up hb) ?_
      refine wpAnyU_at (L' := #[true, true, true, true, true, true, true, true, true, true, true, true, false, false, false, false, false, false]) (by kernel_rfl) ?_
      refine wpAnyU_takeD (i := 12) (v := (.int .i64 0)) 65 rfl rfl (by kernel_rfl) (by kernel_rfl) (by kernel_rfl) (by kernel_rfl) (by kernel_rfl) (by kernel_rfl) (fun _ _ _ h => h) (yi_ext rfl rfl ((ev_ne (by decide)).trans ((ev_ne (by decide)).trans ((ev_eq (by simp only [put_sz, hsz]; decide))))) rfl) (hX.up hb) ?_
      refine wpAnyU_at (L' := #[true, true, true, true, true, true, true, true, true, true, true, true, true, false, false, false, false, false]) (by kernel_rfl) ?_
      exact s300 X2 w1 (.agg #[.slice B2 jb.length d2, .int .i64 40, .int .i64 s]) A2 A3 A4 c2 c3 c4 (hX.up hb) hj2 hd2
    ·
      refine wpOp_alloc29 (t := 10) rfl rfl rfl rfl ?_
      have hal := al1 X (.cells #[.slice none 0 0, .int .i64 0, .int .i64 0] 29)
      refine ⟨hX.up hal, ?_⟩
      refine wpAnyU_at (L' := #[true, true, true, true, true, true, true, true, false, false, false, false, false, true, false, false, false, false]) (by kernel_rfl) ?_
      exact s210 _ w1 B2 d2 X.heap.size (hX.up hal) (hjk.upb hal) (Cells.new X 29 [.slice none 0 0, .int .i64 0, .int .i64 0]) hX.size (nr_of_bs (isJ_bs hjk) (Nat.le_refl _))
    ·
      refine wpOp_alloc25 (t := 11) rfl rfl rfl rfl ?_
      have hal := al1 X (.cells #[.slice none 0 0, .slice none 0 0, .int .i64 0, .bool false] 25)
      refine ⟨hX.up hal, ?_⟩
      refine wpAnyU_at (L' := #[true, true, true, true, true, true, true, true, false, false, false, false, false, false, true, false, false, false]) (by kernel_rfl) ?_
      exact s201 _ w1 B2 d2 X.heap.size (hX.up hal) (hjk.upb hal) (Cells.new X 25 [.slice none 0 0, .slice none 0 0, .int .i64 0, .bool false]) hX.size (nr_of_bs (isJ_bs hjk) (Nat.le_refl _))
  have s111 : ∀ (X : World) (B1 : Option Addr) (d1 : Nat) (b1 : Nat) (b2 : Nat), Below W.heap.size W X → IsJ X (.agg #[.slice B1 j1.length d1, .int .i64 40, .int .i64 s]) ⟨j1, 40, s⟩ → Cells X b1 29 [.slice none 0 0, .int .i64 0, .int .i64 0] → W.heap.size ≤ b1 → NR b1 (.slice B1 j1.length d1) j1 → Cells X b2 25 [.slice none 0 0, .slice none 0 0, .int .i64 0, .bool false] → W.heap.size ≤ b2 → NR b2 (.slice B1 j1.length d1) j1 → wpAnyU Try.prog .any (sops 10) (NoPanic Q) (fun X => Below W.heap.size W X) 17 9 #[true, true, true, true, true, true, false, true, false, false, false, false, false, true, true, false, false, false] (((((((((a.put (some 54) (.func (.func 28) #[] #[])).put (some 55) (.func (.func 28) #[] #[])).put (some 56) ((.agg #[.slice A0 js.length c0, .int .i64 40, .int .i64 s]))).put (some 57) (u0)).put (some 59) (u1)).put (some 61) ((.agg #[.slice A5 ss.length c5, .slice A6 0 c6, .int .i64 (-1), .bool false]))).put (some 58) ((.agg #[.slice B1 j1.length d1, .int .i64 40, .int .i64 s]))).put (some 10) (.pointer (some ⟨b1, 0, none⟩))).put (some 11) (.pointer (some ⟨b2, 0, none⟩))) X := by
    intro X B1 d1 b1 b2 hX hjk z1 h1 nr1 z2 h2 nr2
    refine wpAnyU_go1 (i := 6) (by kernel_rfl) ?_
    ·
      have q1 : (((((((((a.put (some 54) (.func (.func 28) #[] #[])).put (some 55) (.func (.func 28) #[] #[])).put (some 56) ((.agg #[.slice A0 js.length c0, .int .i64 40, .int .i64 s]))).put (some 57) (u0)).put (some 59) (u1)).put (some 61) ((.agg #[.slice A5 ss.length c5, .slice A6 0 c6, .int .i64 (-1), .bool false]))).put (some 58) ((.agg #[.slice B1 j1.length d1, .int .i64 40, .int .i64 s]))).put (some 10) (.pointer (some ⟨b1, 0, none⟩))).put (some 11) (.pointer (some ⟨b2, 0, none⟩))).eval (.tmp 58) = (.agg #[.slice B1 j1.length d1, .int .i64 40, .int .i64 s]) := (ev_ne (by decide)).trans ((ev_ne (by decide)).trans ((ev_eq (by simp only [put_sz, hsz]; decide))))
      have q2 : (((((((((a.put (some 54) (.func (.func 28) #[] #[])).put (some 55) (.func (.func 28) #[] #[])).put (some 56) ((.agg #[.slice A0 js.length c0, .int .i64 40, .int .i64 s]))).put (some 57) (u0)).put (some 59) (u1)).put (some 61) ((.agg #[.slice A5 ss.length c5, .slice A6 0 c6, .int .i64 (-1), .bool false]))).put (some 58) ((.agg #[.slice B1 j1.length d1, .int .i64 40, .int .i64 s]))).put (some 10) (.pointer (some ⟨b1, 0, none⟩))).put (some 11) (.pointer (some ⟨b2, 0, none⟩))).eval (.tmp 59) = u1 := (ev_ne (by decide)).trans ((ev_ne (by decide)).trans ((ev_ne (by decide)).trans ((ev_ne (by decide)).trans ((ev_eq (by simp only [put_sz, hsz]; decide))))))
      refine wpOp_call (t := 60) rfl rfl rfl (.tmp 54) #[.tmp 58, .tmp 59] _ rfl 28 ((ev_ne (by decide)).trans ((ev_ne (by decide)).trans ((ev_ne (by decide)).trans ((ev_ne (by decide)).trans ((ev_ne (by decide)).trans ((ev_ne (by decide)).trans ((ev_ne (by decide)).trans ((ev_ne (by decide)).trans ((ev_eq (by simp only [put_sz, hsz]; decide))))))))))) #[(.agg #[.slice B1 j1.length d1, .int .i64 40, .int .i64 s]), u1] (by simp only [List.map_toArray, List.map_cons, List.map_nil]; rw [q1, q2]) (enters_of Try.func28 (by kernel_rfl) rfl) (Add_is hjk (hu1.upb hX) hl1 hle1 ⟨hs.1, hs1⟩ hus1 ha1) ?_
      rintro e X2 ⟨B2, d2, rfl, hj2, hb, hnr⟩
      clear q1 q2
      refine ⟨_, rfl, hX.up hb, ?_⟩
      refine wpAnyU_at (L' := #[true, true, true, true, true, true, true, true, false, false, false, false, false, true, true, false, false, false]) (by kernel_rfl) ?_
      rw [put_comm (s := 11) (t := 60) (by decide), put_comm (s := 10) (t := 60) (by decide)]
      exact s211 X2 (.agg #[.slice B1 j1.length d1, .int .i64 40, .int .i64 s]) B2 d2 b1 b2 (hX.up hb) hj2 (z1.upb hb) h1 (hnr b1 z1.lt (nr1)) (z2.upb hb) h2 (hnr b2 z2.lt (nr2))
  have s101 : ∀ (X : World) (B1 : Option Addr) (d1 : Nat) (b2 : Nat), Below W.heap.size W X → IsJ X (.agg #[.slice B1 j1.length d1, .int .i64 40, .int .i64 s]) ⟨j1, 40, s⟩ → Cells X b2 25 [.slice none 0 0, .slice none 0 0, .int .i64 0, .bool false] → W.heap.size ≤ b2 → NR b2 (.slice B1 j1.length d1) j1 → wpAnyU Try.prog .any (sops 10) (NoPanic Q) (fun X => Below W.heap.size W X) 17 10 #[true, true, true, true, true, true, false, true, false, false, false, false, false, false, true, false, false, false] ((((((((a.put (some 54) (.func (.func 28) #[] #[])).put (some 55) (.func (.func 28) #[] #[])).put (some 56) ((.agg #[.slice A0 js.length c0, .int .i64 40, .int .i64 s]))).put (some 57) (u0)).put (some 59) (u1)).put (some 61) ((.agg #[.slice A5 ss.length c5, .slice A6 0 c6, .int .i64 (-1), .bool false]))).put (some 58) ((.agg #[.slice B1 j1.length d1, .int .i64 40, .int .i64 s]))).put (some 11) (.pointer (some ⟨b2, 0, none⟩))) X := by
    intro X B1 d1 b2 hX hjk z2 h2 nr2
    refine wpAnyU_go2 (i := 6) (i2 := 13) (by kernel_rfl) ?_ ?_
    ·
      have q1 : ((((((((a.put (some 54) (.func (.func 28) #[] #[])).put (some 55) (.func (.func 28) #[] #[])).put (some 56) ((.agg #[.slice A0 js.length c0, .int .i64 40, .int .i64 s]))).put (some 57) (u0)).put (some 59) (u1)).put (some 61) ((.agg #[.slice A5 ss.length c5, .slice A6 0 c6, .int .i64 (-1), .bool false]))).put (some 58) ((.agg #[.slice B1 j1.length d1, .int .i64 40, .int .i64 s]))).put (some 11) (.pointer (some ⟨b2, 0, none⟩))).eval (.tmp 58) = (.agg #[.slice B1 j1.length d1, .int .i64 40, .int .i64 s]) := (ev_ne (by decide)).trans ((ev_eq (by simp only [put_sz, hsz]; decide)))
      have q2 : ((((((((a.put (some 54) (.func (.func 28) #[] #[])).put (some 55) (.func (.func 28) #[] #[])).put (some 56) ((.agg #[.slice A0 js.length c0, .int .i64 40, .int .i64 s]))).put (some 57) (u0)).put (some 59) (u1)).put (some 61) ((.agg #[.slice A5 ss.length c5, .slice A6 0 c6, .int .i64 (-1), .bool false]))).put (some 58) ((.agg #[.slice B1 j1.length d1, .int .i64 40, .int .i64 s]))).put (some 11) (.pointer (some ⟨b2, 0, none⟩))).eval (.tmp 59) = u1 := (ev_ne (by decide)).trans ((ev_ne (by decide)).trans ((ev_ne (by decide)).trans ((ev_eq (by simp only [put_sz, hsz]; decide)))))
      refine wpOp_call (t := 60) rfl rfl rfl (.tmp 54) #[.tmp 58, .tmp 59] _ rfl 28 ((ev_ne (by decide)).trans ((ev_ne (by decide)).trans ((ev_ne (by decide)).trans ((ev_ne (by decide)).trans ((ev_ne (by decide)).trans ((ev_ne (by decide)).trans ((ev_ne (by decide)).trans ((ev_eq (by simp only [put_sz, hsz]; decide)))))))))) #[(.agg #[.slice B1 j1.length d1, .int .i64 40, .int .i64 s]), u1] (by simp only [List.map_toArray, List.map_cons, List.map_nil]; rw [q1, q2]) (enters_of Try.func28 (by kernel_rfl) rfl) (Add_is hjk (hu1.upb hX) hl1 hle1 ⟨hs.1, hs1⟩ hus1 ha1) ?_
      rintro e X2 ⟨B2, d2, rfl, hj2, hb, hnr⟩
      clear q1 q2
      refine ⟨_, rfl, hX.up hb, ?_⟩
      refine wpAnyU_at (L' := #[true, true, true, true, true, true, true, true, false, false, false, false, false, false, true, false, false, false]) (by kernel_rfl) ?_
      rw [put_comm (s := 11) (t := 60) (by decide)]
      exact s201 X2 (.agg #[.slice B1 j1.length d1, .int .i64 40, .int .i64 s]) B2 d2 b2 (hX.up hb) hj2 (z2.upb hb) h2 (hnr b2 z2.lt (nr2))
    ·
      refine wpOp_alloc29 (t := 10) rfl rfl rfl rfl ?_
      have hal := al1 X (.cells #[.slice none 0 0, .int .i64 0, .int .i64 0] 29)
      refine ⟨hX.up hal, ?_⟩
      refine wpAnyU_at (L' := #[true, true, true, true, true, true, false, true, false, false, false, false, false, true, true, false, false, false]) (by kernel_rfl) ?_
      rw [put_comm (s := 11) (t := 10) (by decide)]
      exact s111 _ B1 d1 X.heap.size b2 (hX.up hal) (hjk.upb hal) (Cells.new X 29 [.slice none 0 0, .int .i64 0, .int .i64 0]) hX.size (nr_of_bs (isJ_bs hjk) (Nat.le_refl _)) (z2.upb hal) h2 nr2
  have s110 : ∀ (X : World) (B1 : Option Addr) (d1 : Nat) (b1 : Nat), Below W.heap.size W X → IsJ X (.agg #[.slice B1 j1.length d1, .int .i64 40, .int .i64 s]) ⟨j1, 40, s⟩ → Cells X b1 29 [.slice none 0 0, .int .i64 0, .int .i64 0] → W.heap.size ≤ b1 → NR b1 (.slice B1 j1.length d1) j1 → wpAnyU Try.prog .any (sops 10) (NoPanic Q) (fun X => Below W.heap.size W X) 17 10 #[true, true, true, true, true, true, false, true, false, false, false, false, false, true, false, false, false, false] ((((((((a.put (some 54) (.func (.func 28) #[] #[])).put (some 55) (.func (.func 28) #[] #[])).put (some 56) ((.agg #[.slice A0 js.length c0, .int .i64 40, .int .i64 s]))).put (some 57) (u0)).put (some 59) (u1)).put (some 61) ((.agg #[.slice A5 ss.length c5, .slice A6 0 c6, .int .i64 (-1), .bool false]))).put (some 58) ((.agg #[.slice B1 j1.length d1, .int .i64 40, .int .i64 s]))).put (some 10) (.pointer (some ⟨b1, 0, none⟩))) X := by
    intro X B1 d1 b1 hX hjk z1 h1 nr1
    refine wpAnyU_go2 (i := 6) (i2 := 14) (by kernel_rfl) ?_ ?_
    ·
      have q1 : ((((((((a.put (some 54) (.func (.func 28) #[] #[])).put (some 55) (.func (.func 28) #[] #[])).put (some 56) ((.agg #[.slice A0 js.length c0, .int .i64 40, .int .i64 s]))).put (some 57) (u0)).put (some 59) (u1)).put (some 61) ((.agg #[.slice A5 ss.length c5, .slice A6 0 c6, .int .i64 (-1), .bool false]))).put (some 58) ((.agg #[.slice B1 j1.length d1, .int .i64 40, .int .i64 s]))).put (some 10) (.pointer (some ⟨b1, 0, none⟩))).eval (.tmp 58) = (.agg #[.slice B1 j1.length d1, .int .i64 40, .int .i64 s]) := (ev_ne (by decide)).trans ((ev_eq (by simp only [put_sz, hsz]; decide)))
      have q2 : ((((((((a.put (some 54) (.func (.func 28) #[] #[])).put (some 55) (.func (.func 28) #[] #[])).put (some 56) ((.agg #[.slice A0 js.length c0, .int .i64 40, .int .i64 s]))).put (some 57) (u0)).put (some 59) (u1)).put (some 61) ((.agg #[.slice A5 ss.length c5, .slice A6 0 c6, .int .i64 (-1), .bool false]))).put (some 58) ((.agg #[.slice B1 j1.length d1, .int .i64 40, .int .i64 s]))).put (some 10) (.pointer (some ⟨b1, 0, none⟩))).eval (.tmp 59) = u1 := (ev_ne (by decide)).trans ((ev_ne (by decide)).trans ((ev_ne (by decide)).trans ((ev_eq (by simp only [put_sz, hsz]; decide)))))
      refine wpOp_call (t := 60) rfl rfl rfl (.tmp 54) #[.tmp 58, .tmp 59] _ rfl 28 ((ev_ne (by decide)).trans ((ev_ne (by decide)).trans ((ev_ne (by decide)).trans ((ev_ne (by decide)).trans ((ev_ne (by decide)).trans ((ev_ne (by decide)).trans ((ev_ne (by decide)).trans ((ev_eq (by simp only [put_sz, hsz]; decide)))))))))) #[(.agg #[.slice B1 j1.length d1, .int .i64 40, .int .i64 s]), u1] (by simp only [List.map_toArray, List.map_cons, List.map_nil]; rw [q1, q2]) (enters_of Try.func28 (by kernel_rfl) rfl) (Add_is hjk (hu1.upb hX) hl1 hle1 ⟨hs.1, hs1⟩ hus1 ha1) ?_
      rintro e X2 ⟨B2, d2, rfl, hj2, hb, hnr⟩
      clear q1 q2
      refine ⟨_, rfl, hX.up hb, ?_⟩
      refine wpAnyU_at (L' := #[true, true, true, true, true, true, true, true, false, false, false, false, false, true, false, false, false, false]) (by kernel_rfl) ?_
      rw [put_comm (s := 10) (t := 60) (by decide)]
      exact s210 X2 (.agg #[.slice B1 j1.length d1, .int .i64 40, .int .i64 s]) B2 d2 b1 (hX.up hb) hj2 (z1.upb hb) h1 (hnr b1 z1.lt (nr1))
    ·
      refine wpOp_alloc25 (t := 11) rfl rfl rfl rfl ?_
      have hal := al1 X (.cells #[.slice none 0 0, .slice none 0 0, .int .i64 0, .bool false] 25)
      refine ⟨hX.up hal, ?_⟩
      refine wpAnyU_at (L' := #[true, true, true, true, true, true, false, true, false, false, false, false, false, true, true, false, false, false]) (by kernel_rfl) ?_
      exact s111 _ B1 d1 b1 X.heap.size (hX.up hal) (hjk.upb hal) (z1.upb hal) h1 nr1 (Cells.new X 25 [.slice none 0 0, .slice none 0 0, .int .i64 0, .bool false]) hX.size (nr_of_bs (isJ_bs hjk) (Nat.le_refl _))
  have s100 : ∀ (X : World) (B1 : Option Addr) (d1 : Nat), Below W.heap.size W X → IsJ X (.agg #[.slice B1 j1.length d1, .int .i64 40, .int .i64 s]) ⟨j1, 40, s⟩ → wpAnyU Try.prog .any (sops 10) (NoPanic Q) (fun X => Below W.heap.size W X) 17 11 #[true, true, true, true, true, true, false, true, false, false, false, false, false, false, false, false, false, false] (((((((a.put (some 54) (.func (.func 28) #[] #[])).put (some 55) (.func (.func 28) #[] #[])).put (some 56) ((.agg #[.slice A0 js.length c0, .int .i64 40, .int .i64 s]))).put (some 57) (u0)).put (some 59) (u1)).put (some 61) ((.agg #[.slice A5 ss.length c5, .slice A6 0 c6, .int .i64 (-1), .bool false]))).put (some 58) ((.agg #[.slice B1 j1.length d1, .int .i64 40, .int .i64 s]))) X := by
    intro X B1 d1 hX hjk
    refine wpAnyU_go3 (i := 6) (i2 := 13) (i3 := 14) (by kernel_rfl) ?_ ?_ ?_
    ·
      have q1 : (((((((a.put (some 54) (.func (.func 28) #[] #[])).put (some 55) (.func (.func 28) #[] #[])).put (some 56) ((.agg #[.slice A0 js.length c0, .int .i64 40, .int .i64 s]))).put (some 57) (u0)).put (some 59) (u1)).put (some 61) ((.agg #[.slice A5 ss.length c5, .slice A6 0 c6, .int .i64 (-1), .bool false]))).put (some 58) ((.agg #[.slice B1 j1.length d1, .int .i64 40, .int .i64 s]))).eval (.tmp 58) = (.agg #[.slice B1 j1.length d1, .int .i64 40, .int .i64 s]) := (ev_eq (by simp only [put_sz, hsz]; decide))
      have q2 : (((((((a.put (some 54) (.func (.func 28) #[] #[])).put (some 55) (.func (.func 28) #[] #[])).put (some 56) ((.agg #[.slice A0 js.length c0, .int .i64 40, .int .i64 s]))).put (some 57) (u0)).put (some 59) (u1)).put (some 61) ((.agg #[.slice A5 ss.length c5, .slice A6 0 c6, .int .i64 (-1), .bool false]))).put (some 58) ((.agg #[.slice B1 j1.length d1, .int .i64 40, .int .i64 s]))).eval (.tmp 59) = u1 := (ev_ne (by decide)).trans ((ev_ne (by decide)).trans ((ev_eq (by simp only [put_sz, hsz]; decide))))
      refine wpOp_call (t := 60) rfl rfl rfl (.tmp 54) #[.tmp 58, .tmp 59] _ rfl 28 ((ev_ne (by decide)).trans ((ev_ne (by decide)).trans ((ev_ne (by decide)).trans ((ev_ne (by decide)).trans ((ev_ne (by decide)).trans ((ev_ne (by decide)).trans ((ev_eq (by simp only [put_sz, hsz]; decide))))))))) #[(.agg #[.slice B1 j1.length d1, .int .i64 40, .int .i64 s]), u1] (by simp only [List.map_toArray, List.map_cons, List.map_nil]; rw [q1, q2]) (enters_of Try.func28 (by kernel_rfl) rfl) (Add_is hjk (hu1.upb hX) hl1 hle1 ⟨hs.1, hs1⟩ hus1 ha1) ?_
      rintro e X2 ⟨B2, d2, rfl, hj2, hb, hnr⟩
      clear q1 q2
      refine ⟨_, rfl, hX.up hb, ?_⟩
      refine wpAnyU_at (L' := #[true, true, true, true, true, true, true, true, false, false, false, false, false, false, false, false, false, false]) (by kernel_rfl) ?_
      exact s200 X2 (.agg #[.slice B1 j1.length d1, .int .i64 40, .int .i64 s]) B2 d2 (hX.up hb) hj2
    ·
      refine wpOp_alloc29 (t := 10) rfl rfl rfl rfl ?_
      have hal := al1 X (.cells #[.slice none 0 0, .int .i64 0, .int .i64 0] 29)
      refine ⟨hX.up hal, ?_⟩
      refine wpAnyU_at (L' := #[true, true, true, true, true, true, false, true, false, false, false, false, false, true, false, false, false, false]) (by kernel_rfl) ?_
      exact s110 _ B1 d1 X.heap.size (hX.up hal) (hjk.upb hal) (Cells.new X 29 [.slice none 0 0, .int .i64 0, .int .i64 0]) hX.size (nr_of_bs (isJ_bs hjk) (Nat.le_refl _))
    ·
      refine wpOp_alloc25 (t := 11) rfl rfl rfl rfl ?_
      have hal := al1 X (.cells #[.slice none 0 0, .slice none 0 0, .int .i64 0, .bool false] 25)
      refine ⟨hX.up hal, ?_⟩
      refine wpAnyU_at (L' := #[true, true, true, true, true, true, false, true, false, false, false, false, false, false, true, false, false, false]) (by kernel_rfl) ?_
      exact s101 _ B1 d1 X.heap.size (hX.up hal) (hjk.upb hal) (Cells.new X 25 [.slice none 0 0, .slice none 0 0, .int .i64 0, .bool false]) hX.size (nr_of_bs (isJ_bs hjk) (Nat.le_refl _))
  have s011 : ∀ (X : World) (b1 : Nat) (b2 : Nat), Below W.heap.size W X → Cells X b1 29 [.slice none 0 0, .int .i64 0, .int .i64 0] → W.heap.size ≤ b1 → Cells X b2 25 [.slice none 0 0, .slice none 0 0, .int .i64 0, .bool false] → W.heap.size ≤ b2 → wpAnyU Try.prog .any (sops 10) (NoPanic Q) (fun X => Below W.heap.size W X) 17 10 #[true, true, true, true, false, true, false, true, false, false, false, false, false, true, true, false, false, false] ((((((((a.put (some 54) (.func (.func 28) #[] #[])).put (some 55) (.func (.func 28) #[] #[])).put (some 56) ((.agg #[.slice A0 js.length c0, .int .i64 40, .int .i64 s]))).put (some 57) (u0)).put (some 59) (u1)).put (some 61) ((.agg #[.slice A5 ss.length c5, .slice A6 0 c6, .int .i64 (-1), .bool false]))).put (some 10) (.pointer (some ⟨b1, 0, none⟩))).put (some 11) (.pointer (some ⟨b2, 0, none⟩))) X := by
    intro X b1 b2 hX z1 h1 z2 h2
    refine wpAnyU_go1 (i := 4) (by kernel_rfl) ?_
    ·
      have q1 : ((((((((a.put (some 54) (.func (.func 28) #[] #[])).put (some 55) (.func (.func 28) #[] #[])).put (some 56) ((.agg #[.slice A0 js.length c0, .int .i64 40, .int .i64 s]))).put (some 57) (u0)).put (some 59) (u1)).put (some 61) ((.agg #[.slice A5 ss.length c5, .slice A6 0 c6, .int .i64 (-1), .bool false]))).put (some 10) (.pointer (some ⟨b1, 0, none⟩))).put (some 11) (.pointer (some ⟨b2, 0, none⟩))).eval (.tmp 56) = (.agg #[.slice A0 js.length c0, .int .i64 40, .int .i64 s]) := (ev_ne (by decide)).trans ((ev_ne (by decide)).trans ((ev_ne (by decide)).trans ((ev_ne (by decide)).trans ((ev_ne (by decide)).trans ((ev_eq (by simp only [put_sz, hsz]; decide)))))))
      have q2 : ((((((((a.put (some 54) (.func (.func 28) #[] #[])).put (some 55) (.func (.func 28) #[] #[])).put (some 56) ((.agg #[.slice A0 js.length c0, .int .i64 40, .int .i64 s]))).put (some 57) (u0)).put (some 59) (u1)).put (some 61) ((.agg #[.slice A5 ss.length c5, .slice A6 0 c6, .int .i64 (-1), .bool false]))).put (some 10) (.pointer (some ⟨b1, 0, none⟩))).put (some 11) (.pointer (some ⟨b2, 0, none⟩))).eval (.tmp 57) = u0 := (ev_ne (by decide)).trans ((ev_ne (by decide)).trans ((ev_ne (by decide)).trans ((ev_ne (by decide)).trans ((ev_eq (by simp only [put_sz, hsz]; decide))))))
      refine wpOp_call (t := 58) rfl rfl rfl (.tmp 55) #[.tmp 56, .tmp 57] _ rfl 28 ((ev_ne (by decide)).trans ((ev_ne (by decide)).trans ((ev_ne (by decide)).trans ((ev_ne (by decide)).trans ((ev_ne (by decide)).trans ((ev_ne (by decide)).trans ((ev_eq (by simp only [put_sz, hsz]; decide))))))))) #[(.agg #[.slice A0 js.length c0, .int .i64 40, .int .i64 s]), u0] (by simp only [List.map_toArray, List.map_cons, List.map_nil]; rw [q1, q2]) (enters_of Try.func28 (by kernel_rfl) rfl) (Add_is (hj.upb hX) (hu0.upb hX) hl0 hle0 hs hus0 ha0) ?_
      rintro e X2 ⟨B1, d1, rfl, hj2, hb, hnr⟩
      clear q1 q2
      refine ⟨_, rfl, hX.up hb, ?_⟩
      refine wpAnyU_at (L' := #[true, true, true, true, true, true, false, true, false, false, false, false, false, true, true, false, false, false]) (by kernel_rfl) ?_
      rw [put_comm (s := 11) (t := 58) (by decide), put_comm (s := 10) (t := 58) (by decide)]
      exact s111 X2 B1 d1 b1 b2 (hX.up hb) hj2 (z1.upb hb) h1 (hnr b1 z1.lt (nr_of_bs (isJ_bs hj) h1)) (z2.upb hb) h2 (hnr b2 z2.lt (nr_of_bs (isJ_bs hj) h2))
  have s001 : ∀ (X : World) (b2 : Nat), Below W.heap.size W X → Cells X b2 25 [.slice none 0 0, .slice none 0 0, .int .i64 0, .bool false] → W.heap.size ≤ b2 → wpAnyU Try.prog .any (sops 10) (NoPanic Q) (fun X => Below W.heap.size W X) 17 11 #[true, true, true, true, false, true, false, true, false, false, false, false, false, false, true, false, false, false] (((((((a.put (some 54) (.func (.func 28) #[] #[])).put (some 55) (.func (.func 28) #[] #[])).put (some 56) ((.agg #[.slice A0 js.length c0, .int .i64 40, .int .i64 s]))).put (some 57) (u0)).put (some 59) (u1)).put (some 61) ((.agg #[.slice A5 ss.length c5, .slice A6 0 c6, .int .i64 (-1), .bool false]))).put (some 11) (.pointer (some ⟨b2, 0, none⟩))) X := by
    intro X b2 hX z2 h2
    refine wpAnyU_go2 (i := 4) (i2 := 13) (by kernel_rfl) ?_ ?_
    ·
      have q1 : (((((((a.put (some 54) (.func (.func 28) #[] #[])).put (some 55) (.func (.func 28) #[] #[])).put (some 56) ((.agg #[.slice A0 js.length c0, .int .i64 40, .int .i64 s]))).put (some 57) (u0)).put (some 59) (u1)).put (some 61) ((.agg #[.slice A5 ss.length c5, .slice A6 0 c6, .int .i64 (-1), .bool false]))).put (some 11) (.pointer (some ⟨b2, 0, none⟩))).eval (.tmp 56) = (.agg #[.slice A0 js.length c0, .int .i64 40, .int .i64 s]) := (ev_ne (by decide)).trans ((ev_ne (by decide)).trans ((ev_ne (by decide)).trans ((ev_ne (by decide)).trans ((ev_eq (by simp only [put_sz, hsz]; decide))))))
      have q2 : (((((((a.put (some 54) (.func (.func 28) #[] #[])).put (some 55) (.func (.func 28) #[] #[])).put (some 56) ((.agg #[.slice A0 js.length c0, .int .i64 40, .int .i64 s]))).put (some 57) (u0)).put (some 59) (u1)).put (some 61) ((.agg #[.slice A5 ss.length c5, .slice A6 0 c6, .int .i64 (-1), .bool false]))).put (some 11) (.pointer (some ⟨b2, 0, none⟩))).eval (.tmp 57) = u0 := (ev_ne (by decide)).trans ((ev_ne (by decide)).trans ((ev_ne (by decide)).trans ((ev_eq (by simp only [put_sz, hsz]; decide)))))
      refine wpOp_call (t := 58) rfl rfl rfl (.tmp 55) #[.tmp 56, .tmp 57] _ rfl 28 ((ev_ne (by decide)).trans ((ev_ne (by decide)).trans ((ev_ne (by decide)).trans ((ev_ne (by decide)).trans ((ev_ne (by decide)).trans ((ev_eq (by simp only [put_sz, hsz]; decide)))))))) #[(.agg #[.slice A0 js.length c0, .int .i64 40, .int .i64 s]), u0] (by simp only [List.map_toArray, List.map_cons, List.map_nil]; rw [q1, q2]) (enters_of Try.func28 (by kernel_rfl) rfl) (Add_is (hj.upb hX) (hu0.upb hX) hl0 hle0 hs hus0 ha0) ?_
      rintro e X2 ⟨B1, d1, rfl, hj2, hb, hnr⟩
      clear q1 q2
      refine ⟨_, rfl, hX.up hb, ?_⟩
      refine wpAnyU_at (L' := #[true, true, true, true, true, true, false, true, false, false, false, false, false, false, true, false, false, false]) (by kernel_rfl) ?_
      rw [put_comm (s := 11) (t := 58) (by decide)]
      exact s101 X2 B1 d1 b2 (hX.up hb) hj2 (z2.upb hb) h2 (hnr b2 z2.lt (nr_of_bs (isJ_bs hj) h2))
    ·
      refine wpOp_alloc29 (t := 10) rfl rfl rfl rfl ?_
      have hal := al1 X (.cells #[.slice none 0 0, .int .i64 0, .int .i64 0] 29)
      refine ⟨hX.up hal, ?_⟩
      refine wpAnyU_at (L' := #[true, true, true, true, false, true, false, true, false, false, false, false, false, true, true, false, false, false]) (by kernel_rfl) ?_
      rw [put_comm (s := 11) (t := 10) (by decide)]
      exact s011 _ X.heap.size b2 (hX.up hal) (Cells.new X 29 [.slice none 0 0, .int .i64 0, .int .i64 0]) hX.size (z2.upb hal) h2
  have s010 : ∀ (X : World) (b1 : Nat), Below W.heap.size W X → Cells X b1 29 [.slice none 0 0, .int .i64 0, .int .i64 0] → W.heap.size ≤ b1 → wpAnyU Try.prog .any (sops 10) (NoPanic Q) (fun X => Below W.heap.size W X) 17 11 #[true, true, true, true, false, true, false, true, false, false, false, false, false, true, false, false, false, false] (((((((a.put (some 54) (.func (.func 28) #[] #[])).put (some 55) (.func (.func 28) #[] #[])).put (some 56) ((.agg #[.slice A0 js.length c0, .int .i64 40, .int .i64 s]))).put (some 57) (u0)).put (some 59) (u1)).put (some 61) ((.agg #[.slice A5 ss.length c5, .slice A6 0 c6, .int .i64 (-1), .bool false]))).put (some 10) (.pointer (some ⟨b1, 0, none⟩))) X := by
    intro X b1 hX z1 h1
    refine wpAnyU_go2 (i := 4) (i2 := 14) (by kernel_rfl) ?_ ?_
    ·
      have q1 : (((((((a.put (some 54) (.func (.func 28) #[] #[])).put (some 55) (.func (.func 28) #[] #[])).put (some 56) ((.agg #[.slice A0 js.length c0, .int .i64 40, .int .i64 s]))).put (some 57) (u0)).put (some 59) (u1)).put (some 61) ((.agg #[.slice A5 ss.length c5, .slice A6 0 c6, .int .i64 (-1), .bool false]))).put (some 10) (.pointer (some ⟨b1, 0, none⟩))).eval (.tmp 56) = (.agg #[.slice A0 js.length c0, .int .i64 40, .int .i64 s]) := (ev_ne (by decide)).trans ((ev_ne (by decide)).trans ((ev_ne (by decide)).trans ((ev_ne (by decide)).trans ((ev_eq (by simp only [put_sz, hsz]; decide))))))
      have q2 : (((((((a.put (some 54) (.func (.func 28) #[] #[])).put (some 55) (.func (.func 28) #[] #[])).put (some 56) ((.agg #[.slice A0 js.length c0, .int .i64 40, .int .i64 s]))).put (some 57) (u0)).put (some 59) (u1)).put (some 61) ((.agg #[.slice A5 ss.length c5, .slice A6 0 c6, .int .i64 (-1), .bool false]))).put (some 10) (.pointer (some ⟨b1, 0, none⟩))).eval (.tmp 57) = u0 := (ev_ne (by decide)).trans ((ev_ne (by decide)).trans ((ev_ne (by decide)).trans ((ev_eq (by simp only [put_sz, hsz]; decide)))))
      refine wpOp_call (t := 58) rfl rfl rfl (.tmp 55) #[.tmp 56, .tmp 57] _ rfl 28 ((ev_ne (by decide)).trans ((ev_ne (by decide)).trans ((ev_ne (by decide)).trans ((ev_ne (by decide)).trans ((ev_ne (by decide)).trans ((ev_eq (by simp only [put_sz, hsz]; decide)))))))) #[(.agg #[.slice A0 js.length c0, .int .i64 40, .int .i64 s]), u0] (by simp only [List.map_toArray, List.map_cons, List.map_nil]; rw [q1, q2]) (enters_of Try.func28 (by kernel_rfl) rfl) (Add_is (hj.upb hX) (hu0.upb hX) hl0 hle0 hs hus0 ha0) ?_
      rintro e X2 ⟨B1, d1, rfl, hj2, hb, hnr⟩
      clear q1 q2
      refine ⟨_, rfl, hX.up hb, ?_⟩
      refine wpAnyU_at (L' := #[true, true, true, true, true, true, false, true, false, false, false, false, false, true, false, false, false, false]) (by kernel_rfl) ?_
      rw [put_comm (s := 10) (t := 58) (by decide)]
      exact s110 X2 B1 d1 b1 (hX.up hb) hj2 (z1.upb hb) h1 (hnr b1 z1.lt (nr_of_bs (isJ_bs hj) h1))
    ·
      refine wpOp_alloc25 (t := 11) rfl rfl rfl rfl ?_
      have hal := al1 X (.cells #[.slice none 0 0, .slice none 0 0, .int .i64 0, .bool false] 25)
      refine ⟨hX.up hal, ?_⟩
      refine wpAnyU_at (L' := #[true, true, true, true, false, true, false, true, false, false, false, false, false, true, true, false, false, false]) (by kernel_rfl) ?_
      exact s011 _ b1 X.heap.size (hX.up hal) (z1.upb hal) h1 (Cells.new X 25 [.slice none 0 0, .slice none 0 0, .int .i64 0, .bool false]) hX.size
  have s000 : ∀ (X : World) , Below W.heap.size W X → wpAnyU Try.prog .any (sops 10) (NoPanic Q) (fun X => Below W.heap.size W X) 17 12 #[true, true, true, true, false, true, false, true, false, false, false, false, false, false, false, false, false, false] ((((((a.put (some 54) (.func (.func 28) #[] #[])).put (some 55) (.func (.func 28) #[] #[])).put (some 56) ((.agg #[.slice A0 js.length c0, .int .i64 40, .int .i64 s]))).put (some 57) (u0)).put (some 59) (u1)).put (some 61) ((.agg #[.slice A5 ss.length c5, .slice A6 0 c6, .int .i64 (-1), .bool false]))) X := by
    intro X hX
    refine wpAnyU_go3 (i := 4) (i2 := 13) (i3 := 14) (by kernel_rfl) ?_ ?_ ?_
    ·
      have q1 : ((((((a.put (some 54) (.func (.func 28) #[] #[])).put (some 55) (.func (.func 28) #[] #[])).put (some 56) ((.agg #[.slice A0 js.length c0, .int .i64 40, .int .i64 s]))).put (some 57) (u0)).put (some 59) (u1)).put (some 61) ((.agg #[.slice A5 ss.length c5, .slice A6 0 c6, .int .i64 (-1), .bool false]))).eval (.tmp 56) = (.agg #[.slice A0 js.length c0, .int .i64 40, .int .i64 s]) := (ev_ne (by decide)).trans ((ev_ne (by decide)).trans ((ev_ne (by decide)).trans ((ev_eq (by simp only [put_sz, hsz]; decide)))))
      have q2 : ((((((a.put (some 54) (.func (.func 28) #[] #[])).put (some 55) (.func (.func 28) #[] #[])).put (some 56) ((.agg #[.slice A0 js.length c0, .int .i64 40, .int .i64 s]))).put (some 57) (u0)).put (some 59) (u1)).put (some 61) ((.agg #[.slice A5 ss.length c5, .slice A6 0 c6, .int .i64 (-1), .bool false]))).eval (.tmp 57) = u0 := (ev_ne (by decide)).trans ((ev_ne (by decide)).trans ((ev_eq (by simp only [put_sz, hsz]; decide))))
      refine wpOp_call (t := 58) rfl rfl rfl (.tmp 55) #[.tmp 56, .tmp 57] _ rfl 28 ((ev_ne (by decide)).trans ((ev_ne (by decide)).trans ((ev_ne (by decide)).trans ((ev_ne (by decide)).trans ((ev_eq (by simp only [put_sz, hsz]; decide))))))) #[(.agg #[.slice A0 js.length c0, .int .i64 40, .int .i64 s]), u0] (by simp only [List.map_toArray, List.map_cons, List.map_nil]; rw [q1, q2]) (enters_of Try.func28 (by kernel_rfl) rfl) (Add_is (hj.upb hX) (hu0.upb hX) hl0 hle0 hs hus0 ha0) ?_
      rintro e X2 ⟨B1, d1, rfl, hj2, hb, hnr⟩
      clear q1 q2
      refine ⟨_, rfl, hX.up hb, ?_⟩
      refine wpAnyU_at (L' := #[true, true, true, true, true, true, false, true, false, false, false, false, false, false, false, false, false, false]) (by kernel_rfl) ?_
      exact s100 X2 B1 d1 (hX.up hb) hj2
    ·
      refine wpOp_alloc29 (t := 10) rfl rfl rfl rfl ?_
      have hal := al1 X (.cells #[.slice none 0 0, .int .i64 0, .int .i64 0] 29)
      refine ⟨hX.up hal, ?_⟩
      refine wpAnyU_at (L' := #[true, true, true, true, false, true, false, true, false, false, false, false, false, true, false, false, false, false]) (by kernel_rfl) ?_
      exact s010 _ X.heap.size (hX.up hal) (Cells.new X 29 [.slice none 0 0, .int .i64 0, .int .i64 0]) hX.size
    ·
      refine wpOp_alloc25 (t := 11) rfl rfl rfl rfl ?_
      have hal := al1 X (.cells #[.slice none 0 0, .slice none 0 0, .int .i64 0, .bool false] 25)
      refine ⟨hX.up hal, ?_⟩
      refine wpAnyU_at (L' := #[true, true, true, true, false, true, false, true, false, false, false, false, false, false, true, false, false, false]) (by kernel_rfl) ?_
      exact s001 _ X.heap.size (hX.up hal) (Cells.new X 25 [.slice none 0 0, .slice none 0 0, .int .i64 0, .bool false]) hX.size
  refine wpAnyU_at (L' := #[false, false, false, false, false, false, false, false, false, false, false, false, false, false, false, false, false, false]) (by kernel_rfl) ?_
  refine wpAnyU_takeD (i := 0) (v := .func (.func 28) #[] #[]) 54 rfl rfl (by kernel_rfl) (by kernel_rfl) (by kernel_rfl) (by kernel_rfl) (by kernel_rfl) (by kernel_rfl) (fun _ _ _ h => h) (yi_move rfl rfl (e7)) hb0 ?_
  refine wpAnyU_at (L' := #[true, false, false, false, false, false, false, false, false, false, false, false, false, false, false, false, false, false]) (by kernel_rfl) ?_
  refine wpAnyU_takeD (i := 1) (v := .func (.func 28) #[] #[]) 55 rfl rfl (by kernel_rfl) (by kernel_rfl) (by kernel_rfl) (by kernel_rfl) (by kernel_rfl) (by kernel_rfl) (fun _ _ _ h => h) (yi_move rfl rfl ((ev_ne (by decide)).trans (e7))) hb0 ?_
  refine wpAnyU_at (L' := #[true, true, false, false, false, false, false, false, false, false, false, false, false, false, false, false, false, false]) (by kernel_rfl) ?_
  refine wpAnyU_takeD (i := 2) (v := (.agg #[.slice A0 js.length c0, .int .i64 40, .int .i64 s])) 56 rfl rfl (by kernel_rfl) (by kernel_rfl) (by kernel_rfl) (by kernel_rfl) (by kernel_rfl) (by kernel_rfl) (fun _ _ _ h => h) (yi_load29 rfl rfl ((ev_ne (by decide)).trans ((ev_ne (by decide)).trans (eJ))) (fun X hX => zJ.upb hX)) hb0 ?_
  refine wpAnyU_at (L' := #[true, true, true, false, false, false, false, false, false, false, false, false, false, false, false, false, false, false]) (by kernel_rfl) ?_
  refine wpAnyU_takeD (i := 3) (v := u0) 57 rfl rfl (by kernel_rfl) (by kernel_rfl) (by kernel_rfl) (by kernel_rfl) (by kernel_rfl) (by kernel_rfl) (fun _ _ _ h => h) (yi_move rfl rfl ((ev_ne (by decide)).trans ((ev_ne (by decide)).trans ((ev_ne (by decide)).trans (er0))))) hb0 ?_
  refine wpAnyU_at (L' := #[true, true, true, true, false, false, false, false, false, false, false, false, false, false, false, false, false, false]) (by kernel_rfl) ?_
  refine wpAnyU_takeD (i := 5) (v := u1) 59 rfl rfl (by kernel_rfl) (by kernel_rfl) (by kernel_rfl) (by kernel_rfl) (by kernel_rfl) (by kernel_rfl) (fun _ _ _ h => h) (yi_move rfl rfl ((ev_ne (by decide)).trans ((ev_ne (by decide)).trans ((ev_ne (by decide)).trans ((ev_ne (by decide)).trans (er1)))))) hb0 ?_
  refine wpAnyU_at (L' := #[true, true, true, true, false, true, false, false, false, false, false, false, false, false, false, false, false, false]) (by kernel_rfl) ?_
  refine wpAnyU_takeD (i := 7) (v := (.agg #[.slice A5 ss.length c5, .slice A6 0 c6, .int .i64 (-1), .bool false])) 61 rfl rfl (by kernel_rfl) (by kernel_rfl) (by kernel_rfl) (by kernel_rfl) (by kernel_rfl) (by kernel_rfl) (fun _ _ _ h => h) (yi_load25 rfl rfl ((ev_ne (by decide)).trans ((ev_ne (by decide)).trans ((ev_ne (by decide)).trans ((ev_ne (by decide)).trans ((ev_ne (by decide)).trans (eD)))))) (fun X hX => zD.upb hX)) hb0 ?_
  refine wpAnyU_at (L' := #[true, true, true, true, false, true, false, true, false, false, false, false, false, false, false, false, false, false]) (by kernel_rfl) ?_
  exact s000 _ hb0
end Go.Proofs.Ytkcnanclpkongaa
