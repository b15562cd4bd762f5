/- Regions of the reference's Sync: the records are compared; a sector is made and written. -/
import Derived.Test.YtkcnanclpkongaaJ21
import Derived.Test.YtkcnanclpkongaaJ18
import Derived.Test.YtkcnanclpkongaaTC
import Derived.Deep.RegionHeld3
namespace Go.Proofs.Ytkcnanclpkongaa
open Go.RowKit
set_option linter.unusedVariables false
set_option linter.unusedSimpArgs false
set_option maxRecDepth 20000

section
variable {P : Program} {ops : Array Oper} {Q : Exit → Act → World → Prop} {S : World → Prop} {K : Act → World → Prop} {a : Act} {w : World} {o : Oper}
theorem takeH {i fuel : Nat} {v : Value} {L : Array Bool} (t : Nat) (hi : ops[i]? = some o) (hd : o.dst = some t) (hs : Region.noSelect ops = true) (hf : Region.free .any ops L i = true) (hr : (Region.ready .any ops L).contains i = true)
    (hQ : ∀ c a w, Q (.panic c) (a.put (some t) v) w → Q (.panic c) a w) (hy : YieldsIf P ops S o v a) (hS : S w)
    (h : wpAnyH P .any ops Q S fuel (L.setIfInBounds i true) (a.put (some t) v) w) : wpAnyH P .any ops Q S (fuel + 1) L a w :=
  wpAnyH_take hi hs hf hr (by rw [hd]; exact hQ) hy hS (by rw [hd]; exact h)
theorem goH1 {i fuel : Nat} {L : Array Bool} (hr : Region.ready .any ops L = [i])
    (h1 : wpOp P ops Q i (fun a' w' => S w' ∧ wpAnyH P .any ops Q S fuel (L.setIfInBounds i true) a' w') a w) : wpAnyH P .any ops Q S (fuel + 1) L a w :=
  wpAnyH_all hr (by simp) (fun j hj => by
    obtain rfl : j = i := by simpa using hj
    exact h1)
theorem atH {fuel : Nat} {L L' : Array Bool} (h : L = L') (h1 : wpAnyH P .any ops Q S fuel L' a w) : wpAnyH P .any ops Q S fuel L a w := by rw [h]; exact h1
theorem lastU {i e fuel : Nat} {L : Array Bool} (hr : Region.ready .any ops L = [i]) (he : (L.setIfInBounds i true).getD e true = true)
    (h1 : wpOp P ops Q i (fun a' w' => wpAnyU P .any ops Q S e fuel (L.setIfInBounds i true) a' w') a w) : wpAnyU P .any ops Q S e (fuel + 1) L a w :=
  ⟨fun h0 => (by rw [h0] at hr; cases hr), fun j hj => by
    rw [hr] at hj
    obtain rfl : j = i := by simpa using hj
    exact wpOp_mono (fun a' w' h => ⟨fun h0 => (by rw [he] at h0; cases h0), h⟩) h1⟩
theorem wantedQ {i j t : Nat} {b b' : Bool} (ho : ops[i]? = some o) (hg : (ops[i]?.bind (·.guard)) = some (j, b)) (hd : (ops[j]?.bind (·.dst)) = some t) (ht : t < a.tmps.size) (hv : a.eval (.tmp t) = .bool b') : Region.wanted o (yielded ops a.tmps) = (b' == b) := by
  have h1 : a.tmps[t]? = some (.bool b') := by
    rw [Array.getElem?_eq_getElem ht]
    have : a.tmps.getD t undef = .bool b' := hv
    rw [Array.getD, dif_pos ht] at this
    exact congrArg some this
  rw [ho] at hg
  have hg2 : o.guard = some (j, b) := hg
  unfold Region.wanted yielded
  rw [hg2]
  simp [hd, h1]
theorem yi_skip (hw : Region.wanted o (yielded ops a.tmps) = false) : YieldsIf P ops S o undef a := .inr ⟨hw, rfl⟩
theorem yi_moveV {x : Operand} {v : Value} (hw : Region.wanted o (yielded ops a.tmps) = true) (hop : o.op = .move x) (hv : a.eval x = v) : YieldsIf P ops S o v a :=
  .inl ⟨hw, fun w _ => by unfold execOp; simp only [hop, hv]; simp [go_sem]⟩
theorem yi_notN {x : Operand} {b : Bool} (hg : o.guard = none) (hop : o.op = .unOp .not 4 x) (hv : a.eval x = .bool b) : YieldsIf Try.prog ops S o (.bool (!b)) a :=
  .inl ⟨by simp [Region.wanted, hg], fun w _ => by unfold execOp; simp only [hop, hv]; go_simp⟩
theorem yi_gtrG {x : Operand} {g : Nat} {r : Bool} (hw : Region.wanted o (yielded ops a.tmps) = true) (hop : o.op = .binOp .gtr 68 x (.const (.int .u64 4294967295)) 68) (hv : a.eval x = .int .u64 g) (hr : decide (4294967295 < (g : Int)) = r) : YieldsIf Try.prog ops S o (.bool r) a := by
  subst hr
  exact .inl ⟨hw, fun w _ => by unfold execOp; simp only [hop, hv]; go_simp⟩
theorem yi_pickT {y z : Operand} (x : Operand) {v : Value} (hg : o.guard = none) (hop : o.op = .pick x y z) (hv : a.eval x = .bool true) (hz : a.eval y = v) : YieldsIf Try.prog ops S o v a :=
  .inl ⟨by simp [Region.wanted, hg], fun w _ => by unfold execOp; simp only [hop, hv, hz]; go_simp⟩
theorem yi_pickN {y z : Operand} (x : Operand) {v : Value} (hg : o.guard = none) (hop : o.op = .pick x y z) (hv : a.eval x = .bool false) (hz : a.eval z = v) : YieldsIf Try.prog ops S o v a :=
  .inl ⟨by simp [Region.wanted, hg], fun w _ => by unfold execOp; simp only [hop, hv, hz]; go_simp⟩
theorem yi_f25 {x : Operand} {B : Nat} (hg : o.guard = none) (hop : o.op = .fieldAddr 25 x 0) (hx : a.eval x = .pointer (some ⟨B, 0, none⟩)) : YieldsIf Try.prog ops S o (.pointer (some ⟨B, 0, none⟩)) a :=
  .inl ⟨by simp [Region.wanted, hg], fun w _ => by unfold execOp; simp only [hop, hx]; go_simp⟩
theorem yi_f29 {x : Operand} {B : Nat} (hg : o.guard = none) (hop : o.op = .fieldAddr 29 x 0) (hx : a.eval x = .pointer (some ⟨B, 0, none⟩)) : YieldsIf Try.prog ops S o (.pointer (some ⟨B, 0, none⟩)) a :=
  .inl ⟨by simp [Region.wanted, hg], fun w _ => by unfold execOp; simp only [hop, hx]; go_simp⟩
theorem yi_f292 {x : Operand} {B : Nat} (hg : o.guard = none) (hop : o.op = .fieldAddr 29 x 2) (hx : a.eval x = .pointer (some ⟨B, 0, none⟩)) : YieldsIf Try.prog ops S o (.pointer (some ⟨B, 2, none⟩)) a :=
  .inl ⟨by simp [Region.wanted, hg], fun w _ => by unfold execOp; simp only [hop, hx]; go_simp⟩
theorem yi_load22 {x : Operand} {B k : Nat} {A : Option Addr} {n c : Nat} (hg : o.guard = none) (hop : o.op = .load 22 x) (hx : a.eval x = .pointer (some ⟨B, k, none⟩)) (hS : ∀ w, S w → w.cell? ⟨B, k, none⟩ = some (.slice A n c)) : YieldsIf Try.prog ops S o (.slice A n c) a :=
  .inl ⟨by simp [Region.wanted, hg], fun w hw => by have hC := hS w hw; unfold execOp; simp only [hop, hx]; go_simp⟩
theorem yi_load3 {x : Operand} {B k : Nat} {m : Int} (hg : o.guard = none) (hop : o.op = .load 3 x) (hx : a.eval x = .pointer (some ⟨B, k, none⟩)) (hS : ∀ w, S w → w.cell? ⟨B, k, none⟩ = some (.int .i64 m)) : YieldsIf Try.prog ops S o (.int .i64 m) a :=
  .inl ⟨by simp [Region.wanted, hg], fun w hw => by have hC := hS w hw; unfold execOp; simp only [hop, hx]; go_simp⟩
theorem yi_slice22 {x y : Operand} {A : Option Addr} {n c m : Nat} (hg : o.guard = none) (hop : o.op = .slice 22 x none (some y) none) (hx : a.eval x = .slice A n c) (hy : a.eval y = .int .i64 m) (hm : m ≤ c) (hA : A = none → m = 0) : YieldsIf Try.prog ops S o (.slice A m c) a :=
  .inl ⟨by simp [Region.wanted, hg], fun w _ => by
    have h1 : (m : Int) ≤ (c : Int) := by omega
    cases A with
    | none =>
      obtain rfl := hA rfl
      unfold execOp; simp only [hop, Option.map, hx, hy]; go_simp
    | some ad => unfold execOp; simp only [hop, Option.map, hx, hy]; go_simp⟩
theorem yi_eq0 {x : Operand} {k : Int} {b : Bool} (hg : o.guard = none) (hop : o.op = .binOp .eql 3 x (.const (.int .i64 0)) 3) (hv : a.eval x = .int .i64 k) (hb : (k == 0) = b) : YieldsIf Try.prog ops S o (.bool b) a := by
  subst hb
  exact .inl ⟨by simp [Region.wanted, hg], fun w _ => by unfold execOp; simp only [hop, hv]; go_simp⟩
theorem yi_eqI {x y : Operand} {k m : Int} {b : Bool} (hg : o.guard = none) (hop : o.op = .binOp .eql 3 x y 3) (hv : a.eval x = .int .i64 k) (hu : a.eval y = .int .i64 m) (hb : (k == m) = b) : YieldsIf Try.prog ops S o (.bool b) a := by
  subst hb
  exact .inl ⟨by simp [Region.wanted, hg], fun w _ => by unfold execOp; simp only [hop, hv, hu]; go_simp⟩
theorem yi_sub1 {x : Operand} {m m' : Int} (hg : o.guard = none) (hop : o.op = .binOp .sub 3 x (.const (.int .i64 1)) 3) (hv : a.eval x = .int .i64 m) (hm : IntKind.i64.wrap (m - 1) = m') : YieldsIf Try.prog ops S o (.int .i64 m') a := by
  subst hm
  exact .inl ⟨by simp [Region.wanted, hg], fun w _ => by unfold execOp; simp only [hop, hv]; go_simp⟩
end
noncomputable def rops (n : Nat) : Array Oper := match Try.f22.body.bind (findRegion n) with
  | some (.region _ ops _) => ops
  | _ => #[]
set_option maxHeartbeats 4000000 in
set_option maxRecDepth 100000 in
theorem rsync_reg12T {Q : Exit → Act → World → Prop} {a : Act} {W : World} {BL BD : Nat} {A A1 A2 : Option Addr} {c c1 c2 n2 : Nat} {many left : Int} {st : Bool} {sy g : Nat} {rs ss : List By} {r : Bool}
    (hsz : a.tmps.size = 149) (e2 : a.eval (.tmp 2) = .pointer (some ⟨BL, 0, none⟩)) (e3 : a.eval (.tmp 3) = .pointer (some ⟨BD, 0, none⟩)) (e9 : a.eval (.tmp 9) = .int .u64 g)
    (zL : Cells W BL 29 [.slice A rs.length c, .int .i64 many, .int .i64 sy]) (zD : Cells W BD 25 [.slice A1 ss.length c1, .slice A2 n2 c2, .int .i64 left, .bool st])
    (hss : IsBs W (.slice A1 ss.length c1) ss) (h128 : S128 ss) (htk : IsBs W (.slice A sy c) (rs.take sy)) (hsc : sy ≤ c) (hA : A = none → sy = 0) (hrc : (Jn.Records ss).length ≤ 1000000)
    (hq : decide (Jn.Records ss = rs.take sy) = true) (hr : decide (4294967295 < (g : Int)) = r)
    (hN : ∀ (X : World) (v55 : Value), Below W.heap.size W X → Q .normal ((((((((((((((a.put (some 53) (.pointer (some ⟨BD, 0, none⟩))).put (some 54) (.slice A1 ss.length c1)).put (some 56) (.pointer (some ⟨BL, 0, none⟩))).put (some 57) (.slice A rs.length c)).put (some 58) (.pointer (some ⟨BL, 2, none⟩))).put (some 59) (.int .i64 sy)).put (some 60) (.slice A sy c)).put (some 55) (v55)).put (some 61) (.bool true)).put (some 62) (.bool false)).put (some 63) (.bool false)).put (some 64) (.int .u64 g)).put (some 65) (.bool r)).put (some 66) (.bool r)) X) : (Code.region 12 (rops 12) true).wp Try.prog Q a W := by
  have hb0 : Below W.heap.size W W.drew := below_drewN (Below.refl _ W) 1
  have hsize : (rops 12).size = 14 := by kernel_rfl
  refine wp_region_noPanic ?_
  refine wp_region_held_drew (S := fun X => Below W.heap.size W X) (by kernel_rfl) hb0 (fun _ => ?_)
  rw [hsize]
  refine atH (L' := #[false, false, false, false, false, false, false, false, false, false, false, false, false, false]) (by kernel_rfl) ?_
  refine takeH (i := 0) (v := .pointer (some ⟨BD, 0, none⟩)) 53 rfl rfl (by kernel_rfl) (by kernel_rfl) (by kernel_rfl) (fun _ _ _ h => h) (yi_f25 rfl rfl (e3)) hb0 ?_
  refine atH (L' := #[true, false, false, false, false, false, false, false, false, false, false, false, false, false]) (by kernel_rfl) ?_
  refine takeH (i := 1) (v := .slice A1 ss.length c1) 54 rfl rfl (by kernel_rfl) (by kernel_rfl) (by kernel_rfl) (fun _ _ _ h => h) (yi_load22 rfl rfl ((ev_eq (by simp only [put_sz, hsz]; decide))) (fun X hX => (zD.upb hX).cell (k := 0) rfl)) hb0 ?_
  refine atH (L' := #[true, true, false, false, false, false, false, false, false, false, false, false, false, false]) (by kernel_rfl) ?_
  refine takeH (i := 3) (v := .pointer (some ⟨BL, 0, none⟩)) 56 rfl rfl (by kernel_rfl) (by kernel_rfl) (by kernel_rfl) (fun _ _ _ h => h) (yi_f29 rfl rfl ((ev_ne (by decide)).trans ((ev_ne (by decide)).trans (e2)))) hb0 ?_
  refine atH (L' := #[true, true, false, true, false, false, false, false, false, false, false, false, false, false]) (by kernel_rfl) ?_
  refine takeH (i := 4) (v := .slice A rs.length c) 57 rfl rfl (by kernel_rfl) (by kernel_rfl) (by kernel_rfl) (fun _ _ _ h => h) (yi_load22 rfl rfl ((ev_eq (by simp only [put_sz, hsz]; decide))) (fun X hX => (zL.upb hX).cell (k := 0) rfl)) hb0 ?_
  refine atH (L' := #[true, true, false, true, true, false, false, false, false, false, false, false, false, false]) (by kernel_rfl) ?_
  refine takeH (i := 5) (v := .pointer (some ⟨BL, 2, none⟩)) 58 rfl rfl (by kernel_rfl) (by kernel_rfl) (by kernel_rfl) (fun _ _ _ h => h) (yi_f292 rfl rfl ((ev_ne (by decide)).trans ((ev_ne (by decide)).trans ((ev_ne (by decide)).trans ((ev_ne (by decide)).trans (e2)))))) hb0 ?_
  refine atH (L' := #[true, true, false, true, true, true, false, false, false, false, false, false, false, false]) (by kernel_rfl) ?_
  refine takeH (i := 6) (v := .int .i64 sy) 59 rfl rfl (by kernel_rfl) (by kernel_rfl) (by kernel_rfl) (fun _ _ _ h => h) (yi_load3 rfl rfl ((ev_eq (by simp only [put_sz, hsz]; decide))) (fun X hX => (zL.upb hX).cell (k := 2) rfl)) hb0 ?_
  refine atH (L' := #[true, true, false, true, true, true, true, false, false, false, false, false, false, false]) (by kernel_rfl) ?_
  refine takeH (i := 7) (v := .slice A sy c) 60 rfl rfl (by kernel_rfl) (by kernel_rfl) (by kernel_rfl) (fun _ _ _ h => h) (yi_slice22 rfl rfl ((ev_ne (by decide)).trans ((ev_ne (by decide)).trans ((ev_eq (by simp only [put_sz, hsz]; decide))))) ((ev_eq (by simp only [put_sz, hsz]; decide))) hsc hA) hb0 ?_
  refine atH (L' := #[true, true, false, true, true, true, true, true, false, false, false, false, false, false]) (by kernel_rfl) ?_
  have q1 : (((((((a.put (some 53) (.pointer (some ⟨BD, 0, none⟩))).put (some 54) (.slice A1 ss.length c1)).put (some 56) (.pointer (some ⟨BL, 0, none⟩))).put (some 57) (.slice A rs.length c)).put (some 58) (.pointer (some ⟨BL, 2, none⟩))).put (some 59) (.int .i64 sy)).put (some 60) (.slice A sy c)).eval (.tmp 54) = .slice A1 ss.length c1 := ((ev_ne (by decide)).trans ((ev_ne (by decide)).trans ((ev_ne (by decide)).trans ((ev_ne (by decide)).trans ((ev_ne (by decide)).trans ((ev_eq (by simp only [put_sz, hsz]; decide))))))))
  refine goH1 (i := 2) (by kernel_rfl) ?_
  refine wpOp_call (t := 55) rfl rfl rfl (.func 34) #[.tmp 54] _ rfl 34 rfl #[.slice A1 ss.length c1] (by simp only [List.map_toArray, List.map_cons, List.map_nil]; rw [q1]) (enters_of Try.func34 (by kernel_rfl) rfl) (Records_any (hss.upb hb0) h128) ?_
  rintro e X1 ⟨v55, rfl, ho1, hb1⟩
  clear q1
  refine ⟨_, rfl, hb0.up hb1, ?_⟩
  refine atH (L' := #[true, true, true, true, true, true, true, true, false, false, false, false, false, false]) (by kernel_rfl) ?_
  have q1 : ((((((((a.put (some 53) (.pointer (some ⟨BD, 0, none⟩))).put (some 54) (.slice A1 ss.length c1)).put (some 56) (.pointer (some ⟨BL, 0, none⟩))).put (some 57) (.slice A rs.length c)).put (some 58) (.pointer (some ⟨BL, 2, none⟩))).put (some 59) (.int .i64 sy)).put (some 60) (.slice A sy c)).put (some 55) (v55)).eval (.tmp 55) = v55 := ((ev_eq (by simp only [put_sz, hsz]; decide)))
  have q2 : ((((((((a.put (some 53) (.pointer (some ⟨BD, 0, none⟩))).put (some 54) (.slice A1 ss.length c1)).put (some 56) (.pointer (some ⟨BL, 0, none⟩))).put (some 57) (.slice A rs.length c)).put (some 58) (.pointer (some ⟨BL, 2, none⟩))).put (some 59) (.int .i64 sy)).put (some 60) (.slice A sy c)).put (some 55) (v55)).eval (.tmp 60) = .slice A sy c := ((ev_ne (by decide)).trans ((ev_eq (by simp only [put_sz, hsz]; decide))))
  refine goH1 (i := 8) (by kernel_rfl) ?_
  refine wpOp_call (t := 61) rfl rfl rfl (.func 24) #[.tmp 55, .tmp 60] _ rfl 24 rfl #[v55, .slice A sy c] (by simp only [List.map_toArray, List.map_cons, List.map_nil]; rw [q1, q2]) (enters_of Try.func24 (by kernel_rfl) rfl) (SameRecords_any ho1.is (htk.upb (hb0.up hb1)) hrc) ?_
  rintro e X2 ⟨rfl, n2', rfl⟩
  clear q1 q2
  rw [hq]
  have hb2 := below_drewN (hb0.up hb1) n2'
  refine ⟨_, rfl, hb2, ?_⟩
  refine atH (L' := #[true, true, true, true, true, true, true, true, true, false, false, false, false, false]) (by kernel_rfl) ?_
  refine takeH (i := 9) (v := .bool false) 62 rfl rfl (by kernel_rfl) (by kernel_rfl) (by kernel_rfl) (fun _ _ _ h => h) (yi_notN rfl rfl ((ev_eq (by simp only [put_sz, hsz]; decide)))) hb2 ?_
  refine atH (L' := #[true, true, true, true, true, true, true, true, true, true, false, false, false, false]) (by kernel_rfl) ?_
  refine takeH (i := 10) (v := .bool false) 63 rfl rfl (by kernel_rfl) (by kernel_rfl) (by kernel_rfl) (fun _ _ _ h => h) (yi_move rfl rfl ((ev_eq (by simp only [put_sz, hsz]; decide)))) hb2 ?_
  refine atH (L' := #[true, true, true, true, true, true, true, true, true, true, true, false, false, false]) (by kernel_rfl) ?_
  refine takeH (i := 11) (v := .int .u64 g) 64 rfl rfl (by kernel_rfl) (by kernel_rfl) (by kernel_rfl) (fun _ _ _ h => h) (yi_moveV (wantedQ (i := 11) (j := 10) (t := 63) (b := false) (b' := false) rfl (by kernel_rfl) (by kernel_rfl) (by simp only [put_sz, hsz]; decide) ((ev_eq (by simp only [put_sz, hsz]; decide)))) rfl ((ev_ne (by decide)).trans ((ev_ne (by decide)).trans ((ev_ne (by decide)).trans ((ev_ne (by decide)).trans ((ev_ne (by decide)).trans ((ev_ne (by decide)).trans ((ev_ne (by decide)).trans ((ev_ne (by decide)).trans ((ev_ne (by decide)).trans ((ev_ne (by decide)).trans ((ev_ne (by decide)).trans (e9))))))))))))) hb2 ?_
  refine atH (L' := #[true, true, true, true, true, true, true, true, true, true, true, true, false, false]) (by kernel_rfl) ?_
  refine takeH (i := 12) (v := .bool r) 65 rfl rfl (by kernel_rfl) (by kernel_rfl) (by kernel_rfl) (fun _ _ _ h => h) (yi_gtrG (wantedQ (i := 12) (j := 10) (t := 63) (b := false) (b' := false) rfl (by kernel_rfl) (by kernel_rfl) (by simp only [put_sz, hsz]; decide) ((ev_ne (by decide)).trans ((ev_eq (by simp only [put_sz, hsz]; decide))))) rfl ((ev_eq (by simp only [put_sz, hsz]; decide))) hr) hb2 ?_
  refine atH (L' := #[true, true, true, true, true, true, true, true, true, true, true, true, true, false]) (by kernel_rfl) ?_
  refine takeH (i := 13) (v := .bool r) 66 rfl rfl (by kernel_rfl) (by kernel_rfl) (by kernel_rfl) (fun _ _ _ h => h) (yi_pickN (.tmp 63) rfl rfl ((ev_ne (by decide)).trans ((ev_ne (by decide)).trans ((ev_eq (by simp only [put_sz, hsz]; decide))))) ((ev_eq (by simp only [put_sz, hsz]; decide)))) hb2 ?_
  refine atH (L' := #[true, true, true, true, true, true, true, true, true, true, true, true, true, true]) (by kernel_rfl) ?_
  refine wpAnyH_done (by kernel_rfl) (NoPanic.normal ?_) _
  exact hN _ v55 hb2
set_option maxHeartbeats 4000000 in
set_option maxRecDepth 100000 in
theorem rsync_reg12F {Q : Exit → Act → World → Prop} {a : Act} {W : World} {BL BD : Nat} {A A1 A2 : Option Addr} {c c1 c2 n2 : Nat} {many left : Int} {st : Bool} {sy g : Nat} {rs ss : List By} 
    (hsz : a.tmps.size = 149) (e2 : a.eval (.tmp 2) = .pointer (some ⟨BL, 0, none⟩)) (e3 : a.eval (.tmp 3) = .pointer (some ⟨BD, 0, none⟩)) (e9 : a.eval (.tmp 9) = .int .u64 g)
    (zL : Cells W BL 29 [.slice A rs.length c, .int .i64 many, .int .i64 sy]) (zD : Cells W BD 25 [.slice A1 ss.length c1, .slice A2 n2 c2, .int .i64 left, .bool st])
    (hss : IsBs W (.slice A1 ss.length c1) ss) (h128 : S128 ss) (htk : IsBs W (.slice A sy c) (rs.take sy)) (hsc : sy ≤ c) (hA : A = none → sy = 0) (hrc : (Jn.Records ss).length ≤ 1000000)
    (hq : decide (Jn.Records ss = rs.take sy) = false) 
    (hN : ∀ (X : World) (v55 : Value), Below W.heap.size W X → Q .normal ((((((((((((((a.put (some 53) (.pointer (some ⟨BD, 0, none⟩))).put (some 54) (.slice A1 ss.length c1)).put (some 56) (.pointer (some ⟨BL, 0, none⟩))).put (some 57) (.slice A rs.length c)).put (some 58) (.pointer (some ⟨BL, 2, none⟩))).put (some 59) (.int .i64 sy)).put (some 60) (.slice A sy c)).put (some 55) (v55)).put (some 61) (.bool false)).put (some 62) (.bool true)).put (some 63) (.bool true)).put (some 64) (undef)).put (some 65) (undef)).put (some 66) (.bool true)) X) : (Code.region 12 (rops 12) true).wp Try.prog Q a W := by
  have hb0 : Below W.heap.size W W.drew := below_drewN (Below.refl _ W) 1
  have hsize : (rops 12).size = 14 := by kernel_rfl
  refine wp_region_noPanic ?_
  refine wp_region_held_drew (S := fun X => Below W.heap.size W X) (by kernel_rfl) hb0 (fun _ => ?_)
  rw [hsize]
  refine atH (L' := #[false, false, false, false, false, false, false, false, false, false, false, false, false, false]) (by kernel_rfl) ?_
  refine takeH (i := 0) (v := .pointer (some ⟨BD, 0, none⟩)) 53 rfl rfl (by kernel_rfl) (by kernel_rfl) (by kernel_rfl) (fun _ _ _ h => h) (yi_f25 rfl rfl (e3)) hb0 ?_
  refine atH (L' := #[true, false, false, false, false, false, false, false, false, false, false, false, false, false]) (by kernel_rfl) ?_
  refine takeH (i := 1) (v := .slice A1 ss.length c1) 54 rfl rfl (by kernel_rfl) (by kernel_rfl) (by kernel_rfl) (fun _ _ _ h => h) (yi_load22 rfl rfl ((ev_eq (by simp only [put_sz, hsz]; decide))) (fun X hX => (zD.upb hX).cell (k := 0) rfl)) hb0 ?_
  refine atH (L' := #[true, true, false, false, false, false, false, false, false, false, false, false, false, false]) (by kernel_rfl) ?_
  refine takeH (i := 3) (v := .pointer (some ⟨BL, 0, none⟩)) 56 rfl rfl (by kernel_rfl) (by kernel_rfl) (by kernel_rfl) (fun _ _ _ h => h) (yi_f29 rfl rfl ((ev_ne (by decide)).trans ((ev_ne (by decide)).trans (e2)))) hb0 ?_
  refine atH (L' := #[true, true, false, true, false, false, false, false, false, false, false, false, false, false]) (by kernel_rfl) ?_
  refine takeH (i := 4) (v := .slice A rs.length c) 57 rfl rfl (by kernel_rfl) (by kernel_rfl) (by kernel_rfl) (fun _ _ _ h => h) (yi_load22 rfl rfl ((ev_eq (by simp only [put_sz, hsz]; decide))) (fun X hX => (zL.upb hX).cell (k := 0) rfl)) hb0 ?_
  refine atH (L' := #[true, true, false, true, true, false, false, false, false, false, false, false, false, false]) (by kernel_rfl) ?_
  refine takeH (i := 5) (v := .pointer (some ⟨BL, 2, none⟩)) 58 rfl rfl (by kernel_rfl) (by kernel_rfl) (by kernel_rfl) (fun _ _ _ h => h) (yi_f292 rfl rfl ((ev_ne (by decide)).trans ((ev_ne (by decide)).trans ((ev_ne (by decide)).trans ((ev_ne (by decide)).trans (e2)))))) hb0 ?_
  refine atH (L' := #[true, true, false, true, true, true, false, false, false, false, false, false, false, false]) (by kernel_rfl) ?_
  refine takeH (i := 6) (v := .int .i64 sy) 59 rfl rfl (by kernel_rfl) (by kernel_rfl) (by kernel_rfl) (fun _ _ _ h => h) (yi_load3 rfl rfl ((ev_eq (by simp only [put_sz, hsz]; decide))) (fun X hX => (zL.upb hX).cell (k := 2) rfl)) hb0 ?_
  refine atH (L' := #[true, true, false, true, true, true, true, false, false, false, false, false, false, false]) (by kernel_rfl) ?_
  refine takeH (i := 7) (v := .slice A sy c) 60 rfl rfl (by kernel_rfl) (by kernel_rfl) (by kernel_rfl) (fun _ _ _ h => h) (yi_slice22 rfl rfl ((ev_ne (by decide)).trans ((ev_ne (by decide)).trans ((ev_eq (by simp only [put_sz, hsz]; decide))))) ((ev_eq (by simp only [put_sz, hsz]; decide))) hsc hA) hb0 ?_
  refine atH (L' := #[true, true, false, true, true, true, true, true, false, false, false, false, false, false]) (by kernel_rfl) ?_
  have q1 : (((((((a.put (some 53) (.pointer (some ⟨BD, 0, none⟩))).put (some 54) (.slice A1 ss.length c1)).put (some 56) (.pointer (some ⟨BL, 0, none⟩))).put (some 57) (.slice A rs.length c)).put (some 58) (.pointer (some ⟨BL, 2, none⟩))).put (some 59) (.int .i64 sy)).put (some 60) (.slice A sy c)).eval (.tmp 54) = .slice A1 ss.length c1 := ((ev_ne (by decide)).trans ((ev_ne (by decide)).trans ((ev_ne (by decide)).trans ((ev_ne (by decide)).trans ((ev_ne (by decide)).trans ((ev_eq (by simp only [put_sz, hsz]; decide))))))))
  refine goH1 (i := 2) (by kernel_rfl) ?_
  refine wpOp_call (t := 55) rfl rfl rfl (.func 34) #[.tmp 54] _ rfl 34 rfl #[.slice A1 ss.length c1] (by simp only [List.map_toArray, List.map_cons, List.map_nil]; rw [q1]) (enters_of Try.func34 (by kernel_rfl) rfl) (Records_any (hss.upb hb0) h128) ?_
  rintro e X1 ⟨v55, rfl, ho1, hb1⟩
  clear q1
  refine ⟨_, rfl, hb0.up hb1, ?_⟩
  refine atH (L' := #[true, true, true, true, true, true, true, true, false, false, false, false, false, false]) (by kernel_rfl) ?_
  have q1 : ((((((((a.put (some 53) (.pointer (some ⟨BD, 0, none⟩))).put (some 54) (.slice A1 ss.length c1)).put (some 56) (.pointer (some ⟨BL, 0, none⟩))).put (some 57) (.slice A rs.length c)).put (some 58) (.pointer (some ⟨BL, 2, none⟩))).put (some 59) (.int .i64 sy)).put (some 60) (.slice A sy c)).put (some 55) (v55)).eval (.tmp 55) = v55 := ((ev_eq (by simp only [put_sz, hsz]; decide)))
  have q2 : ((((((((a.put (some 53) (.pointer (some ⟨BD, 0, none⟩))).put (some 54) (.slice A1 ss.length c1)).put (some 56) (.pointer (some ⟨BL, 0, none⟩))).put (some 57) (.slice A rs.length c)).put (some 58) (.pointer (some ⟨BL, 2, none⟩))).put (some 59) (.int .i64 sy)).put (some 60) (.slice A sy c)).put (some 55) (v55)).eval (.tmp 60) = .slice A sy c := ((ev_ne (by decide)).trans ((ev_eq (by simp only [put_sz, hsz]; decide))))
  refine goH1 (i := 8) (by kernel_rfl) ?_
  refine wpOp_call (t := 61) rfl rfl rfl (.func 24) #[.tmp 55, .tmp 60] _ rfl 24 rfl #[v55, .slice A sy c] (by simp only [List.map_toArray, List.map_cons, List.map_nil]; rw [q1, q2]) (enters_of Try.func24 (by kernel_rfl) rfl) (SameRecords_any ho1.is (htk.upb (hb0.up hb1)) hrc) ?_
  rintro e X2 ⟨rfl, n2', rfl⟩
  clear q1 q2
  rw [hq]
  have hb2 := below_drewN (hb0.up hb1) n2'
  refine ⟨_, rfl, hb2, ?_⟩
  refine atH (L' := #[true, true, true, true, true, true, true, true, true, false, false, false, false, false]) (by kernel_rfl) ?_
  refine takeH (i := 9) (v := .bool true) 62 rfl rfl (by kernel_rfl) (by kernel_rfl) (by kernel_rfl) (fun _ _ _ h => h) (yi_notN rfl rfl ((ev_eq (by simp only [put_sz, hsz]; decide)))) hb2 ?_
  refine atH (L' := #[true, true, true, true, true, true, true, true, true, true, false, false, false, false]) (by kernel_rfl) ?_
  refine takeH (i := 10) (v := .bool true) 63 rfl rfl (by kernel_rfl) (by kernel_rfl) (by kernel_rfl) (fun _ _ _ h => h) (yi_move rfl rfl ((ev_eq (by simp only [put_sz, hsz]; decide)))) hb2 ?_
  refine atH (L' := #[true, true, true, true, true, true, true, true, true, true, true, false, false, false]) (by kernel_rfl) ?_
  refine takeH (i := 11) (v := undef) 64 rfl rfl (by kernel_rfl) (by kernel_rfl) (by kernel_rfl) (fun _ _ _ h => h) (yi_skip (wantedQ (i := 11) (j := 10) (t := 63) (b := false) (b' := true) rfl (by kernel_rfl) (by kernel_rfl) (by simp only [put_sz, hsz]; decide) ((ev_eq (by simp only [put_sz, hsz]; decide))))) hb2 ?_
  refine atH (L' := #[true, true, true, true, true, true, true, true, true, true, true, true, false, false]) (by kernel_rfl) ?_
  refine takeH (i := 12) (v := undef) 65 rfl rfl (by kernel_rfl) (by kernel_rfl) (by kernel_rfl) (fun _ _ _ h => h) (yi_skip (wantedQ (i := 12) (j := 10) (t := 63) (b := false) (b' := true) rfl (by kernel_rfl) (by kernel_rfl) (by simp only [put_sz, hsz]; decide) ((ev_ne (by decide)).trans ((ev_eq (by simp only [put_sz, hsz]; decide)))))) hb2 ?_
  refine atH (L' := #[true, true, true, true, true, true, true, true, true, true, true, true, true, false]) (by kernel_rfl) ?_
  refine takeH (i := 13) (v := .bool true) 66 rfl rfl (by kernel_rfl) (by kernel_rfl) (by kernel_rfl) (fun _ _ _ h => h) (yi_pickT (.tmp 63) rfl rfl ((ev_ne (by decide)).trans ((ev_ne (by decide)).trans ((ev_eq (by simp only [put_sz, hsz]; decide))))) rfl) hb2 ?_
  refine atH (L' := #[true, true, true, true, true, true, true, true, true, true, true, true, true, true]) (by kernel_rfl) ?_
  refine wpAnyH_done (by kernel_rfl) (NoPanic.normal ?_) _
  exact hN _ v55 hb2
set_option maxHeartbeats 4000000 in
set_option maxRecDepth 100000 in
theorem rsync_reg26 {Q : Exit → Act → World → Prop} {a : Act} {W : World} {BD : Nat} {A3 A4 : Option Addr} {c3 c4 : Nat} {dk dr : Dk} {q k m m' ew : Int} {g n : Nat} {b1 b2 : Bool} {vp : Value} {p : By}
    (hsz : a.tmps.size = 149) (e3 : a.eval (.tmp 3) = .pointer (some ⟨BD, 0, none⟩)) (e9 : a.eval (.tmp 9) = .int .u64 g) (e10 : a.eval (.tmp 10) = .int .i64 q) (e13 : a.eval (.tmp 13) = .int .i64 m) (e14 : a.eval (.tmp 14) = .int .i64 k) (e15 : a.eval (.tmp 15) = vp)
    (zD : Cells W BD 25 [.slice A3 dk.ss.length c3, .slice A4 dk.ps.length c4, .int .i64 dk.left, .bool dk.st]) (hd : IsD W (.agg #[.slice A3 dk.ss.length c3, .slice A4 dk.ps.length c4, .int .i64 dk.left, .bool dk.st]) dk) (hp : IsBytes W vp p) (hl : p.length ≤ 112) (hg : g < 18446744073709551616)
    (hq : IntKind.u64.wrap q = (n : Int)) (hn : n < 18446744073709551616) (hm : IntKind.i64.wrap (m - 1) = m') (hb1 : (k == 0) = b1) (hb2 : (k == m') = b2)
    (hwe : Dv.wrE dk q (Jn.sec g n (UInt8.ofNat ((if b1 then 1 else 0) + (if b2 then 2 else 0))) p) = ew) (hwr : Dv.wr dk q (Jn.sec g n (UInt8.ofNat ((if b1 then 1 else 0) + (if b2 then 2 else 0))) p) = dr)
    (hN : ∀ (X : World) (A5 A6 : Option Addr) (c5 c6 : Nat) (v127 : Value), Below W.heap.size W X → IsD X (.agg #[.slice A5 dr.ss.length c5, .slice A6 dr.ps.length c6, .int .i64 dr.left, .bool dr.st]) dr → Sec W.heap.size (.agg #[.slice A3 dk.ss.length c3, .slice A4 dk.ps.length c4, .int .i64 dk.left, .bool dk.st]) (.agg #[.slice A5 dr.ss.length c5, .slice A6 dr.ps.length c6, .int .i64 dr.left, .bool dr.st]) → Q .normal ((((((((((((((((a.put (some 116) ((.agg #[.slice A3 dk.ss.length c3, .slice A4 dk.ps.length c4, .int .i64 dk.left, .bool dk.st]))).put (some 117) (.int .i64 q)).put (some 118) (.int .u64 g)).put (some 119) (.int .i64 q)).put (some 120) (.int .i64 k)).put (some 121) (.bool b1)).put (some 122) (.int .i64 k)).put (some 123) (.int .i64 m)).put (some 124) (.int .i64 m')).put (some 125) (.bool b2)).put (some 126) (vp)).put (some 127) (v127)).put (some 128) ((.tuple #[(.agg #[.slice A5 dr.ss.length c5, .slice A6 dr.ps.length c6, .int .i64 dr.left, .bool dr.st]), .int .i64 ew]))).put (some 115) ((.tuple #[(.agg #[.slice A5 dr.ss.length c5, .slice A6 dr.ps.length c6, .int .i64 dr.left, .bool dr.st]), .int .i64 ew]))).put (some 129) ((.agg #[.slice A5 dr.ss.length c5, .slice A6 dr.ps.length c6, .int .i64 dr.left, .bool dr.st]))).put (some 130) (.int .i64 ew)) (set4 X BD (.slice A5 dr.ss.length c5) (.slice A6 dr.ps.length c6) (.int .i64 dr.left) (.bool dr.st))) : (Code.region 26 (rops 26) true).wp Try.prog Q a W := by
  have hb0 : Below W.heap.size W W.drew := below_drewN (Below.refl _ W) 1
  have hsize : (rops 26).size = 17 := by kernel_rfl
  refine wp_region_noPanic ?_
  refine wp_region_U 16 (fun X => Below W.heap.size W X) (by kernel_rfl) ?_
  rw [hsize]
  refine wpAnyU_at (L' := #[false, false, false, false, false, false, false, false, false, false, false, false, false, false, false, false, false]) (by kernel_rfl) ?_
  refine wpAnyU_takeD (i := 0) (v := (.agg #[.slice A3 dk.ss.length c3, .slice A4 dk.ps.length c4, .int .i64 dk.left, .bool dk.st])) 116 rfl rfl (by kernel_rfl) (by kernel_rfl) (by kernel_rfl) (by kernel_rfl) (by kernel_rfl) (by kernel_rfl) (fun _ _ _ h => h) (yi_load25 rfl rfl (e3) (fun X hX => zD.upb hX)) hb0 ?_
  refine wpAnyU_at (L' := #[true, false, false, false, false, false, false, false, false, false, false, false, false, false, false, false, false]) (by kernel_rfl) ?_
  refine wpAnyU_takeD (i := 1) (v := .int .i64 q) 117 rfl rfl (by kernel_rfl) (by kernel_rfl) (by kernel_rfl) (by kernel_rfl) (by kernel_rfl) (by kernel_rfl) (fun _ _ _ h => h) (yi_move rfl rfl ((ev_ne (by decide)).trans (e10))) hb0 ?_
  refine wpAnyU_at (L' := #[true, true, false, false, false, false, false, false, false, false, false, false, false, false, false, false, false]) (by kernel_rfl) ?_
  refine wpAnyU_takeD (i := 2) (v := .int .u64 g) 118 rfl rfl (by kernel_rfl) (by kernel_rfl) (by kernel_rfl) (by kernel_rfl) (by kernel_rfl) (by kernel_rfl) (fun _ _ _ h => h) (yi_move rfl rfl ((ev_ne (by decide)).trans ((ev_ne (by decide)).trans (e9)))) hb0 ?_
  refine wpAnyU_at (L' := #[true, true, true, false, false, false, false, false, false, false, false, false, false, false, false, false, false]) (by kernel_rfl) ?_
  refine wpAnyU_takeD (i := 3) (v := .int .i64 q) 119 rfl rfl (by kernel_rfl) (by kernel_rfl) (by kernel_rfl) (by kernel_rfl) (by kernel_rfl) (by kernel_rfl) (fun _ _ _ h => h) (yi_move rfl rfl ((ev_ne (by decide)).trans ((ev_ne (by decide)).trans ((ev_ne (by decide)).trans (e10))))) hb0 ?_
  refine wpAnyU_at (L' := #[true, true, true, true, false, false, false, false, false, false, false, false, false, false, false, false, false]) (by kernel_rfl) ?_
  refine wpAnyU_takeD (i := 4) (v := .int .i64 k) 120 rfl rfl (by kernel_rfl) (by kernel_rfl) (by kernel_rfl) (by kernel_rfl) (by kernel_rfl) (by kernel_rfl) (fun _ _ _ h => h) (yi_move rfl rfl ((ev_ne (by decide)).trans ((ev_ne (by decide)).trans ((ev_ne (by decide)).trans ((ev_ne (by decide)).trans (e14)))))) hb0 ?_
  refine wpAnyU_at (L' := #[true, true, true, true, true, false, false, false, false, false, false, false, false, false, false, false, false]) (by kernel_rfl) ?_
  refine wpAnyU_takeD (i := 5) (v := .bool b1) 121 rfl rfl (by kernel_rfl) (by kernel_rfl) (by kernel_rfl) (by kernel_rfl) (by kernel_rfl) (by kernel_rfl) (fun _ _ _ h => h) (yi_eq0 rfl rfl ((ev_eq (by simp only [put_sz, hsz]; decide))) hb1) hb0 ?_
  refine wpAnyU_at (L' := #[true, true, true, true, true, true, false, false, false, false, false, false, false, false, false, false, false]) (by kernel_rfl) ?_
  refine wpAnyU_takeD (i := 6) (v := .int .i64 k) 122 rfl rfl (by kernel_rfl) (by kernel_rfl) (by kernel_rfl) (by kernel_rfl) (by kernel_rfl) (by kernel_rfl) (fun _ _ _ h => h) (yi_move rfl rfl ((ev_ne (by decide)).trans ((ev_ne (by decide)).trans ((ev_ne (by decide)).trans ((ev_ne (by decide)).trans ((ev_ne (by decide)).trans ((ev_ne (by decide)).trans (e14)))))))) hb0 ?_
  refine wpAnyU_at (L' := #[true, true, true, true, true, true, true, false, false, false, false, false, false, false, false, false, false]) (by kernel_rfl) ?_
  refine wpAnyU_takeD (i := 7) (v := .int .i64 m) 123 rfl rfl (by kernel_rfl) (by kernel_rfl) (by kernel_rfl) (by kernel_rfl) (by kernel_rfl) (by kernel_rfl) (fun _ _ _ h => h) (yi_move rfl rfl ((ev_ne (by decide)).trans ((ev_ne (by decide)).trans ((ev_ne (by decide)).trans ((ev_ne (by decide)).trans ((ev_ne (by decide)).trans ((ev_ne (by decide)).trans ((ev_ne (by decide)).trans (e13))))))))) hb0 ?_
  refine wpAnyU_at (L' := #[true, true, true, true, true, true, true, true, false, false, false, false, false, false, false, false, false]) (by kernel_rfl) ?_
  refine wpAnyU_takeD (i := 8) (v := .int .i64 m') 124 rfl rfl (by kernel_rfl) (by kernel_rfl) (by kernel_rfl) (by kernel_rfl) (by kernel_rfl) (by kernel_rfl) (fun _ _ _ h => h) (yi_sub1 rfl rfl ((ev_eq (by simp only [put_sz, hsz]; decide))) hm) hb0 ?_
  refine wpAnyU_at (L' := #[true, true, true, true, true, true, true, true, true, false, false, false, false, false, false, false, false]) (by kernel_rfl) ?_
  refine wpAnyU_takeD (i := 9) (v := .bool b2) 125 rfl rfl (by kernel_rfl) (by kernel_rfl) (by kernel_rfl) (by kernel_rfl) (by kernel_rfl) (by kernel_rfl) (fun _ _ _ h => h) (yi_eqI rfl rfl ((ev_ne (by decide)).trans ((ev_ne (by decide)).trans ((ev_eq (by simp only [put_sz, hsz]; decide))))) ((ev_eq (by simp only [put_sz, hsz]; decide))) hb2) hb0 ?_
  refine wpAnyU_at (L' := #[true, true, true, true, true, true, true, true, true, true, false, false, false, false, false, false, false]) (by kernel_rfl) ?_
  refine wpAnyU_takeD (i := 10) (v := vp) 126 rfl rfl (by kernel_rfl) (by kernel_rfl) (by kernel_rfl) (by kernel_rfl) (by kernel_rfl) (by kernel_rfl) (fun _ _ _ h => h) (yi_move rfl rfl ((ev_ne (by decide)).trans ((ev_ne (by decide)).trans ((ev_ne (by decide)).trans ((ev_ne (by decide)).trans ((ev_ne (by decide)).trans ((ev_ne (by decide)).trans ((ev_ne (by decide)).trans ((ev_ne (by decide)).trans ((ev_ne (by decide)).trans ((ev_ne (by decide)).trans (e15)))))))))))) hb0 ?_
  refine wpAnyU_at (L' := #[true, true, true, true, true, true, true, true, true, true, true, false, false, false, false, false, false]) (by kernel_rfl) ?_
  have q0 : (((((((((((a.put (some 116) ((.agg #[.slice A3 dk.ss.length c3, .slice A4 dk.ps.length c4, .int .i64 dk.left, .bool dk.st]))).put (some 117) (.int .i64 q)).put (some 118) (.int .u64 g)).put (some 119) (.int .i64 q)).put (some 120) (.int .i64 k)).put (some 121) (.bool b1)).put (some 122) (.int .i64 k)).put (some 123) (.int .i64 m)).put (some 124) (.int .i64 m')).put (some 125) (.bool b2)).put (some 126) (vp)).eval (.tmp 118) = .int .u64 g := ((ev_ne (by decide)).trans ((ev_ne (by decide)).trans ((ev_ne (by decide)).trans ((ev_ne (by decide)).trans ((ev_ne (by decide)).trans ((ev_ne (by decide)).trans ((ev_ne (by decide)).trans ((ev_ne (by decide)).trans ((ev_eq (by simp only [put_sz, hsz]; decide)))))))))))
  have q1 : (((((((((((a.put (some 116) ((.agg #[.slice A3 dk.ss.length c3, .slice A4 dk.ps.length c4, .int .i64 dk.left, .bool dk.st]))).put (some 117) (.int .i64 q)).put (some 118) (.int .u64 g)).put (some 119) (.int .i64 q)).put (some 120) (.int .i64 k)).put (some 121) (.bool b1)).put (some 122) (.int .i64 k)).put (some 123) (.int .i64 m)).put (some 124) (.int .i64 m')).put (some 125) (.bool b2)).put (some 126) (vp)).eval (.tmp 119) = .int .i64 q := ((ev_ne (by decide)).trans ((ev_ne (by decide)).trans ((ev_ne (by decide)).trans ((ev_ne (by decide)).trans ((ev_ne (by decide)).trans ((ev_ne (by decide)).trans ((ev_ne (by decide)).trans ((ev_eq (by simp only [put_sz, hsz]; decide))))))))))
  have q2 : (((((((((((a.put (some 116) ((.agg #[.slice A3 dk.ss.length c3, .slice A4 dk.ps.length c4, .int .i64 dk.left, .bool dk.st]))).put (some 117) (.int .i64 q)).put (some 118) (.int .u64 g)).put (some 119) (.int .i64 q)).put (some 120) (.int .i64 k)).put (some 121) (.bool b1)).put (some 122) (.int .i64 k)).put (some 123) (.int .i64 m)).put (some 124) (.int .i64 m')).put (some 125) (.bool b2)).put (some 126) (vp)).eval (.tmp 121) = .bool b1 := ((ev_ne (by decide)).trans ((ev_ne (by decide)).trans ((ev_ne (by decide)).trans ((ev_ne (by decide)).trans ((ev_ne (by decide)).trans ((ev_eq (by simp only [put_sz, hsz]; decide))))))))
  have q3 : (((((((((((a.put (some 116) ((.agg #[.slice A3 dk.ss.length c3, .slice A4 dk.ps.length c4, .int .i64 dk.left, .bool dk.st]))).put (some 117) (.int .i64 q)).put (some 118) (.int .u64 g)).put (some 119) (.int .i64 q)).put (some 120) (.int .i64 k)).put (some 121) (.bool b1)).put (some 122) (.int .i64 k)).put (some 123) (.int .i64 m)).put (some 124) (.int .i64 m')).put (some 125) (.bool b2)).put (some 126) (vp)).eval (.tmp 125) = .bool b2 := ((ev_ne (by decide)).trans ((ev_eq (by simp only [put_sz, hsz]; decide))))
  have q4 : (((((((((((a.put (some 116) ((.agg #[.slice A3 dk.ss.length c3, .slice A4 dk.ps.length c4, .int .i64 dk.left, .bool dk.st]))).put (some 117) (.int .i64 q)).put (some 118) (.int .u64 g)).put (some 119) (.int .i64 q)).put (some 120) (.int .i64 k)).put (some 121) (.bool b1)).put (some 122) (.int .i64 k)).put (some 123) (.int .i64 m)).put (some 124) (.int .i64 m')).put (some 125) (.bool b2)).put (some 126) (vp)).eval (.tmp 126) = vp := ((ev_eq (by simp only [put_sz, hsz]; decide)))
  refine wpAnyU_go1 (i := 11) (by kernel_rfl) ?_
  refine wpOp_call (t := 127) rfl rfl rfl (.func 47) #[.tmp 118, .tmp 119, .tmp 121, .tmp 125, .tmp 126] _ rfl 47 rfl #[.int .u64 g, .int .i64 q, .bool b1, .bool b2, vp] (by simp only [List.map_toArray, List.map_cons, List.map_nil]; rw [q0, q1, q2, q3, q4]) (enters_of Try.func47 (by kernel_rfl) rfl) (SectorQ_any (hp.upb hb0) hl hg hq hn) ?_
  rintro e X1 ⟨v127, rfl, hs1, hb1'⟩
  clear q0 q1 q2 q3 q4
  refine ⟨_, rfl, hb0.up hb1', ?_⟩
  refine wpAnyU_at (L' := #[true, true, true, true, true, true, true, true, true, true, true, true, false, false, false, false, false]) (by kernel_rfl) ?_
  have q0 : ((((((((((((a.put (some 116) ((.agg #[.slice A3 dk.ss.length c3, .slice A4 dk.ps.length c4, .int .i64 dk.left, .bool dk.st]))).put (some 117) (.int .i64 q)).put (some 118) (.int .u64 g)).put (some 119) (.int .i64 q)).put (some 120) (.int .i64 k)).put (some 121) (.bool b1)).put (some 122) (.int .i64 k)).put (some 123) (.int .i64 m)).put (some 124) (.int .i64 m')).put (some 125) (.bool b2)).put (some 126) (vp)).put (some 127) (v127)).eval (.tmp 116) = (.agg #[.slice A3 dk.ss.length c3, .slice A4 dk.ps.length c4, .int .i64 dk.left, .bool dk.st]) := ((ev_ne (by decide)).trans ((ev_ne (by decide)).trans ((ev_ne (by decide)).trans ((ev_ne (by decide)).trans ((ev_ne (by decide)).trans ((ev_ne (by decide)).trans ((ev_ne (by decide)).trans ((ev_ne (by decide)).trans ((ev_ne (by decide)).trans ((ev_ne (by decide)).trans ((ev_ne (by decide)).trans ((ev_eq (by simp only [put_sz, hsz]; decide))))))))))))))
  have q1 : ((((((((((((a.put (some 116) ((.agg #[.slice A3 dk.ss.length c3, .slice A4 dk.ps.length c4, .int .i64 dk.left, .bool dk.st]))).put (some 117) (.int .i64 q)).put (some 118) (.int .u64 g)).put (some 119) (.int .i64 q)).put (some 120) (.int .i64 k)).put (some 121) (.bool b1)).put (some 122) (.int .i64 k)).put (some 123) (.int .i64 m)).put (some 124) (.int .i64 m')).put (some 125) (.bool b2)).put (some 126) (vp)).put (some 127) (v127)).eval (.tmp 117) = .int .i64 q := ((ev_ne (by decide)).trans ((ev_ne (by decide)).trans ((ev_ne (by decide)).trans ((ev_ne (by decide)).trans ((ev_ne (by decide)).trans ((ev_ne (by decide)).trans ((ev_ne (by decide)).trans ((ev_ne (by decide)).trans ((ev_ne (by decide)).trans ((ev_ne (by decide)).trans ((ev_eq (by simp only [put_sz, hsz]; decide)))))))))))))
  have q2 : ((((((((((((a.put (some 116) ((.agg #[.slice A3 dk.ss.length c3, .slice A4 dk.ps.length c4, .int .i64 dk.left, .bool dk.st]))).put (some 117) (.int .i64 q)).put (some 118) (.int .u64 g)).put (some 119) (.int .i64 q)).put (some 120) (.int .i64 k)).put (some 121) (.bool b1)).put (some 122) (.int .i64 k)).put (some 123) (.int .i64 m)).put (some 124) (.int .i64 m')).put (some 125) (.bool b2)).put (some 126) (vp)).put (some 127) (v127)).eval (.tmp 127) = v127 := ((ev_eq (by simp only [put_sz, hsz]; decide)))
  refine wpAnyU_go1 (i := 12) (by kernel_rfl) ?_
  refine wpOp_call (t := 128) rfl rfl rfl (.func 46) #[.tmp 116, .tmp 117, .tmp 127] _ rfl 46 rfl #[(.agg #[.slice A3 dk.ss.length c3, .slice A4 dk.ps.length c4, .int .i64 dk.left, .bool dk.st]), .int .i64 q, v127] (by simp only [List.map_toArray, List.map_cons, List.map_nil]; rw [q0, q1, q2]) (enters_of Try.func46 (by kernel_rfl) rfl) (refWriteS_is (hd.upb (hb0.up hb1')) hs1 hwe hwr) ?_
  rintro e X2 ⟨A5, c5, A6, c6, rfl, hd2, hb2', hsec⟩
  clear q0 q1 q2
  have hbx := (hb0.up hb1').up hb2'
  refine ⟨_, rfl, hbx, ?_⟩
  refine wpAnyU_at (L' := #[true, true, true, true, true, true, true, true, true, true, true, true, true, false, false, false, false]) (by kernel_rfl) ?_
  refine wpAnyU_takeD (i := 13) (v := (.tuple #[(.agg #[.slice A5 dr.ss.length c5, .slice A6 dr.ps.length c6, .int .i64 dr.left, .bool dr.st]), .int .i64 ew])) 115 rfl rfl (by kernel_rfl) (by kernel_rfl) (by kernel_rfl) (by kernel_rfl) (by kernel_rfl) (by kernel_rfl) (fun _ _ _ h => h) (yi_move rfl rfl ((ev_eq (by simp only [put_sz, hsz]; decide)))) hbx ?_
  refine wpAnyU_at (L' := #[true, true, true, true, true, true, true, true, true, true, true, true, true, true, false, false, false]) (by kernel_rfl) ?_
  refine wpAnyU_takeD (i := 14) (v := (.agg #[.slice A5 dr.ss.length c5, .slice A6 dr.ps.length c6, .int .i64 dr.left, .bool dr.st])) 129 rfl rfl (by kernel_rfl) (by kernel_rfl) (by kernel_rfl) (by kernel_rfl) (by kernel_rfl) (by kernel_rfl) (fun _ _ _ h => h) (yi_ext rfl rfl ((ev_eq (by simp only [put_sz, hsz]; decide))) rfl) hbx ?_
  refine wpAnyU_at (L' := #[true, true, true, true, true, true, true, true, true, true, true, true, true, true, true, false, false]) (by kernel_rfl) ?_
  refine wpAnyU_take0D (i := 15) (v := .int .i64 ew) 130 rfl rfl (by kernel_rfl) (by kernel_rfl) (by kernel_rfl) (by kernel_rfl) (fun _ _ _ h => h) (yi_ext rfl rfl ((ev_ne (by decide)).trans ((ev_eq (by simp only [put_sz, hsz]; decide)))) rfl) (fun _ => hbx) ?_
  refine wpAnyU_at (L' := #[true, true, true, true, true, true, true, true, true, true, true, true, true, true, true, true, false]) (by kernel_rfl) ?_
  refine lastU (i := 16) (by kernel_rfl) (by kernel_rfl) ?_
  refine wpOp_store25 rfl rfl rfl rfl ((ev_ne (by decide)).trans ((ev_ne (by decide)).trans ((ev_ne (by decide)).trans ((ev_ne (by decide)).trans ((ev_ne (by decide)).trans ((ev_ne (by decide)).trans ((ev_ne (by decide)).trans ((ev_ne (by decide)).trans ((ev_ne (by decide)).trans ((ev_ne (by decide)).trans ((ev_ne (by decide)).trans ((ev_ne (by decide)).trans ((ev_ne (by decide)).trans ((ev_ne (by decide)).trans ((ev_ne (by decide)).trans ((ev_ne (by decide)).trans (e3))))))))))))))))) ((ev_ne (by decide)).trans ((ev_eq (by simp only [put_sz, hsz]; decide)))) (zD.upb hbx) ?_
  refine wpAnyU_at (L' := #[true, true, true, true, true, true, true, true, true, true, true, true, true, true, true, true, true]) (by kernel_rfl) ?_
  refine wpAnyU_done (by kernel_rfl) (NoPanic.normal ?_) _
  exact hN _ A5 A6 c5 c6 v127 hbx hd2 (hsec.mono (hb0.up hb1').size)
end Go.Proofs.Ytkcnanclpkongaa
