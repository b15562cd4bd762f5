/- Walk of the statements' examples. -/
import Derived.Test.YtimpnpdhhhbmgaaW25
import Derived.Deep.Cut
import Derived.Test.YtimpnpdhhhbmgaaTail2
namespace Go.Proofs.Ytimpnpdhhhbmgaa
open Go.RowKit
set_option linter.unusedVariables false
set_option linter.unusedSimpArgs false

namespace Dv
def z129 : By := List.replicate 129 0
theorem s_all : ∃ (q0 q1 q2 q3 q4 q5 q6 q7 q8 q9 : Dk) (o1 o2 o3 o4 o5 b8 : By),
    (nw 0 = q0 ∧ nwE 0 = 1) ∧ (nw 2 = q1 ∧ nwE 2 = 0) ∧ (wr q1 1 [7] = q2 ∧ wrE q1 1 [7] = 0) ∧ (rd q2 1 = o1 ∧ rdE q2 1 = 0) ∧ (rd q1 2 = o2 ∧ rdE q1 2 = 40) ∧ (wr q1 0 z129 = q3 ∧ wrE q1 0 z129 = 1) ∧
    (stp q2 1 = q4 ∧ stE q2 1 = 0) ∧ (dbl 8 = b8 ∧ wr q4 0 b8 = q5 ∧ wrE q4 0 b8 = 0) ∧ (sy q5 = q6 ∧ syE q5 = 40 ∧ q6.st = true) ∧ rs q6 = q7 ∧ (rd q7 1 = o3 ∧ rdE q7 1 = 0) ∧ (rd q7 0 = o4 ∧ rdE q7 0 = 0) ∧ rs q2 = q8 ∧ (rd q8 1 = o5 ∧ rdE q8 1 = 0) ∧ (rs d0 = q9 ∧ q9.left = -1 ∧ chk d0 = 40) ∧
    (o1.length = 128 ∧ o1[0]? = some 7) ∧ (o3.length = 128 ∧ o3[0]? = some 7) ∧ (o4.length = 128 ∧ o4[0]? = some 8 ∧ o4[64]? = some 0) ∧ (o5.length = 128 ∧ o5[0]? = some 0) := by
  obtain ⟨a1, a2, a3, a4, a5, a6, a7, a8, a9, a10⟩ := s_facts
  obtain ⟨b1, b2, b3, b4, b5, b6, b7, b8, b9, b10, b11, b12, b13, b14⟩ := s_facts2
  exact ⟨_, sA, sW, _, sS, sS2, sX, _, _, _, _, _, _, _, _, _, ⟨rfl, a1⟩, ⟨rfl, a2⟩, ⟨rfl, a3⟩, ⟨rfl, a4⟩, ⟨rfl, a5⟩, ⟨rfl, a6⟩, ⟨rfl, a7⟩, ⟨rfl, rfl, a8⟩, ⟨rfl, a9, a10⟩, rfl, ⟨rfl, b1⟩, ⟨rfl, b2⟩, rfl, ⟨rfl, b3⟩, ⟨rfl, b14, b13⟩, ⟨b4, b5⟩, ⟨b6, b7⟩, ⟨b8, b9, b10⟩, ⟨b11, b12⟩⟩
end Dv
theorem enc_one (c : UInt8) (k : Int) (h : (c.toNat : Int) = k) : ([c] : By).map encB = [.int .u8 k] := by subst h; rfl
theorem one_bytes {W : World} {B : Nat} (c : UInt8) (k : Int) (h : (c.toNat : Int) = k) (hc : Cells W B 5 [.int .u8 k]) : IsBytes W (.slice (some ⟨B, 0, none⟩) 1 1) [c] := bytes_cells (bs := [c]) (by rw [enc_one c k h]; exact hc) rfl (Nat.le_refl _)
theorem keep44 {W : World} {B B' : Nat} {a0 a1 a2 a3 : Value} (h : Cells W B 25 [a0, a1, a2, a3]) (hne : B ≠ B') (b0 b1 b2 b3 : Value) :
    ((((W.setCell ⟨B', 0, none⟩ b0).setCell ⟨B', 1, none⟩ b1).setCell ⟨B', 2, none⟩ b2).setCell ⟨B', 3, none⟩ b3).cell? ⟨B, 0, none⟩ = some a0 ∧
    ((((W.setCell ⟨B', 0, none⟩ b0).setCell ⟨B', 1, none⟩ b1).setCell ⟨B', 2, none⟩ b2).setCell ⟨B', 3, none⟩ b3).cell? ⟨B, 1, none⟩ = some a1 ∧
    ((((W.setCell ⟨B', 0, none⟩ b0).setCell ⟨B', 1, none⟩ b1).setCell ⟨B', 2, none⟩ b2).setCell ⟨B', 3, none⟩ b3).cell? ⟨B, 2, none⟩ = some a2 ∧
    ((((W.setCell ⟨B', 0, none⟩ b0).setCell ⟨B', 1, none⟩ b1).setCell ⟨B', 2, none⟩ b2).setCell ⟨B', 3, none⟩ b3).cell? ⟨B, 3, none⟩ = some a3 := by
  have h9 := (((h.other hne 0 b0).other hne 1 b1).other hne 2 b2).other hne 3 b3
  exact ⟨h9.cell rfl, h9.cell rfl, h9.cell rfl, h9.cell rfl⟩
theorem arr129 : madeCells #[.int .u8 0] 129 = (Dv.z129.map encB).toArray := zs_arr' 129
theorem make_129 : ∃ ZL : List Value, ZL = Dv.z129.map encB ∧ ∀ w : World, (Instr.makeSlice 35 (.int .i64 129) (.int .i64 129)).run Try.prog w = .ok (.slice (some ⟨w.heap.size, 0, none⟩) 129 129) (w.alloc (.cells ZL.toArray 5)) := by
  refine ⟨_, rfl, fun w => ?_⟩
  obtain ⟨i0, hi, hz0, hz1, hz2⟩ := info_parts info5
  have hb : (i0.bytes : Int) * ((129 : Nat) : Int) ≤ 281474976710656 := by rw [hz2]; omega
  have hr := run_make (P := Try.prog) w 35 5 i0 _ Try.underlying35 hi hz0 .i64 .i64 (129 : Nat) (129 : Nat) (by omega) (by omega) hb (by omega)
  simp only [Int.toNat_natCast] at hr
  have e : ((129 : Nat) : Int) = 129 := rfl
  rw [e] at hr
  rw [hr, hz1, ← arr129]
  rfl

section
variable {P : Program} {ops : Array Oper} {Q : Exit → Act → World → Prop} {md : Region.Mode} {S : World → Prop}
theorem wpAnyF_two {i j e : Nat} {o o' : Oper} {fuel : Nat} {listed : Array Bool} {a : Act} {w : World} (hr : Region.ready md ops listed = [i, j]) (ho : ops[i]? = some o) (ho' : ops[j]? = some o')
    (h : ∀ K' : Act → World → Prop, Shut (∀ a w, (i < e → S w) → ((i < e → S w) → wpAnyF P md ops Q S e fuel (listed.setIfInBounds i true) a w) → K' a w) → if Region.wanted o (yielded ops a.tmps) = true then Oper.wp P o a w K' Q else K' (a.put o.dst undef) w)
    (h' : ∀ K' : Act → World → Prop, Shut (∀ a w, (j < e → S w) → ((j < e → S w) → wpAnyF P md ops Q S e fuel (listed.setIfInBounds j true) a w) → K' a w) → if Region.wanted o' (yielded ops a.tmps) = true then Oper.wp P o' a w K' Q else K' (a.put o'.dst undef) w) :
    wpAnyF P md ops Q S e (fuel + 1) listed a w := by
  refine ⟨fun h0 => (by rw [h0] at hr; cases hr), fun k hk => ?_⟩
  rw [hr] at hk
  have hk2 : k = i ∨ k = j := by simpa using hk
  rcases hk2 with rfl | rfl
  · exact wpOp_step ho (fun K' hK => h K' (fun a w hS hW => hK a w ⟨hS, hW hS⟩))
  · exact wpOp_step ho' (fun K' hK => h' K' (fun a w hS hW => hK a w ⟨hS, hW hS⟩))
end
theorem keepQ {W X : World} {B : Nat} {a b c d : Value} (h : W.cell? ⟨B, 0, none⟩ = some a ∧ W.cell? ⟨B, 1, none⟩ = some b ∧ W.cell? ⟨B, 2, none⟩ = some c ∧ W.cell? ⟨B, 3, none⟩ = some d) (hb : Below W.heap.size W X) :
    X.cell? ⟨B, 0, none⟩ = some a ∧ X.cell? ⟨B, 1, none⟩ = some b ∧ X.cell? ⟨B, 2, none⟩ = some c ∧ X.cell? ⟨B, 3, none⟩ = some d :=
  have hl : B < W.heap.size := cell_lt h.1
  ⟨((bcell hb).1 B 0 hl).trans h.1, ((bcell hb).1 B 1 hl).trans h.2.1, ((bcell hb).1 B 2 hl).trans h.2.2.1, ((bcell hb).1 B 3 hl).trans h.2.2.2⟩
/-- the sectors of a value do not lie in a block -/
def NB (B : Nat) (v : Value) (d : Dk) : Prop := d.ss ≠ [] → ∀ b off k c pv l s, v = .agg #[.slice (some ⟨b, off, none⟩) k c, pv, l, s] → b ≠ B
theorem nb_new {W : World} {v : Value} {d : Dk} {B : Nat} (h : IsD W v d) (hB : W.heap.size ≤ B) : NB B v d := by
  intro hn b off k c pv l s e
  obtain ⟨sv, pv', e', h1, h2⟩ := h
  rw [e'] at e
  injection e with e
  injection e with e
  injection e with e1 _
  subst e1
  obtain ⟨A, c', vs, e3, _, hl, hr, _⟩ := h1
  injection e3 with e3
  subst e3
  obtain ⟨b', off', e4, hb, _⟩ := hr (by intro h0; subst h0; simp at hl; exact hn (List.eq_nil_of_length_eq_zero hl.symm))
  injection e4 with e4
  injection e4 with e4
  omega
theorem nb_sec {w w' : World} {v x : Value} {d d' : Dk} {B n : Nat} (hv : IsD w v d) (hx : IsD w' x d') (hs : Sec n v x) (h : NB B v d) (hB : B < n) : NB B x d' := by
  obtain ⟨sv, pv, l, s, sv', pv', l', s', rfl, rfl, hs⟩ := hs
  intro hn b off k c pv2 l2 s2 e
  injection e with e
  injection e with e
  injection e with e1 _
  subst e1
  rcases hs with hs | hs
  · obtain ⟨sv3, pv3, e3, h1, _⟩ := hv
    obtain ⟨sv4, pv4, e4, h2, _⟩ := hx
    injection e3 with e3
    injection e3 with e3
    injection e3 with e3 _
    injection e4 with e4
    injection e4 with e4
    injection e4 with e4 _
    subst e3 e4
    obtain ⟨A, c', vs, e5, _⟩ := h1
    obtain ⟨A', c'', vs', e6, _⟩ := h2
    rw [← hs] at e5
    rw [e5] at e6
    injection e6 with _ e6 _
    refine h (fun h0 => hn (List.eq_nil_of_length_eq_zero (by rw [← e6, h0]; rfl))) b off k c pv l s (by rw [hs])
  · have := hs b off k c rfl; omega
theorem IsD.box {W W' : World} {v : Value} {d : Dk} (h : IsD W v d) {B : Nat} (hnb : NB B v d) {A n c A2 n2 c2 l st} (hC : Cells W B 25 [.slice A n c, .slice A2 n2 c2, .int .i64 l, .bool st]) (hg : W.grownBy W' (some B)) : IsD W' v d := by
  obtain ⟨sv, pv, e, h1, h2⟩ := h
  refine ⟨sv, pv, e, ?_, h2.box hC hg⟩
  obtain ⟨A', c', vs, e1, hc, hl, hr, hi⟩ := h1
  refine ⟨A', c', vs, e1, hc, hl, fun hn => ?_, fun i h h' => (hi i h h').box hC hg⟩
  obtain ⟨b, off, e2, hb, hcc⟩ := hr hn
  have hne : b ≠ B := hnb (fun h0 => hn (List.eq_nil_of_length_eq_zero (by rw [hl, h0]; rfl))) b off _ c' pv _ _ (by rw [e, e1, e2])
  exact ⟨b, off, e2, Nat.lt_of_lt_of_le hb hg.size, fun i hi => (World.cell?_of_block (hg.block b hb (fun e => hne (by injection e)))).trans (hcc i hi)⟩
theorem Bl.set4 {w X : World} (h : Bl w X) {B : Nat} (hB : w.heap.size ≤ B) (b0 b1 b2 b3 : Value) : Bl w (set4 X B b0 b1 b2 b3) := ⟨below_set4 h.b hB _ _ _ _⟩
theorem agg_slice {A c A2 c2 n n2 l s} : Value.agg #[.slice A n c, .slice A2 n2 c2, l, s] = .agg #[.slice A n c, .slice A2 n2 c2, l, s] := rfl

set_option maxHeartbeats 8000000 in
set_option maxRecDepth 100000 in
theorem sane_any (w : World) : Calls Try.prog 10 #[] w fun e w' => e = .returned (.bool true) ∧ Below w.heap.size w w' := by
  obtain ⟨q0, q1, q2, q3, q4, q5, q6, q7, q8, q9, o1, o2, o3, o4, o5, b8, h0, h1, h2, h3, h4, h5, h6, h7, h8, h9, h10, h11, h12, h13, h14, h15, h16, h17, h18⟩ := Dv.s_all
  have E0 := Lib.hid h0
  have E1 := Lib.hid h1
  have E2 := Lib.hid h2
  have E3 := Lib.hid h3
  have E4 := Lib.hid h4
  have E5 := Lib.hid h5
  have E6 := Lib.hid h6
  have E7 := Lib.hid h7
  have E8 := Lib.hid h8
  have E9 := Lib.hid h9
  have E10 := Lib.hid h10
  have E11 := Lib.hid h11
  have E12 := Lib.hid h12
  have E13 := Lib.hid h13
  have E14 := Lib.hid h14
  have E15 := Lib.hid h15
  have E16 := Lib.hid h16
  have E17 := Lib.hid h17
  have E18 := Lib.hid h18
  clear h0 h1 h2 h3 h4 h5 h6 h7 h8 h9 h10 h11 h12 h13 h14 h15 h16 h17 h18
  have HW := Lib.hid (Bl.mk (Below.refl w.heap.size w))
  go_enter Try.func10, Try.ntmps10
  go_wp2_with (fail)
  refine (New_is (n := 0) E0.out.2 E0.out.1).mono ?_
  rintro e w1 ⟨A0, c0, B0, d0', rfl, hd, hb⟩
  replace HW := Lib.hid (HW.out.upb hb)
  clear hb hd
  go_wp2_with (fail)
  replace HW := Lib.hid (HW.out.upb (al1 (w1) (.cells #[.slice A0 q0.ss.length c0, .slice B0 q0.ps.length d0', .int .i64 q0.left, .bool q0.st] 25)))
  refine (New_is (n := 2) E1.out.2 E1.out.1).mono ?_
  rintro e w2 ⟨A1, c1, B1, d1', rfl, hd, hb⟩
  replace HW := Lib.hid (HW.out.upb hb)
  clear hb
  have F1 := Lib.hid hd
  clear hd
  go_wp2_with (fail)
  replace HW := Lib.hid (HW.out.upb (al1 (w2) (.cells #[.slice A1 q1.ss.length c1, .slice B1 q1.ps.length d1', .int .i64 q1.left, .bool q1.st] 25)))
  replace F1 := Lib.hid (F1.out.upb (al1 (w2) (.cells #[.slice A1 q1.ss.length c1, .slice B1 q1.ps.length d1', .int .i64 q1.left, .bool q1.st] 25)))
  have Z1 := Lib.hid (Cells.new (w2) 25 [.slice A1 q1.ss.length c1, .slice B1 q1.ps.length d1', .int .i64 q1.left, .bool q1.st])
  have Z1l := Z1.out.lt
  have Z1c0 := Z1.out.cell (k := 0) rfl
  have Z1c1 := Z1.out.cell (k := 1) rfl
  have Z1c2 := Z1.out.cell (k := 2) rfl
  have Z1c3 := Z1.out.cell (k := 3) rfl
  try go_wp2_with (fail)
  replace HW := Lib.hid (HW.out.upb (al1 ((w2).alloc (.cells #[.slice A1 q1.ss.length c1, .slice B1 q1.ps.length d1', .int .i64 q1.left, .bool q1.st] 25)) (.cells #[.int .u8 7] 5)))
  replace F1 := Lib.hid (F1.out.upb (al1 ((w2).alloc (.cells #[.slice A1 q1.ss.length c1, .slice B1 q1.ps.length d1', .int .i64 q1.left, .bool q1.st] 25)) (.cells #[.int .u8 7] 5)))
  replace Z1 := Lib.hid (Z1.out.upb (al1 ((w2).alloc (.cells #[.slice A1 q1.ss.length c1, .slice B1 q1.ps.length d1', .int .i64 q1.left, .bool q1.st] 25)) (.cells #[.int .u8 7] 5)))
  have Y7 := Lib.hid (show Cells (((w2).alloc (.cells #[.slice A1 q1.ss.length c1, .slice B1 q1.ps.length d1', .int .i64 q1.left, .bool q1.st] 25)).alloc (.cells #[.int .u8 7] 5)) (w2.heap.size + 1) 5 [.int .u8 7] from by have h := Cells.new ((w2).alloc (.cells #[.slice A1 q1.ss.length c1, .slice B1 q1.ps.length d1', .int .i64 q1.left, .bool q1.st] 25)) 5 [.int .u8 7]; simpa only [World.size_alloc] using h)
  refine (Write_is F1.out (a := 1) (b := [7]) (one_bytes 7 7 (by decide) Y7.out) E2.out.2 E2.out.1).mono ?_
  rintro e w3 ⟨A2, c2, B2, d2', rfl, hd, hb, _⟩
  replace HW := Lib.hid (HW.out.upb hb)
  replace F1 := Lib.hid (F1.out.upb hb)
  replace Z1 := Lib.hid (Z1.out.upb hb)
  replace Y7 := Lib.hid (Y7.out.upb hb)
  clear hb
  clear Z1l Z1c0 Z1c1 Z1c2 Z1c3
  have F2 := Lib.hid hd
  clear hd
  clear Y7
  have Z1l := Z1.out.lt
  have Z1c0 := Z1.out.cell (k := 0) rfl
  have Z1c1 := Z1.out.cell (k := 1) rfl
  have Z1c2 := Z1.out.cell (k := 2) rfl
  have Z1c3 := Z1.out.cell (k := 3) rfl
  go_wp2_with (fail)
  replace HW := Lib.hid (HW.out.upb (al1 (w3) (.cells #[.slice A2 q2.ss.length c2, .slice B2 q2.ps.length d2', .int .i64 q2.left, .bool q2.st] 25)))
  replace F1 := Lib.hid (F1.out.upb (al1 (w3) (.cells #[.slice A2 q2.ss.length c2, .slice B2 q2.ps.length d2', .int .i64 q2.left, .bool q2.st] 25)))
  replace Z1 := Lib.hid (Z1.out.upb (al1 (w3) (.cells #[.slice A2 q2.ss.length c2, .slice B2 q2.ps.length d2', .int .i64 q2.left, .bool q2.st] 25)))
  replace F2 := Lib.hid (F2.out.upb (al1 (w3) (.cells #[.slice A2 q2.ss.length c2, .slice B2 q2.ps.length d2', .int .i64 q2.left, .bool q2.st] 25)))
  have Z2 := Lib.hid (Cells.new (w3) 25 [.slice A2 q2.ss.length c2, .slice B2 q2.ps.length d2', .int .i64 q2.left, .bool q2.st])
  clear Z1l Z1c0 Z1c1 Z1c2 Z1c3
  have Z1l := Z1.out.lt
  have Z1c0 := Z1.out.cell (k := 0) rfl
  have Z1c1 := Z1.out.cell (k := 1) rfl
  have Z1c2 := Z1.out.cell (k := 2) rfl
  have Z1c3 := Z1.out.cell (k := 3) rfl
  have Z2l := Z2.out.lt
  have Z2c0 := Z2.out.cell (k := 0) rfl
  have Z2c1 := Z2.out.cell (k := 1) rfl
  have Z2c2 := Z2.out.cell (k := 2) rfl
  have Z2c3 := Z2.out.cell (k := 3) rfl
  try go_wp2_with (fail)
  refine (Read_is F2.out (a := 1) E3.out.2 E3.out.1).mono ?_
  rintro e w4 ⟨A3, c3, rfl, ho, hb⟩
  replace HW := Lib.hid (HW.out.upb hb)
  replace F1 := Lib.hid (F1.out.upb hb)
  replace Z1 := Lib.hid (Z1.out.upb hb)
  replace F2 := Lib.hid (F2.out.upb hb)
  replace Z2 := Lib.hid (Z2.out.upb hb)
  clear hb
  clear Z1l Z1c0 Z1c1 Z1c2 Z1c3 Z2l Z2c0 Z2c1 Z2c2 Z2c3
  have O1 := Lib.hid ho
  clear ho
  have Z1l := Z1.out.lt
  have Z1c0 := Z1.out.cell (k := 0) rfl
  have Z1c1 := Z1.out.cell (k := 1) rfl
  have Z1c2 := Z1.out.cell (k := 2) rfl
  have Z1c3 := Z1.out.cell (k := 3) rfl
  have Z2l := Z2.out.lt
  have Z2c0 := Z2.out.cell (k := 0) rfl
  have Z2c1 := Z2.out.cell (k := 1) rfl
  have Z2c2 := Z2.out.cell (k := 2) rfl
  have Z2c3 := Z2.out.cell (k := 3) rfl
  go_wp2_with (fail)
  refine (Read_is F1.out (a := 2) E4.out.2 E4.out.1).mono ?_
  rintro e w5 ⟨A4, c4, rfl, ho, hb⟩
  replace HW := Lib.hid (HW.out.upb hb)
  replace F1 := Lib.hid (F1.out.upb hb)
  replace Z1 := Lib.hid (Z1.out.upb hb)
  replace F2 := Lib.hid (F2.out.upb hb)
  replace Z2 := Lib.hid (Z2.out.upb hb)
  replace O1 := Lib.hid (O1.out.upb hb)
  clear hb ho
  clear Z1l Z1c0 Z1c1 Z1c2 Z1c3 Z2l Z2c0 Z2c1 Z2c2 Z2c3
  have Z1l := Z1.out.lt
  have Z1c0 := Z1.out.cell (k := 0) rfl
  have Z1c1 := Z1.out.cell (k := 1) rfl
  have Z1c2 := Z1.out.cell (k := 2) rfl
  have Z1c3 := Z1.out.cell (k := 3) rfl
  have Z2l := Z2.out.lt
  have Z2c0 := Z2.out.cell (k := 0) rfl
  have Z2c1 := Z2.out.cell (k := 1) rfl
  have Z2c2 := Z2.out.cell (k := 2) rfl
  have Z2c3 := Z2.out.cell (k := 3) rfl
  obtain ⟨ZL, hZL, hmk⟩ := make_129
  have HZL := Lib.hid hZL
  have HLEN := Lib.hid (show 129 = Dv.z129.length from (List.length_replicate ..).symm)
  clear hZL
  go_upto_region 6 with (fail)
  go_cut [11, 12] from 24 (fun s11 s12 wc => (∃ B11, s11 = .pointer (some ⟨B11, 0, none⟩)) ∧ s12 = .int .i64 1 ∧ Hid (Below w5.heap.size w5 wc))
  case first =>
    have HS0 := Lib.hid (And.intro Z1c0 (And.intro Z1c1 (And.intro Z1c2 Z1c3)))
    have hSd := keepQ HS0.out (show Below w5.heap.size w5 w5.drew from below_drewN (Below.refl _ _) 1)
    refine wp_region_noPanic ?_
    refine wp_region_F 8 (fun X => X.cell? ⟨w2.heap.size, 0, none⟩ = some (.slice A1 q1.ss.length c1) ∧ X.cell? ⟨w2.heap.size, 1, none⟩ = some (.slice B1 q1.ps.length d1') ∧ X.cell? ⟨w2.heap.size, 2, none⟩ = some (.int .i64 q1.left) ∧ X.cell? ⟨w2.heap.size, 3, none⟩ = some (.bool q1.st)) (by kernel_rfl) ?_
    refine wpAnyF_take (i := 0) (v := .agg #[.slice A1 q1.ss.length c1, .slice B1 q1.ps.length d1', .int .i64 q1.left, .bool q1.st]) rfl (by kernel_rfl) (by kernel_rfl) (by kernel_rfl) (by kernel_rfl) (by kernel_rfl) (fun _ _ _ h => h) (.inl ⟨rfl, fun X hX => ?_⟩) hSd ?_
    · obtain ⟨z1, z2, z3, z4⟩ := hX; go_simp
    refine wpAnyF_two (i := 1) (j := 6) (by kernel_rfl) rfl rfl (fun K hK => ?_) (fun K hK => ?_)
    ·
      go_simp
      refine hK.out _ _ (fun _ => keepQ HS0.out (drew_al (w1 := w5) (.cells ZL.toArray 5))) (fun hS1' => ?_)
      have hS1 := hS1' (by decide)
      clear hK K hS1'
      refine wpAnyF_two (i := 2) (j := 6) (by kernel_rfl) rfl rfl (fun K hK => ?_) (fun K hK => ?_)
      ·
        refine step_fn rfl (.func 19) #[.tmp 49, .const (.int .i64 0), .tmp 50] _ rfl 19 #[] rfl #[.agg #[.slice A1 q1.ss.length c1, .slice B1 q1.ps.length d1', .int .i64 q1.left, .bool q1.st], .int .i64 0, .slice (some ⟨w5.heap.size, 0, none⟩) 129 129] (by simp [Act.eval, Act.put]) (enters_of Try.func19 (by kernel_rfl) rfl) (Write_is (F1.out.upb (drew_al (w1 := w5) (.cells ZL.toArray 5))) (a := 0) (b := Dv.z129) (bytes_cells (bs := Dv.z129) (n := 129) (c := 129) (by rw [← HZL.out]; exact (show Cells (w5.drew.alloc (.cells ZL.toArray 5)) w5.heap.size 5 ZL from Cells.new w5.drew 5 ZL)) HLEN.out (Nat.le_refl _)) E5.out.2 E5.out.1) ?_
        rintro e wz ⟨A5, c5, B5, d5, rfl, hd, hb, _⟩
        have HBz := Lib.hid ((drew_al (w1 := w5) (.cells ZL.toArray 5)).up hb)
        refine ⟨_, rfl, hK.out _ _ (fun _ => keepQ HS0.out HBz.out) (fun hS' => ?_)⟩
        have hSz := hS' (by decide)
        clear hK K hS' hd hb
        refine wpAnyF_take (i := 3) (v := .tuple #[.agg #[.slice A5 q3.ss.length c5, .slice B5 q3.ps.length d5, .int .i64 q3.left, .bool q3.st], .int .i64 1]) rfl (by kernel_rfl) (by kernel_rfl) (by kernel_rfl) (by kernel_rfl) (by kernel_rfl) (fun _ _ _ h => h) (.inl ⟨rfl, fun X hX => ?_⟩) hSz ?_
        · obtain ⟨z1, z2, z3, z4⟩ := hX; go_simp
        refine wpAnyF_take (i := 4) (v := .agg #[.slice A5 q3.ss.length c5, .slice B5 q3.ps.length d5, .int .i64 q3.left, .bool q3.st]) rfl (by kernel_rfl) (by kernel_rfl) (by kernel_rfl) (by kernel_rfl) (by kernel_rfl) (fun _ _ _ h => h) (.inl ⟨rfl, fun X hX => ?_⟩) hSz ?_
        · obtain ⟨z1, z2, z3, z4⟩ := hX; go_simp
        refine wpAnyF_take (i := 5) (v := .int .i64 1) rfl (by kernel_rfl) (by kernel_rfl) (by kernel_rfl) (by kernel_rfl) (by kernel_rfl) (fun _ _ _ h => h) (.inl ⟨rfl, fun X hX => ?_⟩) hSz ?_
        · obtain ⟨z1, z2, z3, z4⟩ := hX; go_simp
        refine wpAnyF_one (i := 6) (by kernel_rfl) rfl (fun K hK => ?_)
        go_simp
        refine hK.out _ _ (fun _ => keepQ HS0.out (HBz.out.up (al1 wz (.cells #[.slice none 0 0, .slice none 0 0, .int .i64 0, .bool false] 25)))) (fun hS2' => ?_)
        have hS2 := hS2' (by decide)
        clear hK K hS2'
        refine wpAnyF_one (i := 7) (by kernel_rfl) rfl (fun K hK => ?_)
        go_simp
        refine hK.out _ _ (fun _ => keepQ HS0.out (HBz.out.up (al1 wz _))) (fun _ => ?_)
        clear hK K
        refine wpAnyF_one (i := 8) (by kernel_rfl) rfl (fun K hK => ?_)
        go_simp
        refine hK.out _ _ (fun h => absurd h (by decide)) (fun _ => ?_)
        clear hK K
        refine wpAnyF_done (by kernel_rfl) (NoPanic.normal ?_) _
        go_wp2_with (fail)
        go_meet
        case rel => exact ⟨⟨_, rfl⟩, rfl, Lib.hid (HBz.out.up (al1 wz _))⟩
      ·
        go_simp
        refine hK.out _ _ (fun _ => keepQ HS0.out (drew_al2 (w1 := w5) (.cells ZL.toArray 5) (.cells #[.slice none 0 0, .slice none 0 0, .int .i64 0, .bool false] 25))) (fun hS2' => ?_)
        have hS2 := hS2' (by decide)
        clear hK K hS2'
        refine wpAnyF_one (i := 2) (by kernel_rfl) rfl (fun K hK => ?_)
        refine step_fn rfl (.func 19) #[.tmp 49, .const (.int .i64 0), .tmp 50] _ rfl 19 #[] rfl #[.agg #[.slice A1 q1.ss.length c1, .slice B1 q1.ps.length d1', .int .i64 q1.left, .bool q1.st], .int .i64 0, .slice (some ⟨w5.heap.size, 0, none⟩) 129 129] (by simp [Act.eval, Act.put]) (enters_of Try.func19 (by kernel_rfl) rfl) (Write_is (F1.out.upb (drew_al2 (w1 := w5) (.cells ZL.toArray 5) (.cells #[.slice none 0 0, .slice none 0 0, .int .i64 0, .bool false] 25))) (a := 0) (b := Dv.z129) (bytes_cells (bs := Dv.z129) (n := 129) (c := 129) (by rw [← HZL.out]; exact ((show Cells (w5.drew.alloc (.cells ZL.toArray 5)) w5.heap.size 5 ZL from Cells.new w5.drew 5 ZL).upb (al1 _ (.cells #[.slice none 0 0, .slice none 0 0, .int .i64 0, .bool false] 25)))) HLEN.out (Nat.le_refl _)) E5.out.2 E5.out.1) ?_
        rintro e wz ⟨A5, c5, B5, d5, rfl, hd, hb, _⟩
        have HBz := Lib.hid ((drew_al2 (w1 := w5) (.cells ZL.toArray 5) (.cells #[.slice none 0 0, .slice none 0 0, .int .i64 0, .bool false] 25)).up hb)
        have HC6 := Lib.hid (((show Cells ((w5.drew.alloc (.cells ZL.toArray 5)).alloc (.cells #[.slice none 0 0, .slice none 0 0, .int .i64 0, .bool false] 25)) (w5.heap.size + 1) 25 [.slice none 0 0, .slice none 0 0, .int .i64 0, .bool false] from by have h := Cells.new (w5.drew.alloc (.cells ZL.toArray 5)) 25 [.slice none 0 0, .slice none 0 0, .int .i64 0, .bool false]; simpa using h)).upb hb)
        have c60 := HC6.out.cell (k := 0) rfl
        have c61 := HC6.out.cell (k := 1) rfl
        have c62 := HC6.out.cell (k := 2) rfl
        have c63 := HC6.out.cell (k := 3) rfl
        have d60 := HC6.out.frozen 0
        have d61 := HC6.out.frozen 1
        have d62 := HC6.out.frozen 2
        have d63 := HC6.out.frozen 3
        refine ⟨_, rfl, hK.out _ _ (fun _ => keepQ HS0.out HBz.out) (fun hS' => ?_)⟩
        have hSz := hS' (by decide)
        clear hK K hS' hd hb
        refine wpAnyF_take (i := 3) (v := .tuple #[.agg #[.slice A5 q3.ss.length c5, .slice B5 q3.ps.length d5, .int .i64 q3.left, .bool q3.st], .int .i64 1]) rfl (by kernel_rfl) (by kernel_rfl) (by kernel_rfl) (by kernel_rfl) (by kernel_rfl) (fun _ _ _ h => h) (.inl ⟨rfl, fun X hX => ?_⟩) hSz ?_
        · obtain ⟨z1, z2, z3, z4⟩ := hX; go_simp
        refine wpAnyF_take (i := 4) (v := .agg #[.slice A5 q3.ss.length c5, .slice B5 q3.ps.length d5, .int .i64 q3.left, .bool q3.st]) rfl (by kernel_rfl) (by kernel_rfl) (by kernel_rfl) (by kernel_rfl) (by kernel_rfl) (fun _ _ _ h => h) (.inl ⟨rfl, fun X hX => ?_⟩) hSz ?_
        · obtain ⟨z1, z2, z3, z4⟩ := hX; go_simp
        refine wpAnyF_take (i := 5) (v := .int .i64 1) rfl (by kernel_rfl) (by kernel_rfl) (by kernel_rfl) (by kernel_rfl) (by kernel_rfl) (fun _ _ _ h => h) (.inl ⟨rfl, fun X hX => ?_⟩) hSz ?_
        · obtain ⟨z1, z2, z3, z4⟩ := hX; go_simp
        refine wpAnyF_one (i := 7) (by kernel_rfl) rfl (fun K hK => ?_)
        go_simp
        refine hK.out _ _ (fun _ => keepQ HS0.out (below_set4 HBz.out (by omega) _ _ _ _)) (fun _ => ?_)
        clear hK K
        refine wpAnyF_one (i := 8) (by kernel_rfl) rfl (fun K hK => ?_)
        go_simp
        refine hK.out _ _ (fun h => absurd h (by decide)) (fun _ => ?_)
        clear hK K
        refine wpAnyF_done (by kernel_rfl) (NoPanic.normal ?_) _
        go_wp2_with (fail)
        go_meet
        case rel => exact ⟨⟨_, rfl⟩, rfl, Lib.hid (below_set4 HBz.out (by omega) _ _ _ _)⟩
    ·
      go_simp
      refine hK.out _ _ (fun _ => keepQ HS0.out (drew_al (w1 := w5) (.cells #[.slice none 0 0, .slice none 0 0, .int .i64 0, .bool false] 25))) (fun hS1' => ?_)
      have hS1 := hS1' (by decide)
      clear hK K hS1'
      refine wpAnyF_one (i := 1) (by kernel_rfl) rfl (fun K hK => ?_)
      go_simp
      refine hK.out _ _ (fun _ => keepQ HS0.out (drew_al2 (w1 := w5) (.cells #[.slice none 0 0, .slice none 0 0, .int .i64 0, .bool false] 25) (.cells ZL.toArray 5))) (fun hS2' => ?_)
      have hS2 := hS2' (by decide)
      clear hK K hS2'
      refine wpAnyF_one (i := 2) (by kernel_rfl) rfl (fun K hK => ?_)
      refine step_fn rfl (.func 19) #[.tmp 49, .const (.int .i64 0), .tmp 50] _ rfl 19 #[] rfl #[.agg #[.slice A1 q1.ss.length c1, .slice B1 q1.ps.length d1', .int .i64 q1.left, .bool q1.st], .int .i64 0, .slice (some ⟨w5.heap.size + 1, 0, none⟩) 129 129] (by simp [Act.eval, Act.put]) (enters_of Try.func19 (by kernel_rfl) rfl) (Write_is (F1.out.upb (drew_al2 (w1 := w5) (.cells #[.slice none 0 0, .slice none 0 0, .int .i64 0, .bool false] 25) (.cells ZL.toArray 5))) (a := 0) (b := Dv.z129) (bytes_cells (bs := Dv.z129) (n := 129) (c := 129) (by rw [← HZL.out]; exact (show Cells ((w5.drew.alloc (.cells #[.slice none 0 0, .slice none 0 0, .int .i64 0, .bool false] 25)).alloc (.cells ZL.toArray 5)) (w5.heap.size + 1) 5 ZL from by have h := Cells.new (w5.drew.alloc (.cells #[.slice none 0 0, .slice none 0 0, .int .i64 0, .bool false] 25)) 5 ZL; simpa using h)) HLEN.out (Nat.le_refl _)) E5.out.2 E5.out.1) ?_
      rintro e wz ⟨A5, c5, B5, d5, rfl, hd, hb, _⟩
      have HBz := Lib.hid ((drew_al2 (w1 := w5) (.cells #[.slice none 0 0, .slice none 0 0, .int .i64 0, .bool false] 25) (.cells ZL.toArray 5)).up hb)
      have HC6 := Lib.hid ((((show Cells (w5.drew.alloc (.cells #[.slice none 0 0, .slice none 0 0, .int .i64 0, .bool false] 25)) w5.heap.size 25 [.slice none 0 0, .slice none 0 0, .int .i64 0, .bool false] from Cells.new w5.drew 25 [.slice none 0 0, .slice none 0 0, .int .i64 0, .bool false]).upb (al1 _ (.cells ZL.toArray 5)))).upb hb)
      have c60 := HC6.out.cell (k := 0) rfl
      have c61 := HC6.out.cell (k := 1) rfl
      have c62 := HC6.out.cell (k := 2) rfl
      have c63 := HC6.out.cell (k := 3) rfl
      have d60 := HC6.out.frozen 0
      have d61 := HC6.out.frozen 1
      have d62 := HC6.out.frozen 2
      have d63 := HC6.out.frozen 3
      refine ⟨_, rfl, hK.out _ _ (fun _ => keepQ HS0.out HBz.out) (fun hS' => ?_)⟩
      have hSz := hS' (by decide)
      clear hK K hS' hd hb
      refine wpAnyF_take (i := 3) (v := .tuple #[.agg #[.slice A5 q3.ss.length c5, .slice B5 q3.ps.length d5, .int .i64 q3.left, .bool q3.st], .int .i64 1]) rfl (by kernel_rfl) (by kernel_rfl) (by kernel_rfl) (by kernel_rfl) (by kernel_rfl) (fun _ _ _ h => h) (.inl ⟨rfl, fun X hX => ?_⟩) hSz ?_
      · obtain ⟨z1, z2, z3, z4⟩ := hX; go_simp
      refine wpAnyF_take (i := 4) (v := .agg #[.slice A5 q3.ss.length c5, .slice B5 q3.ps.length d5, .int .i64 q3.left, .bool q3.st]) rfl (by kernel_rfl) (by kernel_rfl) (by kernel_rfl) (by kernel_rfl) (by kernel_rfl) (fun _ _ _ h => h) (.inl ⟨rfl, fun X hX => ?_⟩) hSz ?_
      · obtain ⟨z1, z2, z3, z4⟩ := hX; go_simp
      refine wpAnyF_take (i := 5) (v := .int .i64 1) rfl (by kernel_rfl) (by kernel_rfl) (by kernel_rfl) (by kernel_rfl) (by kernel_rfl) (fun _ _ _ h => h) (.inl ⟨rfl, fun X hX => ?_⟩) hSz ?_
      · obtain ⟨z1, z2, z3, z4⟩ := hX; go_simp
      refine wpAnyF_one (i := 7) (by kernel_rfl) rfl (fun K hK => ?_)
      go_simp
      refine hK.out _ _ (fun _ => keepQ HS0.out (below_set4 HBz.out (by omega) _ _ _ _)) (fun _ => ?_)
      clear hK K
      refine wpAnyF_one (i := 8) (by kernel_rfl) rfl (fun K hK => ?_)
      go_simp
      refine hK.out _ _ (fun h => absurd h (by decide)) (fun _ => ?_)
      clear hK K
      refine wpAnyF_done (by kernel_rfl) (NoPanic.normal ?_) _
      go_wp2_with (fail)
      go_meet
      case rel => exact ⟨⟨_, rfl⟩, rfl, Lib.hid (below_set4 HBz.out (by omega) _ _ _ _)⟩
  case rest =>
    obtain ⟨⟨B11, rfl⟩, rfl, HBc⟩ := hcut
    replace HW := Lib.hid (HW.out.upb HBc.out)
    replace F1 := Lib.hid (F1.out.upb HBc.out)
    replace Z1 := Lib.hid (Z1.out.upb HBc.out)
    replace F2 := Lib.hid (F2.out.upb HBc.out)
    replace Z2 := Lib.hid (Z2.out.upb HBc.out)
    replace O1 := Lib.hid (O1.out.upb HBc.out)
    clear Z1l Z1c0 Z1c1 Z1c2 Z1c3 Z2l Z2c0 Z2c1 Z2c2 Z2c3
    clear HBc HZL HLEN hmk
    have Z2l := Z2.out.lt
    have Z2c0 := Z2.out.cell (k := 0) rfl
    have Z2c1 := Z2.out.cell (k := 1) rfl
    have Z2c2 := Z2.out.cell (k := 2) rfl
    have Z2c3 := Z2.out.cell (k := 3) rfl
    go_wp2_with (fail)
    refine (Stop_is F2.out (a := 1) E6.out.2 E6.out.1).mono ?_
    rintro e w6 ⟨A6, c6, B6, d6, rfl, hd, hb, _⟩
    replace HW := Lib.hid (HW.out.upb hb)
    replace F1 := Lib.hid (F1.out.upb hb)
    replace Z1 := Lib.hid (Z1.out.upb hb)
    replace F2 := Lib.hid (F2.out.upb hb)
    replace Z2 := Lib.hid (Z2.out.upb hb)
    replace O1 := Lib.hid (O1.out.upb hb)
    clear hb
    clear Z2l Z2c0 Z2c1 Z2c2 Z2c3
    have F4 := Lib.hid hd
    clear hd
    have BZ2 := Lib.hid (show w3.heap.size ≠ w6.heap.size by have := Z2.out.lt; omega)
    have NB4 := Lib.hid (nb_new (B := w6.heap.size) F4.out (Nat.le_refl _))
    have NB2 := Lib.hid (nb_new (B := w6.heap.size) F2.out (Nat.le_refl _))
    have LW := Lib.hid HW.out.b.size
    go_wp2_with (fail)
    replace HW := Lib.hid (HW.out.upb (al1 (w6) (.cells #[.slice A6 q4.ss.length c6, .slice B6 q4.ps.length d6, .int .i64 q4.left, .bool q4.st] 25)))
    replace F1 := Lib.hid (F1.out.upb (al1 (w6) (.cells #[.slice A6 q4.ss.length c6, .slice B6 q4.ps.length d6, .int .i64 q4.left, .bool q4.st] 25)))
    replace Z1 := Lib.hid (Z1.out.upb (al1 (w6) (.cells #[.slice A6 q4.ss.length c6, .slice B6 q4.ps.length d6, .int .i64 q4.left, .bool q4.st] 25)))
    replace F2 := Lib.hid (F2.out.upb (al1 (w6) (.cells #[.slice A6 q4.ss.length c6, .slice B6 q4.ps.length d6, .int .i64 q4.left, .bool q4.st] 25)))
    replace Z2 := Lib.hid (Z2.out.upb (al1 (w6) (.cells #[.slice A6 q4.ss.length c6, .slice B6 q4.ps.length d6, .int .i64 q4.left, .bool q4.st] 25)))
    replace O1 := Lib.hid (O1.out.upb (al1 (w6) (.cells #[.slice A6 q4.ss.length c6, .slice B6 q4.ps.length d6, .int .i64 q4.left, .bool q4.st] 25)))
    replace F4 := Lib.hid (F4.out.upb (al1 (w6) (.cells #[.slice A6 q4.ss.length c6, .slice B6 q4.ps.length d6, .int .i64 q4.left, .bool q4.st] 25)))
    have Z13 := Lib.hid (Cells.new (w6) 25 [.slice A6 q4.ss.length c6, .slice B6 q4.ps.length d6, .int .i64 q4.left, .bool q4.st])
    have Z13l := Z13.out.lt
    have Z13c0 := Z13.out.cell (k := 0) rfl
    have Z13c1 := Z13.out.cell (k := 1) rfl
    have Z13c2 := Z13.out.cell (k := 2) rfl
    have Z13c3 := Z13.out.cell (k := 3) rfl
    have HS8 := Lib.hid (And.intro Z13c0 (And.intro Z13c1 (And.intro Z13c2 Z13c3)))
    have hSd := keepQ HS8.out (show Below ((w6).alloc (.cells #[.slice A6 q4.ss.length c6, .slice B6 q4.ps.length d6, .int .i64 q4.left, .bool q4.st] 25)).heap.size ((w6).alloc (.cells #[.slice A6 q4.ss.length c6, .slice B6 q4.ps.length d6, .int .i64 q4.left, .bool q4.st] 25)) ((w6).alloc (.cells #[.slice A6 q4.ss.length c6, .slice B6 q4.ps.length d6, .int .i64 q4.left, .bool q4.st] 25)).drew from below_drewN (Below.refl _ _) 1)
    refine wp_region_noPanic ?_
    refine wp_region_U 6 (fun X => X.cell? ⟨w6.heap.size, 0, none⟩ = some (.slice A6 q4.ss.length c6) ∧ X.cell? ⟨w6.heap.size, 1, none⟩ = some (.slice B6 q4.ps.length d6) ∧ X.cell? ⟨w6.heap.size, 2, none⟩ = some (.int .i64 q4.left) ∧ X.cell? ⟨w6.heap.size, 3, none⟩ = some (.bool q4.st)) (by kernel_rfl) ?_
    refine wpAnyU_take (i := 0) (v := .agg #[.slice A6 q4.ss.length c6, .slice B6 q4.ps.length d6, .int .i64 q4.left, .bool q4.st]) rfl (by kernel_rfl) (by kernel_rfl) (by kernel_rfl) (by kernel_rfl) (by kernel_rfl) (by kernel_rfl) (fun _ _ _ h => h) (.inl ⟨rfl, fun X hX => ?_⟩) hSd ?_
    · obtain ⟨z1, z2, z3, z4⟩ := hX; go_simp
    refine wpAnyU_one (i := 1) (by kernel_rfl) rfl (fun K hK => ?_)
    refine step_fn rfl (.func 27) #[.const (.int .u8 8)] _ rfl 27 #[] rfl #[.int .u8 8] (by simp [Act.eval, Act.put]) (enters_of Try.func27 (by kernel_rfl) rfl) (double_is (c := 8) (k := 8) (by decide) E7.out.1) ?_
    rintro e wy ⟨A8, c8, rfl, ho, hb⟩
    have HBy := Lib.hid ((show Below ((w6).alloc (.cells #[.slice A6 q4.ss.length c6, .slice B6 q4.ps.length d6, .int .i64 q4.left, .bool q4.st] 25)).heap.size ((w6).alloc (.cells #[.slice A6 q4.ss.length c6, .slice B6 q4.ps.length d6, .int .i64 q4.left, .bool q4.st] 25)) ((w6).alloc (.cells #[.slice A6 q4.ss.length c6, .slice B6 q4.ps.length d6, .int .i64 q4.left, .bool q4.st] 25)).drew from below_drewN (Below.refl _ _) 1).up hb)
    have O8 := Lib.hid ho
    refine ⟨_, rfl, hK.out _ _ (fun _ => keepQ HS8.out HBy.out) (fun hS' => ?_)⟩
    clear hK K hS' ho hb
    refine wpAnyU_one (i := 2) (by kernel_rfl) rfl (fun K hK => ?_)
    refine step_fn rfl (.func 19) #[.tmp 60, .const (.int .i64 0), .tmp 61] _ rfl 19 #[] rfl #[.agg #[.slice A6 q4.ss.length c6, .slice B6 q4.ps.length d6, .int .i64 q4.left, .bool q4.st], .int .i64 0, .slice A8 b8.length c8] (by simp [Act.eval, Act.put]) (enters_of Try.func19 (by kernel_rfl) rfl) (Write_is (F4.out.upb HBy.out) (a := 0) (b := b8) O8.out E7.out.2.2 E7.out.2.1) ?_
    rintro e wz ⟨A7, c7, B7, d7, rfl, hd, hb, hsec⟩
    have HBz := Lib.hid (HBy.out.up hb)
    have F5 := Lib.hid hd
    have NB5 := Lib.hid (nb_sec (F4.out.upb HBy.out) hd hsec NB4.out (Nat.lt_of_lt_of_le Z13l HBy.out.size))
    refine ⟨_, rfl, hK.out _ _ (fun _ => keepQ HS8.out HBz.out) (fun hS' => ?_)⟩
    have hSz := hS' (by kernel_rfl)
    clear hK K hS' hd hb hsec
    refine wpAnyU_take0 (i := 3) (v := .tuple #[.agg #[.slice A7 q5.ss.length c7, .slice B7 q5.ps.length d7, .int .i64 q5.left, .bool q5.st], .int .i64 0]) rfl (by kernel_rfl) (by kernel_rfl) (by kernel_rfl) (by kernel_rfl) (fun _ _ _ h => h) (.inl ⟨rfl, fun X hX => by go_simp⟩) (fun _ => hSz) ?_
    refine wpAnyU_take0 (i := 4) (v := .agg #[.slice A7 q5.ss.length c7, .slice B7 q5.ps.length d7, .int .i64 q5.left, .bool q5.st]) rfl (by kernel_rfl) (by kernel_rfl) (by kernel_rfl) (by kernel_rfl) (fun _ _ _ h => h) (.inl ⟨rfl, fun X hX => by go_simp⟩) (fun _ => hSz) ?_
    refine wpAnyU_take0 (i := 5) (v := .int .i64 0) rfl (by kernel_rfl) (by kernel_rfl) (by kernel_rfl) (by kernel_rfl) (fun _ _ _ h => h) (.inl ⟨rfl, fun X hX => by go_simp⟩) (fun _ => hSz) ?_
    replace HW := Lib.hid (HW.out.upb HBz.out)
    replace F1 := Lib.hid (F1.out.upb HBz.out)
    replace Z1 := Lib.hid (Z1.out.upb HBz.out)
    replace F2 := Lib.hid (F2.out.upb HBz.out)
    replace Z2 := Lib.hid (Z2.out.upb HBz.out)
    replace O1 := Lib.hid (O1.out.upb HBz.out)
    replace F4 := Lib.hid (F4.out.upb HBz.out)
    replace Z13 := Lib.hid (Z13.out.upb HBz.out)
    clear Z13l Z13c0 Z13c1 Z13c2 Z13c3
    have Z13l := Z13.out.lt
    have Z13c0 := Z13.out.cell (k := 0) rfl
    have Z13c1 := Z13.out.cell (k := 1) rfl
    have Z13c2 := Z13.out.cell (k := 2) rfl
    have Z13c3 := Z13.out.cell (k := 3) rfl
    have Z13f0 := Z13.out.frozen 0
    have Z13f1 := Z13.out.frozen 1
    have Z13f2 := Z13.out.frozen 2
    have Z13f3 := Z13.out.frozen 3
    refine wpAnyU_one (i := 6) (by kernel_rfl) rfl (fun K hK => ?_)
    go_simp
    refine hK.out _ _ (fun h => absurd h (by decide)) (fun _ => ?_)
    clear hK K
    refine wpAnyU_one (i := 7) (by kernel_rfl) rfl (fun K hK => ?_)
    go_simp
    refine hK.out _ _ (fun h => absurd h (by decide)) (fun _ => ?_)
    clear hK K
    refine wpAnyU_done (by kernel_rfl) (NoPanic.normal ?_) _
    clear Z13l Z13c0 Z13c1 Z13c2 Z13c3 Z13f0 Z13f1 Z13f2 Z13f3
    have GR := Lib.hid (grown_set4 wz w6.heap.size (.slice A7 q5.ss.length c7) (.slice B7 q5.ps.length d7) (.int .i64 q5.left) (.bool q5.st))
    have F5' := Lib.hid (F5.out.box NB5.out Z13.out GR.out)
    have O1' := Lib.hid (O1.out.box Z13.out GR.out)
    have F2' := Lib.hid (F2.out.box NB2.out Z13.out GR.out)
    have Z13' := Lib.hid (Z13.out.set4 (.slice A7 q5.ss.length c7) (.slice B7 q5.ps.length d7) (.int .i64 q5.left) (.bool q5.st))
    have hz2l : Z2.out = Z2.out := rfl
    have Z2' := Lib.hid (grownK Z2.out GR.out (by have := BZ2.out; omega))
    have HW' := Lib.hid (HW.out.set4 LW.out (.slice A7 q5.ss.length c7) (.slice B7 q5.ps.length d7) (.int .i64 q5.left) (.bool q5.st))
    unfold set4 at F5' O1' F2' Z13' Z2' HW'
    clear GR hz2l F5 O1 F2 Z13 Z2 HW F1 F4 NB4 NB2 NB5 Z1 HBy HBz O8 HS8 hSd hSz
    generalize (((wz.setCell ⟨w6.heap.size, 0, none⟩ (.slice A7 q5.ss.length c7)).setCell ⟨w6.heap.size, 1, none⟩ (.slice B7 q5.ps.length d7)).setCell ⟨w6.heap.size, 2, none⟩ (.int .i64 q5.left)).setCell ⟨w6.heap.size, 3, none⟩ (.bool q5.st) = wq at *
    have Z13'l := Z13'.out.lt
    have Z13'c0 := Z13'.out.cell (k := 0) rfl
    have Z13'c1 := Z13'.out.cell (k := 1) rfl
    have Z13'c2 := Z13'.out.cell (k := 2) rfl
    have Z13'c3 := Z13'.out.cell (k := 3) rfl
    go_wp2_with (fail)
    refine (Sync_is F5'.out E8.out.2.1 E8.out.1).mono ?_
    rintro e w7 ⟨A9, c9, B9, d9, rfl, hd, hb, _⟩
    replace F5' := Lib.hid (F5'.out.upb hb)
    replace O1' := Lib.hid (O1'.out.upb hb)
    replace F2' := Lib.hid (F2'.out.upb hb)
    replace Z13' := Lib.hid (Z13'.out.upb hb)
    replace Z2' := Lib.hid (Z2'.out.upb hb)
    replace HW' := Lib.hid (HW'.out.upb hb)
    clear hb
    clear Z13'l Z13'c0 Z13'c1 Z13'c2 Z13'c3
    have hst : q6.st = true := E8.out.2.2
    rw [hst] at hd ⊢
    clear hst
    have F6 := Lib.hid hd
    clear hd
    have NB6 := Lib.hid (nb_new (B := w7.heap.size) F6.out (Nat.le_refl _))
    have NB2 := Lib.hid (nb_new (B := w7.heap.size) F2'.out (Nat.le_refl _))
    have LW := Lib.hid HW'.out.b.size
    have BZ2 := Lib.hid (show w3.heap.size ≠ w7.heap.size by have := Z2'.out.lt; omega)
    go_wp2_with (fail)
    replace F5' := Lib.hid (F5'.out.upb (al1 (w7) (.cells #[.slice A9 q6.ss.length c9, .slice B9 q6.ps.length d9, .int .i64 q6.left, .bool true] 25)))
    replace O1' := Lib.hid (O1'.out.upb (al1 (w7) (.cells #[.slice A9 q6.ss.length c9, .slice B9 q6.ps.length d9, .int .i64 q6.left, .bool true] 25)))
    replace F2' := Lib.hid (F2'.out.upb (al1 (w7) (.cells #[.slice A9 q6.ss.length c9, .slice B9 q6.ps.length d9, .int .i64 q6.left, .bool true] 25)))
    replace Z13' := Lib.hid (Z13'.out.upb (al1 (w7) (.cells #[.slice A9 q6.ss.length c9, .slice B9 q6.ps.length d9, .int .i64 q6.left, .bool true] 25)))
    replace Z2' := Lib.hid (Z2'.out.upb (al1 (w7) (.cells #[.slice A9 q6.ss.length c9, .slice B9 q6.ps.length d9, .int .i64 q6.left, .bool true] 25)))
    replace HW' := Lib.hid (HW'.out.upb (al1 (w7) (.cells #[.slice A9 q6.ss.length c9, .slice B9 q6.ps.length d9, .int .i64 q6.left, .bool true] 25)))
    replace F6 := Lib.hid (F6.out.upb (al1 (w7) (.cells #[.slice A9 q6.ss.length c9, .slice B9 q6.ps.length d9, .int .i64 q6.left, .bool true] 25)))
    have Z16 := Lib.hid (Cells.new (w7) 25 [.slice A9 q6.ss.length c9, .slice B9 q6.ps.length d9, .int .i64 q6.left, .bool true])
    have Z16l := Z16.out.lt
    have Z16c0 := Z16.out.cell (k := 0) rfl
    have Z16c1 := Z16.out.cell (k := 1) rfl
    have Z16c2 := Z16.out.cell (k := 2) rfl
    have Z16c3 := Z16.out.cell (k := 3) rfl
    try go_wp2_with (fail)
    have hlt6 := Z16.out.lt
    refine (Restart_is F6.out E9.out).mono ?_
    rintro e w8 ⟨A10, c10, B10, d10, rfl, hd, hb, hsec⟩
    have NB7 := Lib.hid (nb_sec F6.out hd hsec NB6.out hlt6)
    have F7 := Lib.hid hd
    replace F5' := Lib.hid (F5'.out.upb hb)
    replace O1' := Lib.hid (O1'.out.upb hb)
    replace F2' := Lib.hid (F2'.out.upb hb)
    replace Z13' := Lib.hid (Z13'.out.upb hb)
    replace Z2' := Lib.hid (Z2'.out.upb hb)
    replace HW' := Lib.hid (HW'.out.upb hb)
    replace F6 := Lib.hid (F6.out.upb hb)
    replace Z16 := Lib.hid (Z16.out.upb hb)
    clear hb hd hsec hlt6
    clear Z16l Z16c0 Z16c1 Z16c2 Z16c3
    have Z16l := Z16.out.lt
    have Z16c0 := Z16.out.cell (k := 0) rfl
    have Z16c1 := Z16.out.cell (k := 1) rfl
    have Z16c2 := Z16.out.cell (k := 2) rfl
    have Z16c3 := Z16.out.cell (k := 3) rfl
    have Z16f0 := Z16.out.frozen 0
    have Z16f1 := Z16.out.frozen 1
    have Z16f2 := Z16.out.frozen 2
    have Z16f3 := Z16.out.frozen 3
    go_wp2_with (fail)
    clear Z16l Z16c0 Z16c1 Z16c2 Z16c3 Z16f0 Z16f1 Z16f2 Z16f3
    have GR := Lib.hid (grown_set4 w8 w7.heap.size (.slice A10 q7.ss.length c10) (.slice B10 q7.ps.length d10) (.int .i64 q7.left) (.bool q7.st))
    have F7' := Lib.hid (F7.out.box NB7.out Z16.out GR.out)
    have O1'' := Lib.hid (O1'.out.box Z16.out GR.out)
    have F2'' := Lib.hid (F2'.out.box NB2.out Z16.out GR.out)
    have Z16' := Lib.hid (Z16.out.set4 (.slice A10 q7.ss.length c10) (.slice B10 q7.ps.length d10) (.int .i64 q7.left) (.bool q7.st))
    have Z2'' := Lib.hid (grownK Z2'.out GR.out BZ2.out)
    have HW'' := Lib.hid (HW'.out.set4 LW.out (.slice A10 q7.ss.length c10) (.slice B10 q7.ps.length d10) (.int .i64 q7.left) (.bool q7.st))
    unfold set4 at F7' O1'' F2'' Z16' Z2'' HW''
    clear GR F7 O1' F2' Z16 Z2' HW' F6 F5' Z13' NB7 NB6 NB2
    generalize (((w8.setCell ⟨w7.heap.size, 0, none⟩ (.slice A10 q7.ss.length c10)).setCell ⟨w7.heap.size, 1, none⟩ (.slice B10 q7.ps.length d10)).setCell ⟨w7.heap.size, 2, none⟩ (.int .i64 q7.left)).setCell ⟨w7.heap.size, 3, none⟩ (.bool q7.st) = wr at *
    refine (Read_is F7'.out (a := 1) E10.out.2 E10.out.1).mono ?_
    rintro e w9 ⟨A11, c11, rfl, ho, hb⟩
    replace F7' := Lib.hid (F7'.out.upb hb)
    replace O1'' := Lib.hid (O1''.out.upb hb)
    replace F2'' := Lib.hid (F2''.out.upb hb)
    replace Z16' := Lib.hid (Z16'.out.upb hb)
    replace Z2'' := Lib.hid (Z2''.out.upb hb)
    replace HW'' := Lib.hid (HW''.out.upb hb)
    clear hb
    have O3 := Lib.hid ho
    clear ho
    have Z16'l := Z16'.out.lt
    have Z16'c0 := Z16'.out.cell (k := 0) rfl
    have Z16'c1 := Z16'.out.cell (k := 1) rfl
    have Z16'c2 := Z16'.out.cell (k := 2) rfl
    have Z16'c3 := Z16'.out.cell (k := 3) rfl
    go_wp2_with (fail)
    refine (Read_is F7'.out (a := 0) E11.out.2 E11.out.1).mono ?_
    rintro e w10 ⟨A12, c12, rfl, ho, hb⟩
    replace F7' := Lib.hid (F7'.out.upb hb)
    replace O1'' := Lib.hid (O1''.out.upb hb)
    replace F2'' := Lib.hid (F2''.out.upb hb)
    replace Z16' := Lib.hid (Z16'.out.upb hb)
    replace Z2'' := Lib.hid (Z2''.out.upb hb)
    replace HW'' := Lib.hid (HW''.out.upb hb)
    replace O3 := Lib.hid (O3.out.upb hb)
    clear hb
    clear Z16'l Z16'c0 Z16'c1 Z16'c2 Z16'c3
    have O4 := Lib.hid ho
    clear ho
    have Z2''l := Z2''.out.lt
    have Z2''c0 := Z2''.out.cell (k := 0) rfl
    have Z2''c1 := Z2''.out.cell (k := 1) rfl
    have Z2''c2 := Z2''.out.cell (k := 2) rfl
    have Z2''c3 := Z2''.out.cell (k := 3) rfl
    go_wp2_with (fail)
    obtain ⟨_⟩ : True := trivial
    refine (Restart_is F2''.out E12.out).mono ?_
    rintro e w11 ⟨A13, c13, B13, d13, rfl, hd, hb, _⟩
    replace F7' := Lib.hid (F7'.out.upb hb)
    replace O1'' := Lib.hid (O1''.out.upb hb)
    replace F2'' := Lib.hid (F2''.out.upb hb)
    replace Z16' := Lib.hid (Z16'.out.upb hb)
    replace Z2'' := Lib.hid (Z2''.out.upb hb)
    replace HW'' := Lib.hid (HW''.out.upb hb)
    replace O3 := Lib.hid (O3.out.upb hb)
    replace O4 := Lib.hid (O4.out.upb hb)
    have F8 := Lib.hid hd
    clear hd hb
    clear Z2''l Z2''c0 Z2''c1 Z2''c2 Z2''c3
    go_wp2_with (fail)
    refine (Read_is F8.out (a := 1) E13.out.2 E13.out.1).mono ?_
    rintro e w12 ⟨A14, c14, rfl, ho, hb⟩
    replace F7' := Lib.hid (F7'.out.upb hb)
    replace O1'' := Lib.hid (O1''.out.upb hb)
    replace F2'' := Lib.hid (F2''.out.upb hb)
    replace Z16' := Lib.hid (Z16'.out.upb hb)
    replace Z2'' := Lib.hid (Z2''.out.upb hb)
    replace HW'' := Lib.hid (HW''.out.upb hb)
    replace O3 := Lib.hid (O3.out.upb hb)
    replace O4 := Lib.hid (O4.out.upb hb)
    replace F8 := Lib.hid (F8.out.upb hb)
    clear hb
    have O5 := Lib.hid ho
    clear ho
    obtain ⟨bb0, of0, hA0, _, hq0⟩ := bytes_atq O1''.out E15.out.2
    subst hA0
    obtain ⟨bb1, of1, hA1, _, hq1⟩ := bytes_atq O3.out E16.out.2
    subst hA1
    obtain ⟨bb2, of2, hA2, _, hq2⟩ := bytes_atq O4.out E17.out.2.1
    subst hA2
    obtain ⟨bb3, of3, hA3, _, hq3⟩ := bytes_atq O5.out E18.out.2
    subst hA3
    obtain ⟨bb4, of4, hA4, _, hq4⟩ := bytes_atq O4.out E17.out.2.2
    injection hA4 with hA4
    injection hA4 with hA4 hA5
    subst hA4 hA5
    have hr0 : w12.cell? ⟨bb0, of0, none⟩ = some (.int .u8 7) := hq0
    clear hq0
    have hr1 : w12.cell? ⟨bb1, of1, none⟩ = some (.int .u8 7) := hq1
    clear hq1
    have hr2 : w12.cell? ⟨bb2, of2, none⟩ = some (.int .u8 8) := hq2
    clear hq2
    have hr3 : w12.cell? ⟨bb3, of3, none⟩ = some (.int .u8 0) := hq3
    clear hq3
    have hr4 : w12.cell? ⟨bb2, of2 + 64, none⟩ = some (.int .u8 0) := hq4
    clear hq4
    have hl1 := E15.out.1
    have hl3 := E16.out.1
    have hl4 := E17.out.1
    have hl5 := E18.out.1
    simp only [hl1, hl3, hl4, hl5]
    clear hl1 hl3 hl4 hl5
    go_wp2_with (fail)
    clear hr0 hr1 hr2 hr3 hr4
    refine (Check_is IsD.zero E14.out.2.2).mono ?_
    rintro e wx ⟨rfl, hb⟩
    have HX := Lib.hid (HW''.out.upb hb)
    clear hb
    go_wp2_with (fail)
    refine (Restart_is IsD.zero E14.out.1).mono ?_
    rintro e wy ⟨A15, c15, B15, d15, rfl, _, hb, _⟩
    have HY := Lib.hid (HX.out.upb hb)
    clear hb
    have hleft := E14.out.2.1
    rw [hleft]
    clear hleft
    have hfld : ∀ W, (Instr.field 25 (.agg #[.slice A15 q9.ss.length c15, .slice B15 q9.ps.length d15, .int .i64 (-1), .bool q9.st]) 2).run Try.prog W = .ok (.int .i64 (-1)) W := fun W => by kernel_rfl
    go_wp2_with (fail)
    go_ret
    exact ⟨rfl, HY.out.b⟩
end Go.Proofs.Ytimpnpdhhhbmgaa
