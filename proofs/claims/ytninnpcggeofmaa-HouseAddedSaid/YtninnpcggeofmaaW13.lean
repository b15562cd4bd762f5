/- Walk of Verdict. -/
import Derived.Test.YtninnpcggeofmaaW12
namespace Go.Proofs.Ytninnpcggeofmaa
open Go.RowKit
set_option linter.unusedVariables false
set_option linter.unusedSimpArgs false
attribute [local go_sem] frozen_new Oper.semAt_some

def ru1 (q : Hh.Qq) (l : List Hh) : Int := extN (-1) (-1) ((bys 1 q l).filter (fun x => decide (extN 1 (-1) (bys 5 q l) < x.no)))
def ru2 (q : Hh.Qq) (l : List Hh) : Int := extN (-1) (-1) ((bys 2 q l).filter (fun _ => decide (extN 1 (-1) (bys 4 q l) < 0)))
def ru3 (q : Hh.Qq) (l : List Hh) : Int := extN (-1) (-1) ((bys 3 q l).filter (fun x => decide (q.at_ < q.beg + x.ms)))
def verR (q : Hh.Qq) (l : List Hh) : Hh.Vd := if 0 ≤ ru1 q l then ⟨2, ru1 q l, 0⟩ else if 0 ≤ ru2 q l then ⟨2, ru2 q l, 0⟩ else if 0 ≤ ru3 q l then ⟨1, ru3 q l, 0⟩ else ⟨0, -1, 0⟩
def verP (l : List Hh) (q : Hh.Qq) : Hh.Vd := if Hh.err l = 0 then (if Hh.askQ q = true then verR q l else ⟨0, 0, 1⟩) else ⟨0, 0, Hh.err l⟩

def keptW (Wr : World) (q : Hh.Qq) (A : Option Addr) (n cap : Nat) (kind : Int) (br bw bl : Nat) : World :=
  ((bindW Wr q A n cap kind).alloc (.cells #[.func (.func 71) #[] #[.pointer (some ⟨Wr.heap.size + 1, 0, none⟩), .pointer (some ⟨Wr.heap.size + 1 + 1, 0, none⟩), .pointer (some ⟨Wr.heap.size, 0, none⟩)]] 65)).alloc (.cells #[.func (.func 54) #[] #[.pointer (some ⟨br, 0, none⟩), .pointer (some ⟨bw, 0, none⟩), .pointer (some ⟨bl, 0, none⟩)]] 39)
theorem keptW_bel (Wr : World) (q : Hh.Qq) (A : Option Addr) (n cap : Nat) (kind : Int) (br bw bl : Nat) : Below Wr.heap.size Wr (keptW Wr q A n cap kind br bw bl) := ((bindW_bel Wr q A n cap kind).up (al1 _ _)).up (al1 _ _)
theorem ext_kept (q : Hh.Qq) (A : Option Addr) (cap : Nat) (l : List Hh) (kind : Int) (p : Hh → Bool) (w0 Wr : World) (br bw bl : Nat) (hv : IsHs w0 (.slice A l.length cap) l) (hb : Below w0.heap.size w0 Wr) (hl : l.length ≤ 1024)
    (hok : ∀ x ∈ bys kind q l, ∀ W'', Below (keptW Wr q A l.length cap kind br bw bl).heap.size (keptW Wr q A l.length cap kind br bw bl) W'' → Calls Try.prog 54 #[vH x, .pointer (some ⟨br, 0, none⟩), .pointer (some ⟨bw, 0, none⟩), .pointer (some ⟨bl, 0, none⟩)] W'' (BPost (p x) W'')) :
    Calls Try.prog 55 #[.func (.func 70) #[] #[.pointer (some ⟨(bindW Wr q A l.length cap kind).heap.size, 0, none⟩), .pointer (some ⟨(bindW Wr q A l.length cap kind).heap.size + 1, 0, none⟩)], .func (.func 56) #[] #[], .int .i64 (-1), .int .i64 (-1)] (keptW Wr q A l.length cap kind br bw bl)
      (IPost (extN (-1) (-1) ((bys kind q l).filter p)) (keptW Wr q A l.length cap kind br bw bl)) := by
  have hsz : (keptW Wr q A l.length cap kind br bw bl).heap.size = (bindW Wr q A l.length cap kind).heap.size + 1 + 1 := by unfold keptW; simp
  have hbs := bindW_size Wr q A l.length cap kind
  have b1 : Boxed (keptW Wr q A l.length cap kind br bw bl) (bindW Wr q A l.length cap kind).heap.size 65 (.func (.func 71) #[] #[.pointer (some ⟨Wr.heap.size + 1, 0, none⟩), .pointer (some ⟨Wr.heap.size + 1 + 1, 0, none⟩), .pointer (some ⟨Wr.heap.size, 0, none⟩)]) := (Boxed.new _ 65 _).alloc _
  have b2 : Boxed (keptW Wr q A l.length cap kind br bw bl) ((bindW Wr q A l.length cap kind).heap.size + 1) 39 (.func (.func 54) #[] #[.pointer (some ⟨br, 0, none⟩), .pointer (some ⟨bw, 0, none⟩), .pointer (some ⟨bl, 0, none⟩)]) := by
    have := Boxed.new ((bindW Wr q A l.length cap kind).alloc (.cells #[.func (.func 71) #[] #[.pointer (some ⟨Wr.heap.size + 1, 0, none⟩), .pointer (some ⟨Wr.heap.size + 1 + 1, 0, none⟩), .pointer (some ⟨Wr.heap.size, 0, none⟩)]] 65)) 39 (.func (.func 54) #[] #[.pointer (some ⟨br, 0, none⟩), .pointer (some ⟨bw, 0, none⟩), .pointer (some ⟨bl, 0, none⟩)])
    simp only [World.size_alloc] at this
    exact this
  refine extreme_any 70 _ _ (fun b => b < (keptW Wr q A l.length cap kind br bw bl).heap.size) (-1) (-1) _ (enters_of Try.func70 (by kernel_rfl) rfl) (fun b h => h) (fun W' hW => ?_)
  refine kept_iter _ _ 71 _ _ _ _ (bys kind q l) p (protB Wr.heap.size w0.heap.size) (fun b => b < (keptW Wr q A l.length cap kind br bw bl).heap.size) W' (enters_of Try.func71 (by kernel_rfl) rfl) (boxed_below b1 hW).cell (boxed_below b2 hW).cell (by omega) (by omega) (fun b h => ?_) (fun b h => Nat.lt_of_lt_of_le h hW.size) (fun W2 hW2 => ?_) (fun x hx W2 hW2 => ?_)
  · have := protB_lt h hb.size
    omega
  · exact (binding_hit q A cap l kind w0 Wr hv hb hl W2 ((((al1 _ _).up (al1 _ _)).up hW).up hW2)).to2 (fun b h => h)
  · refine hok x hx W2 ⟨hW2.os.trans hW.os, hW2.tape.trans hW.tape, hW2.output.trans hW.output, Nat.le_trans hW.size hW2.size, fun b hb => ?_⟩
    have h1 : b < W'.heap.size := Nat.lt_of_lt_of_le hb hW.size
    rw [hW2.block b _ (Array.getElem?_eq_getElem h1) (.inr hb), ← Array.getElem?_eq_getElem h1]
    exact hW.block b hb

/-- the block of the rules -/
def RulesAt (W : World) (n : Nat) : Prop := W.heap[n]? = some (.cells #[.int .i64 2, .int .i64 1, .func (.func 67) #[] #[], .int .i64 2, .int .i64 2, .func (.func 68) #[] #[], .int .i64 1, .int .i64 3, .func (.func 69) #[] #[]] 77 (0, 0))
theorem RulesAt.cell {W : World} {n : Nat} (h : RulesAt W n) (i : Nat) (v : Value) (hv : (#[.int .i64 2, .int .i64 1, .func (.func 67) #[] #[], .int .i64 2, .int .i64 2, .func (.func 68) #[] #[], .int .i64 1, .int .i64 3, .func (.func 69) #[] #[]] : Array Value)[i]? = some v) : W.cell? ⟨n, i, none⟩ = some v := by
  simp only [World.cell?, show W.heap[n]? = _ from h]
  exact hv
theorem RulesAt.upb {W W' : World} {n : Nat} (h : RulesAt W n) (hb : Below W.heap.size W W') : RulesAt W' n := (hb.block n (Array.getElem?_eq_some_iff.1 h).1).trans h
theorem bys_ms {kind : Int} {q : Hh.Qq} {l : List Hh} {x : Hh} (hx : x ∈ bys kind q l) : 0 ≤ x.ms ∧ x.ms ≤ 1073741824 := by
  have h := (List.mem_filter.1 hx).2
  simp [Hh.binds, Hh.cov] at h
  exact Hh.right_ms ((Hh.right_iff x).1 h.2.1.1.1)

set_option maxHeartbeats 8000000 in
set_option maxRecDepth 100000 in
theorem VerdictP_any (v : Value) (l : List Hh) (q : Hh.Qq) (w : World) (hv : IsHs w v l) (hl : l.length ≤ 9223372036854775807) : Calls Try.prog 30 #[v, .int .i64 q.spk, .int .i64 q.beg, .int .i64 q.lang, .int .i64 q.at_, .int .i64 q.known] w (VPost (verP l q) w) := by
  have HV := Lib.hid hv
  obtain ⟨A, cap, rfl, _⟩ := id hv
  have HBx := Lib.hid (Boxed.new w 22 (.slice A l.length cap))
  have HB0 := Lib.hid (al1 w (.cells #[.slice A l.length cap] 22))
  clear hv
  go_enter Try.func30, Try.ntmps30
  go_wp2_with (fail)
  by_cases he : Hh.err l = 0
  rotate_left
  · obtain ⟨x, hx⟩ : ∃ x, Hh.err l = x := ⟨_, rfl⟩
    have hne : (x != 0) = true := by rw [← hx]; simpa using he
    have HX := Lib.hid (show verP l q = ⟨0, 0, x⟩ by rw [verP, if_neg he, hx])
    refine (Check_is hx (HV.out.upb HB0.out) hl).mono ?_
    rintro e w1 ⟨rfl, hb1⟩
    clear he hx
    go_wp2_with (fail)
    go_ret3
    exact .of HX.out (HB0.out.up hb1)
  refine (Check_is he (HV.out.upb HB0.out) hl).mono ?_
  rintro e w1 ⟨rfl, hb1⟩
  have HB := Lib.hid (HB0.out.up hb1)
  have HBx1 := Lib.hid (boxed_below HBx.out hb1)
  have HE := Lib.hid he
  have hlen := (err_zero he).1
  clear hb1 he HB0 HBx
  go_wp2_with (fail)
  cases a0 : Hh.inn q.spk 0 63
  · refine (vwithin_is (hi := 64) a0 _).mono ?_
    rintro e _ ⟨rfl, rfl⟩
    go_wp2_with (fail)
    go_ret3
    exact .of (by simp [verP, Hh.askQ, Hh.argQ, HE.out, a0]) HB.out
  refine (vwithin_is (hi := 64) a0 _).mono ?_
  rintro e _ ⟨rfl, rfl⟩
  go_wp2_with (fail)
  cases a1 : Hh.inn q.beg 0 1099511627775
  · refine (vwithin_is (hi := 1099511627776) a1 _).mono ?_
    rintro e _ ⟨rfl, rfl⟩
    go_wp2_with (fail)
    go_ret3
    exact .of (by simp [verP, Hh.askQ, Hh.argQ, HE.out, a0, a1]) HB.out
  refine (vwithin_is (hi := 1099511627776) a1 _).mono ?_
  rintro e _ ⟨rfl, rfl⟩
  go_wp2_with (fail)
  cases a2 : Hh.inn q.lang 0 31
  · refine (vwithin_is (hi := 32) a2 _).mono ?_
    rintro e _ ⟨rfl, rfl⟩
    go_wp2_with (fail)
    go_ret3
    exact .of (by simp [verP, Hh.askQ, Hh.argQ, HE.out, a0, a1, a2]) HB.out
  refine (vwithin_is (hi := 32) a2 _).mono ?_
  rintro e _ ⟨rfl, rfl⟩
  go_wp2_with (fail)
  cases a3 : Hh.inn q.at_ 0 1099511627775
  · refine (vwithin_is (hi := 1099511627776) a3 _).mono ?_
    rintro e _ ⟨rfl, rfl⟩
    go_wp2_with (fail)
    go_ret3
    exact .of (by simp [verP, Hh.askQ, Hh.argQ, HE.out, a0, a1, a2, a3]) HB.out
  refine (vwithin_is (hi := 1099511627776) a3 _).mono ?_
  rintro e _ ⟨rfl, rfl⟩
  go_wp2_with (fail)
  cases a4 : Hh.inn q.known 0 1099511627775
  · refine (vwithin_is (hi := 1099511627776) a4 _).mono ?_
    rintro e _ ⟨rfl, rfl⟩
    go_wp2_with (fail)
    go_ret3
    exact .of (by simp [verP, Hh.askQ, Hh.argQ, HE.out, a0, a1, a2, a3, a4]) HB.out
  refine (vwithin_is (hi := 1099511627776) a4 _).mono ?_
  rintro e _ ⟨rfl, rfl⟩
  go_wp2_with (fail)
  have HVer := Lib.hid (show verP l q = verR q l by simp [verP, Hh.askQ, Hh.argQ, HE.out, a0, a1, a2, a3, a4])
  have hbeg := inn_t a1
  clear a0 a1 a2 a3 a4
  have HQ1 := Lib.hid (BoxQ.new w1 q)
  refine (rules_any _).mono ?_
  rintro e w2 ⟨rfl, rfl⟩
  have hR := World.alloc_heap_new (w1.alloc (.cells #[.int .i64 q.spk, .int .i64 q.beg, .int .i64 q.lang, .int .i64 q.at_, .int .i64 q.known] 72)) (.cells #[.int .i64 2, .int .i64 1, .func (.func 67) #[] #[], .int .i64 2, .int .i64 2, .func (.func 68) #[] #[], .int .i64 1, .int .i64 3, .func (.func 69) #[] #[]] 77)
  simp only [World.size_alloc] at hR
  have HR := Lib.hid (show RulesAt _ (w1.heap.size + 1) from hR)
  have HQ2 := Lib.hid (HQ1.out.upb (al1 _ (.cells #[.int .i64 2, .int .i64 1, .func (.func 67) #[] #[], .int .i64 2, .int .i64 2, .func (.func 68) #[] #[], .int .i64 1, .int .i64 3, .func (.func 69) #[] #[]] 77)))
  have HB2 := Lib.hid ((HB.out.up (al1 w1 (.cells #[.int .i64 q.spk, .int .i64 q.beg, .int .i64 q.lang, .int .i64 q.at_, .int .i64 q.known] 72))).up (al1 _ (.cells #[.int .i64 2, .int .i64 1, .func (.func 67) #[] #[], .int .i64 2, .int .i64 2, .func (.func 68) #[] #[], .int .i64 1, .int .i64 3, .func (.func 69) #[] #[]] 77)))
  have HX2 := Lib.hid ((HBx1.out.alloc (.cells #[.int .i64 q.spk, .int .i64 q.beg, .int .i64 q.lang, .int .i64 q.at_, .int .i64 q.known] 72)).alloc (.cells #[.int .i64 2, .int .i64 1, .func (.func 67) #[] #[], .int .i64 2, .int .i64 2, .func (.func 68) #[] #[], .int .i64 1, .int .i64 3, .func (.func 69) #[] #[]] 77))
  obtain ⟨nq, hnq⟩ : ∃ n, w1.heap.size = n := ⟨_, rfl⟩
  obtain ⟨W, hW⟩ : ∃ W, (w1.alloc (.cells #[.int .i64 q.spk, .int .i64 q.beg, .int .i64 q.lang, .int .i64 q.at_, .int .i64 q.known] 72)).alloc (.cells #[.int .i64 2, .int .i64 1, .func (.func 67) #[] #[], .int .i64 2, .int .i64 2, .func (.func 68) #[] #[], .int .i64 1, .int .i64 3, .func (.func 69) #[] #[]] 77) = W := ⟨_, rfl⟩
  rw [hnq] at HR HQ2
  have hsza : (w1.alloc (.cells #[.int .i64 q.spk, .int .i64 q.beg, .int .i64 q.lang, .int .i64 q.at_, .int .i64 q.known] 72)).heap.size = nq + 1 := by rw [← hnq]; simp
  rw [hW] at HR HQ2 HB2 HX2
  try rw [hsza]
  rw [hW]
  try rw [hnq]
  clear hR hW hnq hsza HQ1 HB HBx1
  go_wp2_with (fail)
  go_loopw [55] (fun i wr => ∃ k : Nat, k ≤ 3 ∧ i = .int .i64 k ∧ Hid ((0 < k → ru1 q l < 0) ∧ (1 < k → ru2 q l < 0) ∧ (2 < k → ru3 q l < 0)) ∧ Hid (Below W.heap.size W wr)) (fun i _ => 3 - (intOf i).toNat)
  case atStart => exact ⟨0, by omega, rfl, ⟨fun h => absurd h (by omega), fun h => absurd h (by omega), fun h => absurd h (by omega)⟩, Below.refl _ _⟩
  case round =>
    obtain ⟨k, hk, rfl, HN, HK⟩ := hrel
    have HRr := Lib.hid (HR.out.upb HK.out)
    have HQr := Lib.hid (HQ2.out.upb HK.out)
    have HXr := Lib.hid (boxed_below HX2.out HK.out)
    have HBr := Lib.hid (HB2.out.up HK.out)
    have lq := HQr.out.lt
    have lx := HXr.out.lt
    have xc := HXr.out.cell
    have qc0 := HQr.out.c0
    have qc1 := HQr.out.c1
    have qc2 := HQr.out.c2
    have qc3 := HQr.out.c3
    have qc4 := HQr.out.c4
    have hk6 : k = 0 ∨ k = 1 ∨ k = 2 ∨ k = 3 := by omega
    rcases hk6 with rfl | rfl | rfl | rfl
    · have r0 := HRr.out.cell 0 _ rfl
      have r1 := HRr.out.cell 1 _ rfl
      have r2 := HRr.out.cell 2 _ rfl
      have lr := cell_lt r0
      dsimp only at lr
      go_wp2_with (fail)
      have hne0 := World.alloc_heap_new wr (.cells #[.int .i64 2, .int .i64 1, .func (.func 67) #[] #[]] 77)
      have ha := al1 wr (.cells #[.int .i64 2, .int .i64 1, .func (.func 67) #[] #[]] 77)
      have HQ3 := Lib.hid (HQr.out.upb ha)
      have HX3 := Lib.hid (boxed_below HXr.out ha)
      have HB3 := Lib.hid (HBr.out.up ha)
      have HK3 := Lib.hid (HK.out.up ha)
      obtain ⟨br, hbr⟩ : ∃ n, wr.heap.size = n := ⟨_, rfl⟩
      obtain ⟨Wr, hWr⟩ : ∃ X, wr.alloc (.cells #[.int .i64 2, .int .i64 1, .func (.func 67) #[] #[]] 77) = X := ⟨_, rfl⟩
      rw [hWr] at HQ3 HX3 HB3 HK3 hne0 ⊢
      rw [hbr] at hne0 ⊢
      have HBR := Lib.hid hne0
      clear hne0 ha hWr hbr r0 r1 r2 lr lq lx xc qc0 qc1 qc2 qc3 qc4 HRr HQr HXr HBr HK
      refine (binding_is q A l.length cap 1 Wr).mono ?_
      rintro e X1 ⟨rfl, rfl⟩
      go_wp2_with (fail)
      refine (kept_any 71 _ _ _).mono ?_
      rintro e X2 ⟨rfl, rfl⟩
      go_wp2_with (fail)
      have HZ : ∃ z, ru1 q l = z := ⟨_, rfl⟩
      obtain ⟨z, hz⟩ := HZ
      refine (ext_kept q A cap l 1 (fun x => decide (extN 1 (-1) (bys 5 q l) < x.no)) w Wr br nq w.heap.size HV.out HB3.out hlen (fun x hx W2 h2 => ?_)).mono ?_
      · have h1 := (keptW_bel Wr q A l.length cap 1 br nq w.heap.size).up h2
        exact vd1_any q l A cap x br nq w.heap.size W2 (show W2.cell? ⟨br, 2, none⟩ = _ by simp [World.cell?, (h1.block br (Array.getElem?_eq_some_iff.1 HBR.out).1).trans HBR.out]) (HQ3.out.upb h1) (boxed_below HX3.out h1).cell (HV.out.upb (HB3.out.up h1)) hlen
      rintro e w5 ⟨he5, hb5⟩
      obtain rfl : e = .returned (.int .i64 z) := by rw [he5, ← hz]; rfl
      have h1 := (keptW_bel Wr q A l.length cap 1 br nq w.heap.size).up hb5
      have HB5 := Lib.hid (HB3.out.up h1)
      have HK5 := Lib.hid (HK3.out.up h1)
      have rv : w5.cell? ⟨br, 0, none⟩ = some (.int .i64 2) := by simp [World.cell?, (h1.block br (Array.getElem?_eq_some_iff.1 HBR.out).1).trans HBR.out]
      have HZZ := Lib.hid hz
      clear he5 hb5 h1 hz HBR
      by_cases hzz : 0 ≤ z
      · have hzd : decide (0 ≤ z) = true := decide_eq_true hzz
        have HVV := Lib.hid (show verP l q = ⟨2, z, 0⟩ by
          have h := HN.out
          have hZ := HZZ.out
          rw [HVer.out, verR, hZ, if_pos hzz])
        clear hzz
        go_wp2_with (fail)
        go_ret3
        exact .of HVV.out HB5.out
      · have hzd : decide (0 ≤ z) = false := decide_eq_false hzz
        have HN2 := Lib.hid (show (0 < 0 + 1 → ru1 q l < 0) ∧ (1 < 0 + 1 → ru2 q l < 0) ∧ (2 < 0 + 1 → ru3 q l < 0) by
          have h := HN.out
          have hZ := HZZ.out
          refine ⟨fun _ => ?_, fun h1 => ?_, fun h1 => ?_⟩
          · rw [hZ]; omega
          · omega
          · omega)
        clear hzz rv
        go_wp2_with (fail)
        go_roundw
        case rel => exact ⟨0 + 1, by omega, by go_num, HN2, HK5⟩
        case measure => first | omega | (simp [intOf]; omega) | (simp [intOf])
    · have r0 := HRr.out.cell 3 _ rfl
      have r1 := HRr.out.cell 4 _ rfl
      have r2 := HRr.out.cell 5 _ rfl
      have lr := cell_lt r0
      dsimp only at lr
      go_wp2_with (fail)
      have hne0 := World.alloc_heap_new wr (.cells #[.int .i64 2, .int .i64 2, .func (.func 68) #[] #[]] 77)
      have ha := al1 wr (.cells #[.int .i64 2, .int .i64 2, .func (.func 68) #[] #[]] 77)
      have HQ3 := Lib.hid (HQr.out.upb ha)
      have HX3 := Lib.hid (boxed_below HXr.out ha)
      have HB3 := Lib.hid (HBr.out.up ha)
      have HK3 := Lib.hid (HK.out.up ha)
      obtain ⟨br, hbr⟩ : ∃ n, wr.heap.size = n := ⟨_, rfl⟩
      obtain ⟨Wr, hWr⟩ : ∃ X, wr.alloc (.cells #[.int .i64 2, .int .i64 2, .func (.func 68) #[] #[]] 77) = X := ⟨_, rfl⟩
      rw [hWr] at HQ3 HX3 HB3 HK3 hne0 ⊢
      rw [hbr] at hne0 ⊢
      have HBR := Lib.hid hne0
      clear hne0 ha hWr hbr r0 r1 r2 lr lq lx xc qc0 qc1 qc2 qc3 qc4 HRr HQr HXr HBr HK
      refine (binding_is q A l.length cap 2 Wr).mono ?_
      rintro e X1 ⟨rfl, rfl⟩
      go_wp2_with (fail)
      refine (kept_any 71 _ _ _).mono ?_
      rintro e X2 ⟨rfl, rfl⟩
      go_wp2_with (fail)
      have HZ : ∃ z, ru2 q l = z := ⟨_, rfl⟩
      obtain ⟨z, hz⟩ := HZ
      refine (ext_kept q A cap l 2 (fun _ => decide (extN 1 (-1) (bys 4 q l) < 0)) w Wr br nq w.heap.size HV.out HB3.out hlen (fun x hx W2 h2 => ?_)).mono ?_
      · have h1 := (keptW_bel Wr q A l.length cap 2 br nq w.heap.size).up h2
        exact vd2_any q l A cap x br nq w.heap.size W2 (show W2.cell? ⟨br, 2, none⟩ = _ by simp [World.cell?, (h1.block br (Array.getElem?_eq_some_iff.1 HBR.out).1).trans HBR.out]) (HQ3.out.upb h1) (boxed_below HX3.out h1).cell (HV.out.upb (HB3.out.up h1)) hlen
      rintro e w5 ⟨he5, hb5⟩
      obtain rfl : e = .returned (.int .i64 z) := by rw [he5, ← hz]; rfl
      have h1 := (keptW_bel Wr q A l.length cap 2 br nq w.heap.size).up hb5
      have HB5 := Lib.hid (HB3.out.up h1)
      have HK5 := Lib.hid (HK3.out.up h1)
      have rv : w5.cell? ⟨br, 0, none⟩ = some (.int .i64 2) := by simp [World.cell?, (h1.block br (Array.getElem?_eq_some_iff.1 HBR.out).1).trans HBR.out]
      have HZZ := Lib.hid hz
      clear he5 hb5 h1 hz HBR
      by_cases hzz : 0 ≤ z
      · have hzd : decide (0 ≤ z) = true := decide_eq_true hzz
        have HVV := Lib.hid (show verP l q = ⟨2, z, 0⟩ by
          have h := HN.out
          have hZ := HZZ.out
          rw [HVer.out, verR, if_neg (by have := h.1 (by omega); omega), hZ, if_pos hzz])
        clear hzz
        go_wp2_with (fail)
        go_ret3
        exact .of HVV.out HB5.out
      · have hzd : decide (0 ≤ z) = false := decide_eq_false hzz
        have HN2 := Lib.hid (show (0 < 1 + 1 → ru1 q l < 0) ∧ (1 < 1 + 1 → ru2 q l < 0) ∧ (2 < 1 + 1 → ru3 q l < 0) by
          have h := HN.out
          have hZ := HZZ.out
          refine ⟨fun _ => ?_, fun h1 => ?_, fun h1 => ?_⟩
          · exact h.1 (by omega)
          · rw [hZ]; omega
          · omega)
        clear hzz rv
        go_wp2_with (fail)
        go_roundw
        case rel => exact ⟨1 + 1, by omega, by go_num, HN2, HK5⟩
        case measure => first | omega | (simp [intOf]; omega) | (simp [intOf])
    · have r0 := HRr.out.cell 6 _ rfl
      have r1 := HRr.out.cell 7 _ rfl
      have r2 := HRr.out.cell 8 _ rfl
      have lr := cell_lt r0
      dsimp only at lr
      go_wp2_with (fail)
      have hne0 := World.alloc_heap_new wr (.cells #[.int .i64 1, .int .i64 3, .func (.func 69) #[] #[]] 77)
      have ha := al1 wr (.cells #[.int .i64 1, .int .i64 3, .func (.func 69) #[] #[]] 77)
      have HQ3 := Lib.hid (HQr.out.upb ha)
      have HX3 := Lib.hid (boxed_below HXr.out ha)
      have HB3 := Lib.hid (HBr.out.up ha)
      have HK3 := Lib.hid (HK.out.up ha)
      obtain ⟨br, hbr⟩ : ∃ n, wr.heap.size = n := ⟨_, rfl⟩
      obtain ⟨Wr, hWr⟩ : ∃ X, wr.alloc (.cells #[.int .i64 1, .int .i64 3, .func (.func 69) #[] #[]] 77) = X := ⟨_, rfl⟩
      rw [hWr] at HQ3 HX3 HB3 HK3 hne0 ⊢
      rw [hbr] at hne0 ⊢
      have HBR := Lib.hid hne0
      clear hne0 ha hWr hbr r0 r1 r2 lr lq lx xc qc0 qc1 qc2 qc3 qc4 HRr HQr HXr HBr HK
      refine (binding_is q A l.length cap 3 Wr).mono ?_
      rintro e X1 ⟨rfl, rfl⟩
      go_wp2_with (fail)
      refine (kept_any 71 _ _ _).mono ?_
      rintro e X2 ⟨rfl, rfl⟩
      go_wp2_with (fail)
      have HZ : ∃ z, ru3 q l = z := ⟨_, rfl⟩
      obtain ⟨z, hz⟩ := HZ
      refine (ext_kept q A cap l 3 (fun x => decide (q.at_ < q.beg + x.ms)) w Wr br nq w.heap.size HV.out HB3.out hlen (fun x hx W2 h2 => ?_)).mono ?_
      · have h1 := (keptW_bel Wr q A l.length cap 3 br nq w.heap.size).up h2
        exact vd3_any q l A cap x br nq w.heap.size W2 (show W2.cell? ⟨br, 2, none⟩ = _ by simp [World.cell?, (h1.block br (Array.getElem?_eq_some_iff.1 HBR.out).1).trans HBR.out]) (HQ3.out.upb h1) (boxed_below HX3.out h1).cell (HV.out.upb (HB3.out.up h1)) hbeg (bys_ms hx)
      rintro e w5 ⟨he5, hb5⟩
      obtain rfl : e = .returned (.int .i64 z) := by rw [he5, ← hz]; rfl
      have h1 := (keptW_bel Wr q A l.length cap 3 br nq w.heap.size).up hb5
      have HB5 := Lib.hid (HB3.out.up h1)
      have HK5 := Lib.hid (HK3.out.up h1)
      have rv : w5.cell? ⟨br, 0, none⟩ = some (.int .i64 1) := by simp [World.cell?, (h1.block br (Array.getElem?_eq_some_iff.1 HBR.out).1).trans HBR.out]
      have HZZ := Lib.hid hz
      clear he5 hb5 h1 hz HBR
      by_cases hzz : 0 ≤ z
      · have hzd : decide (0 ≤ z) = true := decide_eq_true hzz
        have HVV := Lib.hid (show verP l q = ⟨1, z, 0⟩ by
          have h := HN.out
          have hZ := HZZ.out
          rw [HVer.out, verR, if_neg (by have := h.1 (by omega); omega), if_neg (by have := h.2.1 (by omega); omega), hZ, if_pos hzz])
        clear hzz
        go_wp2_with (fail)
        go_ret3
        exact .of HVV.out HB5.out
      · have hzd : decide (0 ≤ z) = false := decide_eq_false hzz
        have HN2 := Lib.hid (show (0 < 2 + 1 → ru1 q l < 0) ∧ (1 < 2 + 1 → ru2 q l < 0) ∧ (2 < 2 + 1 → ru3 q l < 0) by
          have h := HN.out
          have hZ := HZZ.out
          refine ⟨fun _ => ?_, fun h1 => ?_, fun h1 => ?_⟩
          · exact h.1 (by omega)
          · exact h.2.1 (by omega)
          · rw [hZ]; omega)
        clear hzz rv
        go_wp2_with (fail)
        go_roundw
        case rel => exact ⟨2 + 1, by omega, by go_num, HN2, HK5⟩
        case measure => first | omega | (simp [intOf]; omega) | (simp [intOf])
    · have HVV := Lib.hid (show verP l q = ⟨0, -1, 0⟩ by
        have h := HN.out
        rw [HVer.out, verR, if_neg (by have := h.1 (by omega); omega), if_neg (by have := h.2.1 (by omega); omega), if_neg (by have := h.2.2 (by omega); omega)])
      clear lq lx xc qc0 qc1 qc2 qc3 qc4
      go_wp2_with (fail)
      go_ret3
      exact .of HVV.out HBr.out

end Go.Proofs.Ytninnpcggeofmaa
