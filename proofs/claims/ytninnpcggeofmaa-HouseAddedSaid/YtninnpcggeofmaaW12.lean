/- Walks of the rules. -/
import Derived.Test.YtninnpcggeofmaaW11
import Derived.Deep.RegionHeld3
namespace Go.Proofs.Ytninnpcggeofmaa
open Go.RowKit
set_option linter.unusedVariables false
set_option linter.unusedSimpArgs false
attribute [local go_sem] frozen_new Oper.semAt_some

/-- a box that holds a question -/
def BoxQ (W : World) (B : Nat) (q : Hh.Qq) : Prop := W.heap[B]? = some (.cells #[.int .i64 q.spk, .int .i64 q.beg, .int .i64 q.lang, .int .i64 q.at_, .int .i64 q.known] 72 (0, 0))
theorem BoxQ.new (W : World) (q : Hh.Qq) : BoxQ (W.alloc (.cells #[.int .i64 q.spk, .int .i64 q.beg, .int .i64 q.lang, .int .i64 q.at_, .int .i64 q.known] 72)) W.heap.size q := World.alloc_heap_new W _
theorem BoxQ.lt {W : World} {B : Nat} {q : Hh.Qq} (hb : BoxQ W B q) : B < W.heap.size := (Array.getElem?_eq_some_iff.1 hb).1
theorem BoxQ.upb {W W' : World} {B : Nat} {q : Hh.Qq} (hb : BoxQ W B q) (hk : Below W.heap.size W W') : BoxQ W' B q := (hk.block B hb.lt).trans hb
theorem BoxQ.c0 {W : World} {B : Nat} {q : Hh.Qq} (hb : BoxQ W B q) : W.cell? ⟨B, 0, none⟩ = some (.int .i64 q.spk) := by simp [World.cell?, show W.heap[B]? = _ from hb]
theorem BoxQ.c1 {W : World} {B : Nat} {q : Hh.Qq} (hb : BoxQ W B q) : W.cell? ⟨B, 1, none⟩ = some (.int .i64 q.beg) := by simp [World.cell?, show W.heap[B]? = _ from hb]
theorem BoxQ.c2 {W : World} {B : Nat} {q : Hh.Qq} (hb : BoxQ W B q) : W.cell? ⟨B, 2, none⟩ = some (.int .i64 q.lang) := by simp [World.cell?, show W.heap[B]? = _ from hb]
theorem BoxQ.c3 {W : World} {B : Nat} {q : Hh.Qq} (hb : BoxQ W B q) : W.cell? ⟨B, 3, none⟩ = some (.int .i64 q.at_) := by simp [World.cell?, show W.heap[B]? = _ from hb]
theorem BoxQ.c4 {W : World} {B : Nat} {q : Hh.Qq} (hb : BoxQ W B q) : W.cell? ⟨B, 4, none⟩ = some (.int .i64 q.known) := by simp [World.cell?, show W.heap[B]? = _ from hb]
/-- what binding makes -/
def bindW (w' : World) (q : Hh.Qq) (A : Option Addr) (n cap : Nat) (kind : Int) : World := ((w'.alloc (.cells #[.int .i64 q.spk, .int .i64 q.beg, .int .i64 q.lang, .int .i64 q.at_, .int .i64 q.known] 72)).alloc (.cells #[.slice A n cap] 22)).alloc (.cells #[.int .i64 kind] 3)
theorem bindW_bel (w' : World) (q : Hh.Qq) (A : Option Addr) (n cap : Nat) (kind : Int) : Below w'.heap.size w' (bindW w' q A n cap kind) := ((al1 w' _).up (al1 _ _)).up (al1 _ _)
theorem bindW_size (w' : World) (q : Hh.Qq) (A : Option Addr) (n cap : Nat) (kind : Int) : (bindW w' q A n cap kind).heap.size = w'.heap.size + 1 + 1 + 1 := by unfold bindW; simp
def protB (n n0 : Nat) : Nat → Prop := protW (n + 1) (n + 1 + 1) n n0
theorem binding_hit (q : Hh.Qq) (A : Option Addr) (cap : Nat) (l : List Hh) (kind : Int) (w0 w' : World) (hv : IsHs w0 (.slice A l.length cap) l) (hb : Below w0.heap.size w0 w') (hl : l.length ≤ 1024) (W' : World) (hW : Below (bindW w' q A l.length cap kind).heap.size (bindW w' q A l.length cap kind) W') :
    Iter Try.prog 71 #[.pointer (some ⟨w'.heap.size + 1, 0, none⟩), .pointer (some ⟨w'.heap.size + 1 + 1, 0, none⟩), .pointer (some ⟨w'.heap.size, 0, none⟩)] encV (bys kind q l) (protB w'.heap.size w0.heap.size) W' := by
  have hq : BoxQ W' w'.heap.size q := (((BoxQ.new w' q).upb (al1 _ _)).upb (al1 _ _)).upb hW
  have hb2 : Boxed (bindW w' q A l.length cap kind) (w'.heap.size + 1) 22 (.slice A l.length cap) := by
    have := Boxed.new (w'.alloc (.cells #[.int .i64 q.spk, .int .i64 q.beg, .int .i64 q.lang, .int .i64 q.at_, .int .i64 q.known] 72)) 22 (.slice A l.length cap)
    simp only [World.size_alloc] at this
    exact this.alloc _
  have hb3 : Boxed (bindW w' q A l.length cap kind) (w'.heap.size + 1 + 1) 3 (.int .i64 kind) := by
    have := Boxed.new ((w'.alloc (.cells #[.int .i64 q.spk, .int .i64 q.beg, .int .i64 q.lang, .int .i64 q.at_, .int .i64 q.known] 72)).alloc (.cells #[.slice A l.length cap] 22)) 3 (.int .i64 kind)
    simp only [World.size_alloc] at this
    exact this
  exact binding_iter _ _ _ l A cap kind q w0 W' (boxed_below hb2 hW).cell (boxed_below hb3 hW).cell hq.c0 hq.c1 hq.c2 hq.c3 hq.c4 hv ((hb.up (bindW_bel w' q A l.length cap kind)).up hW) hl
theorem protB_lt {n n0 b : Nat} (h : protB n n0 b) (h0 : n0 ≤ n) : b < n + 1 + 1 + 1 := by
  rcases h with h | h | h | h <;> omega
theorem ext_binding (q : Hh.Qq) (A : Option Addr) (cap : Nat) (l : List Hh) (kind ord z0 : Int) (w0 w' : World) (hv : IsHs w0 (.slice A l.length cap) l) (hb : Below w0.heap.size w0 w') (hl : l.length ≤ 1024) :
    Calls Try.prog 55 #[.func (.func 71) #[] #[.pointer (some ⟨w'.heap.size + 1, 0, none⟩), .pointer (some ⟨w'.heap.size + 1 + 1, 0, none⟩), .pointer (some ⟨w'.heap.size, 0, none⟩)], .func (.func 56) #[] #[], .int .i64 ord, .int .i64 z0] (bindW w' q A l.length cap kind) (IPost (extN ord z0 (bys kind q l)) (bindW w' q A l.length cap kind)) := by
  refine extreme_any 71 _ (bys kind q l) (protB w'.heap.size w0.heap.size) ord z0 _ (enters_of Try.func71 (by kernel_rfl) rfl) (fun b h => ?_) (fun W' hW => ?_)
  · rw [bindW_size]; exact protB_lt h hb.size
  · exact (binding_hit q A cap l kind w0 w' hv hb hl W' hW).to2 (fun b h => .inr h)
theorem binding_is (q : Hh.Qq) (A : Option Addr) (n c : Nat) (kind : Int) (w : World) : Calls Try.prog 53 #[wordV q, .slice A n c, .int .i64 kind] w fun e w' => e = .returned (.func (.func 71) #[] #[.pointer (some ⟨w.heap.size + 1, 0, none⟩), .pointer (some ⟨w.heap.size + 1 + 1, 0, none⟩), .pointer (some ⟨w.heap.size, 0, none⟩)]) ∧ bindW w q A n c kind = w' := binding_any q A n c kind w

def ruleP (w : World) (A : Option Addr) (cap : Nat) (l : List Hh) : Prop := IsHs w (.slice A l.length cap) l

set_option maxHeartbeats 4000000 in
theorem rule1_any (q : Hh.Qq) (l : List Hh) (A : Option Addr) (cap : Nat) (h : Hh) (w : World) (hv : IsHs w (.slice A l.length cap) l) (hl : l.length ≤ 1024) : Calls Try.prog 67 #[wordV q, .slice A l.length cap, vH h] w (BPost (decide (extN 1 (-1) (bys 5 q l) < h.no)) w) := by
  have HV := Lib.hid hv
  have HQ0 := BoxQ.new w q
  have HH0 := BoxH.new (w.alloc (.cells #[.int .i64 q.spk, .int .i64 q.beg, .int .i64 q.lang, .int .i64 q.at_, .int .i64 q.known] 72)) h
  simp only [World.size_alloc] at HH0
  have HQ1 := HQ0.upb (al1 _ (.cells #[.int .i64 h.no, .int .i64 h.kind, .int .i64 h.spk, .int .i64 h.fst, .int .i64 h.lst, .int .i64 h.lang, .int .i64 h.frm, .int .i64 h.unt, .int .i64 h.known, .int .i64 h.ms] 24))
  have HBL := Lib.hid ((al1 w (.cells #[.int .i64 q.spk, .int .i64 q.beg, .int .i64 q.lang, .int .i64 q.at_, .int .i64 q.known] 72)).up (al1 _ (.cells #[.int .i64 h.no, .int .i64 h.kind, .int .i64 h.spk, .int .i64 h.fst, .int .i64 h.lst, .int .i64 h.lang, .int .i64 h.frm, .int .i64 h.unt, .int .i64 h.known, .int .i64 h.ms] 24)))
  have HQ := Lib.hid HQ1
  have HH := Lib.hid HH0
  unfold wordV vH BPost
  clear hv HQ0 HQ1 HH0
  obtain ⟨z, hz⟩ : ∃ z, extN 1 (-1) (bys 5 q l) = z := ⟨_, rfl⟩
  have HZ := Lib.hid hz
  rw [hz]
  clear hz
  go_enter Try.func67, Try.ntmps67
  go_wp2_with (fail)
  obtain ⟨W, hW⟩ : ∃ W, (w.alloc (.cells #[.int .i64 q.spk, .int .i64 q.beg, .int .i64 q.lang, .int .i64 q.at_, .int .i64 q.known] 72)).alloc (.cells #[.int .i64 h.no, .int .i64 h.kind, .int .i64 h.spk, .int .i64 h.fst, .int .i64 h.lst, .int .i64 h.lang, .int .i64 h.frm, .int .i64 h.unt, .int .i64 h.known, .int .i64 h.ms] 24) = W := ⟨_, rfl⟩
  rw [hW] at HBL HQ HH ⊢
  clear hW
  have w0 := HQ.out.c0
  have w1 := HQ.out.c1
  have w2 := HQ.out.c2
  have w3 := HQ.out.c3
  have w4 := HQ.out.c4
  have q0 := HH.out.c0
  go_region_held3 (fun X => X.cell? ⟨w.heap.size, 0, none⟩ = some (.int .i64 q.spk) ∧ X.cell? ⟨w.heap.size, 1, none⟩ = some (.int .i64 q.beg) ∧ X.cell? ⟨w.heap.size, 2, none⟩ = some (.int .i64 q.lang) ∧ X.cell? ⟨w.heap.size, 3, none⟩ = some (.int .i64 q.at_) ∧ X.cell? ⟨w.heap.size, 4, none⟩ = some (.int .i64 q.known) ∧ X.cell? ⟨w.heap.size + 1, 0, none⟩ = some (.int .i64 h.no))
    (first
      | exact ⟨w0, w1, w2, w3, w4, q0⟩
      | exact ⟨HQ2.out.c0, HQ2.out.c1, HQ2.out.c2, HQ2.out.c3, HQ2.out.c4, HH2.out.c0⟩
      | exact ⟨HQ3.out.c0, HQ3.out.c1, HQ3.out.c2, HQ3.out.c3, HQ3.out.c4, HH3.out.c0⟩)
    (first
      | (go_at_call 53
         refine (binding_is q A l.length cap 5 _).mono ?_
         rintro e X1 ⟨rfl, rfl⟩
         have HQ2 := Lib.hid ((show BoxQ W.drew w.heap.size q from HQ.out).upb (bindW_bel W.drew q A l.length cap 5))
         have HH2 := Lib.hid ((show BoxH W.drew (w.heap.size + 1) h from HH.out).upb (bindW_bel W.drew q A l.length cap 5)))
      | (go_at_call 55
         refine (ext_binding q A cap l 5 1 (-1) w W.drew HV.out (below_drewN HBL.out 1) hl).mono ?_
         rintro e X2 ⟨rfl, hb2⟩
         rw [HZ.out]
         have HQ3 := Lib.hid (HQ2.out.upb hb2)
         have HH3 := Lib.hid (HH2.out.upb hb2)
         have HB3 := Lib.hid (((below_drewN HBL.out 1).up (bindW_bel W.drew q A l.length cap 5)).up hb2)
         clear hb2))
  all_goals
    go_wp2_with (fail)
    go_ret
    exact ⟨rfl, HB3.out⟩

set_option maxHeartbeats 4000000 in
theorem rule2_any (q : Hh.Qq) (l : List Hh) (A : Option Addr) (cap : Nat) (h : Hh) (w : World) (hv : IsHs w (.slice A l.length cap) l) (hl : l.length ≤ 1024) : Calls Try.prog 68 #[wordV q, .slice A l.length cap, vH h] w (BPost (decide (extN 1 (-1) (bys 4 q l) < 0)) w) := by
  have HV := Lib.hid hv
  have HBL := Lib.hid ((al1 w (.cells #[.int .i64 q.spk, .int .i64 q.beg, .int .i64 q.lang, .int .i64 q.at_, .int .i64 q.known] 72)).up (al1 _ (.cells #[.int .i64 h.no, .int .i64 h.kind, .int .i64 h.spk, .int .i64 h.fst, .int .i64 h.lst, .int .i64 h.lang, .int .i64 h.frm, .int .i64 h.unt, .int .i64 h.known, .int .i64 h.ms] 24)))
  unfold wordV vH BPost
  clear hv
  obtain ⟨z, hz⟩ : ∃ z, extN 1 (-1) (bys 4 q l) = z := ⟨_, rfl⟩
  have HZ := Lib.hid hz
  rw [hz]
  clear hz
  go_enter Try.func68, Try.ntmps68
  go_wp2_with (fail)
  obtain ⟨W, hW⟩ : ∃ W, (w.alloc (.cells #[.int .i64 q.spk, .int .i64 q.beg, .int .i64 q.lang, .int .i64 q.at_, .int .i64 q.known] 72)).alloc (.cells #[.int .i64 h.no, .int .i64 h.kind, .int .i64 h.spk, .int .i64 h.fst, .int .i64 h.lst, .int .i64 h.lang, .int .i64 h.frm, .int .i64 h.unt, .int .i64 h.known, .int .i64 h.ms] 24) = W := ⟨_, rfl⟩
  rw [hW] at HBL ⊢
  clear hW
  refine (binding_is q A l.length cap 4 W).mono ?_
  rintro e X1 ⟨rfl, rfl⟩
  go_wp2_with (fail)
  refine (ext_binding q A cap l 4 1 (-1) w W HV.out HBL.out hl).mono ?_
  rintro e X2 ⟨rfl, hb2⟩
  rw [HZ.out]
  go_wp2_with (fail)
  go_ret
  exact ⟨rfl, (HBL.out.up (bindW_bel _ q A l.length cap 4)).up hb2⟩

theorem rule3_any (q : Hh.Qq) (l : List Hh) (A : Option Addr) (cap : Nat) (h : Hh) (w : World) (hb : 0 ≤ q.beg ∧ q.beg ≤ 1099511627775) (hm : 0 ≤ h.ms ∧ h.ms ≤ 1073741824) : Calls Try.prog 69 #[wordV q, .slice A l.length cap, vH h] w (BPost (decide (q.at_ < q.beg + h.ms)) w) := by
  have HQ0 := BoxQ.new w q
  have HH0 := BoxH.new (w.alloc (.cells #[.int .i64 q.spk, .int .i64 q.beg, .int .i64 q.lang, .int .i64 q.at_, .int .i64 q.known] 72)) h
  simp only [World.size_alloc] at HH0
  have HQ1 := HQ0.upb (al1 _ (.cells #[.int .i64 h.no, .int .i64 h.kind, .int .i64 h.spk, .int .i64 h.fst, .int .i64 h.lst, .int .i64 h.lang, .int .i64 h.frm, .int .i64 h.unt, .int .i64 h.known, .int .i64 h.ms] 24))
  have w1 := HQ1.c1
  have w3 := HQ1.c3
  have q9 := HH0.c9
  have hw : IntKind.i64.wrap (q.beg + h.ms) = q.beg + h.ms := by rw [IntKind.wrap_i64]; omega
  have HBL := Lib.hid ((al1 w (.cells #[.int .i64 q.spk, .int .i64 q.beg, .int .i64 q.lang, .int .i64 q.at_, .int .i64 q.known] 72)).up (al1 _ (.cells #[.int .i64 h.no, .int .i64 h.kind, .int .i64 h.spk, .int .i64 h.fst, .int .i64 h.lst, .int .i64 h.lang, .int .i64 h.frm, .int .i64 h.unt, .int .i64 h.known, .int .i64 h.ms] 24)))
  unfold wordV vH BPost
  clear HQ0 HQ1 HH0
  go_enter Try.func69, Try.ntmps69
  go_wp2_with (fail)
  go_ret
  exact ⟨rfl, HBL.out⟩
theorem rules_any (w : World) : Calls Try.prog 51 #[] w fun e w' => e = .returned (.slice (some ⟨w.heap.size, 0, none⟩) 3 3) ∧ w.alloc (.cells #[.int .i64 2, .int .i64 1, .func (.func 67) #[] #[], .int .i64 2, .int .i64 2, .func (.func 68) #[] #[], .int .i64 1, .int .i64 3, .func (.func 69) #[] #[]] 77) = w' := by
  go_enter Try.func51, Try.ntmps51
  go_wp2_with (fail)
  go_ret
  exact ⟨rfl, rfl⟩

theorem vd1_any (q : Hh.Qq) (l : List Hh) (A : Option Addr) (cap : Nat) (x : Hh) (br bw bl : Nat) (W : World) (hr : W.cell? ⟨br, 2, none⟩ = some (.func (.func 67) #[] #[])) (hq : BoxQ W bw q) (hL : W.cell? ⟨bl, 0, none⟩ = some (.slice A l.length cap)) (hv : IsHs W (.slice A l.length cap) l) (hl : l.length ≤ 1024) :
    Calls Try.prog 54 #[vH x, .pointer (some ⟨br, 0, none⟩), .pointer (some ⟨bw, 0, none⟩), .pointer (some ⟨bl, 0, none⟩)] W (BPost (decide (extN 1 (-1) (bys 5 q l) < x.no)) W) := by
  have HV := Lib.hid hv
  have l1 := cell_lt hr
  have l2 := hq.lt
  have l3 := cell_lt hL
  dsimp only at l1 l3
  have w0 := hq.c0
  have w1 := hq.c1
  have w2 := hq.c2
  have w3 := hq.c3
  have w4 := hq.c4
  have hvv : vH x = vH x := rfl
  unfold vH
  clear hvv hv hq
  go_enter Try.func54, Try.ntmps54
  go_wp2_with (fail)
  refine (rule1_any q l A cap x _ (HV.out.upb ((al1 W _))) hl).mono ?_
  rintro e w5 ⟨rfl, hb5⟩
  go_wp2_with (fail)
  go_ret
  exact ⟨rfl, (al1 W _).up hb5⟩

theorem vd2_any (q : Hh.Qq) (l : List Hh) (A : Option Addr) (cap : Nat) (x : Hh) (br bw bl : Nat) (W : World) (hr : W.cell? ⟨br, 2, none⟩ = some (.func (.func 68) #[] #[])) (hq : BoxQ W bw q) (hL : W.cell? ⟨bl, 0, none⟩ = some (.slice A l.length cap)) (hv : IsHs W (.slice A l.length cap) l) (hl : l.length ≤ 1024) :
    Calls Try.prog 54 #[vH x, .pointer (some ⟨br, 0, none⟩), .pointer (some ⟨bw, 0, none⟩), .pointer (some ⟨bl, 0, none⟩)] W (BPost (decide (extN 1 (-1) (bys 4 q l) < 0)) W) := by
  have HV := Lib.hid hv
  have l1 := cell_lt hr
  have l2 := hq.lt
  have l3 := cell_lt hL
  dsimp only at l1 l3
  have w0 := hq.c0
  have w1 := hq.c1
  have w2 := hq.c2
  have w3 := hq.c3
  have w4 := hq.c4
  have hvv : vH x = vH x := rfl
  unfold vH
  clear hvv hv hq
  go_enter Try.func54, Try.ntmps54
  go_wp2_with (fail)
  refine (rule2_any q l A cap x _ (HV.out.upb ((al1 W _))) hl).mono ?_
  rintro e w5 ⟨rfl, hb5⟩
  go_wp2_with (fail)
  go_ret
  exact ⟨rfl, (al1 W _).up hb5⟩

theorem vd3_any (q : Hh.Qq) (l : List Hh) (A : Option Addr) (cap : Nat) (x : Hh) (br bw bl : Nat) (W : World) (hr : W.cell? ⟨br, 2, none⟩ = some (.func (.func 69) #[] #[])) (hq : BoxQ W bw q) (hL : W.cell? ⟨bl, 0, none⟩ = some (.slice A l.length cap)) (hv : IsHs W (.slice A l.length cap) l) (hb : 0 ≤ q.beg ∧ q.beg ≤ 1099511627775) (hm : 0 ≤ x.ms ∧ x.ms ≤ 1073741824) :
    Calls Try.prog 54 #[vH x, .pointer (some ⟨br, 0, none⟩), .pointer (some ⟨bw, 0, none⟩), .pointer (some ⟨bl, 0, none⟩)] W (BPost (decide (q.at_ < q.beg + x.ms)) W) := by
  have HV := Lib.hid hv
  have l1 := cell_lt hr
  have l2 := hq.lt
  have l3 := cell_lt hL
  dsimp only at l1 l3
  have w0 := hq.c0
  have w1 := hq.c1
  have w2 := hq.c2
  have w3 := hq.c3
  have w4 := hq.c4
  have hvv : vH x = vH x := rfl
  unfold vH
  clear hvv hv hq
  go_enter Try.func54, Try.ntmps54
  go_wp2_with (fail)
  refine (rule3_any q l A cap x _ hb hm).mono ?_
  rintro e w5 ⟨rfl, hb5⟩
  go_wp2_with (fail)
  go_ret
  exact ⟨rfl, (al1 W _).up hb5⟩

end Go.Proofs.Ytninnpcggeofmaa
