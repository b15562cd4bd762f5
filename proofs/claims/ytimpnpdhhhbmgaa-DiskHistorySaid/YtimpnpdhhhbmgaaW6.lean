/- Walks of slices.Backward over writes, and of Read. -/
import Derived.Test.YtimpnpdhhhbmgaaW5
import Derived.Test.YtimpnpdhhhbmgaaMarks
import Derived.OwnWalkIn
namespace Go.Proofs.Ytimpnpdhhhbmgaa
open Go.RowKit
set_option linter.unusedVariables false
set_option linter.unusedSimpArgs false
attribute [local go_sem] Oper.semAt_some

theorem row_at {w : World} {A : Option Addr} {ps : List Wr} {vs : List Value} (hl : vs.length = ps.length) (hr : RowAt w A (rowW ps vs)) {k : Nat} (hk : k < ps.length) (hk' : k < vs.length) :
    ∃ b off, A = some ⟨b, off, none⟩ ∧ b < w.heap.size ∧ w.cell? ⟨b, off + k * 2, none⟩ = some (.int .i64 ps[k].at_) ∧ w.cell? ⟨b, off + k * 2 + 1, none⟩ = some vs[k] := by
  obtain ⟨h1, h2⟩ := rowW_at hl hk hk'
  have hn := rowW_len hl
  obtain ⟨b, off, e, hb, hc⟩ := hr.at_ (k := k * 2) (by omega)
  obtain ⟨b', off', e', _, hc'⟩ := hr.at_ (k := k * 2 + 1) (by omega)
  rw [e] at e'
  injection e' with e'
  injection e' with e1 e2
  subst e1 e2
  rw [← List.getElem?_eq_getElem (by omega), h1] at hc
  rw [← List.getElem?_eq_getElem (by omega), h2] at hc'
  exact ⟨b, off, e, hb, hc, hc'⟩

def encD (q : Nat × Value) : Array Value := #[.int .i64 q.1, q.2]
def dW (ps : List Wr) (vs : List Value) : List (Nat × Value) := (List.range ps.length).map fun k => (ps.length - 1 - k, .agg #[.int .i64 ((ps[ps.length - 1 - k]?.map Wr.at_).getD 0), vs[ps.length - 1 - k]?.getD undef])
theorem dW_length (ps : List Wr) (vs : List Value) : (dW ps vs).length = ps.length := by simp [dW]
theorem dW_at (ps : List Wr) (vs : List Value) (k : Nat) (h : k < (dW ps vs).length) (p : Nat) (hp : p + k + 1 = ps.length) (hpl : p < ps.length) (hpv : p < vs.length) : (dW ps vs)[k] = (p, .agg #[.int .i64 ps[p].at_, vs[p]]) := by
  simp only [dW, List.getElem_map, List.getElem_range]
  rw [show ps.length - 1 - k = p by omega, List.getElem?_eq_getElem (by omega), List.getElem?_eq_getElem (by omega)]
  rfl
def protB (bd n0 : Nat) : Nat → Prop := fun b => b = bd ∨ b < n0

set_option maxHeartbeats 1000000 in
theorem back_iter (bd : Nat) (A : Option Addr) (cap : Nat) (ps : List Wr) (vs : List Value) (w0 W : World) (hd : W.cell? ⟨bd, 0, none⟩ = some (.slice A ps.length cap))
    (hlv : vs.length = ps.length) (hr : RowAt w0 A (rowW ps vs)) (hb0 : Below w0.heap.size w0 W) (hl : ps.length ≤ 9223372036854775807) :
    Iter Try.prog 45 #[.pointer (some ⟨bd, 0, none⟩)] encD (dW ps vs) (protB bd w0.heap.size) W := by
  intro la J Jx hJ hJx hY h0
  have HR := Lib.hid hr
  have HD := Lib.hid hd
  have HY := Lib.hid hY
  have HB0 := Lib.hid hb0
  have HLV := Lib.hid hlv
  have hdl := dW_length ps vs
  have HDL := Lib.hid hdl
  clear hr hY hJ hJx hb0 hdl hlv
  refine callsIn_of_wp Try.func45 rfl trivial ?_ rfl
  simp only [Try.ntmps45, List.size_toArray, List.length_cons, List.length_nil, Nat.reduceAdd, Nat.reduceSub, Array.replicate_succ, Array.replicate_zero, List.push_toArray, List.append_toArray, List.nil_append, List.cons_append]
  gi_wp2
  gi_loopw [3] (fun i wr => ∃ k : Nat, k ≤ ps.length ∧ i = .int .i64 ((ps.length : Int) - 1 - k) ∧ J k wr ∧ RStep W.heap.size (protB bd w0.heap.size) W wr) (fun i _ => (intOf i + 1).toNat)
  case atStart => exact ⟨0, Nat.zero_le _, by simp, h0, RStep.refl _ _ _⟩
  case round =>
    obtain ⟨k, hk, rfl, hj, hs⟩ := hrel
    by_cases hlt : k < ps.length
    · obtain ⟨p, hp⟩ : ∃ p : Nat, p + k + 1 = ps.length := ⟨ps.length - k - 1, by omega⟩
      rw [show ((ps.length : Int) - 1 - k) = (p : Int) by omega]
      have hpl : p < ps.length := by omega
      have hpv : p < vs.length := by have := HLV.out; omega
      have HP := Lib.hid hp
      have hkd : k < (dW ps vs).length := by have := HDL.out; omega
      obtain ⟨b, off, rfl, hbb, hc0, hc1⟩ := row_at HLV.out HR.out hpl hpv
      have hc := hs.cell (.inr hbb) ((HB0.out.cell (p := ⟨b, off + p * 2, none⟩) hbb).trans hc0)
      have hc' := hs.cell (.inr hbb) ((HB0.out.cell (p := ⟨b, off + p * 2 + 1, none⟩) hbb).trans hc1)
      have hd' := hs.cell (.inl rfl) HD.out
      obtain ⟨fn, tmps, assign, body, hy, hR⟩ := HY.out k hkd wr hj
      rw [dW_at ps vs k hkd p hp hpl hpv] at hy
      have HRr := Lib.hid hR
      clear hc0 hc1 hR hp hd
      simp only [encD] at hy
      gi_wp2
      refine ⟨rfl, HRr.out.mono ?_⟩
      rintro e W3 (⟨rfl, hJ3, hs3⟩ | ⟨rfl, hJx3⟩)
      · gi_wp2
        go_roundw
        case rel => exact ⟨k + 1, by omega, by first | (congr 1; done) | (congr 1; have := HP.out; omega), hJ3, hs.trans hs3⟩
        case measure => first | omega | (simp [intOf]; done) | (simp [intOf]; omega)
      · gi_wp2
        refine bodyPost_ret (results_none rfl _ _ _) rfl ?_
        exact ⟨⟨_, rfl⟩, .inr ⟨_, hkd, hJx3⟩⟩
    · have hkx : k = ps.length := by omega
      rw [show ((ps.length : Int) - 1 - k) = -1 by omega]
      have HK := Lib.hid hkx
      clear hkx
      gi_wp2
      go_end0
      exact ⟨⟨_, rfl⟩, .inl (by rw [HDL.out, ← HK.out]; exact hj)⟩

set_option maxHeartbeats 400000 in
theorem back_any (v : Value) (w : World) (hv : ∃ A l c, v = .slice A l c) :
    Calls Try.prog 39 #[v] w fun e w' => e = .returned (.func (.func 45) #[] #[.pointer (some ⟨w.heap.size, 0, none⟩)]) ∧ w.alloc (.cells #[v] 23) = w' := by
  obtain ⟨A, l, c, rfl⟩ := hv
  go_enter Try.func39, Try.ntmps39
  go_wp2
  go_ret
  exact ⟨rfl, rfl⟩

/-- the boxes of Read -/
structure RdB (w X : World) (dcs : List Value) (a r e : Value) : Prop where
  d : Cells X w.heap.size 25 dcs
  a : Cells X (w.heap.size + 1) 3 [a]
  r : Cells X (w.heap.size + 1 + 1) 35 [r]
  e : Cells X (w.heap.size + 1 + 1 + 1) 28 [e]
  bel : Below w.heap.size w X
theorem Cells.istep {B : Nat} {W W' : World} {b : Nat} {t : TypeId} {cs : List Value} (h : Cells W b t cs) (hs : IStep B W W') : Cells W' b t cs := hs.block _ _ h (.inl rfl)
theorem RdB.istep {w X Y : World} {dcs : List Value} {a r e : Value} {B : Nat} (h : RdB w X dcs a r e) (hs : IStep B X Y) (hB : w.heap.size ≤ B) : RdB w Y dcs a r e :=
  ⟨h.d.istep hs, h.a.istep hs, h.r.istep hs, h.e.istep hs, h.bel.trans (hs.below hB h.bel.size)⟩
theorem RdB.upb {w X Y : World} {dcs : List Value} {a r e : Value} (h : RdB w X dcs a r e) (hs : Below X.heap.size X Y) : RdB w Y dcs a r e :=
  ⟨h.d.upb hs, h.a.upb hs, h.r.upb hs, h.e.upb hs, h.bel.up hs⟩
theorem rdB_new (w : World) (dcs : List Value) (a : Value) : RdB w ((((w.alloc (.cells dcs.toArray 25)).alloc (.cells #[a] 3)).alloc (.cells #[.slice none 0 0] 35)).alloc (.cells #[.int .i64 0] 28)) dcs a (.slice none 0 0) (.int .i64 0) := by
  have h1 := Cells.new w 25 dcs
  have h2 := Cells.new (w.alloc (.cells dcs.toArray 25)) 3 [a]
  have h3 := Cells.new ((w.alloc (.cells dcs.toArray 25)).alloc (.cells #[a] 3)) 35 [.slice none 0 0]
  have h4 := Cells.new (((w.alloc (.cells dcs.toArray 25)).alloc (.cells #[a] 3)).alloc (.cells #[.slice none 0 0] 35)) 28 [.int .i64 0]
  simp only [World.size_alloc] at h2 h3 h4
  exact ⟨((h1.upb (al1 _ _)).upb (al1 _ _)).upb (al1 _ _), (h2.upb (al1 _ _)).upb (al1 _ _), h3.upb (al1 _ _), h4, (((al1 _ _).up (al1 _ _)).up (al1 _ _)).up (al1 _ _)⟩
/-- the results are stored -/
theorem RdB.store {w X : World} {dcs : List Value} {a r e : Value} (h : RdB w X dcs a r e) (r' e' : Value) : RdB w ((X.setCell ⟨w.heap.size + 1 + 1, 0, none⟩ r').setCell ⟨w.heap.size + 1 + 1 + 1, 0, none⟩ e') dcs a r' e' :=
  ⟨(h.d.other (by omega) _ _).other (by omega) _ _, (h.a.other (by omega) _ _).other (by omega) _ _, (h.r.set r').other (by omega) _ _, (h.e.other (by omega) _ _).set e',
    (h.bel.setCell (p := ⟨w.heap.size + 1 + 1, 0, none⟩) (by show w.heap.size ≤ w.heap.size + 1 + 1; omega) _).setCell (p := ⟨w.heap.size + 1 + 1 + 1, 0, none⟩) (by show w.heap.size ≤ w.heap.size + 1 + 1 + 1; omega) _⟩
theorem rd_out {fn : Func} {n : Nat} {W : World} {tmps : Array Value} {r e : Value} (hres : fn.results = #[.cell 4 35, .cell 5 28]) (t4 : tmps.getD 4 undef = .pointer (some ⟨n + 1 + 1, 0, none⟩)) (t5 : tmps.getD 5 undef = .pointer (some ⟨n + 1 + 1 + 1, 0, none⟩))
    (h1 : W.cell? ⟨n + 1 + 1, 0, none⟩ = some r) (h2 : W.cell? ⟨n + 1 + 1 + 1, 0, none⟩ = some e) (hr : ∃ A l c, r = .slice A l c) (he : ∃ k, e = .int .i64 k) : (results fn tmps).run Try.prog W = .ok (.tuple #[r, e]) W := by
  obtain ⟨A, l, c, rfl⟩ := hr
  obtain ⟨k, rfl⟩ := he
  have t4' : tmps[4]?.getD undef = .pointer (some ⟨n + 1 + 1, 0, none⟩) := by rw [← t4]; simp
  have t5' : tmps[5]?.getD undef = .pointer (some ⟨n + 1 + 1 + 1, 0, none⟩) := by rw [← t5]; simp
  simp [results, hres, go_sem, t4', t5', h1, h2]
end Go.Proofs.Ytimpnpdhhhbmgaa
