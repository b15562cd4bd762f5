/- Walk of earliest. -/
import Derived.Test.YtchjjcmlekknfaaW10
import Derived.Test.YtchjjcmlekknfaaArr
import Derived.Test.YtchjjcmlekknfaaMarks
import Derived.Laws.EntriesVeiled
namespace Go.Proofs.Ytchjjcmlekknfaa
open Go.RowKit
set_option linter.unusedVariables false
set_option linter.unusedSimpArgs false
attribute [local go_sem] Oper.semAt_some

/-- the array of the times, half made -/
def hsA (q : Sc.Qs) (k : Nat) : List Int := Sc.hs q k ++ List.replicate (64 - k) 0
theorem hsA_len {q : Sc.Qs} {k : Nat} (h : k ≤ 64) : (hsA q k).length = 65 := by unfold hsA; rw [List.length_append, Sc.hs_len, List.length_replicate]; omega
theorem hsA_zero (q : Sc.Qs) : hsA q 0 = zer := rfl
theorem hsA_at {q : Sc.Qs} {i k : Nat} (h : i ≤ k) : Sc.at_ (hsA q k) i = Sc.H q i := by
  have h1 : Sc.at_ (hsA q k) i = Sc.at_ (Sc.hs q k) i := by
    unfold Sc.at_ hsA
    rw [List.getD_eq_getElem?_getD, List.getElem?_append_left (by rw [Sc.hs_len]; omega), ← List.getD_eq_getElem?_getD]
  rw [h1, Sc.hs_at q h]
theorem hsA_set {q : Sc.Qs} {k : Nat} (h : k < 64) (v : Int) : ((hsA q k).set (k + 1) v).set (k + 1) (Sc.H q (k + 1)) = hsA q (k + 1) := by
  rw [List.set_set]
  unfold hsA
  rw [List.set_append_right _ _ (by rw [Sc.hs_len]; omega), Sc.hs_len, Nat.sub_self, show 64 - k = (64 - (k + 1)) + 1 by omega, List.replicate_succ, List.set_cons_zero, Sc.hs, ← Sc.H_succ, List.append_assoc]
  rfl
/-- the least time of the first rounds -/
def accE (q : Sc.Qs) (k r : Nat) : Int := ((Sc.ins q.m (k + 1)).take r).foldl (fun acc i => min acc (Sc.scr q i (k + 1) (Sc.at_ (Sc.hs q k) i))) 4398046511104
theorem accE_succ {q : Sc.Qs} {k r : Nat} (h : r < (Sc.ins q.m (k + 1)).length) : accE q k (r + 1) = min (accE q k r) (Sc.scr q (Sc.ins q.m (k + 1))[r] (k + 1) (Sc.H q (Sc.ins q.m (k + 1))[r])) := by
  unfold accE
  rw [List.take_succ_eq_append_getElem h, List.foldl_append]
  have := (Sc.mem_ins.1 (List.getElem_mem h)).2
  show min _ (Sc.scr q _ (k + 1) (Sc.at_ (Sc.hs q k) _)) = _
  rw [Sc.hs_at q (by omega)]
theorem accE_all {q : Sc.Qs} {k : Nat} : accE q k (Sc.ins q.m (k + 1)).length = Sc.H q (k + 1) := by
  unfold accE; rw [List.take_length, Sc.H_succ]; rfl

structure Ea (w wr : World) (B : Nat) (q : Sc.Qs) (bj k : Nat) : Prop where
  bel : Below w.heap.size w wr
  h : Cells wr w.heap.size 43 ((hsA q k).map (Value.int .i64))
  f : Cells wr (w.heap.size + 1) 50 [.func (.func 29) #[.pointer (some ⟨B, 0, none⟩)] #[]]
  j : Cells wr bj 3 [.int .i64 ((k + 1 : Nat) : Int)]
  hi : w.heap.size + 1 < bj
/-- as ahead of the loop, but for one block -/
structure Ex1 (wm W : World) (g : Nat) : Prop where
  os : W.os = wm.os
  tape : W.tape = wm.tape
  output : W.output = wm.output
  size : wm.heap.size ≤ W.heap.size
  block : ∀ b, b < wm.heap.size → b ≠ g → W.heap[b]? = wm.heap[b]?
theorem Ex1.refl (wm : World) (g : Nat) : Ex1 wm wm g := ⟨rfl, rfl, rfl, Nat.le_refl _, fun _ _ _ => rfl⟩
theorem Ex1.istep {wm W W' : World} {g : Nat} (h : Ex1 wm W g) (hs : IStep wm.heap.size W W') : Ex1 wm W' g :=
  ⟨hs.os.trans h.os, hs.tape.trans h.tape, hs.output.trans h.output, Nat.le_trans h.size hs.size, fun b hb h1 => by
    have hlt : b < W.heap.size := Nat.lt_of_lt_of_le hb h.size
    rw [hs.block b _ (Array.getElem?_eq_getElem hlt) (.inr hb), ← Array.getElem?_eq_getElem hlt]
    exact h.block b hb h1⟩
theorem Ex1.turn {wm W W' : World} {g : Nat} (h : Ex1 wm W g) (ht : Turn g W W') : Ex1 wm W' g :=
  ⟨ht.os.trans h.os, ht.tape.trans h.tape, ht.output.trans h.output, by rw [ht.size]; exact h.size, fun b hb h1 => (ht.block b h1).trans (h.block b hb h1)⟩
theorem Ex1.drewN {wm W : World} {g : Nat} (h : Ex1 wm W g) (n : Nat) : Ex1 wm (W.drewN n) g := ⟨h.os, h.tape, h.output, h.size, h.block⟩
theorem Ex1.below {w wm W : World} {g : Nat} (h : Ex1 wm W g) (hb : Below w.heap.size w wm) (hg : w.heap.size ≤ g) : Below w.heap.size w W :=
  ⟨h.os.trans hb.os, h.tape.trans hb.tape, h.output.trans hb.output, Nat.le_trans hb.size h.size, fun b hlt => (h.block b (by have := hb.size; omega) (by omega)).trans (hb.block b hlt)⟩
theorem Cells.istep {B : Nat} {W W' : World} {g : Nat} {t : TypeId} {cs : List Value} (h : Cells W g t cs) (hs : IStep B W W') : Cells W' g t cs := hs.block g _ h (.inl rfl)
theorem Cells.ex {wm W : World} {g b : Nat} {t : TypeId} {cs : List Value} (h : Cells wm b t cs) (he : Ex1 wm W g) (hne : b ≠ g) : Cells W b t cs := (he.block b h.lt hne).trans h
theorem results_cell1 {fn : Func} {p : Tmp} {ty : TypeId} (h : fn.results = #[.cell p ty]) (tmps : Array Value) (P : Program) (w : World) :
    (results fn tmps).run P w = ((asAddr (tmps.getD p undef)).run P w).andThen fun a w₁ => (loadVar ty a).run P w₁ := by
  simp only [results, h]
  simp [Sem.run_bind, Result.andThen]
theorem wideL_load {W : World} {ops : Array Oper} {rest : List Oper} {o : Oper} {a : Act} {Q : Exit → Act → World → Prop} (hgd : o.guard = none) (ty : TypeId) (x : Operand) (ho : o.op = .load ty x)
    (B : Nat) (hx : a.eval x = .pointer (some ⟨B, 0, none⟩)) (cs : List Value) (d : TypeDesc) (hg : Cells W B ty cs)
    (hu : Try.prog.underlying ty = some d) (hd : d.isRow = true) (hi : (Try.prog.info? ty).map (·.size) = some cs.length)
    (h : wpListIn Fence.wide 0 Try.prog ops Q rest (a.put o.dst (.agg cs.toArray)) W) : wpListIn Fence.wide 0 Try.prog ops Q (o :: rest) a W := by
  refine wpListIn_plain hgd fun K hK => ⟨fun _ _ => trivial, ?_⟩
  show o.uponIn Fence.wide 0 Try.prog a K Q ((execOp a.eval o).run Try.prog W)
  have e : (execOp a.eval o).run Try.prog W = .ok (.value (.agg cs.toArray)) W := by
    unfold execOp
    simp only [ho, hx, Instr.loadAt, Instr.sureAddr, Sem.run_bind, Sem.run_pure, Result.andThen_ok, run_loadVar_mid W B 0 ty cs d hg.range hu hd hi]
  rw [e]; exact hK _ _ h
theorem wideL_store {W : World} {ops : Array Oper} {rest : List Oper} {o : Oper} {a : Act} {Q : Exit → Act → World → Prop} (hgd : o.guard = none) (ty : TypeId) (x y : Operand) (ho : o.op = .store ty x y)
    (B : Nat) (hx : a.eval x = .pointer (some ⟨B, 0, none⟩)) (old cs : List Value) (hy : a.eval y = .agg cs.toArray) (hg : Cells W B ty old)
    (hi : (Try.prog.info? ty).map (·.size) = some cs.length) (hold : old.length = cs.length) (h1 : ∀ v ∈ cs, v.oneCell' = true)
    (h : ∀ W', Cells W' B ty cs → Turn B W W' → wpListIn Fence.wide 0 Try.prog ops Q rest (a.put o.dst undef) W') : wpListIn Fence.wide 0 Try.prog ops Q (o :: rest) a W := by
  refine wpListIn_plain hgd fun K hK => ⟨fun _ _ => trivial, ?_⟩
  show o.uponIn Fence.wide 0 Try.prog a K Q ((execOp a.eval o).run Try.prog W)
  have e : (execOp a.eval o).run Try.prog W = .ok .skip (W.setRow B cs.toArray) := by
    unfold execOp
    simp only [ho, hx, hy, Instr.storeAt, Instr.sureAddr, Sem.run_bind, Sem.run_pure, Result.andThen_ok, run_storeVar_row W B ty ty old.toArray cs.toArray hg (by simpa using hi) (by simpa using hold) (by rw [List.all_toArray, List.all_eq_true]; exact h1)]
  rw [e]; exact hK _ _ (h _ (Cells.row hg cs) (turn_row _ _ _))
def mzE (n : Nat) (a : Act) (wr : World) : Nat := match a.tmps.getD 4 undef with
  | .pointer (some p) => (match wr.cell? p with
    | some (.int _ j) => n + 1 - j.toNat
    | _ => 0)
  | _ => 0
theorem mzE_is {n : Nat} {a : Act} {wr : World} {p : Addr} {j : Int} (h : a.tmps.getD 4 undef = .pointer (some p)) (hc : wr.cell? p = some (.int .i64 j)) : mzE n a wr = n + 1 - j.toNat := by
  unfold mzE; rw [h]; simp only [hc]

set_option maxHeartbeats 4000000 in
set_option maxRecDepth 100000 in
theorem earliest_any (B : Nat) (A : Option Addr) (c : Nat) (q : Sc.Qs) (w : World) (hm : QM w B A c q) (hq : Sc.ok q) :
    Calls Try.prog 27 #[.pointer (some ⟨B, 0, none⟩)] w fun e w' => e = .returned (.agg ((hsA q q.r.length).map (Value.int .i64)).toArray) ∧ Below w.heap.size w w' := by
  have HM := Lib.hid hm
  have HQ := Lib.hid hq
  have hn := hq.n
  have hBl := hm.lt
  have hz := zero43
  have HS0 := Lib.hid (show Ea w (((w.alloc (.cells (zer.map (Value.int .i64)).toArray 43)).alloc (.cells #[.func (.func 29) #[.pointer (some ⟨B, 0, none⟩)] #[]] 50)).alloc (.cells #[.int .i64 1] 3)) B q (w.heap.size + 2) 0 from by
    refine ⟨((al1 w _).up (al1 _ _)).up (al1 _ _), ?_, ?_, ?_, by omega⟩
    · rw [hsA_zero]
      exact ((Cells.new w 43 (zer.map (Value.int .i64))).upb (al1 _ _)).upb (al1 _ _)
    · have h := (Cells.new (w.alloc (.cells (zer.map (Value.int .i64)).toArray 43)) 50 [.func (.func 29) #[.pointer (some ⟨B, 0, none⟩)] #[]]).upb (al1 _ (.cells #[.int .i64 1] 3))
      simp only [World.size_alloc] at h
      exact h
    · have h := Cells.new ((w.alloc (.cells (zer.map (Value.int .i64)).toArray 43)).alloc (.cells #[.func (.func 29) #[.pointer (some ⟨B, 0, none⟩)] #[]] 50)) 3 [.int .i64 1]
      simp only [World.size_alloc] at h
      exact h)
  clear hm hq
  refine (callsIn_wide (n := 0)).1 ?_
  refine callsIn_of_wp_marks Try.func27 rfl trivial ?_ rfl
  simp only [Try.ntmps27, List.size_toArray, List.length_cons, List.length_nil, Nat.reduceAdd, Nat.reduceSub, Array.replicate_succ, Array.replicate_zero, List.push_toArray, List.append_toArray, List.nil_append, List.cons_append]
  gi_wp2_with (fail)
  clear hz
  refine wpIn_loop (fun a wr => ∃ (ds : List Deferred) (bj k : Nat), Hid (Ea w wr B q bj k) ∧ Hid (Mk w.heap.size ds wr) ∧ k ≤ q.r.length ∧ a.defers = ds ∧ a.tmps.size = 38 ∧ a.tmps.getD 0 undef = .pointer (some ⟨B, 0, none⟩) ∧ a.tmps.getD 2 undef = .pointer (some ⟨w.heap.size, 0, none⟩) ∧ a.tmps.getD 3 undef = .pointer (some ⟨w.heap.size + 1, 0, none⟩) ∧ a.tmps.getD 4 undef = .pointer (some ⟨bj, 0, none⟩)) (mzE q.r.length) ?_ ?_
  · exact ⟨[], w.heap.size + 2, 0, HS0, trivial, Nat.zero_le _, rfl, rfl, rfl, rfl, rfl, rfl⟩
  · rintro ⟨tm, df⟩ wr ⟨ds, bj, k, HS, HM2, hk, hds, htz, e0, e2, e3, e4⟩
    dsimp only at hds htz e0 e2 e3 e4
    subst hds
    obtain ⟨u, rfl⟩ := arr38 tm htz
    replace e0 : u 0 = _ := e0
    replace e2 : u 2 = _ := e2
    replace e3 : u 3 = _ := e3
    replace e4 : u 4 = _ := e4
    clear htz
    rw [e0, e2, e3, e4]
    clear HS0
    have QMr := Lib.hid (HM.out.upb HS.out.bel)
    have hj0 := HS.out.j.cell (k := 0) rfl
    have c0 := QMr.out.c0
    by_cases hpos : k < q.r.length
    · have hd : decide (((k + 1 : Nat) : Int) ≤ (q.r.length : Int)) = true := by rw [decide_eq_true_eq]; omega
      have hk0 : (0 : Int) ≤ ((k + 1 : Nat) : Int) := by omega
      have hk1 : ((k + 1 : Nat) : Int) < 65 := by omega
      have hf0 := HS.out.h.frozen (k + 1)
      have hal : (hsA q k).length = 65 := hsA_len (by omega)
      have hcn := HS.out.h.cell (k := k + 1) (v := .int .i64 (Sc.at_ (hsA q k) (k + 1))) (by rw [List.getElem?_map, List.getElem?_eq_getElem (by omega), at_get (by omega)]; rfl)
      have hne1 : ¬ w.heap.size = bj := by have := HS.out.hi; omega
      have hne2 : ¬ bj = w.heap.size := by omega
      obtain ⟨j, hj⟩ : ∃ j, k + 1 = j := ⟨_, rfl⟩
      have HJ := Lib.hid hj
      rw [hj] at hd hk0 hk1 hf0 hcn hj0
      have hjn : j ≤ q.r.length := by omega
      clear hj hal
      gi_wp2_with (fail)
      refine wpIn_wide.2 ?_
      go_quiet (fail)
      gi_wp2_with (fail)
      refine inC (into_any _ _ _) ?_
      rintro e w4 ⟨rfl, rfl⟩
      gi_wp2_with (fail)
      have HXB := Lib.hid (show Below w.heap.size w ((wr.drewN nq).setCell ⟨w.heap.size, j, none⟩ (.int .i64 4398046511104)) from (turn_cell _ _ _ _).below (below_drewN HS.out.bel nq) (Nat.le_refl _))
      have HXT := Lib.hid (turn_cell (wr.drewN nq) w.heap.size j (.int .i64 4398046511104))
      have HXH := Lib.hid (show Cells ((wr.drewN nq).setCell ⟨w.heap.size, j, none⟩ (.int .i64 4398046511104)) w.heap.size 43 (((hsA q k).set j 4398046511104).map (Value.int .i64)) from by
        rw [List.map_set]; exact (show Cells (wr.drewN nq) w.heap.size 43 _ from HS.out.h).set _)
      have HXF := Lib.hid ((show Cells (wr.drewN nq) (w.heap.size + 1) 50 _ from HS.out.f).turn HXT.out (by omega))
      have HXJ := Lib.hid ((show Cells (wr.drewN nq) bj 3 _ from HS.out.j).turn HXT.out hne2)
      have HXM := Lib.hid (show Mk w.heap.size df ((wr.drewN nq).setCell ⟨w.heap.size, j, none⟩ (.int .i64 4398046511104)) from HM2.out.keep (fun D hD => (HXT.out.block D (by rintro rfl; rw [show wr.heap[w.heap.size]? = _ from HS.out.h] at hD; cases hD)).trans hD))
      have HXQ := Lib.hid (HM.out.upb HXB.out)
      have hxs : ((wr.drewN nq).setCell ⟨w.heap.size, j, none⟩ (.int .i64 4398046511104)).heap.size = wr.heap.size := HXT.out.size
      have hhi := HS.out.hi
      have HJ0 := Lib.hid hj0
      clear HXT HS HM2 QMr c0 hj0 hf0 hcn
      generalize (wr.drewN nq).setCell ⟨w.heap.size, j, none⟩ (.int .i64 4398046511104) = WX at *
      have hbjl := HXJ.out.lt
      obtain ⟨f, hf⟩ : ∃ f, WX.heap.size = f := ⟨_, rfl⟩
      rw [← hxs, hf]
      have HQB := Lib.hid ((Cells.new WX 62 [.pointer (some ⟨B, 0, none⟩)]).upb (al1 _ (.cells #[.int .i64 j] 3)))
      have HJB := Lib.hid (Cells.new (WX.alloc (.cells #[.pointer (some ⟨B, 0, none⟩)] 62)) 3 [.int .i64 j])
      have HST := Lib.hid (show Below WX.heap.size WX ((WX.alloc (.cells #[.pointer (some ⟨B, 0, none⟩)] 62)).alloc (.cells #[.int .i64 j] 3)) from (al1 WX _).up (al1 _ _))
      obtain ⟨WL, hWL⟩ : ∃ WL, (WX.alloc (.cells #[.pointer (some ⟨B, 0, none⟩)] 62)).alloc (.cells #[.int .i64 j] 3) = WL := ⟨_, rfl⟩
      have hsz : WL.heap.size = f + 2 := by rw [← hWL, ← hf]; simp
      have HQB2 := Lib.hid (show Cells WL f 62 [.pointer (some ⟨B, 0, none⟩)] from by rw [← hWL, ← hf]; exact HQB.out)
      have HJB2 := Lib.hid (show Cells WL (f + 1) 3 [.int .i64 j] from by
        have h := HJB.out
        simp only [World.size_alloc] at h
        rw [← hWL, ← hf]; exact h)
      have HST2 := Lib.hid (show Below WX.heap.size WX WL from by rw [← hWL]; exact HST.out)
      rw [hWL]
      clear hWL HQB HJB HST
      have hEX := Lib.hid (Ex1.refl WL w.heap.size)
      have HLH := Lib.hid (HXH.out.upb HST2.out)
      have HLF := Lib.hid (HXF.out.upb HST2.out)
      have HLJ := Lib.hid (HXJ.out.upb HST2.out)
      have HLQ := Lib.hid (HXQ.out.upb HST2.out)
      have HLB := Lib.hid (HXB.out.trans (HST2.out.mono HXB.out.size))
      have HLM := Lib.hid (HXM.out.keep (W' := WL) (fun D hD => (HST2.out.block D (Array.getElem?_eq_some_iff.1 hD).1).trans hD))
      have hwx := HXB.out.size
      have hBx : B < WX.heap.size := HXQ.out.lt
      clear HXB HXH HXF HXJ HXM HXQ HST2
      refine rf_outer (Sc.ins q.m j) (protI B f (f + 1))
        (fun r W => Hid (Ex1 WL W w.heap.size) ∧ Hid (Cells W w.heap.size 43 (((hsA q k).set j (accE q k r)).map (Value.int .i64))))
        (fun _ _ _ => False)
        (enc := encI) rfl (enters_of Try.func39 (by kernel_rfl) rfl) (fun _ => rfl) ?hP ?hit ?hI ?hIx ?h0 ?hround ?hdone ?hstop
      case hP => rintro b (rfl | rfl | rfl) <;> omega
      case hit =>
        intro W hW
        exact into_iter B f (f + 1) q.m j W (HLQ.out.upb hW).cm ((HQB2.out.upb hW).cell rfl) ((HJB2.out.upb hW).cell rfl) HQ.out.m8 (by omega)
      case hI =>
        rintro r X Y ⟨h1, h2⟩ hs
        exact ⟨h1.out.istep hs, h2.out.istep hs⟩
      case hIx =>
        rintro c r X Y h hs
        exact h
      case h0 => exact ⟨hEX, HLH⟩
      case hround =>
        rintro la r hr W hla ⟨hE, hC⟩
        have hmi := Sc.mem_ins.1 (List.getElem_mem hr)
        have HA1 := Lib.hid (show accE q k (r + 1) = min (accE q k r) (Sc.scr q (Sc.ins q.m j)[r] j (Sc.H q (Sc.ins q.m j)[r])) from by
          have hJ := HJ.out
          subst hJ
          exact accE_succ hr)
        generalize (Sc.ins q.m j)[r] = i at *
        obtain ⟨hi1, hi2⟩ := hmi
        have hHb := HQ.out.H_le (j := i) (by omega)
        obtain ⟨hH0, hH1, _⟩ := hHb
        simp only [encI]
        gi_wp2
        refine ⟨RStep.refl _ _ _, ?_⟩
        rintro W2 hW2 _
        have hE2 := hE.out.istep hW2
        have hC2 := hC.out.istep hW2
        have hQ2 : QM W2 B A c q := ⟨HLQ.out.cells.ex hE2 (by omega), HM.out.r.below (hE2.below HLB.out (Nat.le_refl _))⟩
        have hJ2 := HLJ.out.ex hE2 hne2
        have hF2 := HLF.out.ex hE2 (by omega)
        have hal : (hsA q k).length = 65 := hsA_len (by omega)
        have hHj := HJ.out
        clear hE hC hW2
        gi_wp2_with (fail)
        refine ear_region (hi := Sc.H q i) (hj := accE q k r) hQ2 HQ.out hi2 hjn hH0 (by omega) (hJ2.cell (by rw [hHj]; rfl)) (hF2.cell rfl) (hC2.cell ?_) (hC2.cell ?_) (hC2.frozen _) hne2 (fun _ _ h => h) (fun _ _ _ h => h) ?_
        · rw [List.getElem?_map, List.getElem?_set_ne (by omega), List.getElem?_eq_getElem (by omega), ← at_get (by omega), hsA_at (by omega)]; rfl
        · rw [List.getElem?_map, List.getElem?_set_self (by omega)]; rfl
        · intro a' nn
          refine ⟨(rstep_drewN _ _).trans (RStep.setCell _ _ _ (fun h => by have h' : w.heap.size = B ∨ w.heap.size = f ∨ w.heap.size = f + 1 := h; omega)), (hE2.drewN nn).turn (turn_cell _ _ _ _), ?_⟩
          have h := (hC2.drewN nn).set (k := j) (.int .i64 (min (accE q k r) (Sc.scr q i j (Sc.H q i))))
          rw [← List.map_set, List.set_set] at h
          exact show Cells _ _ _ _ from by rw [HA1.out]; exact h
      case hstop => rintro D c r W _ _ h; exact h.elim
      case hdone =>
        rintro D W hD ⟨HE, HC⟩ hDm
        have hCk : Cells W w.heap.size 43 ((hsA q j).map (Value.int .i64)) := by
          have h := HC.out
          have hJ := HJ.out
          subst hJ
          rw [accE_all] at h
          have h2 := hsA_set (q := q) (k := k) (by omega) 0
          rw [List.set_set] at h2
          rw [← h2]; exact h
        have HCK := Lib.hid hCk
        have hJ2 := (HLJ.out.ex HE.out hne2).cell (k := 0) (by rw [HJ.out]; rfl)
        have hjw : IntKind.i64.wrap ((j : Int) + 1) = (j : Int) + 1 := by rw [IntKind.wrap_i64]; omega
        have hJlt := cell_lt hJ2
        clear hCk HC
        gi_wp2_with (fail)
        have hsX : (W.alloc (.cells #[.int .i64 ((j : Int) + 1)] 3)).heap.size = W.heap.size + 1 := by simp
        have hAL := al1 W (.cells #[.int .i64 ((j : Int) + 1)] 3)
        have hmk : Mk w.heap.size ({ target := .collected D, args := #[] } :: df) (W.alloc (.cells #[.int .i64 ((j : Int) + 1)] 3)) := by
          refine HLM.out.cons hD (HLM.out.keep (fun D' h => ?_)) (by omega) ((hAL.block D (Array.getElem?_eq_some_iff.1 hDm).1).trans hDm)
          have hlt := (Array.getElem?_eq_some_iff.1 h).1
          refine (hAL.block D' (by have := HE.out.size; omega)).trans ((HE.out.block D' hlt ?_).trans h)
          rintro rfl
          rw [show WL.heap[w.heap.size]? = _ from HLH.out] at h; cases h
        have hea : Ea w (W.alloc (.cells #[.int .i64 ((j : Int) + 1)] 3)) B q W.heap.size j := by
          refine ⟨(HE.out.below HLB.out (Nat.le_refl _)).up hAL |>.trans (Below.refl _ _), HCK.out.upb hAL, (HLF.out.ex HE.out (by omega)).upb hAL, ?_, by have := HE.out.size; omega⟩
          have h := Cells.new W 3 [.int .i64 ((j : Int) + 1)]
          rw [show ((j + 1 : Nat) : Int) = (j : Int) + 1 by omega]
          exact h
        refine ⟨⟨_, W.heap.size, j, hea, hmk, hjn, rfl, rfl⟩, ?_⟩
        refine Nat.lt_of_le_of_lt (Nat.le_of_eq (mzE_is (p := ⟨W.heap.size, 0, none⟩) rfl (hea.j.cell (k := 0) rfl))) (Nat.lt_of_lt_of_eq ?_ (mzE_is (p := ⟨bj, 0, none⟩) (j := (j : Int)) rfl ?_).symm)
        · omega
        · exact HJ0.out
    · have hd : decide (((k + 1 : Nat) : Int) ≤ (q.r.length : Int)) = false := by rw [decide_eq_false_iff_not]; omega
      have hkn : k = q.r.length := by omega
      have hjn : ¬ k + 1 ≤ q.r.length := by omega
      have HCH := Lib.hid (show Cells wr w.heap.size 43 ((hsA q q.r.length).map (Value.int .i64)) from by have h := HS.out.h; rw [hkn] at h; exact h)
      have HB := Lib.hid HS.out.bel
      have hal : ((hsA q q.r.length).map (Value.int .i64)).length = 65 := by rw [List.length_map]; exact hsA_len hn
      have HAL := Lib.hid hal
      have hone : ∀ v ∈ (hsA q q.r.length).map (Value.int .i64), v.oneCell' = true := by
        intro v hv; simp at hv; obtain ⟨x, _, rfl⟩ := hv; rfl
      have HONE := Lib.hid hone
      obtain ⟨dd, hu1, hu2⟩ := u43
      have HU := Lib.hid (And.intro hu1 hu2)
      obtain ⟨j, hj⟩ : ∃ j, k + 1 = j := ⟨_, rfl⟩
      rw [hj] at hd hj0 hjn
      clear hal hone hu1 hu2 hkn hpos hj
      gi_wp2_with (fail)
      refine wpIn_wide.2 ?_
      go_quiet (fail)
      gi_wp2_with (first | (refine wideL_load rfl 43 (.tmp 2) rfl w.heap.size rfl ((hsA q q.r.length).map (Value.int .i64)) _ HCH.out HU.out.1 HU.out.2 (by rw [HAL.out]; exact i43) ?_) | (refine wideL_store rfl 43 (.tmp 2) (.tmp 37) rfl w.heap.size rfl ((hsA q q.r.length).map (Value.int .i64)) ((hsA q q.r.length).map (Value.int .i64)) rfl HCH.out (by rw [HAL.out]; exact i43) rfl HONE.out ?_; intro W1 hc1 ht1; have HC1 := Lib.hid hc1; have HT1 := Lib.hid ht1; clear hc1 ht1))
      have hB1 : Below w.heap.size w W1 := HT1.out.below (below_drewN HB.out _) (Nat.le_refl _)
      have hM1 : Mk w.heap.size df W1 := HM2.out.keep (fun D hD => (HT1.out.block D (by rintro rfl; rw [show wr.heap[w.heap.size]? = _ from HCH.out] at hD; cases hD)).trans hD)
      refine leaves_marks df W1 hM1 ?_
      rintro W' o1 o2 o3 hs hb
      have hC' : Cells W' w.heap.size 43 ((hsA q q.r.length).map (Value.int .i64)) := hb _ _ HC1.out (.inl rfl)
      have hld := loadVar_W hC' HU.out.1 HU.out.2 (by rw [HAL.out]; exact i43)
      refine ⟨.agg ((hsA q q.r.length).map (Value.int .i64)).toArray, ?_, rfl, ?_⟩
      · rw [results_cell1 rfl]
        simp [asAddr, Result.andThen, hld, Act.put]
      · refine ⟨o1.trans hB1.os, o2.trans hB1.tape, o3.trans hB1.output, by rw [hs]; exact hB1.size, fun b hlt => ?_⟩
        have hlt1 : b < W1.heap.size := Nat.lt_of_lt_of_le hlt hB1.size
        rw [← hB1.block b hlt, hb b _ (Array.getElem?_eq_getElem hlt1) (.inr hlt), ← Array.getElem?_eq_getElem hlt1]
end Go.Proofs.Ytchjjcmlekknfaa
