/- Walk of latest. -/
import Derived.Test.YtchjjcmlekknfaaW12
namespace Go.Proofs.Ytchjjcmlekknfaa
open Go.RowKit
set_option linter.unusedVariables false
set_option linter.unusedSimpArgs false
attribute [local go_sem] Oper.semAt_some

def nev : Int := -1152921504606846976
def preL (i : Nat) : List Int := List.replicate i nev ++ List.replicate (65 - i) 0
theorem preL_len {i : Nat} (h : i ≤ 65) : (preL i).length = 65 := by simp [preL]; omega
theorem preL_zero : preL 0 = zer := rfl
theorem preL_set {i : Nat} (h : i < 65) : (preL i).set i nev = preL (i + 1) := by
  unfold preL
  rw [List.set_append_right _ _ (by simp), List.length_replicate, Nat.sub_self, show 65 - i = (65 - (i + 1)) + 1 by omega, List.replicate_succ, List.set_cons_zero, List.replicate_succ', List.append_assoc]
  rfl
theorem preL_done {n : Nat} (h : n ≤ 64) (D : Int) : (preL n).set n D = Sc.lat0 n D := by
  unfold preL Sc.lat0 nev
  rw [List.set_append_right _ _ (by simp), List.length_replicate, Nat.sub_self, show 65 - n = (64 - n) + 1 by omega, List.replicate_succ, List.set_cons_zero]

/-- the bounds of the latest times -/
def bdL (l : List Int) : Prop := ∀ i, -1152921504606846976 ≤ Sc.at_ l i ∧ Sc.at_ l i ≤ 1125899906842624
theorem bdL_latI {q : Sc.Qs} (hq : Sc.ok q) {j i : Nat} {l : List Int} (h : bdL l) (hij : i < j) (hj : j ≤ q.r.length) (hl : i < l.length) : bdL (Sc.latI q j l i) := by
  intro x
  rw [Sc.latI_at hl]
  have h1 := h x
  have h2 := h i
  have h3 := h j
  have h4 := hq.sum_mono (i := i) (j := j) (by omega) hj
  have h5 := hq.f0
  split <;> omega
theorem bdL_fold {q : Sc.Qs} (hq : Sc.ok q) {j : Nat} (hj : j ≤ q.r.length) : ∀ (is : List Nat) (l : List Int), bdL l → l.length = 65 → (∀ i ∈ is, i < j) → bdL (is.foldl (Sc.latI q j) l)
  | [], l, h, _, _ => h
  | i :: is, l, h, hl, hi => by
    have hn := hq.n
    exact bdL_fold hq hj is _ (bdL_latI hq h (hi i (by simp)) hj (by rw [hl]; have := hi i (by simp); omega)) (by rw [Sc.latI_len, hl]) (fun x hx => hi x (by simp [hx]))
theorem bdL_lat0 {n : Nat} {D : Int} (h0 : 0 ≤ D) (hD : D ≤ 1125899906842624) : bdL (Sc.lat0 n D) := by
  intro i
  unfold Sc.at_ Sc.lat0
  rw [List.getD_eq_getElem?_getD, List.getElem?_append]
  split
  · rename_i h
    rw [List.length_replicate] at h
    simp [h]
  · rw [List.length_replicate]
    cases i - n with
    | zero => simp; omega
    | succ m =>
      rw [List.getElem?_cons_succ, List.getElem?_replicate]
      split <;> simp
theorem bdL_lat {q : Sc.Qs} (hq : Sc.ok q) {D : Int} (h0 : 0 ≤ D) (hD : D ≤ 1125899906842624) : ∀ k, bdL (Sc.lat q D k)
  | 0 => bdL_lat0 h0 hD
  | k + 1 => by
    rw [Sc.lat, Sc.latS]
    exact bdL_fold hq (by omega) _ _ (bdL_lat hq h0 hD k) (Sc.lat_len hq.n D k) (fun i hi => (Sc.mem_ins.1 hi).2)

/-- the latest times, after some rounds -/
def accL (q : Sc.Qs) (D : Int) (k r : Nat) : List Int := ((Sc.ins q.m (q.r.length - k)).take r).foldl (Sc.latI q (q.r.length - k)) (Sc.lat q D k)
theorem accL_len {q : Sc.Qs} (hq : Sc.ok q) (D : Int) (k r : Nat) : (accL q D k r).length = 65 := by unfold accL; rw [Sc.latF_len, Sc.lat_len hq.n]
theorem accL_succ {q : Sc.Qs} {D : Int} {k r : Nat} (h : r < (Sc.ins q.m (q.r.length - k)).length) : accL q D k (r + 1) = Sc.latI q (q.r.length - k) (accL q D k r) (Sc.ins q.m (q.r.length - k))[r] := by
  unfold accL
  rw [List.take_succ_eq_append_getElem h, List.foldl_append]; rfl
theorem accL_all {q : Sc.Qs} {D : Int} {k : Nat} : accL q D k (Sc.ins q.m (q.r.length - k)).length = Sc.lat q D (k + 1) := by
  unfold accL; rw [List.take_length]; rfl
theorem accL_bd {q : Sc.Qs} (hq : Sc.ok q) {D : Int} (h0 : 0 ≤ D) (hD : D ≤ 1125899906842624) (k r : Nat) : bdL (accL q D k r) :=
  bdL_fold hq (by omega) _ _ (bdL_lat hq h0 hD k) (Sc.lat_len hq.n D k) (fun i hi => (Sc.mem_ins.1 (List.mem_of_mem_take hi)).2)

structure La (w wr : World) (B : Nat) (q : Sc.Qs) (D : Int) (bj k : Nat) : Prop where
  bel : Below w.heap.size w wr
  p : Cells wr w.heap.size 62 [.pointer (some ⟨B, 0, none⟩)]
  h : Cells wr (w.heap.size + 1) 43 ((Sc.lat q D k).map (Value.int .i64))
  j : Cells wr bj 3 [.int .i64 ((q.r.length - k : Nat) : Int)]
  hi : w.heap.size + 1 < bj
def mzL (a : Act) (wr : World) : Nat := match a.tmps.getD 7 undef with
  | .pointer (some p) => (match wr.cell? p with
    | some (.int _ j) => j.toNat
    | _ => 0)
  | _ => 0
theorem mzL_is {a : Act} {wr : World} {p : Addr} {j : Int} (h : a.tmps.getD 7 undef = .pointer (some p)) (hc : wr.cell? p = some (.int .i64 j)) : mzL a wr = j.toNat := by
  unfold mzL; rw [h]; simp only [hc]

set_option maxHeartbeats 4000000 in
set_option maxRecDepth 100000 in
theorem latest_any (B : Nat) (A : Option Addr) (c : Nat) (q : Sc.Qs) (D : Int) (w : World) (hm : QM w B A c q) (hq : Sc.ok q) (hD0 : 0 ≤ D) (hD1 : D ≤ 1125899906842624) :
    Calls Try.prog 28 #[.pointer (some ⟨B, 0, none⟩), .int .i64 D] w fun e w' => e = .returned (.agg ((Sc.lat q D q.r.length).map (Value.int .i64)).toArray) ∧ Below w.heap.size w w' := by
  have HM := Lib.hid hm
  have HQ := Lib.hid hq
  have hn := hq.n
  have hBl := hm.lt
  have hz := zero43
  have HP0 := Lib.hid (show Cells ((w.alloc (.cells #[.pointer (some ⟨B, 0, none⟩)] 62)).alloc (.cells (zer.map (Value.int .i64)).toArray 43)) w.heap.size 62 [.pointer (some ⟨B, 0, none⟩)] from (Cells.new w 62 [.pointer (some ⟨B, 0, none⟩)]).upb (al1 _ _))
  have HC0 := Lib.hid (show Cells ((w.alloc (.cells #[.pointer (some ⟨B, 0, none⟩)] 62)).alloc (.cells (zer.map (Value.int .i64)).toArray 43)) (w.heap.size + 1) 43 ((preL 0).map (Value.int .i64)) from by
    have h := Cells.new (w.alloc (.cells #[.pointer (some ⟨B, 0, none⟩)] 62)) 43 (zer.map (Value.int .i64))
    simp only [World.size_alloc] at h
    exact h)
  have HB0 := Lib.hid (show Below w.heap.size w ((w.alloc (.cells #[.pointer (some ⟨B, 0, none⟩)] 62)).alloc (.cells (zer.map (Value.int .i64)).toArray 43)) from (al1 w _).up (al1 _ _))
  have hq0 := (HM.out.upb HB0.out).c0
  have hs0 : ((w.alloc (.cells #[.pointer (some ⟨B, 0, none⟩)] 62)).alloc (.cells (zer.map (Value.int .i64)).toArray 43)).heap.size = w.heap.size + 2 := by simp
  clear hm hq
  refine (callsIn_wide (n := 0)).1 ?_
  refine callsIn_of_wp_marks Try.func28 rfl trivial ?_ rfl
  simp only [Try.ntmps28, List.size_toArray, List.length_cons, List.length_nil, Nat.reduceAdd, Nat.reduceSub, Array.replicate_succ, Array.replicate_zero, List.push_toArray, List.append_toArray, List.nil_append, List.cons_append]
  gi_wp2_with (fail)
  clear hz hq0
  generalize (w.alloc (.cells #[.pointer (some ⟨B, 0, none⟩)] 62)).alloc (.cells (zer.map (Value.int .i64)).toArray 43) = W0 at *
  gi_loopw [6, 16] (fun _ iv wr => ∃ i : Nat, i ≤ q.r.length ∧ iv = .int .i64 i ∧ Hid (Cells wr (w.heap.size + 1) 43 ((preL i).map (Value.int .i64))) ∧ Hid (Cells wr w.heap.size 62 [.pointer (some ⟨B, 0, none⟩)]) ∧ Hid (Below w.heap.size w wr) ∧ wr.heap.size = w.heap.size + 2) (fun _ iv _ => q.r.length - (intOf iv).toNat)
  case atStart => exact ⟨0, Nat.zero_le _, rfl, HC0, HP0, HB0, hs0⟩
  case round =>
    obtain ⟨i, hi, rfl, HC, HP, HB, hsz⟩ := hrel
    clear HC0 HP0 HB0 hs0
    by_cases hlt : i < q.r.length
    · have hi0 : (0 : Int) ≤ (i : Int) := by omega
      have hi1 : (i : Int) < 65 := by omega
      have hpl := preL_len (i := i) (by omega)
      have hfz := HC.out.frozen i
      have hcn := HC.out.cell (k := i) (v := .int .i64 (Sc.at_ (preL i) i)) (by rw [List.getElem?_map, List.getElem?_eq_getElem (by omega), at_get (by omega)]; rfl)
      have HC2 := Lib.hid (show Cells (wr.setCell ⟨w.heap.size + 1, i, none⟩ (.int .i64 nev)) (w.heap.size + 1) 43 ((preL (i + 1)).map (Value.int .i64)) from by
        rw [← preL_set (by omega), List.map_set]; exact HC.out.set _)
      clear hpl
      gi_wp2_with (fail)
      go_roundw
      case rel => exact ⟨i + 1, by omega, by go_num, HC2, Lib.hid (HP.out.turn (turn_cell _ _ _ _) (by omega)), Lib.hid ((turn_cell _ _ _ _).below HB.out (by omega)), by rw [(turn_cell _ _ _ _).size]; exact hsz⟩
      case measure => first | omega | (simp [intOf]; omega)
    · have hin : i = q.r.length := by omega
      rw [hin] at HC
      clear hin
      have hn0 : (0 : Int) ≤ (q.r.length : Int) := by omega
      have hn1 : (q.r.length : Int) < 65 := by omega
      have hpl := preL_len (i := q.r.length) (by omega)
      have hfz := HC.out.frozen q.r.length
      have hcn := HC.out.cell (k := q.r.length) (v := .int .i64 (Sc.at_ (preL q.r.length) q.r.length)) (by rw [List.getElem?_map, List.getElem?_eq_getElem (by omega), at_get (by omega)]; rfl)
      have HC2 := Lib.hid (show Cells (wr.setCell ⟨w.heap.size + 1, q.r.length, none⟩ (.int .i64 D)) (w.heap.size + 1) 43 ((Sc.lat q D 0).map (Value.int .i64)) from by
        show Cells _ _ _ ((Sc.lat0 q.r.length D).map _)
        rw [← preL_done hn, List.map_set]; exact HC.out.set _)
      have HT := Lib.hid (turn_cell wr (w.heap.size + 1) q.r.length (.int .i64 D))
      clear hpl
      gi_wp2_with (fail)
      have hhs : (wr.setCell ⟨w.heap.size + 1, q.r.length, none⟩ (.int .i64 D)).heap.size = w.heap.size + 2 := HT.out.size.trans hsz
      have HAL := Lib.hid (al1 (wr.setCell ⟨w.heap.size + 1, q.r.length, none⟩ (.int .i64 D)) (.cells #[.int .i64 q.r.length] 3))
      have HS0 := Lib.hid (show La w ((wr.setCell ⟨w.heap.size + 1, q.r.length, none⟩ (.int .i64 D)).alloc (.cells #[.int .i64 q.r.length] 3)) B q D (w.heap.size + 2) 0 from by
        refine ⟨(HT.out.below HB.out (by omega)).up HAL.out, (HP.out.turn HT.out (by omega)).upb HAL.out, HC2.out.upb HAL.out, ?_, by omega⟩
        have h := Cells.new (wr.setCell ⟨w.heap.size + 1, q.r.length, none⟩ (.int .i64 D)) 3 [.int .i64 q.r.length]
        rw [hhs] at h
        exact h)
      clear HT HC2 HC HP HB hfz hcn hsz hhs HAL hn0 hn1 hlt hi
      refine wpIn_loop (fun a wr => ∃ (ds : List Deferred) (bj k : Nat), Hid (La w wr B q D bj k) ∧ Hid (Mk w.heap.size ds wr) ∧ k ≤ q.r.length ∧ a.defers = ds ∧ a.tmps.size = 79 ∧ a.tmps.getD 2 undef = .pointer (some ⟨w.heap.size, 0, none⟩) ∧ a.tmps.getD 4 undef = .pointer (some ⟨w.heap.size + 1, 0, none⟩) ∧ a.tmps.getD 7 undef = .pointer (some ⟨bj, 0, none⟩)) mzL ?_ ?_
      · exact ⟨[], w.heap.size + 2, 0, HS0, trivial, Nat.zero_le _, rfl, rfl, rfl, rfl, rfl⟩
      · rintro ⟨tm, df⟩ wr2 ⟨ds, bj, k, HS, HM2, hk, hds, htz, e2, e4, e7⟩
        dsimp only at hds htz e2 e4 e7
        subst hds
        obtain ⟨u, rfl⟩ := arr79 tm htz
        replace e2 : u 2 = _ := e2
        replace e4 : u 4 = _ := e4
        replace e7 : u 7 = _ := e7
        clear htz
        rw [e2, e4, e7]
        clear HS0
        have hj0 := HS.out.j.cell (k := 0) rfl
        have hp0 := HS.out.p.cell (k := 0) rfl
        have hhi := HS.out.hi
        by_cases hpos : k < q.r.length
        · obtain ⟨j, hj⟩ : ∃ j, q.r.length - k = j := ⟨_, rfl⟩
          have hj1 : 0 < j := by omega
          have hjn : j ≤ q.r.length := by omega
          have HJ := Lib.hid hj
          rw [hj] at hj0
          have hd : decide ((0 : Int) < (j : Int)) = true := by rw [decide_eq_true_eq]; omega
          clear hj
          gi_wp2_with (fail)
          refine inC (into_any _ _ _) ?_
          rintro e w4 ⟨rfl, rfl⟩
          gi_wp2_with (fail)
          have HXB := Lib.hid HS.out.bel
          have HXH := Lib.hid HS.out.h
          have HXP := Lib.hid HS.out.p
          have HXJ := Lib.hid HS.out.j
          have HXM := HM2
          have HXQ := Lib.hid (HM.out.upb HXB.out)
          have HJ0 := Lib.hid hj0
          clear HS HM2 hj0 hp0
          have hbjl := HXJ.out.lt
          obtain ⟨f, hf⟩ : ∃ f, wr2.heap.size = f := ⟨_, rfl⟩
          rw [hf]
          have HQB := Lib.hid ((Cells.new wr2 62 [.pointer (some ⟨B, 0, none⟩)]).upb (al1 _ (.cells #[.int .i64 j] 3)))
          have HJB := Lib.hid (Cells.new (wr2.alloc (.cells #[.pointer (some ⟨B, 0, none⟩)] 62)) 3 [.int .i64 j])
          have HST := Lib.hid (show Below wr2.heap.size wr2 ((wr2.alloc (.cells #[.pointer (some ⟨B, 0, none⟩)] 62)).alloc (.cells #[.int .i64 j] 3)) from (al1 wr2 _).up (al1 _ _))
          obtain ⟨WL, hWL⟩ : ∃ WL, (wr2.alloc (.cells #[.pointer (some ⟨B, 0, none⟩)] 62)).alloc (.cells #[.int .i64 j] 3) = WL := ⟨_, rfl⟩
          have hszL : WL.heap.size = f + 2 := by rw [← hWL, ← hf]; simp
          have HQB2 := Lib.hid (show Cells WL f 62 [.pointer (some ⟨B, 0, none⟩)] from by rw [← hWL, ← hf]; exact HQB.out)
          have HJB2 := Lib.hid (show Cells WL (f + 1) 3 [.int .i64 j] from by
            have h := HJB.out
            simp only [World.size_alloc] at h
            rw [← hWL, ← hf]; exact h)
          have HST2 := Lib.hid (show Below wr2.heap.size wr2 WL from by rw [← hWL]; exact HST.out)
          rw [hWL]
          clear hWL HQB HJB HST
          have hEX := Lib.hid (Ex1.refl WL (w.heap.size + 1))
          have HLH := Lib.hid (HXH.out.upb HST2.out)
          have HLP := Lib.hid (HXP.out.upb HST2.out)
          have HLJ := Lib.hid (HXJ.out.upb HST2.out)
          have HLQ := Lib.hid (HXQ.out.upb HST2.out)
          have HLB := Lib.hid (HXB.out.trans (HST2.out.mono HXB.out.size))
          have HLM := Lib.hid (HXM.out.keep (W' := WL) (fun D hD => (HST2.out.block D (Array.getElem?_eq_some_iff.1 hD).1).trans hD))
          have hwx := HXB.out.size
          have hBx : B < wr2.heap.size := HXQ.out.lt
          have hne2 : bj ≠ w.heap.size + 1 := by omega
          clear HXB HXH HXP HXJ HXM HXQ HST2
          refine rf_outer (Sc.ins q.m j) (protI B f (f + 1))
            (fun r W => Hid (Ex1 WL W (w.heap.size + 1)) ∧ Hid (Cells W (w.heap.size + 1) 43 ((accL q D k r).map (Value.int .i64))))
            (fun _ _ _ => False)
            (enc := encI) rfl (enters_of Try.func39 (by kernel_rfl) rfl) (fun _ => rfl) ?hP ?hit ?hI ?hIx ?h0 ?hround ?hdone ?hstop
          case hP => rintro b (rfl | rfl | rfl) <;> omega
          case hit =>
            intro W hW
            exact into_iter B f (f + 1) q.m j W (HLQ.out.upb hW).cm ((HQB2.out.upb hW).cell rfl) ((HJB2.out.upb hW).cell rfl) HQ.out.m8 (by omega)
          case hI =>
            rintro r X Y ⟨h1, h2⟩ hs
            exact ⟨h1.out.istep hs, h2.out.istep hs⟩
          case hIx =>
            rintro c r X Y h hs
            exact h
          case h0 => exact ⟨hEX, HLH⟩
          case hround =>
            rintro la r hr W hla ⟨hE, hC⟩
            have hmi := Sc.mem_ins.1 (List.getElem_mem hr)
            have HA1 := Lib.hid (show accL q D k (r + 1) = Sc.latI q j (accL q D k r) (Sc.ins q.m j)[r] from by
              have hJ := HJ.out
              subst hJ
              exact accL_succ hr)
            generalize (Sc.ins q.m j)[r] = i at *
            obtain ⟨hi1, hi2⟩ := hmi
            have hbd := accL_bd HQ.out hD0 hD1 k r
            have hal := accL_len HQ.out D k r
            obtain ⟨l, hl⟩ : ∃ l, accL q D k r = l := ⟨_, rfl⟩
            rw [hl] at HA1 hC hbd hal
            obtain ⟨hb1, hb2⟩ := hbd j
            obtain ⟨hb3, hb4⟩ := hbd i
            have hs1 := HQ.out.sum_le (i := j) hjn
            have hs2 := HQ.out.sum_le (i := i) (by omega)
            have hs3 := HQ.out.sum_mono (i := i) (j := j) (by omega) hjn
            have hr0 := HQ.out.r0 (j - 1) (by omega)
            have hf0 := HQ.out.f0
            have hf1 := HQ.out.f1
            simp only [encI]
            gi_wp2
            refine ⟨RStep.refl _ _ _, ?_⟩
            rintro W2 hW2 _
            have hE2 := hE.out.istep hW2
            have hC2 := hC.out.istep hW2
            have hB2 := hE2.below HLB.out (by omega)
            have hQ2 : QM W2 B A c q := ⟨HLQ.out.cells.ex hE2 (by omega), HM.out.r.below hB2⟩
            have hJ2 := HLJ.out.ex hE2 hne2
            have hP2 := HLP.out.ex hE2 (by omega)
            have cj := hQ2.cs hjn hn
            have ci := hQ2.cs (k := i) (by omega) hn
            have cf := hQ2.cf
            have c0 := hQ2.c0
            have cp := hP2.cell (k := 0) rfl
            have cjj := hJ2.cell (k := 0) (v := .int .i64 (j : Int)) (by rw [HJ.out]; rfl)
            obtain ⟨bb, off, hAe, hbb, hcr⟩ := at_cell hQ2.r.row (k := j - 1) (by omega)
            have clj := hC2.cell (k := j) (v := .int .i64 (Sc.at_ l j)) (by rw [List.getElem?_map, List.getElem?_eq_getElem (by omega), at_get (by omega)]; rfl)
            have cli := hC2.cell (k := i) (v := .int .i64 (Sc.at_ l i)) (by rw [List.getElem?_map, List.getElem?_eq_getElem (by omega), at_get (by omega)]; rfl)
            have cfz := hC2.frozen i
            have HE2 := Lib.hid hE2
            have HC2 := Lib.hid hC2
            have HCOND := Lib.hid (show Sc.latI q j l i = if Sc.at_ q.r (j - 1) + (Sc.sumN q.d j - Sc.sumN q.d i) ≤ Sc.at_ l j then l.set i (max (Sc.at_ l i) (Sc.at_ l j - (Sc.sumN q.d j - Sc.sumN q.d i) - q.f)) else l from rfl)
            clear hE hC hW2 hE2 hC2 hQ2 hJ2 hP2 hB2 hbd hl
            generalize Sc.at_ l j = lj at *
            generalize Sc.at_ l i = li at *
            generalize Sc.at_ q.r (j - 1) = t at *
            generalize Sc.sumN q.d j = sj at *
            generalize Sc.sumN q.d i = si at *
            have b1 : (0 : Int) ≤ (j : Int) := by omega
            have b2 : (j : Int) < 65 := by omega
            have b3 : (0 : Int) ≤ (i : Int) := by omega
            have b4 : (i : Int) < 65 := by omega
            have b5 : (0 : Int) ≤ (j : Int) - 1 := by omega
            have b6 : (j : Int) - 1 < (q.r.length : Int) := by omega
            have b7 : ((j : Int) - 1).toNat = j - 1 := by omega
            have b8 : IntKind.i64.wrap ((j : Int) - 1) = (j : Int) - 1 := by rw [IntKind.wrap_i64]; omega
            have b9 : IntKind.i64.wrap (sj - si) = sj - si := by rw [IntKind.wrap_i64]; omega
            have hmix : Try.prog.follows .mixedOrders = true := by kernel_rfl
            subst hAe
            gi_wp2_with (fail)
            refine wpIn_round_quiet hmix (by kernel_rfl) (by simp) (fun _ _ h => h) ?_
            repeat (go_big_quiet_step (fail))
            rintro w' ⟨nq, rfl⟩
            obtain ⟨nd, hnd⟩ : ∃ x, sj - si = x := ⟨_, rfl⟩
            rw [hnd] at b9 HCOND ⊢
            have b10 : IntKind.i64.wrap (t + nd) = t + nd := by rw [IntKind.wrap_i64]; omega
            clear b9
            by_cases hc : t + nd ≤ lj
            · have hdc : decide (t + nd ≤ lj) = true := decide_eq_true hc
              have HL2 := Lib.hid (HCOND.out.trans (if_pos hc))
              have b11 : IntKind.i64.wrap (lj - nd) = lj - nd := by rw [IntKind.wrap_i64]; omega
              have b12 : IntKind.i64.wrap (lj - nd - q.f) = lj - nd - q.f := by rw [IntKind.wrap_i64]; omega
              replace hc := Lib.hid hc
              gi_wp2_with (fail)
              refine wpIn_round_quiet hmix (by kernel_rfl) (by simp) (fun _ _ h => h) ?_
              repeat (go_big_quiet_step (fail))
              rintro w' ⟨nq2, rfl⟩
              gi_wp2_with (fail)
              refine lat_region (i := i) (j := j) (B := B) (f := q.f) (li := li) (lj := lj) (by omega) hi2 cjj cp clj cf cli cfz hne2 (by omega) b11 b12 (fun _ _ h => h) (fun _ _ _ h => h) ?_
              intro a' nn
              refine ⟨(((rstep_drewN W2 nq).trans (rstep_drewN _ nq2)).trans (rstep_drewN _ nn)).trans (RStep.setCell (Pr := protI B f (f + 1)) _ _ _ (fun h => by have h' : w.heap.size + 1 = B ∨ w.heap.size + 1 = f ∨ w.heap.size + 1 = f + 1 := h; omega)), (((HE2.out.drewN nq).drewN nq2).drewN nn).turn (turn_cell _ _ _ _), ?_⟩
              have h := (((HC2.out.drewN nq).drewN nq2).drewN nn).set (k := i) (.int .i64 (max li (lj - nd - q.f)))
              rw [← List.map_set] at h
              exact show Cells _ _ _ _ from by rw [HA1.out, HL2.out]; exact h
            · have hdc : decide (t + nd ≤ lj) = false := decide_eq_false hc
              have HL2 := Lib.hid (HCOND.out.trans (if_neg hc))
              replace hc := Lib.hid hc
              gi_wp2_with (fail)
              refine wpIn_round_quiet hmix (by kernel_rfl) (by simp) (fun _ _ h => h) ?_
              repeat (go_big_quiet_step (fail))
              rintro w' ⟨nq2, rfl⟩
              gi_wp2_with (fail)
              refine ⟨(rstep_drewN W2 nq).trans (rstep_drewN _ nq2), Lib.hid ((HE2.out.drewN nq).drewN nq2), ?_⟩
              exact show Cells _ _ _ _ from by rw [HA1.out, HL2.out]; exact (HC2.out.drewN nq).drewN nq2
          case hstop => rintro D c r W _ _ h; exact h.elim
          case hdone =>
            rintro DD W hDD ⟨HE, HC⟩ hDm
            have hCk : Cells W (w.heap.size + 1) 43 ((Sc.lat q D (k + 1)).map (Value.int .i64)) := by
              have h := HC.out
              have hJ := HJ.out
              subst hJ
              rw [accL_all] at h
              exact h
            have HCK := Lib.hid hCk
            have hJ2 := (HLJ.out.ex HE.out hne2).cell (k := 0) (v := .int .i64 (j : Int)) (by rw [HJ.out]; rfl)
            have hJlt := cell_lt hJ2
            have hjw : IntKind.i64.wrap ((j : Int) - 1) = (j : Int) - 1 := by rw [IntKind.wrap_i64]; omega
            clear hCk HC
            gi_wp2_with (fail)
            have hAL := al1 W (.cells #[.int .i64 ((j : Int) - 1)] 3)
            have hmk : Mk w.heap.size ({ target := .collected DD, args := #[] } :: df) (W.alloc (.cells #[.int .i64 ((j : Int) - 1)] 3)) := by
              refine HLM.out.cons hDD (HLM.out.keep (fun D' h => ?_)) (by omega) ((hAL.block DD (Array.getElem?_eq_some_iff.1 hDm).1).trans hDm)
              have hlt := (Array.getElem?_eq_some_iff.1 h).1
              refine (hAL.block D' (by have := HE.out.size; omega)).trans ((HE.out.block D' hlt ?_).trans h)
              rintro rfl
              rw [show WL.heap[w.heap.size + 1]? = _ from HLH.out] at h; cases h
            have hea : La w (W.alloc (.cells #[.int .i64 ((j : Int) - 1)] 3)) B q D W.heap.size (k + 1) := by
              refine ⟨(HE.out.below HLB.out (by omega)).up hAL, (HLP.out.ex HE.out (by omega)).upb hAL, HCK.out.upb hAL, ?_, by have := HE.out.size; omega⟩
              have h := Cells.new W 3 [.int .i64 ((j : Int) - 1)]
              rw [show ((q.r.length - (k + 1) : Nat) : Int) = (j : Int) - 1 by have := HJ.out; omega]
              exact h
            refine ⟨⟨_, W.heap.size, k + 1, hea, hmk, by omega, rfl, rfl⟩, ?_⟩
            refine Nat.lt_of_le_of_lt (Nat.le_of_eq (mzL_is (p := ⟨W.heap.size, 0, none⟩) (j := (j : Int) - 1) rfl ?_)) (Nat.lt_of_lt_of_eq ?_ (mzL_is (p := ⟨bj, 0, none⟩) (j := (j : Int)) rfl ?_).symm)
            · exact (Cells.new W 3 [.int .i64 ((j : Int) - 1)]).cell (k := 0) rfl
            · omega
            · exact HJ0.out
        · have hkn : k = q.r.length := by omega
          have hj00 : wr2.cell? ⟨bj, 0, none⟩ = some (.int .i64 0) := by rw [hj0, hkn, Nat.sub_self]; rfl
          have HCH := Lib.hid (show Cells wr2 (w.heap.size + 1) 43 ((Sc.lat q D q.r.length).map (Value.int .i64)) from by have h := HS.out.h; rw [hkn] at h; exact h)
          have HB := Lib.hid HS.out.bel
          have hal : ((Sc.lat q D q.r.length).map (Value.int .i64)).length = 65 := by rw [List.length_map]; exact Sc.lat_len hn D _
          have HAL := Lib.hid hal
          have hone : ∀ v ∈ (Sc.lat q D q.r.length).map (Value.int .i64), v.oneCell' = true := by
            intro v hv; simp at hv; obtain ⟨x, _, rfl⟩ := hv; rfl
          have HONE := Lib.hid hone
          obtain ⟨dd, hu1, hu2⟩ := u43
          have HU := Lib.hid (And.intro hu1 hu2)
          clear hal hone hu1 hu2 hkn hpos hj0 hp0
          gi_wp2_with (first | (refine wideL_load rfl 43 (.tmp 4) rfl (w.heap.size + 1) rfl ((Sc.lat q D q.r.length).map (Value.int .i64)) _ HCH.out HU.out.1 HU.out.2 (by rw [HAL.out]; exact i43) ?_) | (refine wideL_store rfl 43 (.tmp 4) (.tmp 78) rfl (w.heap.size + 1) rfl ((Sc.lat q D q.r.length).map (Value.int .i64)) ((Sc.lat q D q.r.length).map (Value.int .i64)) rfl HCH.out (by rw [HAL.out]; exact i43) rfl HONE.out ?_; intro W1 hc1 ht1; have HC1 := Lib.hid hc1; have HT1 := Lib.hid ht1; clear hc1 ht1))
          have hB1 : Below w.heap.size w W1 := HT1.out.below HB.out (by omega)
          have hM1 : Mk w.heap.size df W1 := HM2.out.keep (fun D hD => (HT1.out.block D (by rintro rfl; rw [show wr2.heap[w.heap.size + 1]? = _ from HCH.out] at hD; cases hD)).trans hD)
          refine leaves_marks df W1 hM1 ?_
          rintro W' o1 o2 o3 hs hb
          have hC' : Cells W' (w.heap.size + 1) 43 ((Sc.lat q D q.r.length).map (Value.int .i64)) := hb _ _ HC1.out (.inl rfl)
          have hld := loadVar_W hC' HU.out.1 HU.out.2 (by rw [HAL.out]; exact i43)
          refine ⟨.agg ((Sc.lat q D q.r.length).map (Value.int .i64)).toArray, ?_, rfl, ?_⟩
          · rw [results_cell1 rfl]
            simp [asAddr, Result.andThen, hld, Act.put]
          · refine ⟨o1.trans hB1.os, o2.trans hB1.tape, o3.trans hB1.output, by rw [hs]; exact hB1.size, fun b hlt => ?_⟩
            have hlt1 : b < W1.heap.size := Nat.lt_of_lt_of_le hlt hB1.size
            rw [← hB1.block b hlt, hb b _ (Array.getElem?_eq_getElem hlt1) (.inr hlt), ← Array.getElem?_eq_getElem hlt1]
end Go.Proofs.Ytchjjcmlekknfaa
