/- Walk of Accepts. -/
import Derived.Test.YtdcndhfjfllehaaW13
import Derived.Scope
namespace Go.Proofs.Ytdcndhfjfllehaa
open Go.RowKit
set_option linter.unusedVariables false
set_option linter.unusedSimpArgs false
attribute [local go_sem] Oper.semAt_some

theorem wpIn_scope_wide {P : Program} {c : Code} {Q : Exit → Act → World → Prop} {a : Act} {w : World} (h : c.wpIn Fence.wide 0 P (Exit.noGoto Q) a w) : (Code.scope c).wpIn Fence.wide 0 P Q a w :=
  wpIn_wide.2 (wp_scope_straight (wpIn_wide.1 h))
def AcPost (xs : List Int) (sp rm : Int) (es h : List Int) (w : World) (e : Ending) (w' : World) : Prop := ∃ b : Bool, e = .returned (.tuple #[.bool b, .int .i64 (Bk.err xs sp rm)]) ∧ (b = true ↔ accL xs sp rm es h) ∧ Below w.heap.size w w'
theorem ac_out {n : Nat} {W : World} {tmps : Array Value} {fn : Func} {b : Bool} {x : Int} (hres : fn.results = #[.cell 10 4, .cell 11 24]) (t10 : tmps.getD 10 undef = .pointer (some ⟨n + 1, 0, none⟩)) (t11 : tmps.getD 11 undef = .pointer (some ⟨n + 1 + 1, 0, none⟩))
    (h1 : Boxed W (n + 1) 4 (.bool b)) (h2 : Boxed W (n + 1 + 1) 24 (.int .i64 x)) : (results fn tmps).run Try.prog W = .ok (.tuple #[.bool b, .int .i64 x]) W := by
  have hc1 := h1.cell
  have hc2 := h2.cell
  have t10' : tmps[10]?.getD undef = .pointer (some ⟨n + 1, 0, none⟩) := by rw [← t10]; simp
  have t11' : tmps[11]?.getD undef = .pointer (some ⟨n + 1 + 1, 0, none⟩) := by rw [← t11]; simp
  simp [results, hres, t10', t11', hc1, hc2, go_sem]
theorem ac_end {xs : List Int} {sp rm : Int} {es h : List Int} {w W : World} {tmps : Array Value} {ds : List Deferred} {b : Bool} {x : Int} (t10 : tmps.getD 10 undef = .pointer (some ⟨w.heap.size + 1, 0, none⟩)) (t11 : tmps.getD 11 undef = .pointer (some ⟨w.heap.size + 1 + 1, 0, none⟩))
    (h1 : Boxed W (w.heap.size + 1) 4 (.bool b)) (h2 : Boxed W (w.heap.size + 1 + 1) 24 (.int .i64 x)) (hm : Mk w.heap.size ds W) (he : Bk.err xs sp rm = x) (hb : b = true ↔ accL xs sp rm es h) (hB : Below w.heap.size w W) :
    bodyPostM Fence.wide 0 Try.prog Try.f15 (AcPost xs sp rm es h w) .ret { tmps := tmps, defers := ds } W := by
  refine leaves_marks ds W hm ?_
  rintro W' o1 o2 o3 o4 o5
  refine ⟨_, ac_out rfl t10 t11 (o5 _ _ h1 (.inl rfl)) (o5 _ _ h2 (.inl rfl)), b, by rw [he], hb, o1.trans hB.os, o2.trans hB.tape, o3.trans hB.output, by rw [o4]; exact hB.size, fun q hq => ?_⟩
  have h2 : q < W.heap.size := Nat.lt_of_lt_of_le hq hB.size
  rw [o5 q _ (Array.getElem?_eq_getElem h2) (.inr hq), ← Array.getElem?_eq_getElem h2]
  exact hB.block q hq

theorem ac_no {xs : List Int} {sp rm : Int} {es h : List Int} {w W : World} {tmps : Array Value} {ds : List Deferred} {b : Bool} {x y : Int} (t10 : tmps.getD 10 undef = .pointer (some ⟨w.heap.size + 1, 0, none⟩)) (t11 : tmps.getD 11 undef = .pointer (some ⟨w.heap.size + 1 + 1, 0, none⟩))
    (h1 : Boxed W (w.heap.size + 1) 4 (.bool b)) (h2 : Boxed W (w.heap.size + 1 + 1) 24 (.int .i64 y)) (hm : Mk w.heap.size ds W) (he : Bk.err xs sp rm = x) (hb : false = true ↔ accL xs sp rm es h) (hB : Below w.heap.size w W) :
    bodyPostM Fence.wide 0 Try.prog Try.f15 (AcPost xs sp rm es h w) .ret { tmps := tmps, defers := ds } ((W.setCell ⟨w.heap.size + 1, 0, none⟩ (.bool false)).setCell ⟨w.heap.size + 1 + 1, 0, none⟩ (.int .i64 x)) := by
  refine ac_end t10 t11 (b := false) (x := x) ((h1.set _).other (B' := w.heap.size + 1 + 1) (by omega) _) ((h2.other (B' := w.heap.size + 1) (by omega) _).set _) (hm.keep (fun D hD => ?_)) he hb ((hB.setCell (by dsimp only; omega) _).setCell (by dsimp only; omega) _)
  have n1 : D ≠ w.heap.size + 1 := fun e => by rw [e, h1] at hD; cases hD
  have n2 : D ≠ w.heap.size + 1 + 1 := fun e => by rw [e, h2] at hD; cases hD
  exact ((Below.heap_setCell (W.setCell ⟨w.heap.size + 1, 0, none⟩ (.bool false)) ⟨w.heap.size + 1 + 1, 0, none⟩ (.int .i64 x) D n2).trans (Below.heap_setCell W ⟨w.heap.size + 1, 0, none⟩ (.bool false) D n1)).trans hD

theorem lc_lt {sp rm : Int} {ws : List Int} {t : Nat} {c : Int} (h : Bk.lc sp rm ws t = some c) : t - 1 < (Bk.lines sp rm ws).length := by
  rcases Nat.lt_or_ge (t - 1) (Bk.lines sp rm ws).length with hlt | hge
  · exact hlt
  · unfold Bk.lc at h
    rw [List.getElem?_eq_none hge] at h
    cases h
structure Ac (w W : World) (n : Nat) (hv : Value) (A : Option Addr) (cap : Nat) (sp rm : Int) (T : Nat) : Prop where
  bel : Below w.heap.size w W
  hb : Boxed W w.heap.size 22 hv
  okb : Boxed W (w.heap.size + 1) 4 (.bool false)
  eb : Boxed W (w.heap.size + 1 + 1) 24 (.int .i64 0)
  tx : W.heap[T]? = some (.cells #[.slice A n cap, .int .i64 sp, .int .i64 rm] 42 (0, 0))
theorem Ac.below {w W W' : World} {n : Nat} {hv : Value} {A : Option Addr} {cap : Nat} {sp rm : Int} {T : Nat} (h : Ac w W n hv A cap sp rm T) (hb : Below W.heap.size W W') : Ac w W' n hv A cap sp rm T :=
  ⟨h.bel.up hb, boxed_below h.hb hb, boxed_below h.okb hb, boxed_below h.eb hb, (hb.block T (Array.getElem?_eq_some_iff.1 h.tx).1).trans h.tx⟩
theorem Ex.drewn {wm W : World} {b g : Nat} (h : Ex wm W b g) : Ex wm W.drew b g := ⟨h.os, h.tape, h.output, h.size, h.block⟩
def mzA (n : Nat) (a : Act) (_ : World) : Nat := match a.tmps.getD 58 undef with
  | .int _ k => n - k.toNat
  | _ => 0
theorem mzA_is {n : Nat} {a : Act} {W : World} {k : Int} (h : a.tmps.getD 58 undef = .int .i64 k) : mzA n a W = n - k.toNat := by
  unfold mzA; rw [h]
def mzB (n : Nat) (a : Act) (_ : World) : Nat := match a.tmps.getD 80 undef with
  | .int _ k => n - k.toNat
  | _ => 0
theorem mzB_is {n : Nat} {a : Act} {W : World} {k : Int} (h : a.tmps.getD 80 undef = .int .i64 k) : mzB n a W = n - k.toNat := by
  unfold mzB; rw [h]
/-- the law of the proving list, up to a word -/
def Le (sp rm : Int) (xs h : List Int) (k : Nat) : Prop := ∀ i j, i < k → i < j → j ≤ xs.length → ∀ c, Bk.lc sp rm (xs.drop i) (j - i) = some c → Bk.at_ h i ≤ c + Bk.at_ h j
set_option maxHeartbeats 4000000 in
set_option maxRecDepth 100000 in
theorem accepts_any (xs es h : List Int) (A Ae Ah : Option Addr) (cap ce ch : Nat) (sp rm : Int) (w : World) (hv : IsInts w (.slice A xs.length cap) xs) (hu : IsInts w (.slice Ae es.length ce) es) (ht : IsInts w (.slice Ah h.length ch) h) (hl : xs.length ≤ 9223372036854775807) (hl2 : es.length ≤ 9223372036854775807) (hl3 : h.length ≤ 9223372036854775807) :
    Calls Try.prog 15 #[.slice A xs.length cap, .int .i64 sp, .int .i64 rm, .slice Ae es.length ce, .slice Ah h.length ch] w (AcPost xs sp rm es h w) := by
  have HV := Lib.hid hv
  have HU := Lib.hid hu
  have HT := Lib.hid ht
  clear hv hu ht
  refine (callsIn_wide (n := 0)).1 ?_
  refine callsIn_of_wp_marks Try.func15 rfl trivial ?_ rfl
  simp only [Try.ntmps15, List.size_toArray, List.length_cons, List.length_nil, Nat.reduceAdd, Nat.reduceSub, Array.replicate_succ, Array.replicate_zero, List.push_toArray, List.append_toArray, List.nil_append, List.cons_append]
  have hb0 : Boxed (((w.alloc (.cells #[.slice Ah h.length ch] 22)).alloc (.cells #[.bool false] 4)).alloc (.cells #[.int .i64 0] 24)) w.heap.size 22 (.slice Ah h.length ch) := ((Boxed.new w 22 _).alloc _).alloc _
  have hb1 : Boxed (((w.alloc (.cells #[.slice Ah h.length ch] 22)).alloc (.cells #[.bool false] 4)).alloc (.cells #[.int .i64 0] 24)) (w.heap.size + 1) 4 (.bool false) := by
    have := Boxed.new (w.alloc (.cells #[.slice Ah h.length ch] 22)) 4 (.bool false)
    simp only [World.size_alloc] at this
    exact this.alloc _
  have hb2 : Boxed (((w.alloc (.cells #[.slice Ah h.length ch] 22)).alloc (.cells #[.bool false] 4)).alloc (.cells #[.int .i64 0] 24)) (w.heap.size + 1 + 1) 24 (.int .i64 0) := by
    have := Boxed.new ((w.alloc (.cells #[.slice Ah h.length ch] 22)).alloc (.cells #[.bool false] 4)) 24 (.int .i64 0)
    simp only [World.size_alloc] at this
    exact this
  have hB0 : Below w.heap.size w (((w.alloc (.cells #[.slice Ah h.length ch] 22)).alloc (.cells #[.bool false] 4)).alloc (.cells #[.int .i64 0] 24)) := ((al1 w _).up (al1 _ _)).up (al1 _ _)
  gi_wp2_with (fail)
  refine wpIn_scope_wide ?_
  gi_wp2_with (fail)
  refine inC (check_any xs A cap sp rm _ (HV.out.below hB0) hl) ?_
  rintro e w1 ⟨rfl, hbl⟩
  replace hb0 := boxed_below hb0 hbl
  replace hb1 := boxed_below hb1 hbl
  replace hb2 := boxed_below hb2 hbl
  have HB1 := Lib.hid (hB0.up hbl)
  clear hB0 hbl
  by_cases he : Bk.err xs sp rm = 0
  · have HR := Lib.hid (Bk.err_rt he)
    rw [txt, if_pos he, he]
    have hn := HR.out.len
    have hT1 := hb2.lt
    have q2c := hb2.cell
    have q2f := hb2.frozen
    have q2c' := (hb2.alloc (.cells #[.slice A xs.length cap, .int .i64 sp, .int .i64 rm] 42)).cell
    have q2f' := (hb2.alloc (.cells #[.slice A xs.length cap, .int .i64 sp, .int .i64 rm] 42)).frozen
    have HB2 := Lib.hid ((HB1.out.setCell (p := ⟨w.heap.size + 1 + 1, 0, none⟩) (by dsimp only; omega) (.int .i64 0)).up (al1 (w1.setCell ⟨w.heap.size + 1 + 1, 0, none⟩ (.int .i64 0)) (.cells #[.slice A xs.length cap, .int .i64 sp, .int .i64 rm] 42)))
    have q2 := (hb2.set (.int .i64 0)).alloc (.cells #[.slice A xs.length cap, .int .i64 sp, .int .i64 rm] 42)
    have q1 := (hb1.other (B' := w.heap.size + 1 + 1) (by omega) (.int .i64 0)).alloc (.cells #[.slice A xs.length cap, .int .i64 sp, .int .i64 rm] 42)
    have q0 := (hb0.other (B' := w.heap.size + 1 + 1) (by omega) (.int .i64 0)).alloc (.cells #[.slice A xs.length cap, .int .i64 sp, .int .i64 rm] 42)
    have q3c := q2.cell
    have q3f := q2.frozen
    have q1c := q1.cell
    have q1f := q1.frozen
    have q0c := q0.cell
    have Q2 := Lib.hid q2
    have Q1 := Lib.hid q1
    have Q0 := Lib.hid q0
    have HEN : ∀ (_ : ¬ Bk.Prv sp rm xs h), (false = true ↔ accL xs sp rm es h) := fun hn => by
      simp only [Bool.false_eq_true, false_iff]
      rintro ⟨_, c, _, h2, _⟩
      exact hn h2
    have HENN := Lib.hid HEN
    have HEE := Lib.hid he
    clear q2 q1 q0 HEN he hb0 hb1 hb2
    by_cases hlen : h.length = xs.length + 1
    · have hbl : ((h.length : Int) != (xs.length : Int) + 1) = false := by rw [bne_eq_false_iff_eq]; omega
      have hrow := HT.out
      obtain ⟨A', c', e', hr'⟩ := hrow
      injection e' with e1 e2 e3
      subst e1 e3
      obtain ⟨bb, bo, ea, hbb, hcn⟩ := ints_atB hr' (k := xs.length) (by omega)
      have hcn2 := (HB2.out.cell (p := ⟨bb, bo + xs.length, none⟩) hbb).trans hcn
      have hidx : (xs.length : Int) < (h.length : Int) := by omega
      have hty := HT.out.below HB2.out
      rw [hlen] at hty
      have HTY := Lib.hid hty
      have hq0 := Q0.out
      rw [hlen] at hq0
      have Q0' := Lib.hid hq0
      clear hty hq0 Q0
      subst ea
      by_cases hz : Bk.at_ h xs.length = 0
      · rw [hz] at hcn2
        have HHC := Lib.hid (fun i (hi : i ≤ xs.length) => ints_atB hr' (k := i) (by omega))
        clear hr' hcn
        gi_wp2_with (fail)
        refine inC (Min_any _ h _ HTY.out hl3 (by omega)) ?_
        rintro e w5 ⟨mn, hmn, rfl, rfl⟩
        have HMN := Lib.hid hmn
        have HZ := Lib.hid hz
        clear hmn hz
        by_cases hneg : mn < 0
        · have HNP := Lib.hid (show ¬ Bk.Prv sp rm xs h from fun hp => by
            obtain ⟨k, hk, hke⟩ := List.getElem_of_mem HMN.out.2
            have h1 := Bk.at_eq h k hk
            rcases Nat.lt_or_ge k xs.length with h2 | h2
            · have := hp.rng k h2; omega
            · obtain rfl : k = xs.length := by omega
              have := HZ.out; omega)
          gi_wp2_with (fail)
          refine ⟨trivial, ?_⟩
          gi_wp2_with (fail)
          exact ac_no rfl rfl Q1.out Q2.out trivial HEE.out (HENN.out HNP.out) HB2.out
        · gi_wp2_with (fail)
          refine inC (Max_any _ h _ HTY.out hl3 (by omega)) ?_
          rintro e w5 ⟨mx, hmx, rfl, rfl⟩
          have HMX := Lib.hid hmx
          clear hmx
          by_cases hbig : 1125899906842624 < mx
          · have HNP := Lib.hid (show ¬ Bk.Prv sp rm xs h from fun hp => by
              obtain ⟨k, hk, hke⟩ := List.getElem_of_mem HMX.out.2
              have h1 := Bk.at_eq h k hk
              rcases Nat.lt_or_ge k xs.length with h2 | h2
              · have := hp.rng k h2; omega
              · obtain rfl : k = xs.length := by omega
                have := HZ.out; omega)
            gi_wp2_with (fail)
            exact ac_no rfl rfl Q1.out Q2.out trivial HEE.out (HENN.out HNP.out) HB2.out
          · have HRG := Lib.hid (show ∀ i, i < xs.length → 0 ≤ Bk.at_ h i ∧ Bk.at_ h i ≤ 1125899906842624 from fun i hi => by
              rw [Bk.at_eq h i (by omega)]
              have h1 := HMN.out.1 _ (List.getElem_mem (show i < h.length by omega))
              have h2 := HMX.out.1 _ (List.getElem_mem (show i < h.length by omega))
              omega)
            have q4 : ((w1.setCell ⟨w.heap.size + 1 + 1, 0, none⟩ (.int .i64 0)).alloc (.cells #[.slice A xs.length cap, .int .i64 sp, .int .i64 rm] 42)).heap[w1.heap.size]? = some (.cells #[.slice A xs.length cap, .int .i64 sp, .int .i64 rm] 42 (0, 0)) := by
              have := World.alloc_heap_new (w1.setCell ⟨w.heap.size + 1 + 1, 0, none⟩ (.int .i64 0)) (.cells #[.slice A xs.length cap, .int .i64 sp, .int .i64 rm] 42)
              simpa [World.setCell] using this
            have HAC := Lib.hid (show Ac w ((w1.setCell ⟨w.heap.size + 1 + 1, 0, none⟩ (.int .i64 0)).alloc (.cells #[.slice A xs.length cap, .int .i64 sp, .int .i64 rm] 42)) xs.length (.slice (some ⟨bb, bo, none⟩) (xs.length + 1) ch) A cap sp rm w1.heap.size from ⟨HB2.out, Q0'.out, Q1.out, Q2.out, q4⟩)
            gi_wp2_with (fail)
            clear q2c q2f q2c' q2f' q3c q3f q1c q1f q0c q4 HB2 Q0' Q1 Q2 HTY hcn2 HB1 HMX HMN
            obtain ⟨T, hT⟩ : ∃ T, w1.heap.size = T := ⟨_, rfl⟩
            rw [hT] at hT1 HAC ⊢
            refine wpIn_loop (fun a W => ∃ (ds : List Deferred) (k : Nat), Hid (Ac w W xs.length (.slice (some ⟨bb, bo, none⟩) (xs.length + 1) ch) A cap sp rm T) ∧ Hid (Mk w.heap.size ds W) ∧ k ≤ xs.length ∧ Hid (Le sp rm xs h k) ∧ a.defers = ds ∧ a.tmps.size = 109 ∧ a.tmps.getD 3 undef = .slice Ae es.length ce ∧ a.tmps.getD 9 undef = .pointer (some ⟨w.heap.size, 0, none⟩) ∧ a.tmps.getD 10 undef = .pointer (some ⟨w.heap.size + 1, 0, none⟩) ∧ a.tmps.getD 11 undef = .pointer (some ⟨w.heap.size + 1 + 1, 0, none⟩) ∧ a.tmps.getD 12 undef = .pointer (some ⟨T, 0, none⟩) ∧ a.tmps.getD 13 undef = .int .i64 xs.length ∧ a.tmps.getD 57 undef = .int .i64 xs.length ∧ a.tmps.getD 58 undef = .int .i64 k) (mzA xs.length) ?_ ?_
            · exact ⟨[], 0, HAC, trivial, Nat.zero_le _, fun i j h1 => absurd h1 (Nat.not_lt_zero _), rfl, rfl, rfl, rfl, rfl, rfl, rfl, rfl, rfl, rfl⟩
            rintro ⟨tm, df⟩ wr ⟨ds, k, HA, HM, hk, HLE, hds, htz, e3, e9, e10, e11, e12, e13, e57, e58⟩
            dsimp only at hds htz e3 e9 e10 e11 e12 e13 e57 e58
            subst hds
            obtain ⟨u, rfl⟩ := arr109 tm htz
            replace e3 : u 3 = _ := e3
            replace e9 : u 9 = _ := e9
            replace e10 : u 10 = _ := e10
            replace e11 : u 11 = _ := e11
            replace e12 : u 12 = _ := e12
            replace e13 : u 13 = _ := e13
            replace e57 : u 57 = _ := e57
            replace e58 : u 58 = _ := e58
            clear htz HAC
            rw [e3, e9, e10, e11, e12, e13, e57, e58]
            by_cases hlt : k < xs.length
            · have t0 : wr.cell? ⟨T, 0, none⟩ = some (.slice A xs.length cap) := by simp [World.cell?, HA.out.tx]
              have t1 : wr.cell? ⟨T, 1, none⟩ = some (.int .i64 sp) := by simp [World.cell?, HA.out.tx]
              have t2 : wr.cell? ⟨T, 2, none⟩ = some (.int .i64 rm) := by simp [World.cell?, HA.out.tx]
              have T0 := cell_al t0 (.cells #[.int .i64 k] 3)
              have T1 := cell_al t1 (.cells #[.int .i64 k] 3)
              have T2 := cell_al t2 (.cells #[.int .i64 k] 3)
              clear t0 t1 t2
              gi_wp2_with (fail)
              refine inC (linesF_any _ _ _ _ _ _ _) ?_
              rintro e w4 ⟨rfl, rfl⟩
              gi_wp2_with (fail)
              clear T0 T1 T2
              have hST : Below wr.heap.size wr (((wr.alloc (.cells #[.int .i64 k] 3)).alloc (.cells #[.slice A xs.length cap, .int .i64 sp, .int .i64 rm] 42)).alloc (.cells #[.int .i64 k] 3)) := ((al1 wr _).up (al1 _ _)).up (al1 _ _)
              have hK0 : Boxed (((wr.alloc (.cells #[.int .i64 k] 3)).alloc (.cells #[.slice A xs.length cap, .int .i64 sp, .int .i64 rm] 42)).alloc (.cells #[.int .i64 k] 3)) wr.heap.size 3 (.int .i64 k) := ((Boxed.new wr 3 _).alloc _).alloc _
              have hTX : (((wr.alloc (.cells #[.int .i64 k] 3)).alloc (.cells #[.slice A xs.length cap, .int .i64 sp, .int .i64 rm] 42)).alloc (.cells #[.int .i64 k] 3)).heap[wr.heap.size + 1]? = some (.cells #[.slice A xs.length cap, .int .i64 sp, .int .i64 rm] 42 (0, 0)) := by
                have h := World.alloc_heap_new (wr.alloc (.cells #[.int .i64 k] 3)) (.cells #[.slice A xs.length cap, .int .i64 sp, .int .i64 rm] 42)
                simp only [World.size_alloc] at h
                exact (Below.heap_alloc _ _ _ (by simp)).trans h
              have hKJ : Boxed (((wr.alloc (.cells #[.int .i64 k] 3)).alloc (.cells #[.slice A xs.length cap, .int .i64 sp, .int .i64 rm] 42)).alloc (.cells #[.int .i64 k] 3)) (wr.heap.size + 1 + 1) 3 (.int .i64 k) := by
                have h := Boxed.new ((wr.alloc (.cells #[.int .i64 k] 3)).alloc (.cells #[.slice A xs.length cap, .int .i64 sp, .int .i64 rm] 42)) 3 (.int .i64 k)
                simp only [World.size_alloc] at h
                exact h
              have hac := HA.out.below hST
              have hmk := HM.out.keep (W' := (((wr.alloc (.cells #[.int .i64 k] 3)).alloc (.cells #[.slice A xs.length cap, .int .i64 sp, .int .i64 rm] 42)).alloc (.cells #[.int .i64 k] 3))) (fun D hD => (hST.block D (Array.getElem?_eq_some_iff.1 hD).1).trans hD)
              obtain ⟨f, hf⟩ : ∃ f, wr.heap.size = f := ⟨_, rfl⟩
              obtain ⟨WL, hWL⟩ : ∃ WL, (((wr.alloc (.cells #[.int .i64 k] 3)).alloc (.cells #[.slice A xs.length cap, .int .i64 sp, .int .i64 rm] 42)).alloc (.cells #[.int .i64 k] 3)) = WL := ⟨_, rfl⟩
              have hsz : f + 3 = WL.heap.size := by rw [← hWL, ← hf]; simp
              have hnf : w.heap.size + 1 + 1 < f := by rw [← hf]; exact HA.out.eb.lt
              rw [hWL] at hK0 hTX hKJ hac hmk ⊢
              rw [hf] at hK0 hTX hKJ ⊢
              have HAC := Lib.hid hac
              have HMK := Lib.hid hmk
              have hti : WL.cell? ⟨f + 1, 0, none⟩ = some (.slice A xs.length cap) := by simp [World.cell?, hTX]
              have hti1 : WL.cell? ⟨f + 1, 1, none⟩ = some (.int .i64 sp) := by simp [World.cell?, hTX]
              have hti2 : WL.cell? ⟨f + 1, 2, none⟩ = some (.int .i64 rm) := by simp [World.cell?, hTX]
              have hbl2 := hac.bel
              clear hST hWL hac hmk HA HM
              refine rf_outer (Bk.lines sp rm (xs.drop k)) (protB (f + 1) (f + 1 + 1) w.heap.size)
                (fun r W => Hid (Below WL.heap.size WL W) ∧ ∀ q, q < r → ∀ c, Bk.lc sp rm (xs.drop k) (q + 1) = some c → Bk.at_ h k ≤ c + Bk.at_ h (k + (q + 1)))
                (fun c _ W => c = .ret ∧ ¬ Bk.Prv sp rm xs h ∧ Hid (Ex WL W (w.heap.size + 1) (w.heap.size + 1 + 1)) ∧ Hid (Boxed W (w.heap.size + 1) 4 (.bool false)) ∧ Hid (Boxed W (w.heap.size + 1 + 1) 24 (.int .i64 0)))
                (enc := encP k) rfl (enters_of Try.func36 (by kernel_rfl) rfl) (fun _ => rfl) ?hP ?hit ?hI ?hIx ?h0 ?hround ?hdone ?hstop
              case hP => rintro b (rfl | rfl | hb) <;> omega
              case hit =>
                intro W hW
                have hc : ∀ b o v, b < WL.heap.size → WL.cell? ⟨b, o, none⟩ = some v → W.cell? ⟨b, o, none⟩ = some v := fun b o v hb h => (World.cell?_of_block (hW.block b hb)).trans h
                exact lines_iter (f + 1) (f + 1 + 1) xs A cap k sp rm w W (hc _ _ _ (by omega) hti) (hc _ _ _ (by omega) hti1) (hc _ _ _ (by omega) hti2) (hc _ _ _ (by omega) hKJ.cell) HV.out (hbl2.up hW) HR.out (by omega)
              case hI =>
                rintro r X Y ⟨h1, h2⟩ hs
                exact ⟨h1.out.trans (hs.below (Nat.le_refl _) h1.out.size), h2⟩
              case hIx =>
                rintro c r X Y ⟨h1, h2, h3, h4, h5⟩ hs
                exact ⟨h1, h2, h3.out.istep hs, hs.boxed h4.out, hs.boxed h5.out⟩
              case h0 => exact ⟨Below.refl _ _, fun q hq => absurd hq (Nat.not_lt_zero _)⟩
              case hround =>
                rintro la r hrl W hla ⟨hB, hQ⟩
                have hkl := Bk.lines_len sp rm (xs.drop k)
                have hdl : (xs.drop k).length = xs.length - k := by simp
                obtain ⟨c, hyk⟩ : ∃ c, (Bk.lines sp rm (xs.drop k))[r] = (r + 1, c) := ⟨((Bk.lines sp rm (xs.drop k))[r]).2, Prod.ext (Bk.lines_get hrl) rfl⟩
                have hj : k + (r + 1) ≤ xs.length := by omega
                have hlc : Bk.lc sp rm (xs.drop k) (r + 1) = some c := Bk.lc_mem.2 (hyk ▸ List.getElem_mem hrl)
                have hcb := Bk.lc_bd (HR.out.pos.drop k) HR.out.r hlc
                obtain ⟨b1, o1, ee1, hb1, hc1⟩ := HHC.out k (by omega)
                obtain ⟨b2, o2, ee2, hb2, hc2⟩ := HHC.out (k + (r + 1)) hj
                cases ee1
                cases ee2
                have HLC := Lib.hid hlc
                have HQ := Lib.hid hQ
                rw [hyk]
                simp only [encP]
                rw [show (k : Int) + ((r + 1 : Nat) : Int) = ((k + (r + 1) : Nat) : Int) by omega]
                obtain ⟨j, hjj⟩ : ∃ j, k + (r + 1) = j := ⟨_, rfl⟩
                have HJJ := Lib.hid hjj
                rw [hjj] at hj hc2 ⊢
                have hzj : Bk.at_ h j ≤ 1125899906842624 ∧ 0 ≤ Bk.at_ h j := by
                  rcases Nat.lt_or_ge j xs.length with h4 | h4
                  · exact ⟨(HRG.out j h4).2, (HRG.out j h4).1⟩
                  · obtain rfl : j = xs.length := by omega
                    have := HZ.out; omega
                clear hkl hdl hyk hlc hQ hjj
                gi_wp2
                refine ⟨RStep.refl _ _ _, ?_⟩
                rintro W2 hW2 _
                have HB2 := Lib.hid (hB.out.trans (hW2.below (Nat.le_refl _) hB.out.size))
                clear hB hW2
                have hhc := (boxed_below HAC.out.hb HB2.out).cell
                have hkc := (boxed_below hK0 HB2.out).cell
                have hd1 := (hbl2.up HB2.out).cell (p := ⟨bb, bo + k, none⟩) hb1
                rw [hc1] at hd1
                have hd2 := (hbl2.up HB2.out).cell (p := ⟨bb, bo + j, none⟩) hb2
                rw [hc2] at hd2
                have hi1 : (k : Int) < (xs.length : Int) + 1 := by omega
                have hi2 : (j : Int) < (xs.length : Int) + 1 := by omega
                obtain ⟨zk, hzk⟩ : ∃ z, Bk.at_ h k = z := ⟨_, rfl⟩
                obtain ⟨zj, hzj2⟩ : ∃ z, Bk.at_ h j = z := ⟨_, rfl⟩
                have HZK := Lib.hid hzk
                have HZJ := Lib.hid hzj2
                rw [hzk] at hd1
                rw [hzj2] at hd2 hzj
                obtain ⟨hzj0, hzj1⟩ := hzj
                clear hc1 hc2 hzk hzj2 hrl
                have hmix : Try.prog.follows .mixedOrders = true := by kernel_rfl
                gi_wp2_with (fail)
                by_cases hgt : c + zj < zk
                · have hdt : decide (c + zj < zk) = true := by simpa using hgt
                  have HNP := Lib.hid (show ¬ Bk.Prv sp rm xs h from fun hp => by
                    have h1 := hp.le k (k + (r + 1)) (by omega) (by have := HJJ.out; omega) c (by rw [show k + (r + 1) - k = r + 1 by omega]; exact HLC.out)
                    rw [HJJ.out, HZK.out, HZJ.out] at h1
                    omega)
                  refine wpIn_round_quiet hmix (by kernel_rfl) (by simp) (fun _ _ h => h) ?_
                  repeat (go_big_quiet_step (fail))
                  rintro w' ⟨nq, rfl⟩
                  have o1 := (boxed_below HAC.out.okb HB2.out)
                  have o2 := (boxed_below HAC.out.eb HB2.out)
                  have o1c : (W2.drewN nq).cell? _ = _ := o1.cell
                  have o1f : (W2.drewN nq).frozen? _ = _ := o1.frozen
                  have o2c : (W2.drewN nq).cell? _ = _ := o2.cell
                  have o2f : (W2.drewN nq).frozen? _ = _ := o2.frozen
                  gi_wp2_with (fail)
                  have hex : Ex WL (W2.drewN nq) (w.heap.size + 1) (w.heap.size + 1 + 1) := ⟨HB2.out.os, HB2.out.tape, HB2.out.output, HB2.out.size, fun b hb _ _ => HB2.out.block b hb⟩
                  refine ⟨RStep.trans (Y := W2.drewN nq) ⟨rfl, rfl, rfl, Nat.le_refl _, fun _ _ h _ => h⟩ ((RStep.setCell _ _ _ (fun h => h)).trans (RStep.setCell _ _ _ (fun h => h))), rfl, HNP.out, (hex.set _ _ _ (.inl rfl)).set _ _ _ (.inr rfl), ?_, ?_⟩
                  · exact show Boxed _ _ _ _ from ((show Boxed (W2.drewN nq) _ _ _ from o1).set (.bool false)).other (B' := w.heap.size + 1 + 1) (by omega) (.int .i64 0)
                  · exact show Boxed _ _ _ _ from ((show Boxed (W2.drewN nq) _ _ _ from o2).other (B' := w.heap.size + 1) (by omega) (.bool false)).set (.int .i64 0)
                · have hdt : decide (c + zj < zk) = false := by simpa using hgt
                  refine wpIn_round_quiet hmix (by kernel_rfl) (by simp) (fun _ _ h => h) ?_
                  repeat (go_big_quiet_step (fail))
                  rintro w' ⟨nq, rfl⟩
                  gi_wp2_with (fail)
                  refine ⟨⟨rfl, rfl, rfl, Nat.le_refl _, fun _ _ h _ => h⟩, below_drewN HB2.out nq, fun q hq c' hc' => ?_⟩
                  rcases Nat.lt_or_ge q r with h4 | h4
                  · exact HQ.out q h4 c' hc'
                  · obtain rfl : q = r := by omega
                    rw [HLC.out] at hc'
                    injection hc' with hc'
                    subst hc'
                    rw [HJJ.out, HZK.out, HZJ.out]
                    omega
              case hstop =>
                rintro D c r W hD hr ⟨rfl, HNP, HE, HO1, HO2⟩ hDm
                have hbel : Below w.heap.size w W := ⟨HE.out.os.trans hbl2.os, HE.out.tape.trans hbl2.tape, HE.out.output.trans hbl2.output, Nat.le_trans hbl2.size HE.out.size, fun b hb => (HE.out.block b (by omega) (by omega) (by omega)).trans (hbl2.block b hb)⟩
                have hmk2 : Mk w.heap.size ({ target := .collected D, args := #[] } :: df) W := by
                  refine HMK.out.cons hD (HMK.out.keep (fun D' h => (HE.out.block D' (Array.getElem?_eq_some_iff.1 h).1 ?_ ?_).trans h)) (by omega) hDm
                  · rintro rfl
                    rw [show WL.heap[w.heap.size + 1]? = _ from HAC.out.okb] at h; cases h
                  · rintro rfl
                    rw [show WL.heap[w.heap.size + 1 + 1]? = _ from HAC.out.eb] at h; cases h
                gi_wp2_with (fail)
                exact ac_end rfl rfl HO1.out HO2.out hmk2 HEE.out (HENN.out HNP) hbel
              case hdone =>
                rintro D W hD ⟨HE, HQ⟩ hDm
                gi_wp2_with (fail)
                refine ⟨⟨_, k + 1, HAC.out.below HE.out, HMK.out.cons hD (HMK.out.keep (fun D' h => (HE.out.block D' (Array.getElem?_eq_some_iff.1 h).1).trans h)) (by omega) hDm, by omega, ?_, rfl, rfl, rfl, rfl, rfl, rfl, rfl, rfl, rfl, ?_⟩, ?_⟩
                · exact show Le sp rm xs h (k + 1) from fun i j h1 h2 h3 c hc => by
                    rcases Nat.lt_or_ge i k with h4 | h4
                    · exact HLE.out i j h4 h2 h3 c hc
                    · obtain rfl : i = k := by omega
                      have hq := lc_lt hc
                      have := HQ (j - i - 1) hq c (by rw [show j - i - 1 + 1 = j - i by omega]; exact hc)
                      rwa [show i + (j - i - 1 + 1) = j by omega] at this
                · exact congrArg (Value.int .i64) (by omega)
                · exact Nat.lt_of_le_of_lt (Nat.le_of_eq (mzA_is (k := (k : Int) + 1) rfl)) (Nat.lt_of_lt_of_eq (by omega) (mzA_is (k := (k : Int)) rfl).symm)
            · obtain rfl : k = xs.length := by omega
              gi_wp2_with (fail)
              refine wpIn_label ?_
              clear e3 e9 e10 e11 e12 e13 e57 e58 hlt hk
              have hPRV := Lib.hid (show Bk.Prv sp rm xs h from ⟨hlen, HZ.out, HRG.out, fun i j h1 h2 => HLE.out i j (by omega) h1 h2⟩)
              gi_wp2_with (fail)
              have HAC2 := Lib.hid ((HA.out.below (al1 wr (.cells #[.int .i64 0] 3))).below (al1 _ (.cells #[.int .i64 0] 3)))
              have HMK2 := Lib.hid (HM.out.keep (W' := (wr.alloc (.cells #[.int .i64 0] 3)).alloc (.cells #[.int .i64 0] 3)) (fun D hD => (((al1 wr (.cells #[.int .i64 0] 3)).up (al1 _ (.cells #[.int .i64 0] 3))).block D (Array.getElem?_eq_some_iff.1 hD).1).trans hD))
              have hbx1 : Boxed ((wr.alloc (.cells #[.int .i64 0] 3)).alloc (.cells #[.int .i64 0] 3)) wr.heap.size 3 (.int .i64 0) := (Boxed.new wr 3 _).alloc _
              have hbx2 : Boxed ((wr.alloc (.cells #[.int .i64 0] 3)).alloc (.cells #[.int .i64 0] 3)) (wr.heap.size + 1) 3 (.int .i64 0) := by
                have := Boxed.new (wr.alloc (.cells #[.int .i64 0] 3)) 3 (.int .i64 0)
                simp only [World.size_alloc] at this
                exact this
              have hnF : w.heap.size + 1 + 1 < wr.heap.size := HA.out.eb.lt
              have hTF : T < wr.heap.size := (Array.getElem?_eq_some_iff.1 HA.out.tx).1
              clear HA HM HLE
              obtain ⟨F, hF⟩ : ∃ F, wr.heap.size = F := ⟨_, rfl⟩
              obtain ⟨Y, hY⟩ : ∃ Y, (wr.alloc (.cells #[.int .i64 0] 3)).alloc (.cells #[.int .i64 0] 3) = Y := ⟨_, rfl⟩
              rw [hF] at hbx1 hbx2 hnF hTF ⊢
              rw [hY] at HAC2 HMK2 hbx1 hbx2 ⊢
              clear hY hF
              refine wpIn_loop (fun a W => ∃ (ds : List Deferred) (k at0 : Nat) (sum : Int), Hid (Ac w W xs.length (.slice (some ⟨bb, bo, none⟩) (xs.length + 1) ch) A cap sp rm T) ∧ Hid (Mk w.heap.size ds W) ∧ k ≤ es.length ∧ at0 ≤ xs.length ∧ 0 ≤ sum ∧ sum ≤ 1099511627776 * (at0 : Int) ∧ Hid (Boxed W F 3 (.int .i64 at0)) ∧ Hid (Boxed W (F + 1) 3 (.int .i64 sum)) ∧ Hid (Bk.cst sp rm 0 xs es = (Bk.cst sp rm at0 (xs.drop at0) (es.drop k)).map (sum + ·)) ∧ a.defers = ds ∧ a.tmps.size = 109 ∧ a.tmps.getD 9 undef = .pointer (some ⟨w.heap.size, 0, none⟩) ∧ a.tmps.getD 10 undef = .pointer (some ⟨w.heap.size + 1, 0, none⟩) ∧ a.tmps.getD 11 undef = .pointer (some ⟨w.heap.size + 1 + 1, 0, none⟩) ∧ a.tmps.getD 12 undef = .pointer (some ⟨T, 0, none⟩) ∧ a.tmps.getD 13 undef = .int .i64 xs.length ∧ a.tmps.getD 17 undef = .pointer (some ⟨F, 0, none⟩) ∧ a.tmps.getD 18 undef = .pointer (some ⟨F + 1, 0, none⟩) ∧ a.tmps.getD 78 undef = .slice Ae es.length ce ∧ a.tmps.getD 79 undef = .int .i64 es.length ∧ a.tmps.getD 80 undef = .int .i64 k) (mzB es.length) ?_ ?_
              · exact ⟨df, 0, 0, 0, HAC2, HMK2, Nat.zero_le _, Nat.zero_le _, Int.le_refl _, by omega, hbx1, hbx2, Lib.hid (by simp), rfl, rfl, rfl, rfl, rfl, rfl, rfl, rfl, rfl, rfl, rfl, rfl⟩
              clear HAC2 HMK2 hbx1 hbx2
              rintro ⟨tm2, df2⟩ wr2 ⟨ds2, k, at0, sum, HA, HM, hk, hat, hs0, hs1, HB17, HB18, HCS, hds, htz, e9, e10, e11, e12, e13, e17, e18, e78, e79, e80⟩
              dsimp only at hds htz e9 e10 e11 e12 e13 e17 e18 e78 e79 e80
              subst hds
              obtain ⟨u2, rfl⟩ := arr109 tm2 htz
              replace e9 : u2 9 = _ := e9
              replace e10 : u2 10 = _ := e10
              replace e11 : u2 11 = _ := e11
              replace e12 : u2 12 = _ := e12
              replace e13 : u2 13 = _ := e13
              replace e17 : u2 17 = _ := e17
              replace e18 : u2 18 = _ := e18
              replace e78 : u2 78 = _ := e78
              replace e79 : u2 79 = _ := e79
              replace e80 : u2 80 = _ := e80
              clear htz
              rw [e9, e10, e11, e12, e13, e17, e18, e78, e79, e80]
              clear e9 e10 e11 e12 e13 e17 e18 e78 e79 e80
              by_cases hlt : k < es.length
              · obtain ⟨Ax, cx, ex, hru⟩ := HU.out
                injection ex with ex1 ex2 ex3
                subst ex1 ex3
                obtain ⟨b3, o3, rfl, hb3, hc3⟩ := ints_at hru hlt
                have hce := (HA.out.bel.cell (p := ⟨b3, o3 + k, none⟩) hb3).trans hc3
                have HD := Lib.hid (List.drop_eq_getElem_cons hlt)
                clear hru hc3
                generalize es[k] = e at *
                have hc17 := HB17.out.cell
                have hce' := cell_al hce (.cells #[.int .i64 e] 3)
                have t0 : wr2.cell? ⟨T, 0, none⟩ = some (.slice A xs.length cap) := by simp [World.cell?, HA.out.tx]
                have t1 : wr2.cell? ⟨T, 1, none⟩ = some (.int .i64 sp) := by simp [World.cell?, HA.out.tx]
                have t2 : wr2.cell? ⟨T, 2, none⟩ = some (.int .i64 rm) := by simp [World.cell?, HA.out.tx]
                have T0 := cell_al t0 (.cells #[.int .i64 e] 3)
                have T1 := cell_al t1 (.cells #[.int .i64 e] 3)
                have T2 := cell_al t2 (.cells #[.int .i64 e] 3)
                have T17 := cell_al hc17 (.cells #[.int .i64 e] 3)
                clear t0 t1 t2
                gi_wp2_with (fail)
                refine inC (linesF_any _ _ _ _ _ _ _) ?_
                rintro e' w4 ⟨rfl, rfl⟩
                gi_wp2_with (fail)
                clear T0 T1 T2 T17 hce hce' hc17
                have hST : Below wr2.heap.size wr2 (((wr2.alloc (.cells #[.int .i64 e] 3)).alloc (.cells #[.slice A xs.length cap, .int .i64 sp, .int .i64 rm] 42)).alloc (.cells #[.int .i64 at0] 3)) := ((al1 wr2 _).up (al1 _ _)).up (al1 _ _)
                have hK0 : Boxed (((wr2.alloc (.cells #[.int .i64 e] 3)).alloc (.cells #[.slice A xs.length cap, .int .i64 sp, .int .i64 rm] 42)).alloc (.cells #[.int .i64 at0] 3)) wr2.heap.size 3 (.int .i64 e) := ((Boxed.new wr2 3 _).alloc _).alloc _
                have hTX : (((wr2.alloc (.cells #[.int .i64 e] 3)).alloc (.cells #[.slice A xs.length cap, .int .i64 sp, .int .i64 rm] 42)).alloc (.cells #[.int .i64 at0] 3)).heap[wr2.heap.size + 1]? = some (.cells #[.slice A xs.length cap, .int .i64 sp, .int .i64 rm] 42 (0, 0)) := by
                  have h := World.alloc_heap_new (wr2.alloc (.cells #[.int .i64 e] 3)) (.cells #[.slice A xs.length cap, .int .i64 sp, .int .i64 rm] 42)
                  simp only [World.size_alloc] at h
                  exact (Below.heap_alloc _ _ _ (by simp)).trans h
                have hKJ : Boxed (((wr2.alloc (.cells #[.int .i64 e] 3)).alloc (.cells #[.slice A xs.length cap, .int .i64 sp, .int .i64 rm] 42)).alloc (.cells #[.int .i64 at0] 3)) (wr2.heap.size + 1 + 1) 3 (.int .i64 at0) := by
                  have h := Boxed.new ((wr2.alloc (.cells #[.int .i64 e] 3)).alloc (.cells #[.slice A xs.length cap, .int .i64 sp, .int .i64 rm] 42)) 3 (.int .i64 at0)
                  simp only [World.size_alloc] at h
                  exact h
                have hac := HA.out.below hST
                have hb17 := boxed_below HB17.out hST
                have hb18 := boxed_below HB18.out hST
                have hF2 := HB18.out.lt
                have hmk := HM.out.keep (W' := (((wr2.alloc (.cells #[.int .i64 e] 3)).alloc (.cells #[.slice A xs.length cap, .int .i64 sp, .int .i64 rm] 42)).alloc (.cells #[.int .i64 at0] 3))) (fun D hD => (hST.block D (Array.getElem?_eq_some_iff.1 hD).1).trans hD)
                obtain ⟨f, hf⟩ : ∃ f, wr2.heap.size = f := ⟨_, rfl⟩
                obtain ⟨WL, hWL⟩ : ∃ WL, (((wr2.alloc (.cells #[.int .i64 e] 3)).alloc (.cells #[.slice A xs.length cap, .int .i64 sp, .int .i64 rm] 42)).alloc (.cells #[.int .i64 at0] 3)) = WL := ⟨_, rfl⟩
                have hsz : f + 3 = WL.heap.size := by rw [← hWL, ← hf]; simp
                rw [hWL] at hK0 hTX hKJ hac hmk hb17 hb18 ⊢
                rw [hf] at hK0 hTX hKJ hF2 ⊢
                have HAC := Lib.hid hac
                have HMK := Lib.hid hmk
                have hti : WL.cell? ⟨f + 1, 0, none⟩ = some (.slice A xs.length cap) := by simp [World.cell?, hTX]
                have hti1 : WL.cell? ⟨f + 1, 1, none⟩ = some (.int .i64 sp) := by simp [World.cell?, hTX]
                have hti2 : WL.cell? ⟨f + 1, 2, none⟩ = some (.int .i64 rm) := by simp [World.cell?, hTX]
                have hbl2 := hac.bel
                clear hST hWL hac hmk HA HM HB17 HB18
                refine rf_outer (Bk.lines sp rm (xs.drop at0)) (protB (f + 1) (f + 1 + 1) w.heap.size)
                  (fun r W => Hid (Below WL.heap.size WL W) ∧ ∀ q, q < r → ((at0 + (q + 1) : Nat) : Int) ≠ e)
                  (fun c _ W => c = .exit 5 ∧ ∃ (t : Nat) (c' : Int), Bk.lc sp rm (xs.drop at0) t = some c' ∧ e = ((at0 + t : Nat) : Int) ∧ Hid (Ex WL W F (F + 1)) ∧ Hid (Boxed W F 3 (.int .i64 e)) ∧ Hid (Boxed W (F + 1) 3 (.int .i64 (sum + c'))))
                  (enc := encP at0) rfl (enters_of Try.func36 (by kernel_rfl) rfl) (fun _ => rfl) ?hP ?hit ?hI ?hIx ?h0 ?hround ?hdone ?hstop
                case hP => rintro b (rfl | rfl | hb) <;> omega
                case hit =>
                  intro W hW
                  have hc : ∀ b o v, b < WL.heap.size → WL.cell? ⟨b, o, none⟩ = some v → W.cell? ⟨b, o, none⟩ = some v := fun b o v hb h => (World.cell?_of_block (hW.block b hb)).trans h
                  exact lines_iter (f + 1) (f + 1 + 1) xs A cap at0 sp rm w W (hc _ _ _ (by omega) hti) (hc _ _ _ (by omega) hti1) (hc _ _ _ (by omega) hti2) (hc _ _ _ (by omega) hKJ.cell) HV.out (hbl2.up hW) HR.out hat
                case hI =>
                  rintro r X Y ⟨h1, h2⟩ hs
                  exact ⟨h1.out.trans (hs.below (Nat.le_refl _) h1.out.size), h2⟩
                case hIx =>
                  rintro c r X Y ⟨h1, t, c', h2, h3, h4, h5, h6⟩ hs
                  exact ⟨h1, t, c', h2, h3, h4.out.istep hs, hs.boxed h5.out, hs.boxed h6.out⟩
                case h0 => exact ⟨Below.refl _ _, fun q hq => absurd hq (Nat.not_lt_zero _)⟩
                case hround =>
                  rintro la r hrl W hla ⟨hB, hQ⟩
                  have hkl := Bk.lines_len sp rm (xs.drop at0)
                  have hdl : (xs.drop at0).length = xs.length - at0 := by simp
                  obtain ⟨c, hyk⟩ : ∃ c, (Bk.lines sp rm (xs.drop at0))[r] = (r + 1, c) := ⟨((Bk.lines sp rm (xs.drop at0))[r]).2, Prod.ext (Bk.lines_get hrl) rfl⟩
                  have hlc : Bk.lc sp rm (xs.drop at0) (r + 1) = some c := Bk.lc_mem.2 (hyk ▸ List.getElem_mem hrl)
                  have hcb := Bk.lc_bd (HR.out.pos.drop at0) HR.out.r hlc
                  have HLC := Lib.hid hlc
                  have HQ := Lib.hid hQ
                  rw [hyk]
                  simp only [encP]
                  rw [show (at0 : Int) + ((r + 1 : Nat) : Int) = ((at0 + (r + 1) : Nat) : Int) by omega]
                  obtain ⟨j, hjj⟩ : ∃ j, at0 + (r + 1) = j := ⟨_, rfl⟩
                  have HJJ := Lib.hid hjj
                  rw [hjj]
                  clear hkl hyk hlc hQ hjj hrl
                  gi_wp2
                  refine ⟨RStep.refl _ _ _, ?_⟩
                  rintro W2 hW2 _
                  have HB2 := Lib.hid (hB.out.trans (hW2.below (Nat.le_refl _) hB.out.size))
                  clear hB hW2
                  have hkc := (boxed_below hK0 HB2.out).cell
                  by_cases hje : (j : Int) = e
                  · have hjb : ((j : Int) == e) = true := by rw [beq_iff_eq]; exact hje
                    have q17 := boxed_below hb17 HB2.out
                    have q18 := boxed_below hb18 HB2.out
                    have q17c : W2.drew.cell? _ = _ := q17.cell
                    have q17f : W2.drew.frozen? _ = _ := q17.frozen
                    have q18c : W2.drew.cell? _ = _ := q18.cell
                    have q18f : W2.drew.frozen? _ = _ := q18.frozen
                    have hmix : Try.prog.follows .mixedOrders = true := by kernel_rfl
                    gi_wp2_with (fail)
                    have q19 := q18.other (B' := F) (by omega) (.int .i64 e)
                    have q19c := q19.cell
                    have q19f := q19.frozen
                    have hwr : IntKind.i64.wrap (sum + c) = sum + c := by
                      rw [IntKind.wrap_i64]; omega
                    refine wpIn_round hmix (by simp) (fun _ _ h => h) ?_
                    refine wpAny_take (i := 0) (v := (.int .i64 e)) rfl (by kernel_rfl) (by kernel_rfl) (by kernel_rfl) (fun _ _ _ h => h) (.inl ⟨rfl, fun X => ?_⟩) ?_
                    · go_simp
                    simp only [Act.put, List.setIfInBounds_toArray, List.set_cons_zero, List.set_cons_succ]
                    refine wpAny_take (i := 2) (v := (.int .i64 c)) rfl (by kernel_rfl) (by kernel_rfl) (by kernel_rfl) (fun _ _ _ h => h) (.inl ⟨rfl, fun X => ?_⟩) ?_
                    · go_simp
                    simp only [Act.put, List.setIfInBounds_toArray, List.set_cons_zero, List.set_cons_succ]
                    refine wpAny_ready (rs := [1, 4]) (by kernel_rfl) (by simp) (AllReady.cons rfl (fun K hK => ?_) (AllReady.cons rfl (fun K hK => ?_) AllReady.nil))
                    · go_simp
                      refine hK _ _ ?_
                      clear hK K
                      refine wpAny_take (i := 3) (v := (.int .i64 (sum + c))) rfl (by kernel_rfl) (by kernel_rfl) (by kernel_rfl) (fun _ _ _ h => h) (.inl ⟨rfl, fun X => ?_⟩) ?_
                      · go_simp
                      simp only [Act.put, List.setIfInBounds_toArray, List.set_cons_zero, List.set_cons_succ]
                      refine wpAny_ready (rs := [4]) (by kernel_rfl) (by simp) (AllReady.cons rfl (fun K hK => ?_) AllReady.nil)
                      go_simp
                      refine hK _ _ ?_
                      clear hK K
                      refine wpAny_ready (rs := [5]) (by kernel_rfl) (by simp) (AllReady.cons rfl (fun K hK => ?_) AllReady.nil)
                      go_simp
                      refine hK _ _ ?_
                      clear hK K
                      refine wpAny_done (by kernel_rfl) ?_ _
                      gi_wp2_with (fail)
                      have hex : Ex WL W2 F (F + 1) := ⟨HB2.out.os, HB2.out.tape, HB2.out.output, HB2.out.size, fun b hb _ _ => HB2.out.block b hb⟩
                      refine ⟨RStep.trans ((RStep.setCell _ _ _ (fun h => h)).trans (RStep.setCell _ _ _ (fun h => h))) ⟨rfl, rfl, rfl, Nat.le_refl _, fun _ _ h _ => h⟩, rfl, r + 1, c, HLC.out, ?_, ((hex.set F 0 (.int .i64 e) (.inl rfl)).set (F + 1) 0 (.int .i64 (sum + c)) (.inr rfl)).drewn, ?_, ?_⟩
                      · rw [HJJ.out]; exact hje.symm
                      · exact show Boxed _ _ _ _ from (q17.set (.int .i64 e)).other (B' := F + 1) (by omega) (.int .i64 (sum + c))
                      · exact show Boxed _ _ _ _ from q19.set (.int .i64 (sum + c))
                    · go_simp
                      refine hK _ _ ?_
                      clear hK K
                      refine wpAny_ready (rs := [1]) (by kernel_rfl) (by simp) (AllReady.cons rfl (fun K hK => ?_) AllReady.nil)
                      go_simp
                      refine hK _ _ ?_
                      clear hK K
                      refine wpAny_take (i := 3) (v := (.int .i64 (sum + c))) rfl (by kernel_rfl) (by kernel_rfl) (by kernel_rfl) (fun _ _ _ h => h) (.inl ⟨rfl, fun X => ?_⟩) ?_
                      · go_simp
                      simp only [Act.put, List.setIfInBounds_toArray, List.set_cons_zero, List.set_cons_succ]
                      refine wpAny_ready (rs := [5]) (by kernel_rfl) (by simp) (AllReady.cons rfl (fun K hK => ?_) AllReady.nil)
                      go_simp
                      refine hK _ _ ?_
                      clear hK K
                      refine wpAny_done (by kernel_rfl) ?_ _
                      gi_wp2_with (fail)
                      have hex : Ex WL W2 F (F + 1) := ⟨HB2.out.os, HB2.out.tape, HB2.out.output, HB2.out.size, fun b hb _ _ => HB2.out.block b hb⟩
                      refine ⟨RStep.trans ((RStep.setCell _ _ _ (fun h => h)).trans (RStep.setCell _ _ _ (fun h => h))) ⟨rfl, rfl, rfl, Nat.le_refl _, fun _ _ h _ => h⟩, rfl, r + 1, c, HLC.out, ?_, ((hex.set F 0 (.int .i64 e) (.inl rfl)).set (F + 1) 0 (.int .i64 (sum + c)) (.inr rfl)).drewn, ?_, ?_⟩
                      · rw [HJJ.out]; exact hje.symm
                      · exact show Boxed _ _ _ _ from (q17.set (.int .i64 e)).other (B' := F + 1) (by omega) (.int .i64 (sum + c))
                      · exact show Boxed _ _ _ _ from q19.set (.int .i64 (sum + c))
                  · have hjb : ((j : Int) == e) = false := by rw [beq_eq_false_iff_ne]; exact hje
                    have HNE := Lib.hid hje
                    clear hje
                    gi_wp2_with (fail)
                    refine ⟨RStep.refl _ _ _, HB2, fun q hq => ?_⟩
                    rcases Nat.lt_or_ge q r with h4 | h4
                    · exact HQ.out q h4
                    · obtain rfl : q = r := by omega
                      rw [HJJ.out]
                      exact HNE.out
                case hstop =>
                  rintro D c r W hD hr ⟨rfl, t, c', hlc, het, HE, HB17, HB18⟩ hDm
                  have hcb := Bk.lc_bd (HR.out.pos.drop at0) HR.out.r hlc
                  have hdl : (xs.drop at0).length = xs.length - at0 := by simp
                  have hac2 : Ac w W xs.length (.slice (some ⟨bb, bo, none⟩) (xs.length + 1) ch) A cap sp rm T := by
                    have h0 := HAC.out.hb.lt
                    have h1 := HAC.out.okb.lt
                    have h2 := HAC.out.eb.lt
                    have h3 := (Array.getElem?_eq_some_iff.1 HAC.out.tx).1
                    exact ⟨⟨HE.out.os.trans hbl2.os, HE.out.tape.trans hbl2.tape, HE.out.output.trans hbl2.output, Nat.le_trans hbl2.size HE.out.size, fun b hb => (HE.out.block b (by omega) (by omega) (by omega)).trans (hbl2.block b hb)⟩, (HE.out.block _ h0 (by omega) (by omega)).trans HAC.out.hb, (HE.out.block _ h1 (by omega) (by omega)).trans HAC.out.okb, (HE.out.block _ h2 (by omega) (by omega)).trans HAC.out.eb, (HE.out.block _ h3 (by omega) (by omega)).trans HAC.out.tx⟩
                  have hmk2 : Mk w.heap.size ({ target := .collected D, args := #[] } :: df2) W := by
                    refine HMK.out.cons hD (HMK.out.keep (fun D' h => (HE.out.block D' (Array.getElem?_eq_some_iff.1 h).1 ?_ ?_).trans h)) (by omega) hDm
                    · rintro rfl
                      rw [show WL.heap[D']? = _ from hb17] at h; cases h
                    · rintro rfl
                      rw [show WL.heap[F + 1]? = _ from hb18] at h; cases h
                  have HF := Lib.hid (show Bk.cst sp rm 0 xs es = (Bk.cst sp rm (at0 + t) (xs.drop (at0 + t)) (es.drop (k + 1))).map ((sum + c') + ·) by
                    have hna : (e - (at0 : Int)).toNat = t := by omega
                    rw [HCS.out, HD.out, Bk.cst_some (by omega) (by rw [hna]; exact hlc), hna, List.drop_drop, het, Int.toNat_natCast, Option.map_map]
                    congr 1
                    funext z
                    simp only [Function.comp]; omega)
                  subst het
                  gi_wp2_with (fail)
                  refine ⟨⟨_, k + 1, at0 + t, sum + c', hac2, hmk2, by omega, by omega, by omega, by omega, HB17, HB18, HF, rfl, rfl, rfl, rfl, rfl, rfl, rfl, rfl, rfl, rfl, rfl, ?_⟩, ?_⟩
                  · exact congrArg (Value.int .i64) (by omega)
                  · exact Nat.lt_of_le_of_lt (Nat.le_of_eq (mzB_is (k := (k : Int) + 1) rfl)) (Nat.lt_of_lt_of_eq (by omega) (mzB_is (k := (k : Int)) rfl).symm)
                case hdone =>
                  rintro D W hD ⟨HE, HQ⟩ hDm
                  have HN := Lib.hid (show Bk.cst sp rm 0 xs es = none by
                    rw [HCS.out, HD.out]
                    by_cases hle : e ≤ (at0 : Int)
                    · rw [Bk.cst_le hle]; rfl
                    · cases hlc : Bk.lc sp rm (xs.drop at0) (e - at0).toNat with
                      | none => rw [Bk.cst_none hlc]; rfl
                      | some c =>
                        exfalso
                        have h1 := lc_lt hlc
                        exact HQ _ h1 (by omega))
                  have HY := Lib.hid (show false = true ↔ accL xs sp rm es h from ⟨fun h => (by cases h), fun ⟨_, c, h1, _, h2⟩ => by rw [HN.out] at h1; cases h1⟩)
                  have q1 := boxed_below HAC.out.okb HE.out
                  have q2 := boxed_below HAC.out.eb HE.out
                  have q1c := q1.cell
                  have q1f := q1.frozen
                  have q2c := q2.cell
                  have q2f := q2.frozen
                  have hmk2 : Mk w.heap.size ({ target := .collected D, args := #[] } :: df2) W := HMK.out.cons hD (HMK.out.keep (fun D' h => (HE.out.block D' (Array.getElem?_eq_some_iff.1 h).1).trans h)) (by omega) hDm
                  clear HQ
                  gi_wp2_with (fail)
                  exact ac_no rfl rfl q1 q2 hmk2 HEE.out (by simpa using HY.out) (hbl2.up HE.out)
              · obtain rfl : k = es.length := by omega
                gi_wp2_with (fail)
                have hE := List.drop_eq_nil_of_le (Nat.le_refl es.length)
                obtain ⟨b1, o1, ee1, hb1, hc1⟩ := HHC.out 0 (by omega)
                cases ee1
                have hd1 := (HA.out.bel.cell (p := ⟨bb, bo + 0, none⟩) hb1).trans hc1
                rw [Nat.add_zero] at hd1
                have hc17 := HB17.out.cell
                have hc18 := HB18.out.cell
                have hhc := HA.out.hb.cell
                have o1c := HA.out.okb.cell
                have o1f := HA.out.okb.frozen
                have o2c := HA.out.eb.cell
                have o2f := HA.out.eb.frozen
                have o2c' := (HA.out.eb.other (B' := w.heap.size + 1) (by omega) (.bool false)).cell
                have o2f' := (HA.out.eb.other (B' := w.heap.size + 1) (by omega) (.bool false)).frozen
                have o2c2 := (HA.out.eb.other (B' := w.heap.size + 1) (by omega) (.bool true)).cell
                have o2f2 := (HA.out.eb.other (B' := w.heap.size + 1) (by omega) (.bool true)).frozen
                have hi0 : (0 : Int) < (xs.length : Int) + 1 := by omega
                have hfin : ∀ (b : Bool), (b = true ↔ accL xs sp rm es h) → ∀ (tmps : Array Value), tmps.getD 10 undef = .pointer (some ⟨w.heap.size + 1, 0, none⟩) → tmps.getD 11 undef = .pointer (some ⟨w.heap.size + 1 + 1, 0, none⟩) → bodyPostM Fence.wide 0 Try.prog Try.f15 (AcPost xs sp rm es h w) .ret { tmps := tmps, defers := df2 } ((wr2.setCell ⟨w.heap.size + 1, 0, none⟩ (.bool b)).setCell ⟨w.heap.size + 1 + 1, 0, none⟩ (.int .i64 0)).drew := by
                  intro b hb tmps t10 t11
                  refine ac_end t10 t11 (b := b) (x := 0) (show Boxed _ _ _ _ from (HA.out.okb.set (.bool b)).other (B' := w.heap.size + 1 + 1) (by omega) (.int .i64 0)) (show Boxed _ _ _ _ from (HA.out.eb.other (B' := w.heap.size + 1) (by omega) (.bool b)).set (.int .i64 0)) (HM.out.keep (fun D hD => ?_)) HEE.out hb (below_drewN ((HA.out.bel.setCell (by dsimp only; omega) _).setCell (by dsimp only; omega) _) 1)
                  have n1 : D ≠ w.heap.size + 1 := fun e => by rw [e, HA.out.okb] at hD; cases hD
                  have n2 : D ≠ w.heap.size + 1 + 1 := fun e => by rw [e, HA.out.eb] at hD; cases hD
                  exact ((Below.heap_setCell (wr2.setCell ⟨w.heap.size + 1, 0, none⟩ (.bool b)) ⟨w.heap.size + 1 + 1, 0, none⟩ (.int .i64 0) D n2).trans (Below.heap_setCell wr2 ⟨w.heap.size + 1, 0, none⟩ (.bool b) D n1)).trans hD
                have HFIN := Lib.hid hfin
                clear hfin
                by_cases hae : at0 = xs.length
                · have hbq : ((at0 : Int) == (xs.length : Int)) = true := by rw [beq_iff_eq]; omega
                  have HF := Lib.hid (show Bk.cst sp rm 0 xs es = some sum by rw [HCS.out, hE, hae]; simp [Bk.cst])
                  clear hE hae hat
                  by_cases hsz0 : sum = Bk.at_ h 0
                  · have hbz : (sum == Bk.at_ h 0) = true := by rw [beq_iff_eq]; exact hsz0
                    have HY := Lib.hid (show true = true ↔ accL xs sp rm es h from ⟨fun _ => ⟨HEE.out, sum, HF.out, hPRV.out, hsz0⟩, fun _ => rfl⟩)
                    clear hsz0
                    gi_region
                    gi_wp2_with (fail)
                    exact HFIN.out true (by simpa using HY.out) _ rfl rfl
                  · have hbz : (sum == Bk.at_ h 0) = false := by rw [beq_eq_false_iff_ne]; exact hsz0
                    have HY := Lib.hid (show false = true ↔ accL xs sp rm es h from ⟨fun h => (by cases h), fun ⟨_, c, h1, _, h2⟩ => by
                      rw [HF.out] at h1
                      injection h1 with h1
                      exact absurd (h1.trans h2) hsz0⟩)
                    clear hsz0
                    gi_region
                    gi_wp2_with (fail)
                    exact HFIN.out false (by simpa using HY.out) _ rfl rfl
                · have hbq : ((at0 : Int) == (xs.length : Int)) = false := by rw [beq_eq_false_iff_ne]; omega
                  have HF := Lib.hid (show Bk.cst sp rm 0 xs es = none by
                    rw [HCS.out, hE, Bk.cst]
                    have h3 : (xs.drop at0).isEmpty = false := by
                      cases hx : xs.drop at0 with
                      | nil => have := congrArg List.length hx; simp at this; omega
                      | cons y r => rfl
                    rw [h3]; rfl)
                  have HY := Lib.hid (show false = true ↔ accL xs sp rm es h from ⟨fun h => (by cases h), fun ⟨_, c, h1, _, h2⟩ => by rw [HF.out] at h1; cases h1⟩)
                  clear hE hae
                  refine wpIn_wide.2 ?_
                  refine wp_region_noPanic ?_
                  go_region
                  refine NoPanic.normal ?_
                  gi_wp2_with (fail)
                  exact HFIN.out false (by simpa using HY.out) _ rfl rfl
      · have hzb : (Bk.at_ h xs.length != 0) = true := by simpa using hz
        have HNP := Lib.hid (show ¬ Bk.Prv sp rm xs h from fun hp => hz hp.last)
        generalize Bk.at_ h xs.length = z at *
        clear hr' hcn hz
        gi_wp2_with (fail)
        refine ⟨trivial, ?_⟩
        gi_wp2_with (fail)
        refine ⟨trivial, ?_⟩
        gi_wp2_with (fail)
        exact ac_no rfl rfl Q1.out Q2.out trivial HEE.out (HENN.out HNP.out) HB2.out
    · have hbl : ((h.length : Int) != (xs.length : Int) + 1) = true := by rw [bne_iff_ne]; omega
      have HNP := Lib.hid (show ¬ Bk.Prv sp rm xs h from fun hp => hlen hp.len)
      gi_wp2_with (fail)
      refine ⟨trivial, ?_⟩
      gi_wp2_with (fail)
      refine ⟨trivial, ?_⟩
      gi_wp2_with (fail)
      exact ac_no rfl rfl Q1.out Q2.out trivial HEE.out (HENN.out HNP.out) HB2.out
  · rw [txt, if_neg he]
    generalize hee : Bk.err xs sp rm = e at *
    have hne : (e != 0) = true := by simpa using he
    have q2 := (hb2.alloc (.cells #[.slice none 0 0, .int .i64 0, .int .i64 0] 42))
    have q1 := ((hb1.alloc (.cells #[.slice none 0 0, .int .i64 0, .int .i64 0] 42)).other (B' := w.heap.size + 1 + 1) (by omega) (.int .i64 e))
    have q2c := q2.cell
    have q2f := q2.frozen
    have q1c := q1.cell
    have q1f := q1.frozen
    have q3c := (q2.set (.int .i64 e)).cell
    have q3f := (q2.set (.int .i64 e)).frozen
    gi_wp2_with (fail)
    gi_region
    gi_wp2_with (fail)
    refine ac_end rfl rfl (b := false) (x := e) ?_ ?_ trivial hee ?_ ?_
    · exact show Boxed _ _ _ _ from ((q1.set (.bool false)).other (B' := w.heap.size + 1 + 1) (by omega) (.int .i64 e))
    · exact show Boxed _ _ _ _ from (((q2.set (.int .i64 e)).other (B' := w.heap.size + 1) (by omega) (.bool false)).set (.int .i64 e))
    · simp only [Bool.false_eq_true, false_iff]
      rintro ⟨h1, _⟩
      exact he (hee ▸ h1)
    · exact below_drewN (((((HB1.out.up (al1 _ _)).setCell (by dsimp only; omega) _).setCell (by dsimp only; omega) _).setCell (by dsimp only; omega) _)) 1

end Go.Proofs.Ytdcndhfjfllehaa
