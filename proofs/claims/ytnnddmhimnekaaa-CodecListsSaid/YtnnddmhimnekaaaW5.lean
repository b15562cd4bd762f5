/- Walks of newWriter and of the writer of lists. -/
import Derived.Test.YtnnddmhimnekaaaW4
import Derived.Test.YtnnddmhimnekaaaW2
import Derived.Laws.EntriesVeiled
import Derived.Shelf.Abstract
namespace Go.Proofs.Ytnnddmhimnekaaa
open Go.RowKit
set_option linter.unusedVariables false
set_option linter.unusedSimpArgs false

/-- the table of writers, and the variable that holds it -/
structure Wtr (X : World) (pv ar : Nat) : Prop where
  p : X.heap[pv]? = some (.cells #[.pointer (some ⟨ar, 0, none⟩)] 50 (0, 0))
  a : X.heap[ar]? = some (.cells #[.nilFunc, .func (.func 37) #[] #[], .func (.func 40) #[] #[], .func (.func 41) #[] #[.pointer (some ⟨pv, 0, none⟩)]] 66 (0, 0))
theorem Wtr.under {X X' : World} {pv ar : Nat} (h : Wtr X pv ar) (hb : Below X.heap.size X X') : Wtr X' pv ar :=
  ⟨(hb.block pv (Array.getElem?_eq_some_iff.1 h.p).1).trans h.p, (hb.block ar (Array.getElem?_eq_some_iff.1 h.a).1).trans h.a⟩
theorem Wtr.alloc {X : World} {pv ar : Nat} (h : Wtr X pv ar) (o : Obj) : Wtr (X.alloc o) pv ar := h.under ((Below.refl _ _).alloc (Nat.le_refl _) _)
theorem Wtr.drew {X : World} {pv ar : Nat} (h : Wtr X pv ar) : Wtr X.drew pv ar := ⟨h.p, h.a⟩
theorem ownB_drew {w : World} {base : Nat} {v : Value} {bs : List UInt8} (h : OwnBytes w base v bs) : OwnBytes w.drew base v bs := h
theorem below_drew {B : Nat} {a w : World} (h : Below B a w) : Below B a w.drew := ⟨h.os, h.tape, h.output, h.size, h.block⟩
theorem IsV.drew {P : Nat → Prop} {w : World} {v : Value} {x : Cd.Vl} (h : IsV P w v x) : IsV P w.drew v x := h.under (below_drew (Below.refl _ _))
theorem Wtr.cat {X X' : World} {pv ar : Nat} {base : Nat} {v v' : Value} {bs bs0 : List UInt8} (h : Wtr X pv ar) (hc : Cat X X' base v v' bs) (h0 : OwnBytes X base v bs0) : Wtr X' pv ar :=
  ⟨hc.keep h0 h.p (by decide), hc.keep h0 h.a (by decide)⟩
theorem Wtr.cp {X : World} {pv ar : Nat} (h : Wtr X pv ar) : X.cell? ⟨pv, 0, none⟩ = some (.pointer (some ⟨ar, 0, none⟩)) := by simp [World.cell?, h.p]
theorem Wtr.c1 {X : World} {pv ar : Nat} (h : Wtr X pv ar) : X.cell? ⟨ar, 1, none⟩ = some (.func (.func 37) #[] #[]) := by simp [World.cell?, h.a]
theorem Wtr.c2 {X : World} {pv ar : Nat} (h : Wtr X pv ar) : X.cell? ⟨ar, 2, none⟩ = some (.func (.func 40) #[] #[]) := by simp [World.cell?, h.a]
theorem Wtr.c3 {X : World} {pv ar : Nat} (h : Wtr X pv ar) : X.cell? ⟨ar, 3, none⟩ = some (.func (.func 41) #[] #[.pointer (some ⟨pv, 0, none⟩)]) := by simp [World.cell?, h.a]

theorem step_fn {P : Program} {X : World} {ops : Array Oper} {o : Oper} {a : Act} {K : Act → World → Prop} {Q : Exit → Act → World → Prop} {E : Prop} (hgd : o.guard = none) (fv : Operand) (xs : Array Operand) (ts : Array TypeId)
    (ho : o.op = .call { callee := .value fv, args := xs, argTypes := ts }) (g : FuncId) (lb : Array Value) (hf : a.eval fv = .func (.func g) #[] lb) (vals : Array Value) (hx : xs.map a.eval ++ lb = vals)
    (eg : ∀ args w, (callFunc g args).run P w = .ok (.enter g args) w) {R : Ending → World → Prop} (hc : Calls P g vals X R) (hR : ∀ e w', R e w' → ∃ v, e = .returned v ∧ K (a.put o.dst v) w') :
    if Region.wanted o (yielded ops a.tmps) = true then Oper.wp P o a X K Q else E := by
  have hw : Region.wanted o (yielded ops a.tmps) = true := by simp [Region.wanted, hgd]
  rw [if_pos hw]
  unfold Oper.wp execOp
  simp only [ho, resolve, hf]
  simp [go_sem, invoke, eg]
  rw [hx]
  refine hc.mono fun e w' h => ?_
  obtain ⟨v, rfl, hk⟩ := hR e w' h
  exact hk

theorem step_fn2 {P : Program} {X : World} {ops : Array Oper} {o : Oper} {a : Act} {K : Act → World → Prop} {Q : Exit → Act → World → Prop} {E : Prop} (hgd : o.guard = none) (fv p q : Operand) (ts : Array TypeId)
    (ho : o.op = .call { callee := .value fv, args := #[p, q], argTypes := ts }) (g : FuncId) (lb : List Value) (hf : a.eval fv = .func (.func g) #[] lb.toArray) (vp vq : Value) (hp : a.eval p = vp) (hq : a.eval q = vq)
    (eg : ∀ args w, (callFunc g args).run P w = .ok (.enter g args) w) {R : Ending → World → Prop} (hc : Calls P g (vp :: vq :: lb).toArray X R) (hR : ∀ e w', R e w' → ∃ v, e = .returned v ∧ K (a.put o.dst v) w') :
    if Region.wanted o (yielded ops a.tmps) = true then Oper.wp P o a X K Q else E :=
  step_fn hgd fv #[p, q] ts ho g lb.toArray hf _ (by simp [hp, hq]) eg hc hR

theorem newWriter_any (w : World) : Calls Try.prog 26 #[] w fun e w' => ∃ pv ar, e = .returned (.pointer (some ⟨ar, 0, none⟩)) ∧ Wtr w' pv ar ∧ Below w.heap.size w w' := by
  go_enter Try.func26, Try.ntmps26
  go_wp2_with (fail)
  go_ret
  refine ⟨w.heap.size + 1, w.heap.size, rfl, ⟨?_, ?_⟩, blw2 _ _ _⟩
  · have := World.alloc_heap_new (w.alloc (.cells #[.nilFunc, .func (.func 37) #[] #[], .func (.func 40) #[] #[], .func (.func 41) #[] #[.pointer (some ⟨w.heap.size + 1, 0, none⟩)]] 66)) (.cells #[.pointer (some ⟨w.heap.size, 0, none⟩)] 50)
    rwa [World.size_alloc] at this
  · exact (Below.heap_alloc _ _ _ (by simp)).trans (World.alloc_heap_new w _)

/-- what the writer of a value does, whichever it is -/
def WriteC (x : Cd.Vl) : Prop :=
  ∀ (b : Value) (bs : List UInt8) (base pv ar : Nat) (W : World) (val : Value), OwnBytes W base b bs → base ≤ W.heap.size → bs.length + (Cd.enc x).length ≤ 137438953472 → Wtr W pv ar → IsV (· < base) W val x →
    (x.kind = 1 → Calls Try.prog 37 #[b, val] W (NuPost W base b (bs ++ Cd.enc x))) ∧ (x.kind = 2 → Calls Try.prog 40 #[b, val] W (NuPost W base b (bs ++ Cd.enc x))) ∧
    (x.kind = 3 → Calls Try.prog 41 #[b, val, .pointer (some ⟨pv, 0, none⟩)] W (NuPost W base b (bs ++ Cd.enc x)))

theorem enc_1 (n : Int) (s : ByteArray) (l : List Cd.Vl) : Cd.enc (.mk 1 n s l) = 1 :: Cd.digits (Cd.uns n) := by rw [Cd.enc, if_pos rfl]
theorem enc_2 (n : Int) (s : ByteArray) (l : List Cd.Vl) : Cd.enc (.mk 2 n s l) = 2 :: (Cd.digits s.size ++ s.data.toList) := by rw [Cd.enc, if_neg (by omega), if_pos rfl]
theorem enc_3 (n : Int) (s : ByteArray) (l : List Cd.Vl) : Cd.enc (.mk 3 n s l) = 3 :: (Cd.digits l.length ++ Cd.encL l) := by rw [Cd.enc, if_neg (by omega), if_neg (by omega)]
theorem encL_le (l : List Cd.Vl) (k : Nat) (h : k < l.length) : (Cd.encL (l.take k)).length + (Cd.enc l[k]).length ≤ (Cd.encL l).length := by
  have h1 := congrArg List.length (Cd.encL_take l k h)
  have e : l = l.take (k + 1) ++ l.drop (k + 1) := (List.take_append_drop _ _).symm
  have h2 := congrArg List.length (Cd.encL_append (l.take (k + 1)) (l.drop (k + 1)))
  rw [← e] at h2
  simp only [List.length_append] at h1 h2
  omega
theorem catB_base {w X X' : World} {base : Nat} {v v' : Value} {bs : List UInt8} (h : Cat X X' base v v' bs) (h0 : ∃ bs0, OwnBytes X base v bs0) (hs : base ≤ X.heap.size) : Below base X X' := by
  obtain ⟨bs0, h0⟩ := h0
  exact h.below h0 (Below.refl _ _) hs

set_option maxRecDepth 100000 in
set_option maxHeartbeats 4000000 in
theorem write3_any (b : Value) (bs : List UInt8) (n : Int) (s : ByteArray) (l : List Cd.Vl) (A : Option Addr) (c : Nat) (base pv ar : Nat) (W : World) (hO : OwnBytes W base b bs) (hb : base ≤ W.heap.size) (hl : bs.length + (Cd.enc (.mk 3 n s l)).length ≤ 137438953472)
    (hw : Wtr W pv ar) (hV : IsVs (· < base) W (.slice A l.length c) l) (hlen : l.length ≤ 1000000) (hk : ∀ x ∈ l, x.kind = 1 ∨ x.kind = 2 ∨ x.kind = 3) (ih : ∀ x ∈ l, WriteC x) :
    Calls Try.prog 41 #[b, .agg #[.int .i64 3, .int .i64 n, .string s, .slice A l.length c], .pointer (some ⟨pv, 0, none⟩)] W (NuPost W base b (bs ++ Cd.enc (.mk 3 n s l))) := by
  have HO := Lib.hid hO
  obtain ⟨Ab, cb, rfl⟩ := ownB_slice hO
  have HW := Lib.hid hw
  have HV := Lib.hid hV
  have HK := Lib.hid hk
  have HI := Lib.hid ih
  rw [enc_3] at hl ⊢
  clear hO hw hV hk ih
  have HDL := Lib.hid (digits_len (u := l.length) (by omega))
  have hbl : bs.length + 1 + (Cd.digits l.length).length + (Cd.encL l).length ≤ 137438953472 := by simp at hl; omega
  have HF := Lib.hid (Four.new W (.int .i64 3) (.int .i64 n) (.string s) (.slice A l.length c))
  have hc3 := HF.out.c3
  have hwu : IntKind.u64.wrap (l.length : Int) = (l.length : Int) := by rw [IntKind.wrap_u64]; omega
  go_enter Try.func41, Try.ntmps41
  go_wp2_with (fail)
  go_region_held3 (fun X => Hid (Four X W.heap.size (.int .i64 3) (.int .i64 n) (.string s) (.slice A l.length c)) ∧ X.cell? ⟨W.heap.size, 3, none⟩ = some (.slice A l.length c))
    (first
      | exact four3 hKn.out
      | exact four3 (HF.out.alloc _).drew
      | exact four3 HF.out.drew)
    (first
      | (refine step_cat (by rfl) (.tmp 8) (.tmp 9) 27 _ (by rfl) (by rfl) (by rfl) (run_catB _ (ownB_drewN (ownB_alloc (ownB_alloc HO.out _) _) 1) (bytes_drewN (lit_next W _ 3 3 rfl) 1) (by simp; omega) (by simp; omega)) ?_
         intro v1 X1 hc1
         have HC1 := Lib.hid hc1
         have hKn := Lib.hid ((HF.out.alloc _).drew.cat hc1 (ownB_drewN (ownB_alloc (ownB_alloc HO.out _) _) 1))
         clear hc1)
      | (go_at_call 38
         refine (numeral_any v1 (bs ++ [3]) l.length base _ HC1.out.own (by omega) ?_ ?_).mono ?_
         · exact Nat.le_trans (by simp; omega) HC1.out.grown.size
         · simp; omega
         rintro e X2 ⟨v2, rfl, hc2⟩
         have HC2 := Lib.hid hc2
         have hKn := Lib.hid (hKn.out.cat hc2 HC1.out.own)
         clear hc2))
  have HAll := Lib.hid ((HC1.out.after (below_drewN (((Below.refl _ W).alloc (Nat.le_refl _) _).alloc (by simp) _) 1)).trans HC2.out)
  have HW2 := Lib.hid (HW.out.cat HAll.out HO.out)
  have h3 := hKn.out.c3
  clear hwu HC1 HC2 hKn hc3 HF
  go_wp2_with (fail)
  clear h3
  go_loopw [0, 19] (fun b i wr => ∃ j : Nat, j ≤ l.length ∧ i = .int .i64 j ∧ Hid (Cat W wr base (.slice Ab bs.length cb) b (bs ++ 3 :: (Cd.digits l.length ++ Cd.encL (l.take j)))) ∧ Hid (Wtr wr pv ar)) (fun _ i _ => l.length - (intOf i).toNat)
  case atStart => exact ⟨0, Nat.zero_le _, rfl, Lib.hid (by have h := HAll.out; simpa [Cd.encL] using h), HW2⟩
  case round =>
    obtain ⟨j, hj, rfl, HA, HWr⟩ := hrel
    clear HW2 HAll
    by_cases hlt : j < l.length
    · have BB := Lib.hid (HA.out.below HO.out (Below.refl _ _) hb)
      have HVr := Lib.hid (HV.out.keep HA.out.grown.size (fun q hq _ => BB.out.block q hq))
      obtain ⟨bv, off, A', c', rfl, hbv, _, hc0, hc1, hc2, hc3, HE⟩ := isVs_at HVr.out hlt
      have HCk := Lib.hid (HI.out l[j] (List.getElem_mem hlt))
      have hkd := HK.out l[j] (List.getElem_mem hlt)
      have HTk := Lib.hid (Cd.encL_take l j hlt)
      have hle := encL_le l j hlt
      have HNx := Lib.hid (show bs ++ 3 :: (Cd.digits l.length ++ Cd.encL (l.take (j + 1))) = (bs ++ 3 :: (Cd.digits l.length ++ Cd.encL (l.take j))) ++ Cd.enc l[j] by rw [HTk.out]; simp)
      have hcl : (bs ++ 3 :: (Cd.digits l.length ++ Cd.encL (l.take j))).length + (Cd.enc l[j]).length ≤ 137438953472 := by simp; omega
      generalize bs ++ 3 :: (Cd.digits l.length ++ Cd.encL (l.take j)) = cur at *
      have HOr := Lib.hid HA.out.own
      obtain ⟨Au, cu, hu⟩ := ownB_slice HOr.out
      subst hu
      have hbr : base ≤ wr.heap.size := Nat.le_trans hb HA.out.grown.size
      have HFr := Lib.hid (Four.new wr (.int .i64 l[j].kind) (.int .i64 l[j].num) (.string l[j].str) (.slice A' l[j].elems.length c'))
      have HEa := Lib.hid (HE.out.under ((Below.refl _ wr).alloc (Nat.le_refl _) (.cells #[.int .i64 l[j].kind, .int .i64 l[j].num, .string l[j].str, .slice A' l[j].elems.length c'] 24)))
      have HC := Lib.hid (HCk.out _ _ base pv ar (wr.alloc (.cells #[.int .i64 l[j].kind, .int .i64 l[j].num, .string l[j].str, .slice A' l[j].elems.length c'] 24)).drew _ (ownB_drew (ownB_alloc HOr.out _)) (by simp; omega) hcl (HWr.out.alloc _).drew HEa.out.drew)
      have HWa := Lib.hid (HWr.out.alloc (.cells #[.int .i64 l[j].kind, .int .i64 l[j].num, .string l[j].str, .slice A' l[j].elems.length c'] 24))
      clear HCk HE HEa
      rcases hkd with hkd | hkd | hkd
      · rw [hkd] at hc0 HFr HC HWa
        have HC9 := Lib.hid (HC.out.1 rfl)
        have hf0 := HFr.out.c0
        have hf1 := HFr.out.c1
        have hf2 := HFr.out.c2
        have hf3 := HFr.out.c3
        have hw1 := HWa.out.cp
        have hw2 := HWa.out.c1
        clear HC hkd
        generalize hx : l[j] = x at *
        generalize x.num = xn at *
        generalize x.str = xs at *
        generalize x.elems.length = xl at *
        clear hx
        go_wp2_with (fail)
        go_region_held3 (fun X => Hid (Wtr X pv ar) ∧ Hid (Four X wr.heap.size (.int .i64 1) (.int .i64 xn) (.string xs) (.slice A' xl c')) ∧ X.cell? ⟨pv, 0, none⟩ = some (.pointer (some ⟨ar, 0, none⟩)) ∧ X.cell? ⟨ar, 1, none⟩ = some (.func (.func 37) #[] #[]) ∧ X.cell? ⟨wr.heap.size, 0, none⟩ = some (.int .i64 1) ∧ X.cell? ⟨wr.heap.size, 1, none⟩ = some (.int .i64 xn) ∧ X.cell? ⟨wr.heap.size, 2, none⟩ = some (.string xs) ∧ X.cell? ⟨wr.heap.size, 3, none⟩ = some (.slice A' xl c'))
          (first
            | exact ⟨hWn, hFn, hWn.out.cp, hWn.out.c1, hFn.out.c0, hFn.out.c1, hFn.out.c2, hFn.out.c3⟩
            | exact ⟨HWa.out.drew, HFr.out.drew, hw1, hw2, hf0, hf1, hf2, hf3⟩)
          ((refine step_fn2 (by rfl) (.tmp 29) (.tmp 30) (.tmp 31) _ (by rfl) 37 [] (by rfl) _ _ (by rfl) (by rfl) (enters_of Try.func37 (by kernel_rfl) rfl) HC9.out ?_
            rintro e X2 ⟨v2, rfl, hct⟩
            refine ⟨v2, rfl, ?_⟩
            have hWn := Lib.hid (HWa.out.drew.cat hct (ownB_drew (ownB_alloc HOr.out _)))
            have hFn := Lib.hid (HFr.out.drew.cat hct (ownB_drew (ownB_alloc HOr.out _)))
            have HCt := Lib.hid hct
            clear hct))
        go_wp2_with (fail)
        go_roundw
        case rel => exact ⟨j + 1, by omega, by go_num, Lib.hid (by have h := HA.out.trans (HCt.out.after (below_drew ((Below.refl _ wr).alloc (Nat.le_refl _) _))); rw [HNx.out]; exact h), hWn⟩
        case measure => first | omega | (simp [intOf]; done) | (simp [intOf]; omega)
      · rw [hkd] at hc0 HFr HC HWa
        have HC9 := Lib.hid (HC.out.2.1 rfl)
        have hf0 := HFr.out.c0
        have hf1 := HFr.out.c1
        have hf2 := HFr.out.c2
        have hf3 := HFr.out.c3
        have hw1 := HWa.out.cp
        have hw2 := HWa.out.c2
        clear HC hkd
        generalize hx : l[j] = x at *
        generalize x.num = xn at *
        generalize x.str = xs at *
        generalize x.elems.length = xl at *
        clear hx
        go_wp2_with (fail)
        go_region_held3 (fun X => Hid (Wtr X pv ar) ∧ Hid (Four X wr.heap.size (.int .i64 2) (.int .i64 xn) (.string xs) (.slice A' xl c')) ∧ X.cell? ⟨pv, 0, none⟩ = some (.pointer (some ⟨ar, 0, none⟩)) ∧ X.cell? ⟨ar, 2, none⟩ = some (.func (.func 40) #[] #[]) ∧ X.cell? ⟨wr.heap.size, 0, none⟩ = some (.int .i64 2) ∧ X.cell? ⟨wr.heap.size, 1, none⟩ = some (.int .i64 xn) ∧ X.cell? ⟨wr.heap.size, 2, none⟩ = some (.string xs) ∧ X.cell? ⟨wr.heap.size, 3, none⟩ = some (.slice A' xl c'))
          (first
            | exact ⟨hWn, hFn, hWn.out.cp, hWn.out.c2, hFn.out.c0, hFn.out.c1, hFn.out.c2, hFn.out.c3⟩
            | exact ⟨HWa.out.drew, HFr.out.drew, hw1, hw2, hf0, hf1, hf2, hf3⟩)
          ((refine step_fn2 (by rfl) (.tmp 29) (.tmp 30) (.tmp 31) _ (by rfl) 40 [] (by rfl) _ _ (by rfl) (by rfl) (enters_of Try.func40 (by kernel_rfl) rfl) HC9.out ?_
            rintro e X2 ⟨v2, rfl, hct⟩
            refine ⟨v2, rfl, ?_⟩
            have hWn := Lib.hid (HWa.out.drew.cat hct (ownB_drew (ownB_alloc HOr.out _)))
            have hFn := Lib.hid (HFr.out.drew.cat hct (ownB_drew (ownB_alloc HOr.out _)))
            have HCt := Lib.hid hct
            clear hct))
        go_wp2_with (fail)
        go_roundw
        case rel => exact ⟨j + 1, by omega, by go_num, Lib.hid (by have h := HA.out.trans (HCt.out.after (below_drew ((Below.refl _ wr).alloc (Nat.le_refl _) _))); rw [HNx.out]; exact h), hWn⟩
        case measure => first | omega | (simp [intOf]; done) | (simp [intOf]; omega)
      · rw [hkd] at hc0 HFr HC HWa
        have HC9 := Lib.hid (HC.out.2.2 rfl)
        have hf0 := HFr.out.c0
        have hf1 := HFr.out.c1
        have hf2 := HFr.out.c2
        have hf3 := HFr.out.c3
        have hw1 := HWa.out.cp
        have hw2 := HWa.out.c3
        clear HC hkd
        generalize hx : l[j] = x at *
        generalize x.num = xn at *
        generalize x.str = xs at *
        generalize x.elems.length = xl at *
        clear hx
        go_wp2_with (fail)
        go_region_held3 (fun X => Hid (Wtr X pv ar) ∧ Hid (Four X wr.heap.size (.int .i64 3) (.int .i64 xn) (.string xs) (.slice A' xl c')) ∧ X.cell? ⟨pv, 0, none⟩ = some (.pointer (some ⟨ar, 0, none⟩)) ∧ X.cell? ⟨ar, 3, none⟩ = some (.func (.func 41) #[] #[.pointer (some ⟨pv, 0, none⟩)]) ∧ X.cell? ⟨wr.heap.size, 0, none⟩ = some (.int .i64 3) ∧ X.cell? ⟨wr.heap.size, 1, none⟩ = some (.int .i64 xn) ∧ X.cell? ⟨wr.heap.size, 2, none⟩ = some (.string xs) ∧ X.cell? ⟨wr.heap.size, 3, none⟩ = some (.slice A' xl c'))
          (first
            | exact ⟨hWn, hFn, hWn.out.cp, hWn.out.c3, hFn.out.c0, hFn.out.c1, hFn.out.c2, hFn.out.c3⟩
            | exact ⟨HWa.out.drew, HFr.out.drew, hw1, hw2, hf0, hf1, hf2, hf3⟩)
          ((refine step_fn2 (by rfl) (.tmp 29) (.tmp 30) (.tmp 31) _ (by rfl) 41 [.pointer (some ⟨pv, 0, none⟩)] (by rfl) _ _ (by rfl) (by rfl) (enters_of Try.func41 (by kernel_rfl) rfl) HC9.out ?_
            rintro e X2 ⟨v2, rfl, hct⟩
            refine ⟨v2, rfl, ?_⟩
            have hWn := Lib.hid (HWa.out.drew.cat hct (ownB_drew (ownB_alloc HOr.out _)))
            have hFn := Lib.hid (HFr.out.drew.cat hct (ownB_drew (ownB_alloc HOr.out _)))
            have HCt := Lib.hid hct
            clear hct))
        go_wp2_with (fail)
        go_roundw
        case rel => exact ⟨j + 1, by omega, by go_num, Lib.hid (by have h := HA.out.trans (HCt.out.after (below_drew ((Below.refl _ wr).alloc (Nat.le_refl _) _))); rw [HNx.out]; exact h), hWn⟩
        case measure => first | omega | (simp [intOf]; done) | (simp [intOf]; omega)
    · have HR := Lib.hid (show Cd.encL (l.take j) = Cd.encL l by rw [List.take_of_length_le (by omega)])
      rw [HR.out] at HA
      go_wp2_with (fail)
      go_ret
      exact ⟨_, rfl, HA.out⟩

end Go.Proofs.Ytnnddmhimnekaaa
