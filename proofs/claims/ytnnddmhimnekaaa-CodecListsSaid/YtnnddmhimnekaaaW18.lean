/- Walks of the reference's numeral, encode, Encode and Size. -/
import Derived.Test.YtnnddmhimnekaaaW17
import Derived.Test.YtnnddmhimnekaaaW6
namespace Go.Proofs.Ytnnddmhimnekaaa
open Go.RowKit
set_option linter.unusedVariables false
set_option linter.unusedSimpArgs false

def NewB (bs : List UInt8) (w : World) (e : Ending) (w' : World) : Prop := ∃ v, e = .returned v ∧ OwnBytes w' w.heap.size v bs ∧ Below w.heap.size w w'

set_option maxRecDepth 100000 in
set_option maxHeartbeats 1000000 in
theorem refNumeral_any : ∀ (u : Nat) (w : World), u < 18446744073709551616 → Calls Try.prog 42 #[.int .u64 (u : Int)] w (NewB (Cd.digits u) w) := by
  intro u
  induction u using Nat.strongRecOn with
  | ind u ih =>
    intro w hu
    by_cases h : u < 128
    · have HD := Lib.hid (digits_lo h)
      have HL := Lib.hid (ownB_lit w w.heap.size [UInt8.ofNat u] 1 #[.int .u8 (u : Int)] rfl (lit_lo (by omega)) (Nat.le_refl _) (by simp))
      clear ih
      go_enter Try.func42, Try.ntmps42
      go_wp2_with (fail)
      go_ret
      exact ⟨_, rfl, by rw [HD.out]; exact HL.out, blw1 _ _⟩
    · have HD := Lib.hid (digits_hi h)
      have HDL := Lib.hid (digits_len hu)
      have HI := Lib.hid (ih (u / 128) (by omega))
      have HL := Lib.hid (ownB_lit w w.heap.size [UInt8.ofNat (u % 128 + 128)] 1 #[.int .u8 ((u : Int) % 128 + 128)] rfl (by rw [show ((u : Int) % 128 + 128) = ((u % 128 + 128 : Nat) : Int) by omega]; exact lit_lo (by omega)) (Nat.le_refl _) (by simp))
      clear ih
      go_enter Try.func42, Try.ntmps42
      go_wp2_with (fail)
      refine (HI.out _ (by omega)).mono ?_
      rintro e w2 ⟨v2, rfl, ho2, hb2⟩
      obtain ⟨A2, c2, rfl⟩ := ownB_slice ho2
      have HR := fun ty => Lib.hid (run_catB ty (ownB_under HL.out hb2) ho2.bytes (by have e1 := HDL.out; rw [HD.out] at e1; simp at e1 ⊢; omega) (by have := hb2.size; simp at this; omega))
      have B2 := Lib.hid ((blw1 w _).up hb2)
      have HO := Lib.hid (ownB_under HL.out hb2)
      clear hb2 ho2
      go_wp2_with (at_builtin; go_must (refine wpList_cat rfl (.tmp 12) (.tmp 15) 27 _ rfl rfl rfl (HR _).out ?_); intro v' X' hc; have HCt := Lib.hid hc; clear hc)
      go_ret
      refine ⟨_, rfl, by rw [HD.out]; exact HCt.out.own, ?_⟩
      exact HCt.out.below HO.out B2.out B2.out.size

theorem u64_len {n : Nat} (h : n ≤ 1000000) : IntKind.u64.wrap (n : Int) = (n : Int) := by rw [IntKind.wrap_u64]; omega
theorem lit_two (W : World) (o : Obj) (c : UInt8) (n : Int) (hn : (c.toNat : Int) = n) : OwnBytes ((W.alloc o).alloc (.cells #[.int .u8 n] 5)) W.heap.size (.slice (some ⟨W.heap.size + 1, 0, none⟩) 1 1) [c] := by
  have := ownB_lit (W.alloc o) W.heap.size [c] 1 #[.int .u8 n] rfl (by rw [← hn]; rfl) (by simp) (by simp)
  simpa using this

set_option maxRecDepth 100000 in
set_option maxHeartbeats 2000000 in
theorem refEnc_1 (n : Int) (s : ByteArray) (l : List Cd.Vl) (A : Option Addr) (c : Nat) (w : World) (h1 : -9223372036854775808 ≤ n) (h2 : n ≤ 9223372036854775807) :
    Calls Try.prog 27 #[.agg #[.int .i64 1, .int .i64 n, .string s, .slice A l.length c]] w (NewB (Cd.enc (.mk 1 n s l)) w) := by
  have HU := Lib.hid (uns_lt h1 h2)
  have HDL := Lib.hid (digits_len HU.out)
  have HE := Lib.hid (enc_1 n s l)
  go_enter Try.func27, Try.ntmps27
  go_wp2_with (fail)
  refine (refUnsigned_any n _ h1 h2).mono ?_
  rintro e w1 ⟨rfl, rfl⟩
  go_wp2_with (fail)
  have HL := Lib.hid (lit_two w (.cells #[.int .i64 1, .int .i64 n, .string s, .slice A l.length c] 24) 1 1 rfl)
  refine (refNumeral_any _ _ HU.out).mono ?_
  rintro e w2 ⟨v2, rfl, ho2, hb2⟩
  obtain ⟨A2, c2, rfl⟩ := ownB_slice ho2
  have HR := fun ty => Lib.hid (run_catB ty (ownB_under HL.out hb2) ho2.bytes (by have e1 := HDL.out; simp; omega) (by have := hb2.size; simp at this; omega))
  have B2 := Lib.hid ((blw2 w _ _).up hb2)
  have HO := Lib.hid (ownB_under HL.out hb2)
  clear hb2 ho2
  go_wp2_with (at_builtin; go_must (refine wpList_cat rfl (.tmp 9) (.tmp 13) 27 _ rfl rfl rfl (HR _).out ?_); intro v' X' hc; have HCt := Lib.hid hc; clear hc)
  go_ret
  exact ⟨_, rfl, by rw [HE.out]; exact HCt.out.own, HCt.out.below HO.out B2.out B2.out.size⟩

set_option maxRecDepth 100000 in
set_option maxHeartbeats 2000000 in
theorem refEnc_2 (n : Int) (s : ByteArray) (l : List Cd.Vl) (A : Option Addr) (c : Nat) (w : World) (hs : s.size ≤ 1000000) :
    Calls Try.prog 27 #[.agg #[.int .i64 2, .int .i64 n, .string s, .slice A l.length c]] w (NewB (Cd.enc (.mk 2 n s l)) w) := by
  have HDL := Lib.hid (digits_len (u := s.size) (by omega))
  have HE := Lib.hid (enc_2 n s l)
  have HF := Lib.hid (Four.new w (.int .i64 2) (.int .i64 n) (.string s) (.slice A l.length c))
  have hc2 := HF.out.c2
  have hwu := u64_len hs
  have HL := Lib.hid (lit_two w (.cells #[.int .i64 2, .int .i64 n, .string s, .slice A l.length c] 24) 2 2 rfl)
  go_enter Try.func27, Try.ntmps27
  go_wp2_with (fail)
  go_region_held3 (fun X => Hid (Four X w.heap.size (.int .i64 2) (.int .i64 n) (.string s) (.slice A l.length c)) ∧ X.cell? ⟨w.heap.size, 2, none⟩ = some (.string s))
    (first
      | exact four2 hKn.out
      | exact four2 (hKn.out.alloc _)
      | exact four2 (HF.out.alloc _).drew
      | exact four2 HF.out.drew)
    (first
      | (go_at_call 42
         refine (refNumeral_any s.size _ (by omega)).mono ?_
         rintro e w2 ⟨v2, rfl, ho2, hb2⟩
         have hKn := Lib.hid ((HF.out.alloc (.cells #[.int .u8 2] 5)).drew.under hb2)
         have HOL := Lib.hid (ownB_under (ownB_drewN HL.out 1) hb2)
         have HOV := Lib.hid ho2
         have B2 := Lib.hid ((below_drewN (blw2 w _ _) 1).up hb2)
         clear ho2 hb2)
      | (go_at_call 42
         refine (refNumeral_any s.size _ (by omega)).mono ?_
         rintro e w2 ⟨v2, rfl, ho2, hb2⟩
         have hKn := Lib.hid (HF.out.drew.under hb2)
         have B1 := Lib.hid ((below_drewN (blw1 w _) 1).up hb2)
         have HOL := Lib.hid (ownB_lit w2 w.heap.size [2] 1 #[.int .u8 2] rfl rfl B1.out.size (by simp))
         have HOV := Lib.hid (ownB_alloc ho2 (.cells #[.int .u8 2] 5))
         have B2 := Lib.hid (B1.out.up (blw1 w2 (.cells #[.int .u8 2] 5)))
         clear ho2 hb2 B1)
      | (refine step_cat (by rfl) (.tmp 17) (.tmp 22) 27 _ (by rfl) (by rfl) (by rfl) (run_catB _ HOL.out HOV.out.bytes ?_ B2.out.size) ?_
         · have := HDL.out; simp; omega
         intro v3 X3 hc3
         have hKn := Lib.hid (by first | exact hKn.out.cat hc3 HOL.out | exact (hKn.out.alloc _).cat hc3 HOL.out : Four X3 w.heap.size (.int .i64 2) (.int .i64 n) (.string s) (.slice A l.length c))
         have HC3 := Lib.hid hc3
         clear hc3)
      | (refine step_cat (by rfl) (.tmp 23) (.tmp 25) 9 _ (by rfl) (by rfl) (by rfl) (run_catS _ HC3.out.own s ?_ ?_) ?_
         · have := HDL.out; simp; omega
         · exact Nat.le_trans B2.out.size HC3.out.grown.size
         intro v4 X4 hc4
         have HC4 := Lib.hid hc4
         have hKn := Lib.hid (hKn.out.cat hc4 HC3.out.own)
         clear hc4))
  all_goals
    clear hwu
    go_wp2_with (fail)
    go_ret
    have B3 := HC3.out.below HOL.out B2.out B2.out.size
    have B4 := HC4.out.below HC3.out.own B3 B3.size
    exact ⟨_, rfl, by rw [HE.out]; have h := HC4.out.own; simpa using h, B4⟩

set_option maxRecDepth 100000 in
set_option maxHeartbeats 2000000 in
theorem refEnc_3 (k n : Int) (s : ByteArray) (l : List Cd.Vl) (A : Option Addr) (c : Nat) (P : Nat → Prop) (w : World) (hk1 : k ≠ 1) (hk2 : k ≠ 2) (hv : IsVs P w (.slice A l.length c) l) (hl : l.length ≤ 1000000) (hle : (Cd.encL l).length ≤ 137438953472)
    (ih : ∀ x ∈ l, ∀ (v : Value) (P : Nat → Prop) (w : World), IsV P w v x → Calls Try.prog 27 #[v] w (NewB (Cd.enc x) w)) :
    Calls Try.prog 27 #[.agg #[.int .i64 k, .int .i64 n, .string s, .slice A l.length c]] w (NewB (Cd.enc (.mk k n s l)) w) := by
  have HDL := Lib.hid (digits_len (u := l.length) (by omega))
  have HE := Lib.hid (show Cd.enc (.mk k n s l) = 3 :: (Cd.digits l.length ++ Cd.encL l) by rw [Cd.enc, if_neg hk1, if_neg hk2])
  have b1 : (k == 1) = false := by simp [hk1]
  have b2 : (k == 2) = false := by simp [hk2]
  have HV := Lib.hid hv
  have HI := Lib.hid ih
  have hwu := u64_len hl
  clear hk1 hk2 hv ih
  have HL := Lib.hid (lit_two w (.cells #[.int .i64 k, .int .i64 n, .string s, .slice A l.length c] 24) 3 3 rfl)
  have HF := Lib.hid (Four.new w (.int .i64 k) (.int .i64 n) (.string s) (.slice A l.length c))
  go_enter Try.func27, Try.ntmps27
  go_wp2_with (fail)
  refine (refNumeral_any l.length _ (by omega)).mono ?_
  rintro e w2 ⟨v2, rfl, ho2, hb2⟩
  obtain ⟨A2, c2, rfl⟩ := ownB_slice ho2
  have HR := fun ty => Lib.hid (run_catB ty (ownB_under HL.out hb2) ho2.bytes (by have e1 := HDL.out; simp; omega) (by have := hb2.size; simp at this; omega))
  have B2 := Lib.hid ((blw2 w _ _).up hb2)
  have HO := Lib.hid (ownB_under HL.out hb2)
  have HF2 := Lib.hid ((HF.out.alloc _).under hb2)
  clear hb2 ho2 hwu
  go_wp2_with (at_builtin; go_must (refine wpList_cat rfl (.tmp 27) (.tmp 32) 27 _ rfl rfl rfl (HR _).out ?_); intro v' X' hc; have HCt := Lib.hid hc; clear hc)
  have B3 := Lib.hid (HCt.out.below HO.out B2.out B2.out.size)
  have HF3 := Lib.hid (HF2.out.cat HCt.out HO.out)
  go_loopw [3, 4] (fun b i wr => ∃ j : Nat, j ≤ l.length ∧ i = .int .i64 j ∧ Hid (OwnBytes wr w.heap.size b (3 :: (Cd.digits l.length ++ Cd.encL (l.take j)))) ∧ Hid (Below w.heap.size w wr) ∧ Hid (Four wr w.heap.size (.int .i64 k) (.int .i64 n) (.string s) (.slice A l.length c))) (fun _ i _ => l.length - (intOf i).toNat)
  case atStart => exact ⟨0, Nat.zero_le _, rfl, Lib.hid (by have h := HCt.out.own; simpa [Cd.encL] using h), B3, HF3⟩
  case round =>
    obtain ⟨j, hj, rfl, HA, BR, HFr⟩ := hrel
    clear HF HF2 HF3 B2 B3 HCt HR HO HL
    have hc3 := HFr.out.c3
    by_cases hlt : j < l.length
    · obtain ⟨bv, off, A', c', rfl, hbv, _, h1, h2, h3, h4, HEl⟩ := isVs_at (HV.out.under BR.out) hlt
      have HC := Lib.hid (HI.out l[j] (List.getElem_mem hlt))
      have HTk := Lib.hid (Cd.encL_take l j hlt)
      have hle2 := encL_le l j hlt
      have HNx := Lib.hid (show 3 :: (Cd.digits l.length ++ Cd.encL (l.take (j + 1))) = (3 :: (Cd.digits l.length ++ Cd.encL (l.take j))) ++ Cd.enc l[j] by rw [HTk.out]; simp)
      have hcl : (3 :: (Cd.digits l.length ++ Cd.encL (l.take j))).length + (Cd.enc l[j]).length ≤ 1099511627776 := by have := HDL.out; simp; omega
      generalize 3 :: (Cd.digits l.length ++ Cd.encL (l.take j)) = cur at *
      generalize l[j] = x at *
      generalize x.kind = xk at *
      generalize x.num = xn at *
      generalize x.str = xs at *
      generalize x.elems.length = xl at *
      obtain ⟨Au, cu, hu⟩ := ownB_slice HA.out
      subst hu
      go_wp2_with (fail)
      refine (HC.out _ P _ HEl.out).mono ?_
      rintro e w2 ⟨v2, rfl, ho2, hb2⟩
      obtain ⟨A2, c2, rfl⟩ := ownB_slice ho2
      have HR := fun ty => Lib.hid (run_catB ty (ownB_under HA.out hb2) ho2.bytes hcl (Nat.le_trans BR.out.size hb2.size))
      have B2 := Lib.hid (BR.out.up hb2)
      have HO := Lib.hid (ownB_under HA.out hb2)
      have HF2 := Lib.hid (HFr.out.under hb2)
      clear hb2 ho2
      go_wp2_with (at_builtin; go_must (refine wpList_cat rfl (.tmp 41) (.tmp 47) 27 _ rfl rfl rfl (HR _).out ?_); intro v' X' hc; have HCt := Lib.hid hc; clear hc)
      go_roundw
      case rel => exact ⟨j + 1, by omega, by go_num, Lib.hid (by rw [HNx.out]; exact HCt.out.own), Lib.hid (HCt.out.below HO.out B2.out B2.out.size), Lib.hid (HF2.out.cat HCt.out HO.out)⟩
      case measure => first | omega | (simp [intOf]; done) | (simp [intOf]; omega)
    · have HR := Lib.hid (show Cd.encL (l.take j) = Cd.encL l by rw [List.take_of_length_le (by omega)])
      rw [HR.out] at HA
      go_wp2_with (fail)
      go_ret
      exact ⟨_, rfl, by rw [HE.out]; exact HA.out, BR.out⟩

theorem refEnc_any (v : Cd.Vl) : ∀ (x : Value) (P : Nat → Prop) (w : World), Cd.fits v → (Cd.enc v).length ≤ 137438953472 → IsV P w x v → Calls Try.prog 27 #[x] w (NewB (Cd.enc v) w) := by
  induction v using Cd.Vl.ind with
  | h k n s l ih =>
    intro x P w hf hle hv
    obtain ⟨h1, h2, h3, h4⟩ := Cd.fits_mk.1 hf
    obtain ⟨A, c, rfl, hl⟩ := hv.opens
    by_cases hk1 : k = 1
    · subst hk1
      exact refEnc_1 n s l A c w h3.1 h3.2
    · by_cases hk2 : k = 2
      · subst hk2
        exact refEnc_2 n s l A c w h2
      · have e : Cd.enc (.mk k n s l) = 3 :: (Cd.digits l.length ++ Cd.encL l) := by rw [Cd.enc, if_neg hk1, if_neg hk2]
        rw [e] at hle
        simp at hle
        refine refEnc_3 k n s l A c P w hk1 hk2 hl h1 (by omega) (fun y hy v P w hv => ih y hy v P w (h4 y hy) ?_ hv)
        obtain ⟨i, hi, rfl⟩ := List.getElem_of_mem hy
        have := encL_le l i hi
        omega

set_option maxHeartbeats 1000000 in
theorem refEncode_any (v : Cd.Vl) (x : Value) (P : Nat → Prop) (w : World) (hf : Cd.fits v) (hd : Cd.depth v ≤ 1000) (hv : IsV P w x v) (hl : (Cd.enc v).length ≤ 137438953472) :
    Calls Try.prog 13 #[x] w fun e w' => ∃ b, e = .returned (.tuple #[b, .int .i64 (Cd.check v)]) ∧ Bts w' b (encR v) ∧ Below w.heap.size w w' := by
  have HV := Lib.hid hv
  obtain ⟨A, c, rfl, _⟩ := hv.opens
  clear hv
  go_enter Try.func13, Try.ntmps13
  go_wp2_with (fail)
  refine (refCheck_any v _ P _ hf hd (HV.out.under (blw1 w _))).mono ?_
  rintro e w1 ⟨rfl, hb1⟩
  have HF := Lib.hid ((Four.new w (.int .i64 v.kind) (.int .i64 v.num) (.string v.str) (.slice A v.elems.length c)).under hb1)
  have B1 := Lib.hid ((blw1 w (.cells #[.int .i64 v.kind, .int .i64 v.num, .string v.str, .slice A v.elems.length c] 24)).up hb1)
  clear hb1
  have hc0 := HF.out.c0
  have hc1 := HF.out.c1
  have hc2 := HF.out.c2
  have hc3 := HF.out.c3
  by_cases hc : Cd.check v = 0
  · have HE := Lib.hid (show encR v = Cd.enc v by simp [encR, hc])
    have HC := Lib.hid hc
    rw [hc]
    clear hc
    go_wp2_with (fail)
    refine (refEnc_any v _ P _ hf hl (HV.out.under B1.out)).mono ?_
    rintro e w2 ⟨v2, rfl, ho2, hb2⟩
    go_wp2_with (fail)
    go_ret2
    exact ⟨v2, by rw [HC.out]; rfl, by rw [HE.out]; exact ⟨_, ho2⟩, B1.out.up hb2⟩
  · have HE := Lib.hid (show encR v = [] by simp [encR, hc])
    have hne : (Cd.check v != 0) = true := by simp [hc]
    clear hc
    go_wp2_with (fail)
    go_ret2
    exact ⟨_, rfl, by rw [HE.out]; exact ⟨0, ownB_none _ _⟩, B1.out⟩

set_option maxHeartbeats 1000000 in
theorem refSize_any (v : Cd.Vl) (x : Value) (P : Nat → Prop) (w : World) (hf : Cd.fits v) (hd : Cd.depth v ≤ 1000) (hv : IsV P w x v) (hl : (Cd.enc v).length ≤ 137438953472) :
    Calls Try.prog 15 #[x] w fun e w' => e = .returned (.tuple #[.int .i64 ((encR v).length : Nat), .int .i64 (Cd.check v)]) ∧ Below w.heap.size w w' := by
  have HV := Lib.hid hv
  obtain ⟨A, c, rfl, _⟩ := hv.opens
  clear hv
  go_enter Try.func15, Try.ntmps15
  go_wp2_with (fail)
  refine (refEncode_any v _ P _ hf hd (HV.out.under (blw1 w _)) hl).mono ?_
  rintro e w1 ⟨b, rfl, hby, hb1⟩
  have B1 := Lib.hid ((blw1 w (.cells #[.int .i64 v.kind, .int .i64 v.num, .string v.str, .slice A v.elems.length c] 24)).up hb1)
  obtain ⟨_, hby⟩ := hby
  obtain ⟨A2, c2, rfl⟩ := ownB_slice hby
  clear hb1
  go_wp2_with (fail)
  go_ret2
  exact ⟨rfl, B1.out⟩

end Go.Proofs.Ytnnddmhimnekaaa
