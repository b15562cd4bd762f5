/- The statement CodecEncodeSpec, walked. -/
import Derived.Test.YtnnddmhimnekaaaL0
import Derived.Deep.RegionHeld3
namespace Go.Proofs.Ytnnddmhimnekaaa
open Go.RowKit
set_option linter.unusedVariables false
set_option linter.unusedSimpArgs false

theorem refCheck_is (v : Cd.Vl) (ck : Int) (x : Value) (P : Nat → Prop) (w : World) (hf : Cd.fits v) (hd : Cd.depth v ≤ 1000) (hv : IsV P w x v) (hc : Cd.check v = ck) :
    Calls Try.prog 17 #[x] w fun e w' => e = .returned (.int .i64 ck) ∧ Below w.heap.size w w' := by
  subst hc; exact refCheck_any v x P w hf hd hv

theorem Check_is (v : Cd.Vl) (ck : Int) (x : Value) (P : Nat → Prop) (w : World) (hf : Cd.fits v) (hd : Cd.depth v ≤ 1000) (hv : IsV P w x v) (hc : Cd.check v = ck) :
    Calls Try.prog 16 #[x] w fun e w' => e = .returned (.int .i64 ck) ∧ Below w.heap.size w w' := by
  subst hc; exact Check_any v x P w hf hd hv
/-- what the last line finds -/
structure EncS (w X : World) (v : Cd.Vl) (A : Option Addr) (c : Nat) (A1 : Option Addr) (c1 : Nat) (A2 : Option Addr) (c2 : Nat) (bs : List UInt8) : Prop where
  bl : Below w.heap.size w X
  four : Four X w.heap.size (.int .i64 v.kind) (.int .i64 v.num) (.string v.str) (.slice A v.elems.length c)
  val : IsV Any X (.agg #[.int .i64 v.kind, .int .i64 v.num, .string v.str, .slice A v.elems.length c]) v
  b1 : Bts X (.slice A1 bs.length c1) bs
  b2 : Bts X (.slice A2 bs.length c2) bs
theorem EncS.upb {w X X' : World} {v : Cd.Vl} {A : Option Addr} {c : Nat} {A1 : Option Addr} {c1 : Nat} {A2 : Option Addr} {c2 : Nat} {bs : List UInt8} (h : EncS w X v A c A1 c1 A2 c2 bs) (hb : Below X.heap.size X X') : EncS w X' v A c A1 c1 A2 c2 bs :=
  ⟨h.bl.up hb, h.four.upb hb, h.val.upb hb, h.b1.upb hb, h.b2.upb hb⟩
theorem es2 {w X : World} {v : Cd.Vl} {A : Option Addr} {c : Nat} {A1 : Option Addr} {c1 : Nat} {A2 : Option Addr} {c2 : Nat} {bs : List UInt8} (h : EncS w X v A c A1 c1 A2 c2 bs) :
    Hid (EncS w X v A c A1 c1 A2 c2 bs) ∧ X.cell? ⟨w.heap.size, 0, none⟩ = some (.int .i64 v.kind) ∧ X.cell? ⟨w.heap.size, 1, none⟩ = some (.int .i64 v.num) ∧ X.cell? ⟨w.heap.size, 2, none⟩ = some (.string v.str) ∧ X.cell? ⟨w.heap.size, 3, none⟩ = some (.slice A v.elems.length c) ∧
    (convert 27 9 (.slice A1 bs.length c1)).run Try.prog X = .ok (.string ⟨bs.toArray⟩) X ∧ (convert 27 9 (.slice A2 bs.length c2)).run Try.prog X = .ok (.string ⟨bs.toArray⟩) X :=
  ⟨Lib.hid h, h.four.c0, h.four.c1, h.four.c2, h.four.c3, h.b1.conv, h.b2.conv⟩

set_option maxHeartbeats 4000000 in
set_option maxRecDepth 100000 in
theorem CodecEncodeSpec_any (x : Value) (v : Cd.Vl) (w : World) (hv : IsV Any w x v) (hr : Cd.raw v) : Calls Try.prog 3 #[x] w fun e w' => e = .returned (.bool true) ∧ Below w.heap.size w w' := by
  have HR := Lib.hid hr
  obtain ⟨A, c, rfl, _⟩ := hv.opens
  have HV := Lib.hid (hv.under (blw1 w (.cells #[.int .i64 v.kind, .int .i64 v.num, .string v.str, .slice A v.elems.length c] 24)))
  have F := Lib.hid (Four.new w (.int .i64 v.kind) (.int .i64 v.num) (.string v.str) (.slice A v.elems.length c))
  have B := Lib.hid (blw1 w (.cells #[.int .i64 v.kind, .int .i64 v.num, .string v.str, .slice A v.elems.length c] 24))
  clear hv hr
  go_enter Try.func3, Try.ntmps3
  go_wp2_with (fail)
  refine (sane_any _).mono ?_
  rintro e w1 ⟨rfl, b1⟩
  have Dw1 := Lib.hid (b1)
  replace HV := Lib.hid (HV.out.upb Dw1.out)
  replace F := Lib.hid (F.out.upb Dw1.out)
  replace B := Lib.hid (B.out.upb Dw1.out)
  clear Dw1 b1
  have Fq0 := F.out.c0
  have Fq1 := F.out.c1
  have Fq2 := F.out.c2
  have Fq3 := F.out.c3
  go_wp2_with (fail)
  have HL := Lib.hid (vs_one _ _ _ _ _ _ HV.out)
  refine (few_any [v] _ Any _ (by simpa using HR.out) (by simp) HL.out).mono ?_
  rintro e w2 ⟨rfl, b2⟩
  have Dw2 := Lib.hid ((blw1 w1 _).up b2)
  replace HV := Lib.hid (HV.out.upb Dw2.out)
  replace F := Lib.hid (F.out.upb Dw2.out)
  replace B := Lib.hid (B.out.upb Dw2.out)
  clear Fq0 Fq1 Fq2 Fq3
  clear Dw2 b2 HL
  have Fq0 := F.out.c0
  have Fq1 := F.out.c1
  have Fq2 := F.out.c2
  have Fq3 := F.out.c3
  cases hfew : [v].all Cd.fewB
  · clear Fq0 Fq1 Fq2 Fq3
    go_wp2_with (fail)
    go_ret
    exact ⟨rfl, B.out⟩
  have HFT := Lib.hid (few_all1 HR.out hfew)
  clear hfew
  go_wp2_with (fail)
  refine (Encode_any v _ Any _ HFT.out.1 HFT.out.2.1 HV.out HFT.out.2.2).mono ?_
  rintro e w3 ⟨x1, rfl, bt1, b3⟩
  obtain ⟨A1, c1, rfl⟩ := bt1.slice
  have T1 := Lib.hid bt1
  clear bt1
  have Dw3 := Lib.hid (b3)
  replace HV := Lib.hid (HV.out.upb Dw3.out)
  replace F := Lib.hid (F.out.upb Dw3.out)
  replace B := Lib.hid (B.out.upb Dw3.out)
  clear Fq0 Fq1 Fq2 Fq3
  clear Dw3 b3
  have Fq0 := F.out.c0
  have Fq1 := F.out.c1
  have Fq2 := F.out.c2
  have Fq3 := F.out.c3
  go_wp2_with (fail)
  refine (refEncode_any v _ Any _ HFT.out.1 HFT.out.2.1 HV.out HFT.out.2.2).mono ?_
  rintro e w4 ⟨x2, rfl, bt2, b4⟩
  obtain ⟨A2, c2, rfl⟩ := bt2.slice
  have T2 := Lib.hid bt2
  clear bt2
  have Dw4 := Lib.hid (b4)
  replace HV := Lib.hid (HV.out.upb Dw4.out)
  replace F := Lib.hid (F.out.upb Dw4.out)
  replace B := Lib.hid (B.out.upb Dw4.out)
  replace T1 := Lib.hid (T1.out.upb Dw4.out)
  clear Fq0 Fq1 Fq2 Fq3
  clear Dw4 b4
  have Fq0 := F.out.c0
  have Fq1 := F.out.c1
  have Fq2 := F.out.c2
  have Fq3 := F.out.c3
  go_wp2_with (fail)
  refine (Size_any v _ Any _ HFT.out.1 HFT.out.2.1 HV.out HFT.out.2.2).mono ?_
  rintro e w5 ⟨rfl, b5⟩
  have Dw5 := Lib.hid (b5)
  replace HV := Lib.hid (HV.out.upb Dw5.out)
  replace F := Lib.hid (F.out.upb Dw5.out)
  replace B := Lib.hid (B.out.upb Dw5.out)
  replace T1 := Lib.hid (T1.out.upb Dw5.out)
  replace T2 := Lib.hid (T2.out.upb Dw5.out)
  clear Fq0 Fq1 Fq2 Fq3
  clear Dw5 b5
  have Fq0 := F.out.c0
  have Fq1 := F.out.c1
  have Fq2 := F.out.c2
  have Fq3 := F.out.c3
  go_wp2_with (fail)
  refine (refSize_any v _ Any _ HFT.out.1 HFT.out.2.1 HV.out HFT.out.2.2).mono ?_
  rintro e w6 ⟨rfl, b6⟩
  have Dw6 := Lib.hid (b6)
  replace HV := Lib.hid (HV.out.upb Dw6.out)
  replace F := Lib.hid (F.out.upb Dw6.out)
  replace B := Lib.hid (B.out.upb Dw6.out)
  replace T1 := Lib.hid (T1.out.upb Dw6.out)
  replace T2 := Lib.hid (T2.out.upb Dw6.out)
  clear Fq0 Fq1 Fq2 Fq3
  clear Dw6 b6
  have Fq0 := F.out.c0
  have Fq1 := F.out.c1
  have Fq2 := F.out.c2
  have Fq3 := F.out.c3
  have HES := Lib.hid (EncS.mk (bs := encR v) B.out F.out HV.out T1.out T2.out)
  clear Fq0 Fq1 Fq2 Fq3 T1 T2 F HV B
  generalize hCK : Cd.check v = ck at *
  have HCK := Lib.hid hCK
  clear hCK
  go_wp2_with (fail)
  generalize hbs : encR v = bs at *
  clear hbs
  have HK := Lib.hid (fun W hi => Check_is v ck (.agg #[.int .i64 v.kind, .int .i64 v.num, .string v.str, .slice A v.elems.length c]) Any W HFT.out.1 HFT.out.2.1 hi HCK.out)
  have HK2 := Lib.hid (fun W hi => refCheck_is v ck (.agg #[.int .i64 v.kind, .int .i64 v.num, .string v.str, .slice A v.elems.length c]) Any W HFT.out.1 HFT.out.2.1 hi HCK.out)
  go_region_held3 (fun X => Hid (EncS w X v A c A1 c1 A2 c2 bs) ∧ X.cell? ⟨w.heap.size, 0, none⟩ = some (.int .i64 v.kind) ∧ X.cell? ⟨w.heap.size, 1, none⟩ = some (.int .i64 v.num) ∧ X.cell? ⟨w.heap.size, 2, none⟩ = some (.string v.str) ∧ X.cell? ⟨w.heap.size, 3, none⟩ = some (.slice A v.elems.length c) ∧
      (convert 27 9 (.slice A1 bs.length c1)).run Try.prog X = .ok (.string ⟨bs.toArray⟩) X ∧ (convert 27 9 (.slice A2 bs.length c2)).run Try.prog X = .ok (.string ⟨bs.toArray⟩) X)
    (first
      | exact es2 HES.out
      | exact es2 (HES.out.upb (below_drew (Below.refl _ _)))
      | exact es2 HE7.out
      | exact es2 HE8.out)
    (first
      | (go_at_call 16
         refine (HK.out _ (HES.out.upb (below_drew (Below.refl _ _))).val).mono ?_
         rintro e X7 ⟨rfl, b7⟩
         have HE7 := Lib.hid ((HES.out.upb (below_drew (Below.refl _ _))).upb b7)
         clear b7)
      | (go_at_call 17
         refine (HK2.out _ HE7.out.val).mono ?_
         rintro e X8 ⟨rfl, b8⟩
         have HE8 := Lib.hid (HE7.out.upb b8)
         clear b8))
  all_goals
    go_wp2_with (fail)
    go_ret
    exact ⟨rfl, HE8.out.bl⟩

end Go.Proofs.Ytnnddmhimnekaaa
