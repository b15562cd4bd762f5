/- Walks of Clone and Prove. -/
import Derived.Test.YtchjjcmlekknfaaW13
namespace Go.Proofs.Ytchjjcmlekknfaa
open Go.RowKit
set_option linter.unusedVariables false
set_option linter.unusedSimpArgs false

theorem cells_ints {W : World} {B : Nat} {t : TypeId} {l : List Int} (h : Cells W B t (l.map (Value.int .i64))) (k c : Nat) (hk : k ≤ l.length) : IsInts W (.slice (some ⟨B, 0, none⟩) k c) (l.take k) := by
  refine ⟨_, c, by rw [List.length_take, Nat.min_eq_left hk], fun _ => ⟨B, 0, rfl, h.lt, fun i hi => ?_⟩⟩
  rw [Nat.zero_add]
  refine h.cell ?_
  simp at hi
  rw [List.getElem?_map, List.getElem?_eq_getElem (by omega)]
  simp

set_option maxHeartbeats 1000000 in
theorem Clone_any (b off c : Nat) (xs : List Int) (w : World) (hv : IsInts w (.slice (some ⟨b, off, none⟩) xs.length c) xs) (hpos : 0 < xs.length) (hl : xs.length ≤ 1000000) :
    Calls Try.prog 32 #[.slice (some ⟨b, off, none⟩) xs.length c] w fun e w' => ∃ g cap, e = .returned (.slice (some ⟨g, 0, none⟩) xs.length cap) ∧ IsInts w' (.slice (some ⟨g, 0, none⟩) xs.length cap) xs ∧ Below w.heap.size w w' := by
  have HV := Lib.hid hv
  clear hv
  have hnil : ∀ W, (binOp .eql 22 (.slice (some ⟨b, off, none⟩) xs.length c) (.slice none 0 0)).run Try.prog W = .ok (.bool false) W := fun _ => rfl
  go_enter Try.func32, Try.ntmps32
  go_wp2_with (at_builtin; go_must (refine wpList_clone rfl (.tmp 5) (.tmp 6) rfl w.heap.size rfl rfl xs (some ⟨b, off, none⟩) xs.length c rfl HV.out hpos hl ?_); intro g cap w' hown hb; have HO := Lib.hid hown; have HB := Lib.hid hb; clear hown hb)
  go_ret
  exact ⟨g, cap, rfl, HO.out.ints, HB.out⟩

/-- a question that ask has made -/
theorem ask_qm {W1 : World} {B : Nat} {A : Option Addr} {c : Nat} {r d : List Int} {m f : Int} {cs : List Value} (h0 : Sc.errQ r d m f = 0) (hcs : Sc.errQ r d m f = 0 → cs = qC A r.length c (sumL d r.length) m f) (hc : Cells W1 B 45 cs) (hr : IsInts W1 (.slice A r.length c) r) :
    QM W1 B A c (Sc.mkQ r d m f) := by
  have hm : ((Sc.mkQ r d m f).m : Int) = m := by have := (Sc.errQ_zero h0).2.2.1; show (m.toNat : Int) = m; omega
  refine ⟨?_, hr⟩
  rw [hm]
  rw [hcs h0] at hc
  exact hc

set_option maxHeartbeats 4000000 in
set_option maxRecDepth 100000 in
theorem prove_any (A A2 : Option Addr) (c c2 : Nat) (r d : List Int) (m f : Int) (w : World) (hv : IsInts w (.slice A r.length c) r) (hu : IsInts w (.slice A2 d.length c2) d) (hl : r.length ≤ 9223372036854775807) (hl2 : d.length ≤ 9223372036854775807) :
    Calls Try.prog 14 #[.slice A r.length c, .slice A2 d.length c2, .int .i64 m, .int .i64 f] w (PPost r d m f w) := by
  have HV := Lib.hid hv
  have HW := Lib.hid hu
  have hz := zero45
  have hz2 := zero43
  have HL := Lib.hid (And.intro hl hl2)
  clear hv hu
  go_enter Try.func14, Try.ntmps14
  go_wp2_with (fail)
  refine (ask_any A A2 c c2 r d m f w HV.out HW.out HL.out.1 HL.out.2).mono ?_
  rintro e w1 ⟨cs, rfl, hc1, hc2, hc3, hb⟩
  have HCS := Lib.hid (And.intro hc1 (And.intro hc2 hc3))
  have HC0 := Lib.hid (Cells.new w1 45 qZ)
  have HB0 := Lib.hid (hb.up (al1 w1 (.cells qZ.toArray 45)))
  have hsz := hb.size
  clear hc1 hc2 hc3 hb
  by_cases h0 : Sc.errQ r d m f = 0
  rotate_left
  · have HG := Lib.hid (show pL r d m f = [] from if_neg h0)
    obtain ⟨e0, he0⟩ : ∃ e, Sc.errQ r d m f = e := ⟨_, rfl⟩
    have hb0 : (e0 == 0) = false := by rw [← he0]; simpa using h0
    have HE := Lib.hid he0
    rw [he0]
    clear h0 he0
    go_wp2_with (refine wpList_storeW rfl 45 (.tmp 10) (.tmp 18) rfl w1.heap.size rfl qZ cs rfl HC0.out (by rw [HCS.out.1]; exact i45) ((qC_len zer_len).trans HCS.out.1.symm) HCS.out.2.1 ?_; intro W1 hc1 ht1; have HC1 := Lib.hid hc1; have HT1 := Lib.hid ht1; clear hc1 ht1)
    go_ret2
    exact ⟨none, 0, by rw [HG.out, HE.out]; rfl, by rw [HG.out]; exact IsInts.nil, HT1.out.below HB0.out hsz⟩
  have HG := Lib.hid (show pL r d m f = Sc.hs (Sc.mkQ r d m f) r.length from if_pos h0)
  have HE := Lib.hid h0
  have HQ := Lib.hid (Sc.ok_of h0)
  have hrn := (Sc.errQ_zero h0).1
  rw [h0]
  clear h0
  go_wp2_with (refine wpList_storeW rfl 45 (.tmp 10) (.tmp 18) rfl w1.heap.size rfl qZ cs rfl HC0.out (by rw [HCS.out.1]; exact i45) ((qC_len zer_len).trans HCS.out.1.symm) HCS.out.2.1 ?_; intro W1 hc1 ht1; have HC1 := Lib.hid hc1; have HT1 := Lib.hid ht1; clear hc1 ht1)
  have HB1 := Lib.hid (HT1.out.below HB0.out hsz)
  have HM1 := Lib.hid (ask_qm HE.out HCS.out.2.2 HC1.out (HV.out.below HB1.out))
  clear HT1 HC0 HB0 HC1 HCS
  refine (earliest_any w1.heap.size A c (Sc.mkQ r d m f) W1 HM1.out HQ.out).mono ?_
  rintro e w2 ⟨rfl, b2⟩
  have HB2 := Lib.hid (HB1.out.up b2)
  obtain ⟨hl, hhl⟩ : ∃ l, hsA (Sc.mkQ r d m f) (Sc.mkQ r d m f).r.length = l := ⟨_, rfl⟩
  have HHL := Lib.hid hhl
  have HH65 := Lib.hid (show (hl.map (Value.int .i64)).length = 65 by rw [← hhl, List.length_map]; exact hsA_len hrn)
  rw [hhl]
  have HZ65 := Lib.hid (show (zer.map (Value.int .i64)).length = 65 by rw [List.length_map]; exact zer_len)
  have HC3 := Lib.hid (Cells.new w2 43 (zer.map (Value.int .i64)))
  have HB3 := Lib.hid (HB2.out.up (al1 w2 (.cells (zer.map (Value.int .i64)).toArray 43)))
  have hone : ∀ v ∈ hl.map (Value.int .i64), v.oneCell' = true := by
    intro v hv; simp at hv; obtain ⟨x, _, rfl⟩ := hv; rfl
  have HONE := Lib.hid hone
  have hk0 : (0 : Int) ≤ (r.length : Int) + 1 := by omega
  have hk1 : (r.length : Int) + 1 ≤ 65 := by omega
  have hk2 : ((r.length : Int) + 1).toNat = r.length + 1 := by omega
  have hsz2 := HB2.out.size
  clear b2 hone hhl HB1 HM1
  go_wp2_with (refine wpList_storeW rfl 43 (.tmp 11) (.tmp 23) rfl w2.heap.size rfl (zer.map (Value.int .i64)) (hl.map (Value.int .i64)) rfl HC3.out (by rw [HH65.out]; exact i43) (HZ65.out.trans HH65.out.symm) HONE.out ?_; intro W4 hc4 ht4; have HC4 := Lib.hid hc4; have HB4 := Lib.hid (ht4.below HB3.out hsz2); clear hc4 ht4)
  have HI := Lib.hid (show IsInts W4 (.slice (some ⟨w2.heap.size, 0, none⟩) (Sc.hs (Sc.mkQ r d m f) r.length).length 65) (Sc.hs (Sc.mkQ r d m f) r.length) from by
    have h := cells_ints HC4.out (r.length + 1) 65 (by have := HH65.out; rw [List.length_map] at this; omega)
    have e : hl.take (r.length + 1) = Sc.hs (Sc.mkQ r d m f) r.length := by
      rw [← HHL.out]
      show (Sc.hs _ r.length ++ _).take _ = _
      rw [List.take_append_of_le_length (by rw [Sc.hs_len]; exact Nat.le_refl _), List.take_of_length_le (by rw [Sc.hs_len]; exact Nat.le_refl _)]
    rw [e] at h
    rw [Sc.hs_len]; exact h)
  have hhl := Sc.hs_len (Sc.mkQ r d m f) r.length
  obtain ⟨hs, hhs⟩ : ∃ l, Sc.hs (Sc.mkQ r d m f) r.length = l := ⟨_, rfl⟩
  have HHS := Lib.hid hhs
  rw [hhs] at HI hhl
  have HLL := Lib.hid hhl
  clear hhs
  go_wp2_with (fail)
  have hC := Clone_any w2.heap.size 0 65 hs W4 HI.out (by have := HLL.out; omega) (by have := HLL.out; omega)
  rw [HLL.out] at hC
  refine hC.mono ?_
  clear hC
  rintro e w5 ⟨g, cap, rfl, hi, hb⟩
  have HB5 := Lib.hid (HB4.out.up hb)
  have HI5 := Lib.hid hi
  clear hi hb
  go_wp2_with (fail)
  go_ret2
  have HP : pL r d m f = hs := HG.out.trans HHS.out
  exact ⟨some ⟨g, 0, none⟩, cap, by rw [HP, HE.out, HLL.out]; rfl, by rw [HP, HLL.out]; exact HI5.out, HB5.out⟩
end Go.Proofs.Ytchjjcmlekknfaa
