/- Every value's writer; walks of Encode and Size. -/
import Derived.Test.YtnnddmhimnekaaaW5
namespace Go.Proofs.Ytnnddmhimnekaaa
open Go.RowKit
set_option linter.unusedVariables false
set_option linter.unusedSimpArgs false

theorem formed_kind {v : Cd.Vl} (h : Cd.formed v = true) : v.kind = 1 ∨ v.kind = 2 ∨ v.kind = 3 := by
  cases v with
  | mk k n s l =>
    show k = 1 ∨ k = 2 ∨ k = 3
    by_cases hk : k < 1 ∨ 3 < k
    · rw [Cd.formed_bad hk] at h; cases h
    · omega

/-- a row of bytes that some call has built -/
def Bts (w : World) (v : Value) (bs : List UInt8) : Prop := ∃ base, OwnBytes w base v bs
theorem Bts.bytes {w : World} {v : Value} {bs : List UInt8} (h : Bts w v bs) : IsBytes w v bs := by
  obtain ⟨_, h⟩ := h
  exact h.bytes
theorem Bts.under {w w' : World} {v : Value} {bs : List UInt8} (h : Bts w v bs) (hb : Below w.heap.size w w') : Bts w' v bs := by
  obtain ⟨b, h⟩ := h
  exact ⟨b, ownB_under h hb⟩

theorem writeC_all (v : Cd.Vl) : Cd.formed v = true → Cd.fits v → WriteC v := by
  induction v using Cd.Vl.ind with
  | h k n s l ih =>
    intro hf hfit b bs base pv ar W val hO hb hl hw hV
    obtain ⟨h1, h2, h3, h4⟩ := Cd.fits_mk.1 hfit
    obtain ⟨A, c, rfl, hVs⟩ := hV.opens
    refine ⟨fun hk => ?_, fun hk => ?_, fun hk => ?_⟩
    · have hk' : k = 1 := hk
      subst hk'
      rw [enc_1] at hl ⊢
      exact write1_any b bs 1 n s A _ c base W hO hb (by simp at hl; omega) h3.1 h3.2
    · have hk' : k = 2 := hk
      subst hk'
      rw [enc_2] at hl ⊢
      exact write2_any b bs 2 n s A _ c base W hO hb (by simp at hl; omega) h2
    · have hk' : k = 3 := hk
      subst hk'
      have hall : ∀ x ∈ l, Cd.formed x = true := by
        rw [Cd.formed_3, Bool.and_eq_true, Cd.formedL_all, List.all_eq_true] at hf
        exact hf.2
      exact write3_any b bs n s l A c base pv ar W hO hb hl hw hVs h1 (fun x hx => formed_kind (hall x hx)) (fun x hx => ih x hx (hall x hx) (h4 x hx))

theorem wpAnyH_mono {P : Program} {md : Region.Mode} {ops : Array Oper} {Q : Exit → Act → World → Prop} {S S' : World → Prop} (hS : ∀ w, S' w → S w) :
    ∀ (fuel : Nat) (listed : Array Bool) (a : Act) (w : World), wpAnyH P md ops Q S' fuel listed a w → wpAnyH P md ops Q S fuel listed a w
  | 0, _, _, _, h => h
  | fuel + 1, _, _, _, h => ⟨h.1, fun i hi => wpOp_mono (fun a' w' h' => ⟨hS w' h'.1, wpAnyH_mono hS fuel _ a' w' h'.2⟩) (h.2 i hi)⟩

set_option maxRecDepth 100000 in
set_option maxHeartbeats 4000000 in
theorem Encode_yes (v : Cd.Vl) (x : Value) (P : Nat → Prop) (w : World) (hf : Cd.fits v) (hd : Cd.depth v ≤ 1000) (hv : IsV P w x v) (hc : Cd.check v = 0) (hl : (Cd.enc v).length ≤ 137438953472) :
    Calls Try.prog 12 #[x] w fun e w' => ∃ b, e = .returned (.tuple #[b, .int .i64 0]) ∧ Bts w' b (Cd.enc v) ∧ Below w.heap.size w w' := by
  have HV := Lib.hid hv
  obtain ⟨A, c, rfl, _⟩ := hv.opens
  clear hv
  have HC := Lib.hid hc
  go_enter Try.func12, Try.ntmps12
  go_wp2_with (fail)
  refine (Check_any v _ P _ hf hd (HV.out.under ((Below.refl _ w).alloc (Nat.le_refl _) _))).mono ?_
  rintro e w1 ⟨rfl, hb1⟩
  have HF := Lib.hid ((Four.new w (.int .i64 v.kind) (.int .i64 v.num) (.string v.str) (.slice A v.elems.length c)).under hb1)
  have B1 := Lib.hid (((Below.refl _ w).alloc (Nat.le_refl _) (.cells #[.int .i64 v.kind, .int .i64 v.num, .string v.str, .slice A v.elems.length c] 24)).up hb1)
  clear hb1
  rw [HC.out]
  have hfm : Cd.formed v = true := by
    unfold Cd.check at hc
    by_cases h : Cd.formed v = true
    · exact h
    · rw [if_neg h] at hc; omega
  have HWc := Lib.hid (writeC_all v hfm hf)
  have hkd := formed_kind hfm
  clear hfm hc
  rcases hkd with hkd | hkd | hkd
  · rw [hkd] at HF
    rw [hkd] at HV
    rw [hkd]
    go_wp2_with (fail)
    refine wp_region_noPanic ?_
    refine wp_region_held (S := fun X => Hid (Four X w.heap.size (.int .i64 1) (.int .i64 v.num) (.string v.str) (.slice A v.elems.length c)) ∧ X.cell? ⟨w.heap.size, 0, none⟩ = some (.int .i64 1) ∧ X.cell? ⟨w.heap.size, 1, none⟩ = some (.int .i64 v.num) ∧ X.cell? ⟨w.heap.size, 2, none⟩ = some (.string v.str) ∧ X.cell? ⟨w.heap.size, 3, none⟩ = some (.slice A v.elems.length c)) (by kernel_rfl) ?_
    have hS0 : (fun X => Hid (Four X w.heap.size (.int .i64 1) (.int .i64 v.num) (.string v.str) (.slice A v.elems.length c)) ∧ X.cell? ⟨w.heap.size, 0, none⟩ = some (.int .i64 1) ∧ X.cell? ⟨w.heap.size, 1, none⟩ = some (.int .i64 v.num) ∧ X.cell? ⟨w.heap.size, 2, none⟩ = some (.string v.str) ∧ X.cell? ⟨w.heap.size, 3, none⟩ = some (.slice A v.elems.length c)) w1.drew := ⟨Lib.hid HF.out, HF.out.c0, HF.out.c1, HF.out.c2, HF.out.c3⟩
    refine wpAnyH_take (i := 1) (v := (.pointer (some ⟨w.heap.size, 0, none⟩))) rfl (by kernel_rfl) (by kernel_rfl) (by kernel_rfl) (fun _ _ _ h => h) (.inl ⟨rfl, fun X hX => ?_⟩) hS0 ?_
    · obtain ⟨_, z1, z2, z3, z4⟩ := hX; go_simp
    change wpAnyH _ _ _ _ _ _ _ { tmps := #[(.agg #[.int .i64 1, .int .i64 v.num, .string v.str, .slice A v.elems.length c]), (.pointer (some ⟨w.heap.size, 0, none⟩)), (.slice none 0 0), (.int .i64 0), (.int .i64 0), (.agg #[.int .i64 1, .int .i64 v.num, .string v.str, .slice A v.elems.length c]), (.int .i64 0), (.int .i64 0), (.bool false), undef, undef, (.pointer (some ⟨w.heap.size, 0, none⟩)), undef, undef, undef, undef, undef, undef, undef], defers := [] } _
    refine wpAnyH_take (i := 2) (v := (.int .i64 1)) rfl (by kernel_rfl) (by kernel_rfl) (by kernel_rfl) (fun _ _ _ h => h) (.inl ⟨rfl, fun X hX => ?_⟩) hS0 ?_
    · obtain ⟨_, z1, z2, z3, z4⟩ := hX; go_simp
    change wpAnyH _ _ _ _ _ _ _ { tmps := #[(.agg #[.int .i64 1, .int .i64 v.num, .string v.str, .slice A v.elems.length c]), (.pointer (some ⟨w.heap.size, 0, none⟩)), (.slice none 0 0), (.int .i64 0), (.int .i64 0), (.agg #[.int .i64 1, .int .i64 v.num, .string v.str, .slice A v.elems.length c]), (.int .i64 0), (.int .i64 0), (.bool false), undef, undef, (.pointer (some ⟨w.heap.size, 0, none⟩)), (.int .i64 1), undef, undef, undef, undef, undef, undef], defers := [] } _
    refine wpAnyH_take (i := 7) (v := (.agg #[.int .i64 1, .int .i64 v.num, .string v.str, .slice A v.elems.length c])) rfl (by kernel_rfl) (by kernel_rfl) (by kernel_rfl) (fun _ _ _ h => h) (.inl ⟨rfl, fun X hX => ?_⟩) hS0 ?_
    · obtain ⟨_, z1, z2, z3, z4⟩ := hX; go_simp
    change wpAnyH _ _ _ _ _ _ _ { tmps := #[(.agg #[.int .i64 1, .int .i64 v.num, .string v.str, .slice A v.elems.length c]), (.pointer (some ⟨w.heap.size, 0, none⟩)), (.slice none 0 0), (.int .i64 0), (.int .i64 0), (.agg #[.int .i64 1, .int .i64 v.num, .string v.str, .slice A v.elems.length c]), (.int .i64 0), (.int .i64 0), (.bool false), undef, undef, (.pointer (some ⟨w.heap.size, 0, none⟩)), (.int .i64 1), undef, undef, undef, undef, (.agg #[.int .i64 1, .int .i64 v.num, .string v.str, .slice A v.elems.length c]), undef], defers := [] } _
    refine wpAnyH_ready (rs := [0]) (by kernel_rfl) (by simp) (AllReadyH.cons rfl (fun K hK => ?_) AllReadyH.nil)
    refine step_fn (by rfl) (.func 26) #[] _ (by rfl) 26 #[] (by rfl) #[] (by simp) (enters_of Try.func26 (by kernel_rfl) rfl) (newWriter_any _) ?_
    rintro e w2 ⟨pv, ar, rfl, hW, hb2⟩
    have HF2 := Lib.hid (HF.out.drew.under hb2)
    have HW := Lib.hid hW
    have B2 := Lib.hid ((below_drew B1.out).up hb2)
    have X2 := Lib.hid (Nat.le_trans (show w1.heap.size ≤ w1.drew.heap.size from Nat.le_refl _) hb2.size)
    clear hW hb2
    refine ⟨_, rfl, hK.out _ _ ⟨Lib.hid HF2.out, HF2.out.c0, HF2.out.c1, HF2.out.c2, HF2.out.c3⟩ (fun hS1 => ?_)⟩
    clear hK K
    refine wpAnyH_mono (S' := fun X => ((fun X => Hid (Four X w.heap.size (.int .i64 1) (.int .i64 v.num) (.string v.str) (.slice A v.elems.length c)) ∧ X.cell? ⟨w.heap.size, 0, none⟩ = some (.int .i64 1) ∧ X.cell? ⟨w.heap.size, 1, none⟩ = some (.int .i64 v.num) ∧ X.cell? ⟨w.heap.size, 2, none⟩ = some (.string v.str) ∧ X.cell? ⟨w.heap.size, 3, none⟩ = some (.slice A v.elems.length c)) X) ∧ X.cell? ⟨ar, 1, none⟩ = some (.func (.func 37) #[] #[])) (fun _ h => h.1) _ _ _ _ ?_
    have hS2 : (fun X => ((fun X => Hid (Four X w.heap.size (.int .i64 1) (.int .i64 v.num) (.string v.str) (.slice A v.elems.length c)) ∧ X.cell? ⟨w.heap.size, 0, none⟩ = some (.int .i64 1) ∧ X.cell? ⟨w.heap.size, 1, none⟩ = some (.int .i64 v.num) ∧ X.cell? ⟨w.heap.size, 2, none⟩ = some (.string v.str) ∧ X.cell? ⟨w.heap.size, 3, none⟩ = some (.slice A v.elems.length c)) X) ∧ X.cell? ⟨ar, 1, none⟩ = some (.func (.func 37) #[] #[])) w2 := ⟨hS1, HW.out.c1⟩
    change wpAnyH _ _ _ _ _ _ _ { tmps := #[(.agg #[.int .i64 1, .int .i64 v.num, .string v.str, .slice A v.elems.length c]), (.pointer (some ⟨w.heap.size, 0, none⟩)), (.slice none 0 0), (.int .i64 0), (.int .i64 0), (.agg #[.int .i64 1, .int .i64 v.num, .string v.str, .slice A v.elems.length c]), (.int .i64 0), (.int .i64 0), (.bool false), undef, (.pointer (some ⟨ar, 0, none⟩)), (.pointer (some ⟨w.heap.size, 0, none⟩)), (.int .i64 1), undef, undef, undef, undef, (.agg #[.int .i64 1, .int .i64 v.num, .string v.str, .slice A v.elems.length c]), undef], defers := [] } _
    refine wpAnyH_take (i := 3) (v := (.pointer (some ⟨ar, 0, none⟩))) rfl (by kernel_rfl) (by kernel_rfl) (by kernel_rfl) (fun _ _ _ h => h) (.inl ⟨rfl, fun X hX => ?_⟩) hS2 ?_
    · obtain ⟨⟨_, z1, z2, z3, z4⟩, z5⟩ := hX; go_simp
    change wpAnyH _ _ _ _ _ _ _ { tmps := #[(.agg #[.int .i64 1, .int .i64 v.num, .string v.str, .slice A v.elems.length c]), (.pointer (some ⟨w.heap.size, 0, none⟩)), (.slice none 0 0), (.int .i64 0), (.int .i64 0), (.agg #[.int .i64 1, .int .i64 v.num, .string v.str, .slice A v.elems.length c]), (.int .i64 0), (.int .i64 0), (.bool false), undef, (.pointer (some ⟨ar, 0, none⟩)), (.pointer (some ⟨w.heap.size, 0, none⟩)), (.int .i64 1), (.pointer (some ⟨ar, 0, none⟩)), undef, undef, undef, (.agg #[.int .i64 1, .int .i64 v.num, .string v.str, .slice A v.elems.length c]), undef], defers := [] } _
    refine wpAnyH_take (i := 4) (v := (.pointer (some ⟨ar, 1, none⟩))) rfl (by kernel_rfl) (by kernel_rfl) (by kernel_rfl) (fun _ _ _ h => h) (.inl ⟨rfl, fun X hX => ?_⟩) hS2 ?_
    · obtain ⟨⟨_, z1, z2, z3, z4⟩, z5⟩ := hX; go_simp
    change wpAnyH _ _ _ _ _ _ _ { tmps := #[(.agg #[.int .i64 1, .int .i64 v.num, .string v.str, .slice A v.elems.length c]), (.pointer (some ⟨w.heap.size, 0, none⟩)), (.slice none 0 0), (.int .i64 0), (.int .i64 0), (.agg #[.int .i64 1, .int .i64 v.num, .string v.str, .slice A v.elems.length c]), (.int .i64 0), (.int .i64 0), (.bool false), undef, (.pointer (some ⟨ar, 0, none⟩)), (.pointer (some ⟨w.heap.size, 0, none⟩)), (.int .i64 1), (.pointer (some ⟨ar, 0, none⟩)), (.pointer (some ⟨ar, 1, none⟩)), undef, undef, (.agg #[.int .i64 1, .int .i64 v.num, .string v.str, .slice A v.elems.length c]), undef], defers := [] } _
    refine wpAnyH_take (i := 5) (v := (.pointer (some ⟨ar, 1, none⟩))) rfl (by kernel_rfl) (by kernel_rfl) (by kernel_rfl) (fun _ _ _ h => h) (.inl ⟨rfl, fun X hX => ?_⟩) hS2 ?_
    · obtain ⟨⟨_, z1, z2, z3, z4⟩, z5⟩ := hX; go_simp
    change wpAnyH _ _ _ _ _ _ _ { tmps := #[(.agg #[.int .i64 1, .int .i64 v.num, .string v.str, .slice A v.elems.length c]), (.pointer (some ⟨w.heap.size, 0, none⟩)), (.slice none 0 0), (.int .i64 0), (.int .i64 0), (.agg #[.int .i64 1, .int .i64 v.num, .string v.str, .slice A v.elems.length c]), (.int .i64 0), (.int .i64 0), (.bool false), undef, (.pointer (some ⟨ar, 0, none⟩)), (.pointer (some ⟨w.heap.size, 0, none⟩)), (.int .i64 1), (.pointer (some ⟨ar, 0, none⟩)), (.pointer (some ⟨ar, 1, none⟩)), (.pointer (some ⟨ar, 1, none⟩)), undef, (.agg #[.int .i64 1, .int .i64 v.num, .string v.str, .slice A v.elems.length c]), undef], defers := [] } _
    refine wpAnyH_take (i := 6) (v := (.func (.func 37) #[] #[])) rfl (by kernel_rfl) (by kernel_rfl) (by kernel_rfl) (fun _ _ _ h => h) (.inl ⟨rfl, fun X hX => ?_⟩) hS2 ?_
    · obtain ⟨⟨_, z1, z2, z3, z4⟩, z5⟩ := hX; go_simp
    change wpAnyH _ _ _ _ _ _ _ { tmps := #[(.agg #[.int .i64 1, .int .i64 v.num, .string v.str, .slice A v.elems.length c]), (.pointer (some ⟨w.heap.size, 0, none⟩)), (.slice none 0 0), (.int .i64 0), (.int .i64 0), (.agg #[.int .i64 1, .int .i64 v.num, .string v.str, .slice A v.elems.length c]), (.int .i64 0), (.int .i64 0), (.bool false), undef, (.pointer (some ⟨ar, 0, none⟩)), (.pointer (some ⟨w.heap.size, 0, none⟩)), (.int .i64 1), (.pointer (some ⟨ar, 0, none⟩)), (.pointer (some ⟨ar, 1, none⟩)), (.pointer (some ⟨ar, 1, none⟩)), (.func (.func 37) #[] #[]), (.agg #[.int .i64 1, .int .i64 v.num, .string v.str, .slice A v.elems.length c]), undef], defers := [] } _
    have HVw := Lib.hid ((HV.out.under B2.out).mono (P' := (· < w2.heap.size)) (fun _ h _ => h))
    have HCl := Lib.hid ((HWc.out (.slice none 0 0) [] w2.heap.size pv ar w2 _ (ownB_none w2 _) (Nat.le_refl _) (by simpa using hl) HW.out HVw.out).1 hkd)
    refine wpAnyH_ready (rs := [8]) (by kernel_rfl) (by simp) (AllReadyH.cons rfl (fun K hK => ?_) AllReadyH.nil)
    refine step_fn2 (by rfl) (.tmp 16) (.const (.slice none 0 0)) (.tmp 17) _ (by rfl) 37 [] (by rfl) _ _ (by rfl) (by rfl) (enters_of Try.func37 (by kernel_rfl) rfl) HCl.out ?_
    rintro e w3 ⟨v3, rfl, hct⟩
    have HF3 := Lib.hid (HF2.out.cat hct (ownB_none w2 _))
    have HW3 := Lib.hid (HW.out.cat hct (ownB_none w2 _))
    have HCt := Lib.hid hct
    clear hct
    refine ⟨_, rfl, hK.out _ _ ⟨⟨Lib.hid HF3.out, HF3.out.c0, HF3.out.c1, HF3.out.c2, HF3.out.c3⟩, HW3.out.c1⟩ (fun hS3 => ?_)⟩
    clear hK K
    change wpAnyH _ _ _ _ _ _ _ { tmps := #[(.agg #[.int .i64 1, .int .i64 v.num, .string v.str, .slice A v.elems.length c]), (.pointer (some ⟨w.heap.size, 0, none⟩)), (.slice none 0 0), (.int .i64 0), (.int .i64 0), (.agg #[.int .i64 1, .int .i64 v.num, .string v.str, .slice A v.elems.length c]), (.int .i64 0), (.int .i64 0), (.bool false), undef, (.pointer (some ⟨ar, 0, none⟩)), (.pointer (some ⟨w.heap.size, 0, none⟩)), (.int .i64 1), (.pointer (some ⟨ar, 0, none⟩)), (.pointer (some ⟨ar, 1, none⟩)), (.pointer (some ⟨ar, 1, none⟩)), (.func (.func 37) #[] #[]), (.agg #[.int .i64 1, .int .i64 v.num, .string v.str, .slice A v.elems.length c]), v3], defers := [] } _
    refine wpAnyH_take (i := 9) (v := v3) rfl (by kernel_rfl) (by kernel_rfl) (by kernel_rfl) (fun _ _ _ h => h) (.inl ⟨rfl, fun X hX => ?_⟩) hS3 ?_
    · obtain ⟨⟨_, z1, z2, z3, z4⟩, z5⟩ := hX; go_simp
    change wpAnyH _ _ _ _ _ _ _ { tmps := #[(.agg #[.int .i64 1, .int .i64 v.num, .string v.str, .slice A v.elems.length c]), (.pointer (some ⟨w.heap.size, 0, none⟩)), v3, (.int .i64 0), (.int .i64 0), (.agg #[.int .i64 1, .int .i64 v.num, .string v.str, .slice A v.elems.length c]), (.int .i64 0), (.int .i64 0), (.bool false), undef, (.pointer (some ⟨ar, 0, none⟩)), (.pointer (some ⟨w.heap.size, 0, none⟩)), (.int .i64 1), (.pointer (some ⟨ar, 0, none⟩)), (.pointer (some ⟨ar, 1, none⟩)), (.pointer (some ⟨ar, 1, none⟩)), (.func (.func 37) #[] #[]), (.agg #[.int .i64 1, .int .i64 v.num, .string v.str, .slice A v.elems.length c]), v3], defers := [] } _
    refine wpAnyH_take (i := 10) (v := (.int .i64 0)) rfl (by kernel_rfl) (by kernel_rfl) (by kernel_rfl) (fun _ _ _ h => h) (.inl ⟨rfl, fun X hX => ?_⟩) hS3 ?_
    · obtain ⟨⟨_, z1, z2, z3, z4⟩, z5⟩ := hX; go_simp
    change wpAnyH _ _ _ _ _ _ _ { tmps := #[(.agg #[.int .i64 1, .int .i64 v.num, .string v.str, .slice A v.elems.length c]), (.pointer (some ⟨w.heap.size, 0, none⟩)), v3, (.int .i64 0), (.int .i64 0), (.agg #[.int .i64 1, .int .i64 v.num, .string v.str, .slice A v.elems.length c]), (.int .i64 0), (.int .i64 0), (.bool false), undef, (.pointer (some ⟨ar, 0, none⟩)), (.pointer (some ⟨w.heap.size, 0, none⟩)), (.int .i64 1), (.pointer (some ⟨ar, 0, none⟩)), (.pointer (some ⟨ar, 1, none⟩)), (.pointer (some ⟨ar, 1, none⟩)), (.func (.func 37) #[] #[]), (.agg #[.int .i64 1, .int .i64 v.num, .string v.str, .slice A v.elems.length c]), v3], defers := [] } _
    refine wpAnyH_done (by kernel_rfl) (NoPanic.normal ?_) _
    have hbw : Below w2.heap.size w2 w3 := HCt.out.below (ownB_none w2 _) (Below.refl _ _) (Nat.le_refl _)
    have HBy := Lib.hid HCt.out.own
    have B3 := Lib.hid (B2.out.up hbw)
    clear hbw HCt
    go_wp2_with (fail)
    go_ret2
    exact ⟨v3, rfl, ⟨_, (by have h := HBy.out; simpa using h)⟩, B3.out⟩
  · rw [hkd] at HF
    rw [hkd] at HV
    rw [hkd]
    go_wp2_with (fail)
    refine wp_region_noPanic ?_
    refine wp_region_held (S := fun X => Hid (Four X w.heap.size (.int .i64 2) (.int .i64 v.num) (.string v.str) (.slice A v.elems.length c)) ∧ X.cell? ⟨w.heap.size, 0, none⟩ = some (.int .i64 2) ∧ X.cell? ⟨w.heap.size, 1, none⟩ = some (.int .i64 v.num) ∧ X.cell? ⟨w.heap.size, 2, none⟩ = some (.string v.str) ∧ X.cell? ⟨w.heap.size, 3, none⟩ = some (.slice A v.elems.length c)) (by kernel_rfl) ?_
    have hS0 : (fun X => Hid (Four X w.heap.size (.int .i64 2) (.int .i64 v.num) (.string v.str) (.slice A v.elems.length c)) ∧ X.cell? ⟨w.heap.size, 0, none⟩ = some (.int .i64 2) ∧ X.cell? ⟨w.heap.size, 1, none⟩ = some (.int .i64 v.num) ∧ X.cell? ⟨w.heap.size, 2, none⟩ = some (.string v.str) ∧ X.cell? ⟨w.heap.size, 3, none⟩ = some (.slice A v.elems.length c)) w1.drew := ⟨Lib.hid HF.out, HF.out.c0, HF.out.c1, HF.out.c2, HF.out.c3⟩
    refine wpAnyH_take (i := 1) (v := (.pointer (some ⟨w.heap.size, 0, none⟩))) rfl (by kernel_rfl) (by kernel_rfl) (by kernel_rfl) (fun _ _ _ h => h) (.inl ⟨rfl, fun X hX => ?_⟩) hS0 ?_
    · obtain ⟨_, z1, z2, z3, z4⟩ := hX; go_simp
    change wpAnyH _ _ _ _ _ _ _ { tmps := #[(.agg #[.int .i64 2, .int .i64 v.num, .string v.str, .slice A v.elems.length c]), (.pointer (some ⟨w.heap.size, 0, none⟩)), (.slice none 0 0), (.int .i64 0), (.int .i64 0), (.agg #[.int .i64 2, .int .i64 v.num, .string v.str, .slice A v.elems.length c]), (.int .i64 0), (.int .i64 0), (.bool false), undef, undef, (.pointer (some ⟨w.heap.size, 0, none⟩)), undef, undef, undef, undef, undef, undef, undef], defers := [] } _
    refine wpAnyH_take (i := 2) (v := (.int .i64 2)) rfl (by kernel_rfl) (by kernel_rfl) (by kernel_rfl) (fun _ _ _ h => h) (.inl ⟨rfl, fun X hX => ?_⟩) hS0 ?_
    · obtain ⟨_, z1, z2, z3, z4⟩ := hX; go_simp
    change wpAnyH _ _ _ _ _ _ _ { tmps := #[(.agg #[.int .i64 2, .int .i64 v.num, .string v.str, .slice A v.elems.length c]), (.pointer (some ⟨w.heap.size, 0, none⟩)), (.slice none 0 0), (.int .i64 0), (.int .i64 0), (.agg #[.int .i64 2, .int .i64 v.num, .string v.str, .slice A v.elems.length c]), (.int .i64 0), (.int .i64 0), (.bool false), undef, undef, (.pointer (some ⟨w.heap.size, 0, none⟩)), (.int .i64 2), undef, undef, undef, undef, undef, undef], defers := [] } _
    refine wpAnyH_take (i := 7) (v := (.agg #[.int .i64 2, .int .i64 v.num, .string v.str, .slice A v.elems.length c])) rfl (by kernel_rfl) (by kernel_rfl) (by kernel_rfl) (fun _ _ _ h => h) (.inl ⟨rfl, fun X hX => ?_⟩) hS0 ?_
    · obtain ⟨_, z1, z2, z3, z4⟩ := hX; go_simp
    change wpAnyH _ _ _ _ _ _ _ { tmps := #[(.agg #[.int .i64 2, .int .i64 v.num, .string v.str, .slice A v.elems.length c]), (.pointer (some ⟨w.heap.size, 0, none⟩)), (.slice none 0 0), (.int .i64 0), (.int .i64 0), (.agg #[.int .i64 2, .int .i64 v.num, .string v.str, .slice A v.elems.length c]), (.int .i64 0), (.int .i64 0), (.bool false), undef, undef, (.pointer (some ⟨w.heap.size, 0, none⟩)), (.int .i64 2), undef, undef, undef, undef, (.agg #[.int .i64 2, .int .i64 v.num, .string v.str, .slice A v.elems.length c]), undef], defers := [] } _
    refine wpAnyH_ready (rs := [0]) (by kernel_rfl) (by simp) (AllReadyH.cons rfl (fun K hK => ?_) AllReadyH.nil)
    refine step_fn (by rfl) (.func 26) #[] _ (by rfl) 26 #[] (by rfl) #[] (by simp) (enters_of Try.func26 (by kernel_rfl) rfl) (newWriter_any _) ?_
    rintro e w2 ⟨pv, ar, rfl, hW, hb2⟩
    have HF2 := Lib.hid (HF.out.drew.under hb2)
    have HW := Lib.hid hW
    have B2 := Lib.hid ((below_drew B1.out).up hb2)
    have X2 := Lib.hid (Nat.le_trans (show w1.heap.size ≤ w1.drew.heap.size from Nat.le_refl _) hb2.size)
    clear hW hb2
    refine ⟨_, rfl, hK.out _ _ ⟨Lib.hid HF2.out, HF2.out.c0, HF2.out.c1, HF2.out.c2, HF2.out.c3⟩ (fun hS1 => ?_)⟩
    clear hK K
    refine wpAnyH_mono (S' := fun X => ((fun X => Hid (Four X w.heap.size (.int .i64 2) (.int .i64 v.num) (.string v.str) (.slice A v.elems.length c)) ∧ X.cell? ⟨w.heap.size, 0, none⟩ = some (.int .i64 2) ∧ X.cell? ⟨w.heap.size, 1, none⟩ = some (.int .i64 v.num) ∧ X.cell? ⟨w.heap.size, 2, none⟩ = some (.string v.str) ∧ X.cell? ⟨w.heap.size, 3, none⟩ = some (.slice A v.elems.length c)) X) ∧ X.cell? ⟨ar, 2, none⟩ = some (.func (.func 40) #[] #[])) (fun _ h => h.1) _ _ _ _ ?_
    have hS2 : (fun X => ((fun X => Hid (Four X w.heap.size (.int .i64 2) (.int .i64 v.num) (.string v.str) (.slice A v.elems.length c)) ∧ X.cell? ⟨w.heap.size, 0, none⟩ = some (.int .i64 2) ∧ X.cell? ⟨w.heap.size, 1, none⟩ = some (.int .i64 v.num) ∧ X.cell? ⟨w.heap.size, 2, none⟩ = some (.string v.str) ∧ X.cell? ⟨w.heap.size, 3, none⟩ = some (.slice A v.elems.length c)) X) ∧ X.cell? ⟨ar, 2, none⟩ = some (.func (.func 40) #[] #[])) w2 := ⟨hS1, HW.out.c2⟩
    change wpAnyH _ _ _ _ _ _ _ { tmps := #[(.agg #[.int .i64 2, .int .i64 v.num, .string v.str, .slice A v.elems.length c]), (.pointer (some ⟨w.heap.size, 0, none⟩)), (.slice none 0 0), (.int .i64 0), (.int .i64 0), (.agg #[.int .i64 2, .int .i64 v.num, .string v.str, .slice A v.elems.length c]), (.int .i64 0), (.int .i64 0), (.bool false), undef, (.pointer (some ⟨ar, 0, none⟩)), (.pointer (some ⟨w.heap.size, 0, none⟩)), (.int .i64 2), undef, undef, undef, undef, (.agg #[.int .i64 2, .int .i64 v.num, .string v.str, .slice A v.elems.length c]), undef], defers := [] } _
    refine wpAnyH_take (i := 3) (v := (.pointer (some ⟨ar, 0, none⟩))) rfl (by kernel_rfl) (by kernel_rfl) (by kernel_rfl) (fun _ _ _ h => h) (.inl ⟨rfl, fun X hX => ?_⟩) hS2 ?_
    · obtain ⟨⟨_, z1, z2, z3, z4⟩, z5⟩ := hX; go_simp
    change wpAnyH _ _ _ _ _ _ _ { tmps := #[(.agg #[.int .i64 2, .int .i64 v.num, .string v.str, .slice A v.elems.length c]), (.pointer (some ⟨w.heap.size, 0, none⟩)), (.slice none 0 0), (.int .i64 0), (.int .i64 0), (.agg #[.int .i64 2, .int .i64 v.num, .string v.str, .slice A v.elems.length c]), (.int .i64 0), (.int .i64 0), (.bool false), undef, (.pointer (some ⟨ar, 0, none⟩)), (.pointer (some ⟨w.heap.size, 0, none⟩)), (.int .i64 2), (.pointer (some ⟨ar, 0, none⟩)), undef, undef, undef, (.agg #[.int .i64 2, .int .i64 v.num, .string v.str, .slice A v.elems.length c]), undef], defers := [] } _
    refine wpAnyH_take (i := 4) (v := (.pointer (some ⟨ar, 2, none⟩))) rfl (by kernel_rfl) (by kernel_rfl) (by kernel_rfl) (fun _ _ _ h => h) (.inl ⟨rfl, fun X hX => ?_⟩) hS2 ?_
    · obtain ⟨⟨_, z1, z2, z3, z4⟩, z5⟩ := hX; go_simp
    change wpAnyH _ _ _ _ _ _ _ { tmps := #[(.agg #[.int .i64 2, .int .i64 v.num, .string v.str, .slice A v.elems.length c]), (.pointer (some ⟨w.heap.size, 0, none⟩)), (.slice none 0 0), (.int .i64 0), (.int .i64 0), (.agg #[.int .i64 2, .int .i64 v.num, .string v.str, .slice A v.elems.length c]), (.int .i64 0), (.int .i64 0), (.bool false), undef, (.pointer (some ⟨ar, 0, none⟩)), (.pointer (some ⟨w.heap.size, 0, none⟩)), (.int .i64 2), (.pointer (some ⟨ar, 0, none⟩)), (.pointer (some ⟨ar, 2, none⟩)), undef, undef, (.agg #[.int .i64 2, .int .i64 v.num, .string v.str, .slice A v.elems.length c]), undef], defers := [] } _
    refine wpAnyH_take (i := 5) (v := (.pointer (some ⟨ar, 2, none⟩))) rfl (by kernel_rfl) (by kernel_rfl) (by kernel_rfl) (fun _ _ _ h => h) (.inl ⟨rfl, fun X hX => ?_⟩) hS2 ?_
    · obtain ⟨⟨_, z1, z2, z3, z4⟩, z5⟩ := hX; go_simp
    change wpAnyH _ _ _ _ _ _ _ { tmps := #[(.agg #[.int .i64 2, .int .i64 v.num, .string v.str, .slice A v.elems.length c]), (.pointer (some ⟨w.heap.size, 0, none⟩)), (.slice none 0 0), (.int .i64 0), (.int .i64 0), (.agg #[.int .i64 2, .int .i64 v.num, .string v.str, .slice A v.elems.length c]), (.int .i64 0), (.int .i64 0), (.bool false), undef, (.pointer (some ⟨ar, 0, none⟩)), (.pointer (some ⟨w.heap.size, 0, none⟩)), (.int .i64 2), (.pointer (some ⟨ar, 0, none⟩)), (.pointer (some ⟨ar, 2, none⟩)), (.pointer (some ⟨ar, 2, none⟩)), undef, (.agg #[.int .i64 2, .int .i64 v.num, .string v.str, .slice A v.elems.length c]), undef], defers := [] } _
    refine wpAnyH_take (i := 6) (v := (.func (.func 40) #[] #[])) rfl (by kernel_rfl) (by kernel_rfl) (by kernel_rfl) (fun _ _ _ h => h) (.inl ⟨rfl, fun X hX => ?_⟩) hS2 ?_
    · obtain ⟨⟨_, z1, z2, z3, z4⟩, z5⟩ := hX; go_simp
    change wpAnyH _ _ _ _ _ _ _ { tmps := #[(.agg #[.int .i64 2, .int .i64 v.num, .string v.str, .slice A v.elems.length c]), (.pointer (some ⟨w.heap.size, 0, none⟩)), (.slice none 0 0), (.int .i64 0), (.int .i64 0), (.agg #[.int .i64 2, .int .i64 v.num, .string v.str, .slice A v.elems.length c]), (.int .i64 0), (.int .i64 0), (.bool false), undef, (.pointer (some ⟨ar, 0, none⟩)), (.pointer (some ⟨w.heap.size, 0, none⟩)), (.int .i64 2), (.pointer (some ⟨ar, 0, none⟩)), (.pointer (some ⟨ar, 2, none⟩)), (.pointer (some ⟨ar, 2, none⟩)), (.func (.func 40) #[] #[]), (.agg #[.int .i64 2, .int .i64 v.num, .string v.str, .slice A v.elems.length c]), undef], defers := [] } _
    have HVw := Lib.hid ((HV.out.under B2.out).mono (P' := (· < w2.heap.size)) (fun _ h _ => h))
    have HCl := Lib.hid ((HWc.out (.slice none 0 0) [] w2.heap.size pv ar w2 _ (ownB_none w2 _) (Nat.le_refl _) (by simpa using hl) HW.out HVw.out).2.1 hkd)
    refine wpAnyH_ready (rs := [8]) (by kernel_rfl) (by simp) (AllReadyH.cons rfl (fun K hK => ?_) AllReadyH.nil)
    refine step_fn2 (by rfl) (.tmp 16) (.const (.slice none 0 0)) (.tmp 17) _ (by rfl) 40 [] (by rfl) _ _ (by rfl) (by rfl) (enters_of Try.func40 (by kernel_rfl) rfl) HCl.out ?_
    rintro e w3 ⟨v3, rfl, hct⟩
    have HF3 := Lib.hid (HF2.out.cat hct (ownB_none w2 _))
    have HW3 := Lib.hid (HW.out.cat hct (ownB_none w2 _))
    have HCt := Lib.hid hct
    clear hct
    refine ⟨_, rfl, hK.out _ _ ⟨⟨Lib.hid HF3.out, HF3.out.c0, HF3.out.c1, HF3.out.c2, HF3.out.c3⟩, HW3.out.c2⟩ (fun hS3 => ?_)⟩
    clear hK K
    change wpAnyH _ _ _ _ _ _ _ { tmps := #[(.agg #[.int .i64 2, .int .i64 v.num, .string v.str, .slice A v.elems.length c]), (.pointer (some ⟨w.heap.size, 0, none⟩)), (.slice none 0 0), (.int .i64 0), (.int .i64 0), (.agg #[.int .i64 2, .int .i64 v.num, .string v.str, .slice A v.elems.length c]), (.int .i64 0), (.int .i64 0), (.bool false), undef, (.pointer (some ⟨ar, 0, none⟩)), (.pointer (some ⟨w.heap.size, 0, none⟩)), (.int .i64 2), (.pointer (some ⟨ar, 0, none⟩)), (.pointer (some ⟨ar, 2, none⟩)), (.pointer (some ⟨ar, 2, none⟩)), (.func (.func 40) #[] #[]), (.agg #[.int .i64 2, .int .i64 v.num, .string v.str, .slice A v.elems.length c]), v3], defers := [] } _
    refine wpAnyH_take (i := 9) (v := v3) rfl (by kernel_rfl) (by kernel_rfl) (by kernel_rfl) (fun _ _ _ h => h) (.inl ⟨rfl, fun X hX => ?_⟩) hS3 ?_
    · obtain ⟨⟨_, z1, z2, z3, z4⟩, z5⟩ := hX; go_simp
    change wpAnyH _ _ _ _ _ _ _ { tmps := #[(.agg #[.int .i64 2, .int .i64 v.num, .string v.str, .slice A v.elems.length c]), (.pointer (some ⟨w.heap.size, 0, none⟩)), v3, (.int .i64 0), (.int .i64 0), (.agg #[.int .i64 2, .int .i64 v.num, .string v.str, .slice A v.elems.length c]), (.int .i64 0), (.int .i64 0), (.bool false), undef, (.pointer (some ⟨ar, 0, none⟩)), (.pointer (some ⟨w.heap.size, 0, none⟩)), (.int .i64 2), (.pointer (some ⟨ar, 0, none⟩)), (.pointer (some ⟨ar, 2, none⟩)), (.pointer (some ⟨ar, 2, none⟩)), (.func (.func 40) #[] #[]), (.agg #[.int .i64 2, .int .i64 v.num, .string v.str, .slice A v.elems.length c]), v3], defers := [] } _
    refine wpAnyH_take (i := 10) (v := (.int .i64 0)) rfl (by kernel_rfl) (by kernel_rfl) (by kernel_rfl) (fun _ _ _ h => h) (.inl ⟨rfl, fun X hX => ?_⟩) hS3 ?_
    · obtain ⟨⟨_, z1, z2, z3, z4⟩, z5⟩ := hX; go_simp
    change wpAnyH _ _ _ _ _ _ _ { tmps := #[(.agg #[.int .i64 2, .int .i64 v.num, .string v.str, .slice A v.elems.length c]), (.pointer (some ⟨w.heap.size, 0, none⟩)), v3, (.int .i64 0), (.int .i64 0), (.agg #[.int .i64 2, .int .i64 v.num, .string v.str, .slice A v.elems.length c]), (.int .i64 0), (.int .i64 0), (.bool false), undef, (.pointer (some ⟨ar, 0, none⟩)), (.pointer (some ⟨w.heap.size, 0, none⟩)), (.int .i64 2), (.pointer (some ⟨ar, 0, none⟩)), (.pointer (some ⟨ar, 2, none⟩)), (.pointer (some ⟨ar, 2, none⟩)), (.func (.func 40) #[] #[]), (.agg #[.int .i64 2, .int .i64 v.num, .string v.str, .slice A v.elems.length c]), v3], defers := [] } _
    refine wpAnyH_done (by kernel_rfl) (NoPanic.normal ?_) _
    have hbw : Below w2.heap.size w2 w3 := HCt.out.below (ownB_none w2 _) (Below.refl _ _) (Nat.le_refl _)
    have HBy := Lib.hid HCt.out.own
    have B3 := Lib.hid (B2.out.up hbw)
    clear hbw HCt
    go_wp2_with (fail)
    go_ret2
    exact ⟨v3, rfl, ⟨_, (by have h := HBy.out; simpa using h)⟩, B3.out⟩
  · rw [hkd] at HF
    rw [hkd] at HV
    rw [hkd]
    go_wp2_with (fail)
    refine wp_region_noPanic ?_
    refine wp_region_held (S := fun X => Hid (Four X w.heap.size (.int .i64 3) (.int .i64 v.num) (.string v.str) (.slice A v.elems.length c)) ∧ X.cell? ⟨w.heap.size, 0, none⟩ = some (.int .i64 3) ∧ X.cell? ⟨w.heap.size, 1, none⟩ = some (.int .i64 v.num) ∧ X.cell? ⟨w.heap.size, 2, none⟩ = some (.string v.str) ∧ X.cell? ⟨w.heap.size, 3, none⟩ = some (.slice A v.elems.length c)) (by kernel_rfl) ?_
    have hS0 : (fun X => Hid (Four X w.heap.size (.int .i64 3) (.int .i64 v.num) (.string v.str) (.slice A v.elems.length c)) ∧ X.cell? ⟨w.heap.size, 0, none⟩ = some (.int .i64 3) ∧ X.cell? ⟨w.heap.size, 1, none⟩ = some (.int .i64 v.num) ∧ X.cell? ⟨w.heap.size, 2, none⟩ = some (.string v.str) ∧ X.cell? ⟨w.heap.size, 3, none⟩ = some (.slice A v.elems.length c)) w1.drew := ⟨Lib.hid HF.out, HF.out.c0, HF.out.c1, HF.out.c2, HF.out.c3⟩
    refine wpAnyH_take (i := 1) (v := (.pointer (some ⟨w.heap.size, 0, none⟩))) rfl (by kernel_rfl) (by kernel_rfl) (by kernel_rfl) (fun _ _ _ h => h) (.inl ⟨rfl, fun X hX => ?_⟩) hS0 ?_
    · obtain ⟨_, z1, z2, z3, z4⟩ := hX; go_simp
    change wpAnyH _ _ _ _ _ _ _ { tmps := #[(.agg #[.int .i64 3, .int .i64 v.num, .string v.str, .slice A v.elems.length c]), (.pointer (some ⟨w.heap.size, 0, none⟩)), (.slice none 0 0), (.int .i64 0), (.int .i64 0), (.agg #[.int .i64 3, .int .i64 v.num, .string v.str, .slice A v.elems.length c]), (.int .i64 0), (.int .i64 0), (.bool false), undef, undef, (.pointer (some ⟨w.heap.size, 0, none⟩)), undef, undef, undef, undef, undef, undef, undef], defers := [] } _
    refine wpAnyH_take (i := 2) (v := (.int .i64 3)) rfl (by kernel_rfl) (by kernel_rfl) (by kernel_rfl) (fun _ _ _ h => h) (.inl ⟨rfl, fun X hX => ?_⟩) hS0 ?_
    · obtain ⟨_, z1, z2, z3, z4⟩ := hX; go_simp
    change wpAnyH _ _ _ _ _ _ _ { tmps := #[(.agg #[.int .i64 3, .int .i64 v.num, .string v.str, .slice A v.elems.length c]), (.pointer (some ⟨w.heap.size, 0, none⟩)), (.slice none 0 0), (.int .i64 0), (.int .i64 0), (.agg #[.int .i64 3, .int .i64 v.num, .string v.str, .slice A v.elems.length c]), (.int .i64 0), (.int .i64 0), (.bool false), undef, undef, (.pointer (some ⟨w.heap.size, 0, none⟩)), (.int .i64 3), undef, undef, undef, undef, undef, undef], defers := [] } _
    refine wpAnyH_take (i := 7) (v := (.agg #[.int .i64 3, .int .i64 v.num, .string v.str, .slice A v.elems.length c])) rfl (by kernel_rfl) (by kernel_rfl) (by kernel_rfl) (fun _ _ _ h => h) (.inl ⟨rfl, fun X hX => ?_⟩) hS0 ?_
    · obtain ⟨_, z1, z2, z3, z4⟩ := hX; go_simp
    change wpAnyH _ _ _ _ _ _ _ { tmps := #[(.agg #[.int .i64 3, .int .i64 v.num, .string v.str, .slice A v.elems.length c]), (.pointer (some ⟨w.heap.size, 0, none⟩)), (.slice none 0 0), (.int .i64 0), (.int .i64 0), (.agg #[.int .i64 3, .int .i64 v.num, .string v.str, .slice A v.elems.length c]), (.int .i64 0), (.int .i64 0), (.bool false), undef, undef, (.pointer (some ⟨w.heap.size, 0, none⟩)), (.int .i64 3), undef, undef, undef, undef, (.agg #[.int .i64 3, .int .i64 v.num, .string v.str, .slice A v.elems.length c]), undef], defers := [] } _
    refine wpAnyH_ready (rs := [0]) (by kernel_rfl) (by simp) (AllReadyH.cons rfl (fun K hK => ?_) AllReadyH.nil)
    refine step_fn (by rfl) (.func 26) #[] _ (by rfl) 26 #[] (by rfl) #[] (by simp) (enters_of Try.func26 (by kernel_rfl) rfl) (newWriter_any _) ?_
    rintro e w2 ⟨pv, ar, rfl, hW, hb2⟩
    have HF2 := Lib.hid (HF.out.drew.under hb2)
    have HW := Lib.hid hW
    have B2 := Lib.hid ((below_drew B1.out).up hb2)
    have X2 := Lib.hid (Nat.le_trans (show w1.heap.size ≤ w1.drew.heap.size from Nat.le_refl _) hb2.size)
    clear hW hb2
    refine ⟨_, rfl, hK.out _ _ ⟨Lib.hid HF2.out, HF2.out.c0, HF2.out.c1, HF2.out.c2, HF2.out.c3⟩ (fun hS1 => ?_)⟩
    clear hK K
    refine wpAnyH_mono (S' := fun X => ((fun X => Hid (Four X w.heap.size (.int .i64 3) (.int .i64 v.num) (.string v.str) (.slice A v.elems.length c)) ∧ X.cell? ⟨w.heap.size, 0, none⟩ = some (.int .i64 3) ∧ X.cell? ⟨w.heap.size, 1, none⟩ = some (.int .i64 v.num) ∧ X.cell? ⟨w.heap.size, 2, none⟩ = some (.string v.str) ∧ X.cell? ⟨w.heap.size, 3, none⟩ = some (.slice A v.elems.length c)) X) ∧ X.cell? ⟨ar, 3, none⟩ = some (.func (.func 41) #[] #[.pointer (some ⟨pv, 0, none⟩)])) (fun _ h => h.1) _ _ _ _ ?_
    have hS2 : (fun X => ((fun X => Hid (Four X w.heap.size (.int .i64 3) (.int .i64 v.num) (.string v.str) (.slice A v.elems.length c)) ∧ X.cell? ⟨w.heap.size, 0, none⟩ = some (.int .i64 3) ∧ X.cell? ⟨w.heap.size, 1, none⟩ = some (.int .i64 v.num) ∧ X.cell? ⟨w.heap.size, 2, none⟩ = some (.string v.str) ∧ X.cell? ⟨w.heap.size, 3, none⟩ = some (.slice A v.elems.length c)) X) ∧ X.cell? ⟨ar, 3, none⟩ = some (.func (.func 41) #[] #[.pointer (some ⟨pv, 0, none⟩)])) w2 := ⟨hS1, HW.out.c3⟩
    change wpAnyH _ _ _ _ _ _ _ { tmps := #[(.agg #[.int .i64 3, .int .i64 v.num, .string v.str, .slice A v.elems.length c]), (.pointer (some ⟨w.heap.size, 0, none⟩)), (.slice none 0 0), (.int .i64 0), (.int .i64 0), (.agg #[.int .i64 3, .int .i64 v.num, .string v.str, .slice A v.elems.length c]), (.int .i64 0), (.int .i64 0), (.bool false), undef, (.pointer (some ⟨ar, 0, none⟩)), (.pointer (some ⟨w.heap.size, 0, none⟩)), (.int .i64 3), undef, undef, undef, undef, (.agg #[.int .i64 3, .int .i64 v.num, .string v.str, .slice A v.elems.length c]), undef], defers := [] } _
    refine wpAnyH_take (i := 3) (v := (.pointer (some ⟨ar, 0, none⟩))) rfl (by kernel_rfl) (by kernel_rfl) (by kernel_rfl) (fun _ _ _ h => h) (.inl ⟨rfl, fun X hX => ?_⟩) hS2 ?_
    · obtain ⟨⟨_, z1, z2, z3, z4⟩, z5⟩ := hX; go_simp
    change wpAnyH _ _ _ _ _ _ _ { tmps := #[(.agg #[.int .i64 3, .int .i64 v.num, .string v.str, .slice A v.elems.length c]), (.pointer (some ⟨w.heap.size, 0, none⟩)), (.slice none 0 0), (.int .i64 0), (.int .i64 0), (.agg #[.int .i64 3, .int .i64 v.num, .string v.str, .slice A v.elems.length c]), (.int .i64 0), (.int .i64 0), (.bool false), undef, (.pointer (some ⟨ar, 0, none⟩)), (.pointer (some ⟨w.heap.size, 0, none⟩)), (.int .i64 3), (.pointer (some ⟨ar, 0, none⟩)), undef, undef, undef, (.agg #[.int .i64 3, .int .i64 v.num, .string v.str, .slice A v.elems.length c]), undef], defers := [] } _
    refine wpAnyH_take (i := 4) (v := (.pointer (some ⟨ar, 3, none⟩))) rfl (by kernel_rfl) (by kernel_rfl) (by kernel_rfl) (fun _ _ _ h => h) (.inl ⟨rfl, fun X hX => ?_⟩) hS2 ?_
    · obtain ⟨⟨_, z1, z2, z3, z4⟩, z5⟩ := hX; go_simp
    change wpAnyH _ _ _ _ _ _ _ { tmps := #[(.agg #[.int .i64 3, .int .i64 v.num, .string v.str, .slice A v.elems.length c]), (.pointer (some ⟨w.heap.size, 0, none⟩)), (.slice none 0 0), (.int .i64 0), (.int .i64 0), (.agg #[.int .i64 3, .int .i64 v.num, .string v.str, .slice A v.elems.length c]), (.int .i64 0), (.int .i64 0), (.bool false), undef, (.pointer (some ⟨ar, 0, none⟩)), (.pointer (some ⟨w.heap.size, 0, none⟩)), (.int .i64 3), (.pointer (some ⟨ar, 0, none⟩)), (.pointer (some ⟨ar, 3, none⟩)), undef, undef, (.agg #[.int .i64 3, .int .i64 v.num, .string v.str, .slice A v.elems.length c]), undef], defers := [] } _
    refine wpAnyH_take (i := 5) (v := (.pointer (some ⟨ar, 3, none⟩))) rfl (by kernel_rfl) (by kernel_rfl) (by kernel_rfl) (fun _ _ _ h => h) (.inl ⟨rfl, fun X hX => ?_⟩) hS2 ?_
    · obtain ⟨⟨_, z1, z2, z3, z4⟩, z5⟩ := hX; go_simp
    change wpAnyH _ _ _ _ _ _ _ { tmps := #[(.agg #[.int .i64 3, .int .i64 v.num, .string v.str, .slice A v.elems.length c]), (.pointer (some ⟨w.heap.size, 0, none⟩)), (.slice none 0 0), (.int .i64 0), (.int .i64 0), (.agg #[.int .i64 3, .int .i64 v.num, .string v.str, .slice A v.elems.length c]), (.int .i64 0), (.int .i64 0), (.bool false), undef, (.pointer (some ⟨ar, 0, none⟩)), (.pointer (some ⟨w.heap.size, 0, none⟩)), (.int .i64 3), (.pointer (some ⟨ar, 0, none⟩)), (.pointer (some ⟨ar, 3, none⟩)), (.pointer (some ⟨ar, 3, none⟩)), undef, (.agg #[.int .i64 3, .int .i64 v.num, .string v.str, .slice A v.elems.length c]), undef], defers := [] } _
    refine wpAnyH_take (i := 6) (v := (.func (.func 41) #[] #[.pointer (some ⟨pv, 0, none⟩)])) rfl (by kernel_rfl) (by kernel_rfl) (by kernel_rfl) (fun _ _ _ h => h) (.inl ⟨rfl, fun X hX => ?_⟩) hS2 ?_
    · obtain ⟨⟨_, z1, z2, z3, z4⟩, z5⟩ := hX; go_simp
    change wpAnyH _ _ _ _ _ _ _ { tmps := #[(.agg #[.int .i64 3, .int .i64 v.num, .string v.str, .slice A v.elems.length c]), (.pointer (some ⟨w.heap.size, 0, none⟩)), (.slice none 0 0), (.int .i64 0), (.int .i64 0), (.agg #[.int .i64 3, .int .i64 v.num, .string v.str, .slice A v.elems.length c]), (.int .i64 0), (.int .i64 0), (.bool false), undef, (.pointer (some ⟨ar, 0, none⟩)), (.pointer (some ⟨w.heap.size, 0, none⟩)), (.int .i64 3), (.pointer (some ⟨ar, 0, none⟩)), (.pointer (some ⟨ar, 3, none⟩)), (.pointer (some ⟨ar, 3, none⟩)), (.func (.func 41) #[] #[.pointer (some ⟨pv, 0, none⟩)]), (.agg #[.int .i64 3, .int .i64 v.num, .string v.str, .slice A v.elems.length c]), undef], defers := [] } _
    have HVw := Lib.hid ((HV.out.under B2.out).mono (P' := (· < w2.heap.size)) (fun _ h _ => h))
    have HCl := Lib.hid ((HWc.out (.slice none 0 0) [] w2.heap.size pv ar w2 _ (ownB_none w2 _) (Nat.le_refl _) (by simpa using hl) HW.out HVw.out).2.2 hkd)
    refine wpAnyH_ready (rs := [8]) (by kernel_rfl) (by simp) (AllReadyH.cons rfl (fun K hK => ?_) AllReadyH.nil)
    refine step_fn2 (by rfl) (.tmp 16) (.const (.slice none 0 0)) (.tmp 17) _ (by rfl) 41 [.pointer (some ⟨pv, 0, none⟩)] (by rfl) _ _ (by rfl) (by rfl) (enters_of Try.func41 (by kernel_rfl) rfl) HCl.out ?_
    rintro e w3 ⟨v3, rfl, hct⟩
    have HF3 := Lib.hid (HF2.out.cat hct (ownB_none w2 _))
    have HW3 := Lib.hid (HW.out.cat hct (ownB_none w2 _))
    have HCt := Lib.hid hct
    clear hct
    refine ⟨_, rfl, hK.out _ _ ⟨⟨Lib.hid HF3.out, HF3.out.c0, HF3.out.c1, HF3.out.c2, HF3.out.c3⟩, HW3.out.c3⟩ (fun hS3 => ?_)⟩
    clear hK K
    change wpAnyH _ _ _ _ _ _ _ { tmps := #[(.agg #[.int .i64 3, .int .i64 v.num, .string v.str, .slice A v.elems.length c]), (.pointer (some ⟨w.heap.size, 0, none⟩)), (.slice none 0 0), (.int .i64 0), (.int .i64 0), (.agg #[.int .i64 3, .int .i64 v.num, .string v.str, .slice A v.elems.length c]), (.int .i64 0), (.int .i64 0), (.bool false), undef, (.pointer (some ⟨ar, 0, none⟩)), (.pointer (some ⟨w.heap.size, 0, none⟩)), (.int .i64 3), (.pointer (some ⟨ar, 0, none⟩)), (.pointer (some ⟨ar, 3, none⟩)), (.pointer (some ⟨ar, 3, none⟩)), (.func (.func 41) #[] #[.pointer (some ⟨pv, 0, none⟩)]), (.agg #[.int .i64 3, .int .i64 v.num, .string v.str, .slice A v.elems.length c]), v3], defers := [] } _
    refine wpAnyH_take (i := 9) (v := v3) rfl (by kernel_rfl) (by kernel_rfl) (by kernel_rfl) (fun _ _ _ h => h) (.inl ⟨rfl, fun X hX => ?_⟩) hS3 ?_
    · obtain ⟨⟨_, z1, z2, z3, z4⟩, z5⟩ := hX; go_simp
    change wpAnyH _ _ _ _ _ _ _ { tmps := #[(.agg #[.int .i64 3, .int .i64 v.num, .string v.str, .slice A v.elems.length c]), (.pointer (some ⟨w.heap.size, 0, none⟩)), v3, (.int .i64 0), (.int .i64 0), (.agg #[.int .i64 3, .int .i64 v.num, .string v.str, .slice A v.elems.length c]), (.int .i64 0), (.int .i64 0), (.bool false), undef, (.pointer (some ⟨ar, 0, none⟩)), (.pointer (some ⟨w.heap.size, 0, none⟩)), (.int .i64 3), (.pointer (some ⟨ar, 0, none⟩)), (.pointer (some ⟨ar, 3, none⟩)), (.pointer (some ⟨ar, 3, none⟩)), (.func (.func 41) #[] #[.pointer (some ⟨pv, 0, none⟩)]), (.agg #[.int .i64 3, .int .i64 v.num, .string v.str, .slice A v.elems.length c]), v3], defers := [] } _
    refine wpAnyH_take (i := 10) (v := (.int .i64 0)) rfl (by kernel_rfl) (by kernel_rfl) (by kernel_rfl) (fun _ _ _ h => h) (.inl ⟨rfl, fun X hX => ?_⟩) hS3 ?_
    · obtain ⟨⟨_, z1, z2, z3, z4⟩, z5⟩ := hX; go_simp
    change wpAnyH _ _ _ _ _ _ _ { tmps := #[(.agg #[.int .i64 3, .int .i64 v.num, .string v.str, .slice A v.elems.length c]), (.pointer (some ⟨w.heap.size, 0, none⟩)), v3, (.int .i64 0), (.int .i64 0), (.agg #[.int .i64 3, .int .i64 v.num, .string v.str, .slice A v.elems.length c]), (.int .i64 0), (.int .i64 0), (.bool false), undef, (.pointer (some ⟨ar, 0, none⟩)), (.pointer (some ⟨w.heap.size, 0, none⟩)), (.int .i64 3), (.pointer (some ⟨ar, 0, none⟩)), (.pointer (some ⟨ar, 3, none⟩)), (.pointer (some ⟨ar, 3, none⟩)), (.func (.func 41) #[] #[.pointer (some ⟨pv, 0, none⟩)]), (.agg #[.int .i64 3, .int .i64 v.num, .string v.str, .slice A v.elems.length c]), v3], defers := [] } _
    refine wpAnyH_done (by kernel_rfl) (NoPanic.normal ?_) _
    have hbw : Below w2.heap.size w2 w3 := HCt.out.below (ownB_none w2 _) (Below.refl _ _) (Nat.le_refl _)
    have HBy := Lib.hid HCt.out.own
    have B3 := Lib.hid (B2.out.up hbw)
    clear hbw HCt
    go_wp2_with (fail)
    go_ret2
    exact ⟨v3, rfl, ⟨_, (by have h := HBy.out; simpa using h)⟩, B3.out⟩

/-- what Encode returns -/
def encR (v : Cd.Vl) : List UInt8 := if Cd.check v = 0 then Cd.enc v else []

set_option maxHeartbeats 1000000 in
theorem Encode_any (v : Cd.Vl) (x : Value) (P : Nat → Prop) (w : World) (hf : Cd.fits v) (hd : Cd.depth v ≤ 1000) (hv : IsV P w x v) (hl : (Cd.enc v).length ≤ 137438953472) :
    Calls Try.prog 12 #[x] w fun e w' => ∃ b, e = .returned (.tuple #[b, .int .i64 (Cd.check v)]) ∧ Bts w' b (encR v) ∧ Below w.heap.size w w' := by
  by_cases hc : Cd.check v = 0
  · have e : encR v = Cd.enc v := by simp [encR, hc]
    rw [e, hc]
    exact Encode_yes v x P w hf hd hv hc hl
  · have HE := Lib.hid (show encR v = [] by simp [encR, hc])
    have hne : (Cd.check v != 0) = true := by simp [hc]
    have HV := Lib.hid hv
    obtain ⟨A, c, rfl, _⟩ := hv.opens
    clear hv hc
    go_enter Try.func12, Try.ntmps12
    go_wp2_with (fail)
    refine (Check_any v _ P _ hf hd (HV.out.under ((Below.refl _ w).alloc (Nat.le_refl _) _))).mono ?_
    rintro e w1 ⟨rfl, hb1⟩
    have B1 := Lib.hid (((Below.refl _ w).alloc (Nat.le_refl _) (.cells #[.int .i64 v.kind, .int .i64 v.num, .string v.str, .slice A v.elems.length c] 24)).up hb1)
    clear hb1
    go_wp2_with (fail)
    go_ret2
    exact ⟨_, rfl, by rw [HE.out]; exact ⟨0, ownB_none _ _⟩, B1.out⟩

set_option maxHeartbeats 1000000 in
theorem Size_any (v : Cd.Vl) (x : Value) (P : Nat → Prop) (w : World) (hf : Cd.fits v) (hd : Cd.depth v ≤ 1000) (hv : IsV P w x v) (hl : (Cd.enc v).length ≤ 137438953472) :
    Calls Try.prog 14 #[x] w fun e w' => e = .returned (.tuple #[.int .i64 ((encR v).length : Nat), .int .i64 (Cd.check v)]) ∧ Below w.heap.size w w' := by
  have HV := Lib.hid hv
  obtain ⟨A, c, rfl, _⟩ := hv.opens
  clear hv
  go_enter Try.func14, Try.ntmps14
  go_wp2_with (fail)
  refine (Encode_any v _ P _ hf hd (HV.out.under ((Below.refl _ w).alloc (Nat.le_refl _) _)) hl).mono ?_
  rintro e w1 ⟨b, rfl, hby, hb1⟩
  have B1 := Lib.hid (((Below.refl _ w).alloc (Nat.le_refl _) (.cells #[.int .i64 v.kind, .int .i64 v.num, .string v.str, .slice A v.elems.length c] 24)).up hb1)
  obtain ⟨_, hby⟩ := hby
  obtain ⟨A2, c2, rfl⟩ := ownB_slice hby
  clear hb1
  go_wp2_with (fail)
  go_ret2
  exact ⟨rfl, B1.out⟩

end Go.Proofs.Ytnnddmhimnekaaa
