/- The statement CodecDifferent, walked. -/
import Derived.Test.YtnnddmhimnekaaaL3
import Derived.Test.YtnnddmhimnekaaaW23
namespace Go.Proofs.Ytnnddmhimnekaaa
open Go.RowKit
set_option linter.unusedVariables false
set_option linter.unusedSimpArgs false

theorem check_ok {v : Cd.Vl} (hc : Cd.check v = 0) : Cd.formed v = true ∧ Cd.depth v ≤ 16 := by
  unfold Cd.check at hc
  split at hc
  · rename_i h
    split at hc
    · cases hc
    · exact ⟨h, by omega⟩
  · cases hc
theorem no_prefix {v u : Cd.Vl} (hf : Cd.fits v) (hg : Cd.fits u) (hc : Cd.check v = 0) (hd : Cd.check u = 0) {s : List UInt8} (h : Cd.enc u = Cd.enc v ++ s) : v = u := by
  have h1 := Cd.valD_enc v 16 s (check_ok hc).1 (check_ok hc).2 hf
  have h2 := Cd.valD_enc u 16 [] (check_ok hd).1 (check_ok hd).2 hg
  rw [List.append_nil, h, h1] at h2
  injection h2 with h2
  injection h2
theorem no_take {v u : Cd.Vl} (hf : Cd.fits v) (hg : Cd.fits u) (hc : Cd.check v = 0) (hd : Cd.check u = 0) (hne : Cd.same v u = false) (n : Nat) (hn : n = min (Cd.enc v).length (Cd.enc u).length) : (Cd.enc v).take n ≠ (Cd.enc u).take n := by
  intro h
  have hvu : v ≠ u := fun e => by rw [e, Cd.same_refl] at hne; cases hne
  rcases Nat.le_total (Cd.enc v).length (Cd.enc u).length with hle | hle
  · have e : n = (Cd.enc v).length := by omega
    rw [e, List.take_length] at h
    refine hvu (no_prefix hf hg hc hd (s := (Cd.enc u).drop (Cd.enc v).length) ?_)
    conv => lhs; rw [← List.take_append_drop (Cd.enc v).length (Cd.enc u), ← h]
  · have e : n = (Cd.enc u).length := by omega
    rw [e, List.take_length] at h
    refine hvu (no_prefix hg hf hd hc (s := (Cd.enc v).drop (Cd.enc u).length) ?_).symm
    conv => lhs; rw [← List.take_append_drop (Cd.enc u).length (Cd.enc v), h]
theorem inB_take {base : Nat} {w : World} {A : Option Addr} {m c n : Nat} {bs : List UInt8} (h : InB base w (.slice A m c) bs) (hb : base ≤ w.heap.size) (hn : n ≤ bs.length) : IsBytes w (.slice A n c) (bs.take n) := by
  obtain ⟨A', c', e, hr⟩ := h.bytes hb
  injection e with e1 e2 e3
  subst e1 e2 e3
  have hl : (bs.take n).length = n := by simp; omega
  refine ⟨A, c, by rw [hl], fun hne => ?_⟩
  obtain ⟨b, off, e, hlt, hc⟩ := hr (by intro h0; simp at h0; subst h0; simp at hne)
  exact ⟨b, off, e, hlt, fun i hi => by
    have hi2 : i < n := by rw [List.length_map, hl] at hi; exact hi
    have := hc i (by simp; omega)
    rw [this]; simp⟩
theorem toA_ne {a b : List UInt8} (h : a ≠ b) : decide ((⟨a.toArray⟩ : ByteArray) = ⟨b.toArray⟩) = false := by
  rw [decide_eq_false_iff_not]
  intro e
  injection e with e
  exact h (by simpa using e)

set_option maxHeartbeats 4000000 in
set_option maxRecDepth 100000 in
theorem CodecDifferent_any (x y : Value) (v u : Cd.Vl) (w : World) (hv : IsV Any w x v) (hr : Cd.raw v) (hu : IsV Any w y u) (hs : Cd.raw u) : Calls Try.prog 7 #[x, y] w fun e w' => e = .returned (.bool true) ∧ Below w.heap.size w w' := by
  have HR := Lib.hid hr
  have HS := Lib.hid hs
  obtain ⟨A, c, rfl, _⟩ := hv.opens
  obtain ⟨A2, c2, rfl, _⟩ := hu.opens
  have T := Lib.hid (TwoS.start hv hu)
  clear hv hr hu hs
  go_enter Try.func7, Try.ntmps7
  go_wp2_with (fail)
  refine (sane_any _).mono ?_
  rintro e w1 ⟨rfl, b1⟩
  have Dw1 := Lib.hid (b1)
  replace T := Lib.hid (T.out.upb Dw1.out)
  clear Dw1 b1
  have h0 := T.out.f1.c0
  have h1 := T.out.f1.c1
  have h2 := T.out.f1.c2
  have h3 := T.out.f1.c3
  have k0 := T.out.f2.c0
  have k1 := T.out.f2.c1
  have k2 := T.out.f2.c2
  have k3 := T.out.f2.c3
  go_wp2_with (fail)
  have HL := Lib.hid (vs_two _ _ _ _ _ _ _ _ _ _ _ T.out.v1 T.out.v2)
  refine (few_any [v, u] _ Any _ (raw_two HR.out HS.out) (by simp) HL.out).mono ?_
  rintro e w2 ⟨rfl, b2⟩
  have Dw2 := Lib.hid ((blw1 w1 _).up b2)
  replace T := Lib.hid (T.out.upb Dw2.out)
  clear Dw2 b2 HL h0 h1 h2 h3 k0 k1 k2 k3
  cases hfew : [v, u].all Cd.fewB
  · go_wp2_with (fail)
    go_ret
    exact ⟨rfl, T.out.bl⟩
  have HFT := Lib.hid (few_all2 HR.out HS.out hfew)
  clear hfew
  have h0 := T.out.f1.c0
  have h1 := T.out.f1.c1
  have h2 := T.out.f1.c2
  have h3 := T.out.f1.c3
  have k0 := T.out.f2.c0
  have k1 := T.out.f2.c1
  have k2 := T.out.f2.c2
  have k3 := T.out.f2.c3
  go_wp2_with (fail)
  refine (Encode_any v _ Any _ HFT.out.1.1 HFT.out.1.2.1 T.out.v1 HFT.out.1.2.2).mono ?_
  rintro e w3 ⟨x1, rfl, bt1, b3⟩
  obtain ⟨A3, c3, rfl⟩ := bt1.slice
  have T1 := Lib.hid bt1
  clear bt1
  have Dw3 := Lib.hid (b3)
  replace T := Lib.hid (T.out.upb Dw3.out)
  clear Dw3 b3 h0 h1 h2 h3 k0 k1 k2 k3
  have h0 := T.out.f1.c0
  have h1 := T.out.f1.c1
  have h2 := T.out.f1.c2
  have h3 := T.out.f1.c3
  have k0 := T.out.f2.c0
  have k1 := T.out.f2.c1
  have k2 := T.out.f2.c2
  have k3 := T.out.f2.c3
  go_wp2_with (fail)
  refine (Encode_any u _ Any _ HFT.out.2.1 HFT.out.2.2.1 T.out.v2 HFT.out.2.2.2).mono ?_
  rintro e w4 ⟨x2, rfl, bt2, b4⟩
  obtain ⟨A4, c4, rfl⟩ := bt2.slice
  have T2 := Lib.hid bt2
  clear bt2
  have Dw4 := Lib.hid (b4)
  replace T := Lib.hid (T.out.upb Dw4.out)
  replace T1 := Lib.hid (T1.out.upb Dw4.out)
  clear Dw4 b4 h0 h1 h2 h3 k0 k1 k2 k3
  have HER := Lib.hid (show Cd.check v = 0 → encR v = Cd.enc v from fun h => by simp [encR, h])
  have HES := Lib.hid (show Cd.check u = 0 → encR u = Cd.enc u from fun h => by simp [encR, h])
  have HNT := Lib.hid (fun a b => no_take (v := v) (u := u) HFT.out.1.1 HFT.out.2.1 a b)
  by_cases e1 : Cd.check v = 0 ∧ Cd.check u = 0
  · obtain ⟨e1, e2⟩ := e1
    replace HER := Lib.hid (HER.out e1)
    replace HES := Lib.hid (HES.out e2)
    replace HNT := Lib.hid (HNT.out e1 e2)
    rw [HER.out] at T1 ⊢
    rw [HES.out] at T2 ⊢
    rw [e1, e2]
    clear e1 e2
    have h0 := T.out.f1.c0
    have h1 := T.out.f1.c1
    have h2 := T.out.f1.c2
    have h3 := T.out.f1.c3
    have k0 := T.out.f2.c0
    have k1 := T.out.f2.c1
    have k2 := T.out.f2.c2
    have k3 := T.out.f2.c3
    go_wp2_with (fail)
    refine (Same_any v HFT.out.1.1 u _ _ Any Any _ HFT.out.2.1 T.out.v1 T.out.v2).mono ?_
    rintro e w5 ⟨rfl, b5⟩
    have Dw5 := Lib.hid (b5)
    replace T := Lib.hid (T.out.upb Dw5.out)
    replace T1 := Lib.hid (T1.out.upb Dw5.out)
    replace T2 := Lib.hid (T2.out.upb Dw5.out)
    clear Dw5 b5 h0 h1 h2 h3 k0 k1 k2 k3
    have I1 := Lib.hid (T1.out.inB)
    have I2 := Lib.hid (T2.out.inB)
    cases hsm : Cd.same v u
    · have HN := Lib.hid (HNT.out hsm (min (Cd.enc v).length (Cd.enc u).length) rfl)
      clear hsm
      generalize Cd.enc v = ev at *
      generalize Cd.enc u = eu at *
      have hb1 : ev.length ≤ c3 := by obtain ⟨_, _, e, h, _⟩ := I1.out; injection e with _ _ e; omega
      have hb2 : eu.length ≤ c4 := by obtain ⟨_, _, e, h, _⟩ := I2.out; injection e with _ _ e; omega
      by_cases hlt : eu.length < ev.length
      · have hd : decide (eu.length < ev.length) = true := by simpa using hlt
        rw [show min ev.length eu.length = eu.length by omega] at HN
        have hc1 := fun k => conv_str (inB_take (n := eu.length) (show InB (w5.drewN k).heap.size (w5.drewN k) (.slice A3 ev.length c3) ev from I1.out) (Nat.le_refl _) (by omega))
        have hc2 := fun k => conv_str (inB_take (n := eu.length) (show InB (w5.drewN k).heap.size (w5.drewN k) (.slice A4 eu.length c4) eu from I2.out) (Nat.le_refl _) (by omega))
        have i0 : (0 : Int) ≤ (eu.length : Int) := by omega
        have i1 : (eu.length : Int) ≤ (c3 : Int) := by omega
        have i2 : (eu.length : Int) ≤ (c4 : Int) := by omega
        go_wp2_with (fail)
        go_quiet (fail)
        go_wp2_with (fail)
        go_ret
        exact ⟨ret_bool (by have h := HN.out; rw [List.take_length] at h; simpa using h), below_drewN T.out.bl _⟩
      · have hd : decide (eu.length < ev.length) = false := by simpa using hlt
        rw [show min ev.length eu.length = ev.length by omega] at HN
        have hc1 := fun k => conv_str (inB_take (n := ev.length) (show InB (w5.drewN k).heap.size (w5.drewN k) (.slice A3 ev.length c3) ev from I1.out) (Nat.le_refl _) (by omega))
        have hc2 := fun k => conv_str (inB_take (n := ev.length) (show InB (w5.drewN k).heap.size (w5.drewN k) (.slice A4 eu.length c4) eu from I2.out) (Nat.le_refl _) (by omega))
        have i0 : (0 : Int) ≤ (ev.length : Int) := by omega
        have i1 : (ev.length : Int) ≤ (c3 : Int) := by omega
        have i2 : (ev.length : Int) ≤ (c4 : Int) := by omega
        go_wp2_with (fail)
        go_quiet (fail)
        go_wp2_with (fail)
        go_ret
        exact ⟨ret_bool (by have h := HN.out; rw [List.take_length] at h; simpa using h), below_drewN T.out.bl _⟩
    · have HQ := Lib.hid ((Cd.same_iff v u).1 hsm)
      clear hsm
      have hcv1 := T1.out.conv
      have hcv2 := T2.out.conv
      rw [← HQ.out] at hcv2 ⊢
      go_wp2_with (fail)
      go_ret
      exact ⟨rfl, T.out.bl⟩
  · have HB := Lib.hid T.out.bl
    by_cases e2 : Cd.check v = 0
    · have hne' : (Cd.check u != 0) = true := by rw [bne_iff_ne]; intro h; exact e1 ⟨e2, h⟩
      rw [e2]
      clear e1 e2
      go_wp2_with (fail)
      go_ret
      exact ⟨rfl, HB.out⟩
    · have hne' : (Cd.check v != 0) = true := by rw [bne_iff_ne]; exact e2
      clear e1 e2
      go_wp2_with (fail)
      go_ret
      exact ⟨rfl, HB.out⟩

end Go.Proofs.Ytnnddmhimnekaaa
