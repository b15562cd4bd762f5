/- Walk of Sync. -/
import Derived.Test.YtimpnpdhhhbmgaaW14
namespace Go.Proofs.Ytimpnpdhhhbmgaa
open Go.RowKit
set_option linter.unusedVariables false
set_option linter.unusedSimpArgs false

theorem OwnSs.cellq {W : World} {base g n c : Nat} {ss : List By} (h : OwnSs W base (.slice (some ⟨g, 0, none⟩) n c) ss) {k : Nat} {q : By} (hq : ss[k]? = some q) : ∃ A c', W.cell? ⟨g, k, none⟩ = some (.slice A q.length c') ∧ IsBytes W (.slice A q.length c') q := by
  obtain ⟨hk, rfl⟩ := List.getElem?_eq_some_iff.1 hq
  exact h.cell hk
theorem src_take {W : World} {A : Option Addr} {n c : Nat} {bs : By} (h : IsBytes W (.slice A n c) bs) (k : Nat) : 0 < ((bs.take k).map encB).length → ∃ ad, A = some ad ∧ ∀ j v, ((bs.take k).map encB)[j]? = some v → W.cell? (ad.add j) = some v := fun hp => by
  obtain ⟨ad, hA, hc⟩ := src_of h (by simp at hp ⊢; omega)
  refine ⟨ad, hA, fun j v hv => hc j v ?_⟩
  rw [List.map_take] at hv
  rw [List.getElem?_take] at hv
  split at hv
  · exact hv
  · cases hv
theorem keep4 {W : World} {B B' : Nat} {a0 a1 a2 a3 : Value} (h : Cells W B 25 [a0, a1, a2, a3]) (hne : B ≠ B') (b0 b1 b2 b3 : Value) :
    ((((W.setCell ⟨B', 0, none⟩ b0).setCell ⟨B', 1, none⟩ b1).setCell ⟨B', 2, none⟩ b2).setCell ⟨B', 3, none⟩ b3).cell? ⟨B, 0, none⟩ = some a0 ∧
    ((((W.setCell ⟨B', 0, none⟩ b0).setCell ⟨B', 1, none⟩ b1).setCell ⟨B', 2, none⟩ b2).setCell ⟨B', 3, none⟩ b3).cell? ⟨B, 1, none⟩ = some a1 ∧
    ((((W.setCell ⟨B', 0, none⟩ b0).setCell ⟨B', 1, none⟩ b1).setCell ⟨B', 2, none⟩ b2).setCell ⟨B', 3, none⟩ b3).cell? ⟨B, 2, none⟩ = some a2 := by
  have h9 := (((h.other hne 0 b0).other hne 1 b1).other hne 2 b2).other hne 3 b3
  exact ⟨h9.cell rfl, h9.cell rfl, h9.cell rfl⟩
theorem put_128 {ss : List By} {ps : List Wr} (h : ∀ q ∈ ss, q.length = 128) (h2 : ∀ p ∈ ps, p.data.length = 128) : ∀ q ∈ Dv.put ss ps, q.length = 128 := by
  induction ps generalizing ss with
  | nil => exact h
  | cons p ps ih =>
    show ∀ q ∈ Dv.put (Dv.put1 ss p) ps, q.length = 128
    refine ih (fun q hq => ?_) (fun q hq => h2 q (by simp [hq]))
    unfold Dv.put1 at hq
    rcases List.mem_or_eq_of_mem_set hq with h3 | h3
    · exact h q h3
    · rw [h3]; exact h2 p (by simp)

set_option maxHeartbeats 8000000 in
set_option maxRecDepth 100000 in
theorem Sync_any {d : Dk} {v : Value} {w : World} (hv : IsD w v d) :
    Calls Try.prog 23 #[v] w fun e w' => ∃ x, e = .returned (.tuple #[x, .int .i64 (Dv.syE d)]) ∧ IsD w' x (Dv.sy d) ∧ Below w.heap.size w w' ∧ Sec w.heap.size v x := by
  have HV := Lib.hid hv
  obtain ⟨A, c, A2, c2, rfl, h1, h2⟩ := hv.open_
  obtain ⟨ss, ps, left, st⟩ := d
  simp only at HV h1 h2 ⊢
  have hc2 : ps.length ≤ c2 := by obtain ⟨A', c', vs, e, hc, _⟩ := id h2; injection e with _ _ e; omega
  have H1 := Lib.hid h1
  have H2 := Lib.hid h2
  clear hv h1 h2
  obtain ⟨e0, he⟩ : ∃ e, Dv.syE ⟨ss, ps, left, st⟩ = e := ⟨_, rfl⟩
  obtain ⟨r0, hr⟩ : ∃ e, Dv.sy ⟨ss, ps, left, st⟩ = e := ⟨_, rfl⟩
  rw [he, hr]
  have HE := Lib.hid he
  have HR := Lib.hid hr
  clear he hr
  have HX := Lib.hid ((Cells.new w 25 [Value.slice A ss.length c, Value.slice A2 ps.length c2, Value.int IntKind.i64 left, Value.bool st]).upb (al1 _ (.cells #[.slice none 0 0, .slice none 0 0, .int .i64 0, .bool false] 25)))
  have HZ := Lib.hid (Cells.new (w.alloc (.cells [Value.slice A ss.length c, Value.slice A2 ps.length c2, Value.int IntKind.i64 left, Value.bool st].toArray 25)) 25 [.slice none 0 0, .slice none 0 0, .int .i64 0, .bool false])
  have HB := Lib.hid ((al1 w (.cells [Value.slice A ss.length c, Value.slice A2 ps.length c2, Value.int IntKind.i64 left, Value.bool st].toArray 25)).up (al1 _ (.cells #[.slice none 0 0, .slice none 0 0, .int .i64 0, .bool false] 25)))
  obtain ⟨rb, hrb⟩ : ∃ b, decide (Dv.Run ⟨ss, ps, left, st⟩) = b := ⟨_, rfl⟩
  have HC2 := Lib.hid hc2
  clear hc2
  go_enter Try.func23, Try.ntmps23
  go_wp2_with (fail)
  refine (runs_is (HV.out.upb HB.out) hrb).mono ?_
  rintro e w1 ⟨rfl, b1⟩
  have HX1 := Lib.hid (HX.out.upb b1)
  have HZ1 := Lib.hid (HZ.out.upb b1)
  have HB1 := Lib.hid (HB.out.up b1)
  clear b1 HX HZ HB
  simp only [World.size_alloc] at HZ1
  have hzw := HZ1.out.lt
  have z0 := HZ1.out.cell (k := 0) rfl
  have z1 := HZ1.out.cell (k := 1) rfl
  have z2 := HZ1.out.cell (k := 2) rfl
  have z3 := HZ1.out.cell (k := 3) rfl
  have f0 := HZ1.out.frozen 0
  have f1 := HZ1.out.frozen 1
  have f2 := HZ1.out.frozen 2
  have f3 := HZ1.out.frozen 3
  have hxw := HX1.out.lt
  have x0 := HX1.out.cell (k := 0) rfl
  have x1 := HX1.out.cell (k := 1) rfl
  have x2 := HX1.out.cell (k := 2) rfl
  have x3 := HX1.out.cell (k := 3) rfl
  cases rb with
  | false =>
    obtain rfl : e0 = 40 := by rw [← HE.out]; exact if_neg (of_decide_eq_false hrb)
    obtain rfl : r0 = d0 := by rw [← HR.out]; exact if_neg (of_decide_eq_false hrb)
    clear hrb
    go_wp2_with (fail)
    refine bodyPost_ret (dk_out rfl rfl rfl (HZ1.out.set4 (.slice none 0 0) (.slice none 0 0) (.int .i64 0) (.bool false))) rfl ?_
    exact ⟨_, rfl, IsD.zero, below_set4 HB1.out (by omega) _ _ _ _, sec_nil⟩
  | true =>
  have HRUN := Lib.hid (of_decide_eq_true hrb)
  clear hrb
  have HOK := Lib.hid (show ∀ k (h : k < ps.length), 0 ≤ ps[k].at_ ∧ ps[k].at_ < (ss.length : Int) ∧ ps[k].data.length = 128 from fun k h => HRUN.out.1.w h)
  have HLN := Lib.hid (show 1 ≤ ss.length ∧ ss.length ≤ 4096 ∧ ps.length ≤ 4096 from ⟨HRUN.out.1.n1, HRUN.out.1.n2, HRUN.out.1.p2⟩)
  have HS128 := Lib.hid (show ∀ (j : Nat), ∀ q ∈ Dv.put ss (ps.take j), q.length = 128 from fun j => put_128 (fun q hq => Dv.any_ss.1 HRUN.out.1.ss q hq) (fun q hq => (Dv.any_ps.1 HRUN.out.1.ps q (List.mem_of_mem_take hq)).2.2))
  by_cases hs : 0 ≤ left ∧ left < (ps.length : Int)
  · have dt1 : decide (0 ≤ left) = true := decide_eq_true hs.1
    have dt2 : decide (left < (ps.length : Int)) = true := decide_eq_true hs.2
    obtain ⟨k, rfl⟩ : ∃ k : Nat, left = k := ⟨left.toNat, by omega⟩
    have hk : k < ps.length := by omega
    obtain rfl : e0 = 40 := by rw [← HE.out]; unfold Dv.syE; rw [if_pos HRUN.out, if_pos (show Dv.Stops ⟨ss, ps, (k : Int), st⟩ from hs)]
    have HR2 := Lib.hid (show r0 = ⟨Dv.halfS ⟨ss, ps, k, st⟩ k, [], 0, true⟩ by rw [← HR.out]; unfold Dv.sy; rw [if_pos HRUN.out, if_pos (show Dv.Stops ⟨ss, ps, (k : Int), st⟩ from hs)]; rfl)
    have hkc : k ≤ c2 := by have := HC2.out; omega
    have hlt64 : ps.length ≤ 4096 := HLN.out.2.2
    clear hs
    go_wp2_with (fail)
    refine (perform_any (H1.out.upb HB1.out) ((ws_take (c' := k) H2.out (Nat.le_of_lt hk) (Nat.le_refl _)).upb HB1.out) (by have := HLN.out.1; omega) HLN.out.2.1 (by rw [List.length_take]; have := HLN.out.2.2; omega) (fun j hj => by rw [List.length_take] at hj; rw [List.getElem_take]; have := HOK.out j (by omega); exact ⟨this.1, this.2.1⟩)).mono ?_
    rintro e w2 ⟨x2v, rfl, ho2, b2⟩
    obtain ⟨g, cap, rfl, hg1, hg2⟩ := ho2.form (by rw [Dv.put_len]; exact HLN.out.1)
    rw [Dv.put_len] at ho2 ⊢
    obtain ⟨SS, hSS⟩ : ∃ SS, Dv.put ss (ps.take k) = SS := ⟨_, rfl⟩
    have HSL := Lib.hid (show SS.length = ss.length by rw [← hSS, Dv.put_len])
    have HSS := Lib.hid hSS
    rw [hSS] at ho2
    clear hSS hzw z0 z1 z2 z3 f0 f1 f2 f3 hxw x0 x1 x2 x3
    have HX2 := Lib.hid (HX1.out.upb b2)
    have HZ2 := Lib.hid (HZ1.out.upb b2)
    have HB2 := Lib.hid (HB1.out.up b2)
    have HO2 := Lib.hid ho2
    clear ho2
    have hzw := HZ2.out.lt
    have z0 := HZ2.out.cell (k := 0) rfl
    have z1 := HZ2.out.cell (k := 1) rfl
    have z2 := HZ2.out.cell (k := 2) rfl
    have z3 := HZ2.out.cell (k := 3) rfl
    have f0 := HZ2.out.frozen 0
    have f1 := HZ2.out.frozen 1
    have f2 := HZ2.out.frozen 2
    have f3 := HZ2.out.frozen 3
    have hxw := HX2.out.lt
    have x0 := HX2.out.cell (k := 0) rfl
    have x1 := HX2.out.cell (k := 1) rfl
    have x2 := HX2.out.cell (k := 2) rfl
    have x3 := HX2.out.cell (k := 3) rfl
    obtain ⟨b, off, A', c', rfl, hbb, hc1, hc2', hc3⟩ := ws_at H2.out hk
    have h1 : w2.cell? ⟨b, off + k * 2, none⟩ = some (.int .i64 ps[k].at_) := by rw [(bcell HB2.out).1 b _ hbb, hc1]
    have h2 : w2.cell? ⟨b, off + k * 2 + 1, none⟩ = some (.slice A' ps[k].data.length c') := by rw [(bcell HB2.out).1 b _ hbb, hc2']
    have hb2lt : b < w2.heap.size := Nat.lt_of_lt_of_le hbb HB2.out.size
    have H3 := Lib.hid hc3
    have hr3 := HOK.out k hk
    have HPS := Lib.hid (show ps[k]? = some ps[k] from List.getElem?_eq_getElem hk)
    clear hc1 hc2' hc3
    generalize ps[k] = p at *
    obtain ⟨at0, data⟩ := p
    simp only at h1 h2 H3 HPS hr3
    obtain ⟨m, rfl⟩ : ∃ m : Nat, at0 = m := ⟨at0.toNat, by omega⟩
    have hmn : m < ss.length := by omega
    have hdl : data.length = 128 := hr3.2.2
    have hml : m < SS.length := by rw [HSL.out]; exact hmn
    have HSM := Lib.hid hml
    obtain ⟨OB, hOB⟩ : ∃ OB, SS[m]? = some OB := ⟨_, List.getElem?_eq_getElem hml⟩
    have hs128 : OB.length = 128 := HS128.out k _ (by rw [HSS.out]; exact List.mem_of_getElem? hOB)
    have HOB := Lib.hid hOB
    obtain ⟨A5, c5, hcc, hcb⟩ := HO2.out.cellq hOB
    rw [hs128] at hcc hcb
    rw [hdl] at h2 H3
    have HCB := Lib.hid hcb
    have HL128 := Lib.hid (And.intro hs128 hdl)
    have hgB : w.heap.size + 1 ≠ g := by have := HZ2.out.lt; have := HZ1.out.lt; omega
    have hgw := hg2
    clear hcb hr3 hOB hs128 hdl
    have HZ3 := Lib.hid (HZ2.out.set4 (.slice (some ⟨g, 0, none⟩) ss.length cap) (.slice none 0 0) (.int .i64 0) (.bool true))
    have HO3 := Lib.hid (HO2.out.box HZ2.out (grown_set4 w2 (w.heap.size + 1) (.slice (some ⟨g, 0, none⟩) ss.length cap) (.slice none 0 0) (.int .i64 0) (.bool true)))
    have HC3 := Lib.hid (HCB.out.box HZ2.out (grown_set4 w2 (w.heap.size + 1) (.slice (some ⟨g, 0, none⟩) ss.length cap) (.slice none 0 0) (.int .i64 0) (.bool true)))
    have HB3 := Lib.hid (below_set4 HB2.out (show w.heap.size ≤ w.heap.size + 1 by omega) (.slice (some ⟨g, 0, none⟩) ss.length cap) (.slice none 0 0) (.int .i64 0) (.bool true))
    have hsz3 : (set4 w2 (w.heap.size + 1) (.slice (some ⟨g, 0, none⟩) ss.length cap) (.slice none 0 0) (.int .i64 0) (.bool true)).heap.size = w2.heap.size := by simp [set4]
    go_wp2_with (fail)
    clear hzw z0 z1 z2 z3 f0 f1 f2 f3 hxw x0 x1 x2 x3 h1 h2 hcc HX2
    obtain ⟨W3, hW3⟩ : ∃ W3, set4 w2 (w.heap.size + 1) (.slice (some ⟨g, 0, none⟩) ss.length cap) (.slice none 0 0) (.int .i64 0) (.bool true) = W3 := ⟨_, rfl⟩
    rw [hW3] at HZ3 HO3 HC3 HB3 hsz3
    unfold set4 at hW3
    rw [hW3]
    clear hW3
    have HK3 := Lib.hid (Cells.new W3 54 [.int .i64 m, .slice A' 128 c'])
    rw [hsz3] at HK3
    obtain ⟨W4, hW4⟩ : ∃ W4, W3.alloc (.cells #[.int .i64 m, .slice A' 128 c'] 54) = W4 := ⟨_, rfl⟩
    have HAL := Lib.hid (show Below W3.heap.size W3 W4 by rw [← hW4]; exact al1 _ _)
    have hsz4 : W4.heap.size = w2.heap.size + 1 := by rw [← hW4, World.size_alloc, hsz3]
    have HK4 := Lib.hid (show Cells W4 w2.heap.size 54 [.int .i64 m, .slice A' 128 c'] by rw [← hW4]; exact HK3.out)
    rw [hW4]
    clear hW4 HK3
    refine (cloneB_any (HC3.out.upb HAL.out) (by have := HL128.out.1; omega)).mono ?_
    rintro e w5 ⟨t5, rfl, ho5, b5⟩
    obtain ⟨h, caph, rfl, hh1, hh2⟩ := own_form ho5 (by have := HL128.out.1; omega)
    rw [HL128.out.1] at ho5 ⊢
    obtain ⟨cur, hcur1, hcur2, hcur3⟩ := OwnBytes.splice ho5
    have HCUR := Lib.hid hcur1
    have HCUR2 := Lib.hid hcur2
    have HCUR3 := Lib.hid hcur3
    have HK5 := Lib.hid (HK4.out.upb b5)
    have HB5 := Lib.hid b5
    have k0 := HK5.out.cell (k := 0) rfl
    have k1 := HK5.out.cell (k := 1) rfl
    have hk5 := HK5.out.lt
    have HCS := Lib.hid (show ((data.take 64).map encB).length = Nat.min 128 64 by rw [List.length_map, List.length_take, HL128.out.2]; rfl)
    have HCS2 := Lib.hid (show 0 + ((data.take 64).map encB).length ≤ cur.length by rw [HCS.out]; exact Nat.le_trans (by decide) HCUR2.out)
    have HCS3 := Lib.hid (show ∀ v ∈ (data.take 64).map encB, v.oneCell' = true by intro v hv; simp only [List.mem_map] at hv; obtain ⟨y, _, rfl⟩ := hv; rfl)
    have HSRC := Lib.hid (src_take (H3.out.upb ((HB3.out.up HAL.out).up b5)) 64)
    have hhn : caph ≥ 128 := by obtain ⟨A0, c0, e0, hle⟩ := own_le ho5; injection e0 with _ _ e0; omega
    have hc64 : 64 ≤ caph := by omega
    have hc64i : (64 : Int) ≤ (caph : Int) := by omega
    clear hcur1 hcur2 hcur3 b5 ho5
    go_wp2_with (fail)
    go_region_law (refine step_copy_splice rfl (.tmp 50) (.tmp 52) 35 35 rfl 5 Try.underlying35 (by kernel_rfl) (some ⟨h, 0, none⟩) A' 64 caph 128 c' (by simp [Act.eval, Act.put]) (by simp [Act.eval, Act.put]) h 0 cur 5 HCUR.out ((data.take 64).map encB) HCS.out (fun hp => ⟨rfl, HSRC.out hp⟩) HCS2.out HCS3.out h w5 (below_drewN (below_drop w5 (Nat.le_of_lt hh2)) 1) (Nat.le_refl _) ?_; intro w6 hg6 hb6)
    all_goals
      have HT6 := Lib.hid (HCUR3.out w6 (data.take 64) (by rw [List.length_take]; omega) hg6.out)
      have hlen64 : (data.take 64).length = 64 := by rw [List.length_take, HL128.out.2]; rfl
      rw [hlen64] at HT6
      have hb46 : Below W4.heap.size W4 w6 := HB5.out.trans (hb6.mono hh1)
      have HO6 := Lib.hid ((HO3.out.below HAL.out).below hb46)
      have HZ6 := Lib.hid ((HZ3.out.upb HAL.out).upb hb46)
      have HK6 := Lib.hid (HK4.out.upb hb46)
      have HB6 := Lib.hid ((HB3.out.up HAL.out).up hb46)
      clear hg6 hb6 hb46 k0 k1 hk5 hlen64
      have k0 := HK6.out.cell (k := 0) rfl
      have k1 := HK6.out.cell (k := 1) rfl
      have hk6 := HK6.out.lt
      have hzw := HZ6.out.lt
      have z0 := HZ6.out.cell (k := 0) rfl
      have z1 := HZ6.out.cell (k := 1) rfl
      have z2 := HZ6.out.cell (k := 2) rfl
      have z3 := HZ6.out.cell (k := 3) rfl
      have f0 := HZ6.out.frozen 0
      have f1 := HZ6.out.frozen 1
      have f2 := HZ6.out.frozen 2
      have f3 := HZ6.out.frozen 3
      obtain ⟨A9, c9, hcc, _⟩ := HO6.out.cellq HOB.out
      have hfr := HO6.out.frozen m
      have hgB2 : g ≠ w.heap.size + 1 := fun e => hgB e.symm
      go_wp2_with (fail)
      have HTOFF := HT6.out.off (g := g) (by omega)
      have HO7 := (HO6.out.set m HTOFF).box (HZ6.out.other hgB m (.slice (some ⟨h, 0, none⟩) 128 caph)) (grown_set4 _ (w.heap.size + 1) (.slice (some ⟨g, 0, none⟩) ss.length cap) (.slice none 0 0) (.int .i64 0) (.bool true))
      have HZ7 := (HZ6.out.other hgB m (.slice (some ⟨h, 0, none⟩) 128 caph)).set4 (.slice (some ⟨g, 0, none⟩) ss.length cap) (.slice none 0 0) (.int .i64 0) (.bool true)
      have hb := below_set4 (HB6.out.setCell (p := ⟨g, m, none⟩) (by show w.heap.size ≤ g; have := HB1.out.size; omega) (.slice (some ⟨h, 0, none⟩) 128 caph)) (show w.heap.size ≤ w.heap.size + 1 by omega) (.slice (some ⟨g, 0, none⟩) ss.length cap) (.slice none 0 0) (.int .i64 0) (.bool true)
      refine bodyPost_ret (dk_out rfl rfl rfl HZ7) rfl ?_
      refine ⟨_, rfl, ?_, hb, sec_ge (by have := HB1.out.size; omega)⟩
      have hfin : r0 = ⟨SS.set m (data.take 64 ++ OB.drop 64), [], 0, true⟩ := by
        rw [HR2.out]
        have h9 := HOB.out
        rw [← HSS.out] at h9 ⊢
        simp only [Dv.halfS, HPS.out, Int.toNat_natCast, List.getD_eq_getElem?_getD, h9, Option.getD_some]
        rfl
      rw [hfin]
      exact isD_mk HO7.is IsWs.nil
  · have hns : ¬ Dv.Stops ⟨ss, ps, left, st⟩ := hs
    obtain rfl : e0 = 0 := by rw [← HE.out]; unfold Dv.syE; rw [if_pos HRUN.out, if_neg hns]
    have HR1 := Lib.hid (show r0 = ⟨Dv.put ss ps, [], if 0 ≤ left then left - ps.length else left, false⟩ by rw [← HR.out]; unfold Dv.sy; rw [if_pos HRUN.out, if_neg hns])
    have hl2 := HRUN.out.1.l2
    simp only at hl2
    clear hns
    by_cases h0 : 0 ≤ left
    · have dt1 : decide (0 ≤ left) = true := decide_eq_true h0
      have dt2 : decide (left < (ps.length : Int)) = false := decide_eq_false (by omega)
      have HR2 := Lib.hid (show r0 = ⟨Dv.put ss ps, [], left - ps.length, false⟩ by rw [HR1.out, if_pos h0])
      have hw64 : IntKind.i64.wrap (left - (ps.length : Int)) = left - (ps.length : Int) := by rw [IntKind.wrap_i64]; have := HLN.out.2.2; omega
      have hw65 : (0 : Int) ≤ left - (ps.length : Int) := by omega
      have hw66 : left - (ps.length : Int) ≤ 65536 := by omega
      clear hs
      go_wp2_with (fail)
      have HD9 := Lib.hid (show w1.drew.cell? ⟨w.heap.size, 0, none⟩ = some (.slice A ss.length c) ∧ w1.drew.cell? ⟨w.heap.size, 1, none⟩ = some (.slice A2 ps.length c2) ∧ w1.drew.cell? ⟨w.heap.size, 2, none⟩ = some (.int .i64 left) from ⟨x0, x1, x2⟩)
      go_region_held3 (fun X => X.cell? ⟨w.heap.size, 0, none⟩ = some (.slice A ss.length c) ∧ X.cell? ⟨w.heap.size, 1, none⟩ = some (.slice A2 ps.length c2) ∧ X.cell? ⟨w.heap.size, 2, none⟩ = some (.int .i64 left)) (first | with_reducible exact HD9.out | with_reducible exact ⟨x0, x1, x2⟩ | with_reducible exact ⟨y0, y1, y2⟩ | with_reducible exact HV9.out)
      (first
      | (go_at_call 40
         refine (perform_any (H1.out.upb (show Below w.heap.size w w1.drew from below_drewN HB1.out 1)) (H2.out.upb (show Below w.heap.size w w1.drew from below_drewN HB1.out 1)) (by have := HLN.out.1; omega) HLN.out.2.1 HLN.out.2.2 (fun j hj => by have := HOK.out j hj; exact ⟨this.1, this.2.1⟩)).mono ?_
         rintro e X1 ⟨xv, rfl, ho2, b2⟩
         obtain ⟨g, cap, rfl, hg1, hg2⟩ := ho2.form (by rw [Dv.put_len]; exact HLN.out.1)
         rw [Dv.put_len] at ho2 ⊢
         have HO2 := Lib.hid ho2
         have HX2 := Lib.hid ((show Cells w1.drew w.heap.size 25 _ from HX1.out).upb b2)
         have HZ2 := Lib.hid ((show Cells w1.drew (w.heap.size + 1) 25 _ from HZ1.out).upb b2)
         have HB2 := Lib.hid ((show Below w.heap.size w w1.drew from below_drewN HB1.out 1).up b2)
         clear ho2 hg1
         have hzw2 := HZ2.out.lt
         have z02 := HZ2.out.cell (k := 0) rfl
         have z12 := HZ2.out.cell (k := 1) rfl
         have z22 := HZ2.out.cell (k := 2) rfl
         have z32 := HZ2.out.cell (k := 3) rfl
         have f02 := HZ2.out.frozen 0
         have f12 := HZ2.out.frozen 1
         have f22 := HZ2.out.frozen 2
         have f32 := HZ2.out.frozen 3
         have y0 := HX2.out.cell (k := 0) rfl
         have y1 := HX2.out.cell (k := 1) rfl
         have y2 := HX2.out.cell (k := 2) rfl
         have HV9 := Lib.hid (keep4 HX2.out (show w.heap.size ≠ w.heap.size + 1 by omega) (.slice (some ⟨g, 0, none⟩) ss.length cap) (.slice none 0 0) (.int .i64 left) (.bool false))))
      all_goals
        clear hzw z0 z1 z2 z3 f0 f1 f2 f3 hxw x0 x1 x2 x3 HV9 HD9 y0 y1 y2 hzw2 z02 z12 z22 z32 f02 f12 f22 f32
        have HZ6 := Lib.hid (HZ2.out.set4 (.slice (some ⟨g, 0, none⟩) ss.length cap) (.slice none 0 0) (.int .i64 left) (.bool false))
        have HO3 := Lib.hid (HO2.out.box HZ2.out (grown_set4 X1 (w.heap.size + 1) (.slice (some ⟨g, 0, none⟩) ss.length cap) (.slice none 0 0) (.int .i64 left) (.bool false)))
        have HB3 := Lib.hid (below_set4 HB2.out (show w.heap.size ≤ w.heap.size + 1 by omega) (.slice (some ⟨g, 0, none⟩) ss.length cap) (.slice none 0 0) (.int .i64 left) (.bool false))
        obtain ⟨X3, hX3⟩ : ∃ X3, set4 X1 (w.heap.size + 1) (.slice (some ⟨g, 0, none⟩) ss.length cap) (.slice none 0 0) (.int .i64 left) (.bool false) = X3 := ⟨_, rfl⟩
        rw [hX3] at HZ6 HO3 HB3
        unfold set4 at hX3
        rw [hX3]
        clear hX3
        have hzw := HZ6.out.lt
        have z0 := HZ6.out.cell (k := 0) rfl
        have z1 := HZ6.out.cell (k := 1) rfl
        have z2 := HZ6.out.cell (k := 2) rfl
        have z3 := HZ6.out.cell (k := 3) rfl
        have f0 := HZ6.out.frozen 0
        have f1 := HZ6.out.frozen 1
        have f2 := HZ6.out.frozen 2
        have f3 := HZ6.out.frozen 3
        go_wp2_with (fail)
        have HO4 := HO3.out.box HZ6.out (grown_set _ (w.heap.size + 1) 2 (.int .i64 (left - ps.length)))
        have HZ7 := (HZ6.out.set (k := 2) (.int .i64 (left - ps.length)))
        have HB4 := HB3.out.setCell (p := ⟨w.heap.size + 1, 2, none⟩) (by show w.heap.size ≤ w.heap.size + 1; omega) (.int .i64 (left - ps.length))
        have HO5 := HO4.box HZ7 (grown_set4 _ (w.heap.size + 1) (.slice (some ⟨g, 0, none⟩) ss.length cap) (.slice none 0 0) (.int .i64 (left - ps.length)) (.bool false))
        have HZ8 := HZ7.set4 (.slice (some ⟨g, 0, none⟩) ss.length cap) (.slice none 0 0) (.int .i64 (left - ps.length)) (.bool false)
        have HB5 := below_set4 HB4 (show w.heap.size ≤ w.heap.size + 1 by omega) (.slice (some ⟨g, 0, none⟩) ss.length cap) (.slice none 0 0) (.int .i64 (left - ps.length)) (.bool false)
        refine bodyPost_ret (dk_out rfl rfl rfl HZ8) rfl ?_
        exact ⟨_, rfl, by rw [HR2.out]; exact isD_mk HO5.is IsWs.nil, HB5, sec_ge (by have h9 : w1.heap.size ≤ g := HO2.out.lt' g rfl; have := HB1.out.size; omega)⟩
    · have dt1 : decide (0 ≤ left) = false := decide_eq_false h0
      have HR2 := Lib.hid (show r0 = ⟨Dv.put ss ps, [], left, false⟩ by rw [HR1.out, if_neg h0])
      clear hs
      go_wp2_with (fail)
      have HD9 := Lib.hid (show w1.drew.cell? ⟨w.heap.size, 0, none⟩ = some (.slice A ss.length c) ∧ w1.drew.cell? ⟨w.heap.size, 1, none⟩ = some (.slice A2 ps.length c2) ∧ w1.drew.cell? ⟨w.heap.size, 2, none⟩ = some (.int .i64 left) from ⟨x0, x1, x2⟩)
      go_region_held3 (fun X => X.cell? ⟨w.heap.size, 0, none⟩ = some (.slice A ss.length c) ∧ X.cell? ⟨w.heap.size, 1, none⟩ = some (.slice A2 ps.length c2) ∧ X.cell? ⟨w.heap.size, 2, none⟩ = some (.int .i64 left)) (first | with_reducible exact HD9.out | with_reducible exact ⟨x0, x1, x2⟩ | with_reducible exact ⟨y0, y1, y2⟩ | with_reducible exact HV9.out)
      (first
      | (go_at_call 40
         refine (perform_any (H1.out.upb (show Below w.heap.size w w1.drew from below_drewN HB1.out 1)) (H2.out.upb (show Below w.heap.size w w1.drew from below_drewN HB1.out 1)) (by have := HLN.out.1; omega) HLN.out.2.1 HLN.out.2.2 (fun j hj => by have := HOK.out j hj; exact ⟨this.1, this.2.1⟩)).mono ?_
         rintro e X1 ⟨xv, rfl, ho2, b2⟩
         obtain ⟨g, cap, rfl, hg1, hg2⟩ := ho2.form (by rw [Dv.put_len]; exact HLN.out.1)
         rw [Dv.put_len] at ho2 ⊢
         have HO2 := Lib.hid ho2
         have HX2 := Lib.hid ((show Cells w1.drew w.heap.size 25 _ from HX1.out).upb b2)
         have HZ2 := Lib.hid ((show Cells w1.drew (w.heap.size + 1) 25 _ from HZ1.out).upb b2)
         have HB2 := Lib.hid ((show Below w.heap.size w w1.drew from below_drewN HB1.out 1).up b2)
         clear ho2 hg1
         have hzw2 := HZ2.out.lt
         have z02 := HZ2.out.cell (k := 0) rfl
         have z12 := HZ2.out.cell (k := 1) rfl
         have z22 := HZ2.out.cell (k := 2) rfl
         have z32 := HZ2.out.cell (k := 3) rfl
         have f02 := HZ2.out.frozen 0
         have f12 := HZ2.out.frozen 1
         have f22 := HZ2.out.frozen 2
         have f32 := HZ2.out.frozen 3
         have y0 := HX2.out.cell (k := 0) rfl
         have y1 := HX2.out.cell (k := 1) rfl
         have y2 := HX2.out.cell (k := 2) rfl
         have HV9 := Lib.hid (keep4 HX2.out (show w.heap.size ≠ w.heap.size + 1 by omega) (.slice (some ⟨g, 0, none⟩) ss.length cap) (.slice none 0 0) (.int .i64 left) (.bool false))))
      all_goals
        clear hzw z0 z1 z2 z3 f0 f1 f2 f3 hxw x0 x1 x2 x3 HV9 HD9 y0 y1 y2 hzw2 z02 z12 z22 z32 f02 f12 f22 f32
        have HZ6 := Lib.hid (HZ2.out.set4 (.slice (some ⟨g, 0, none⟩) ss.length cap) (.slice none 0 0) (.int .i64 left) (.bool false))
        have HO3 := Lib.hid (HO2.out.box HZ2.out (grown_set4 X1 (w.heap.size + 1) (.slice (some ⟨g, 0, none⟩) ss.length cap) (.slice none 0 0) (.int .i64 left) (.bool false)))
        have HB3 := Lib.hid (below_set4 HB2.out (show w.heap.size ≤ w.heap.size + 1 by omega) (.slice (some ⟨g, 0, none⟩) ss.length cap) (.slice none 0 0) (.int .i64 left) (.bool false))
        obtain ⟨X3, hX3⟩ : ∃ X3, set4 X1 (w.heap.size + 1) (.slice (some ⟨g, 0, none⟩) ss.length cap) (.slice none 0 0) (.int .i64 left) (.bool false) = X3 := ⟨_, rfl⟩
        rw [hX3] at HZ6 HO3 HB3
        unfold set4 at hX3
        rw [hX3]
        clear hX3
        have hzw := HZ6.out.lt
        have z0 := HZ6.out.cell (k := 0) rfl
        have z1 := HZ6.out.cell (k := 1) rfl
        have z2 := HZ6.out.cell (k := 2) rfl
        have z3 := HZ6.out.cell (k := 3) rfl
        have f0 := HZ6.out.frozen 0
        have f1 := HZ6.out.frozen 1
        have f2 := HZ6.out.frozen 2
        have f3 := HZ6.out.frozen 3
        go_wp2_with (fail)
        have HO5 := HO3.out.box HZ6.out (grown_set4 _ (w.heap.size + 1) (.slice (some ⟨g, 0, none⟩) ss.length cap) (.slice none 0 0) (.int .i64 left) (.bool false))
        have HZ8 := HZ6.out.set4 (.slice (some ⟨g, 0, none⟩) ss.length cap) (.slice none 0 0) (.int .i64 left) (.bool false)
        have HB5 := below_set4 HB3.out (show w.heap.size ≤ w.heap.size + 1 by omega) (.slice (some ⟨g, 0, none⟩) ss.length cap) (.slice none 0 0) (.int .i64 left) (.bool false)
        refine bodyPost_ret (dk_out rfl rfl rfl HZ8) rfl ?_
        exact ⟨_, rfl, by rw [HR2.out]; exact isD_mk HO5.is IsWs.nil, HB5, sec_ge (by have h9 : w1.heap.size ≤ g := HO2.out.lt' g rfl; have := HB1.out.size; omega)⟩
end Go.Proofs.Ytimpnpdhhhbmgaa
