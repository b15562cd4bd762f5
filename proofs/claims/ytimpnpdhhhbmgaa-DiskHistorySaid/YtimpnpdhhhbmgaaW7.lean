/- Walk of Read. -/
import Derived.Test.YtimpnpdhhhbmgaaW6
namespace Go.Proofs.Ytimpnpdhhhbmgaa
open Go.RowKit
set_option linter.unusedVariables false
set_option linter.unusedSimpArgs false
attribute [local go_sem] Oper.semAt_some

/-- none of the last writes is to this sector -/
def NoW (ps : List Wr) (m : Int) (k : Nat) : Prop := ∀ j, ps.length - k ≤ j → (hj : j < ps.length) → ps[j].at_ ≠ m
theorem istep_marks {lo : Nat} {X W' : World} (o1 : W'.os = X.os) (o2 : W'.tape = X.tape) (o3 : W'.output = X.output) (o4 : W'.heap.size = X.heap.size) (o5 : ∀ b o, X.heap[b]? = some o → (o.isCells = true ∨ b < lo) → W'.heap[b]? = some o) : IStep lo X W' :=
  ⟨o1, o2, o3, by rw [o4]; exact Nat.le_refl _, o5⟩

set_option maxHeartbeats 4000000 in
theorem Read_any {d : Dk} {v : Value} {w : World} (hv : IsD w v d) (a : Int) :
    Calls Try.prog 21 #[v, .int .i64 a] w fun e w' => ∃ u, e = .returned (.tuple #[u, .int .i64 (Dv.rdE d a)]) ∧ IsBytes w' u (Dv.rd d a) ∧ Below w.heap.size w w' := by
  have HV := Lib.hid hv
  obtain ⟨A, c, A2, c2, rfl, h1, h2⟩ := hv.open_
  obtain ⟨ss, ps, left, st⟩ := d
  simp only at HV h1 h2 ⊢
  have H1 := Lib.hid h1
  have H2 := Lib.hid h2
  obtain ⟨e0, he⟩ : ∃ e, Dv.rdE ⟨ss, ps, left, st⟩ a = e := ⟨_, rfl⟩
  obtain ⟨r0, hr⟩ : ∃ e, Dv.rd ⟨ss, ps, left, st⟩ a = e := ⟨_, rfl⟩
  rw [he, hr]
  have HE := Lib.hid he
  have HR := Lib.hid hr
  clear h1 h2 he hr hv
  have HBAD := Lib.hid (show ¬ (Dv.Run ⟨ss, ps, left, st⟩ ∧ Dv.Has ⟨ss, ps, left, st⟩ a) → e0 = 40 ∧ r0 = [] from fun h => ⟨by rw [← HE.out]; exact if_neg h, by rw [← HR.out]; exact if_neg h⟩)
  have hRB := rdB_new w [Value.slice A ss.length c, Value.slice A2 ps.length c2, Value.int IntKind.i64 left, Value.bool st] (.int .i64 a)
  refine (callsIn_wide (n := 0)).1 ?_
  refine callsIn_of_wp_marks Try.func21 rfl trivial ?_ rfl
  simp only [Try.ntmps21, List.size_toArray, List.length_cons, List.length_nil, Nat.reduceAdd, Nat.reduceSub, Array.replicate_succ, Array.replicate_zero, List.push_toArray, List.append_toArray, List.nil_append, List.cons_append]
  gi_wp2_with (fail)
  obtain ⟨X, hX⟩ : ∃ X, (((w.alloc (.cells [Value.slice A ss.length c, Value.slice A2 ps.length c2, Value.int IntKind.i64 left, Value.bool st].toArray 25)).alloc (.cells #[.int .i64 a] 3)).alloc (.cells #[.slice none 0 0] 35)).alloc (.cells #[.int .i64 0] 28) = X := ⟨_, rfl⟩
  simp only [hX] at hRB ⊢
  have HRB := Lib.hid hRB
  clear hX hRB
  obtain ⟨rb, hrb⟩ : ∃ b, decide (Dv.Run ⟨ss, ps, left, st⟩) = b := ⟨_, rfl⟩
  refine inC (runs_is (HV.out.upb HRB.out.bel) hrb) ?_
  rintro e w1 ⟨rfl, b1⟩
  have HRB1 := Lib.hid (HRB.out.upb b1)
  have hx1 := HRB1.out.bel.size
  clear b1 HRB
  cases rb with
  | false =>
    obtain ⟨rfl, rfl⟩ := HBAD.out (fun h => by rw [decide_eq_false_iff_not] at hrb; exact hrb h.1)
    clear hrb
    have hR9 := HRB1.out.store (.slice none 0 0) (.int .i64 40)
    have hc4 := HRB1.out.r.cell (k := 0) rfl
    have hf4 := HRB1.out.r.frozen 0
    have hc5 := HRB1.out.e.cell (k := 0) rfl
    have hf5 := HRB1.out.e.frozen 0
    gi_wp2_with (fail)
    refine ⟨trivial, ?_⟩
    gi_wp2_with (fail)
    exact ⟨_, rd_out rfl rfl rfl (hR9.r.cell rfl) (hR9.e.cell rfl) ⟨_, _, _, rfl⟩ ⟨_, rfl⟩, _, rfl, IsBytes.nil, hR9.bel⟩
  | true =>
  have HRUN := Lib.hid (of_decide_eq_true hrb)
  clear hrb
  have k0 := HRB1.out.d.cell (k := 0) rfl
  have k1 := HRB1.out.d.cell (k := 1) rfl
  have k2 := HRB1.out.d.cell (k := 2) rfl
  have k3 := HRB1.out.d.cell (k := 3) rfl
  have ka := HRB1.out.a.cell (k := 0) rfl
  gi_wp2_with (fail)
  obtain ⟨rb, hrb⟩ : ∃ b, decide (Dv.Has ⟨ss, ps, left, st⟩ a) = b := ⟨_, rfl⟩
  refine inC (has_is (HV.out.upb HRB1.out.bel) hrb) ?_
  rintro e w2 ⟨rfl, b1⟩
  have HRB2 := Lib.hid (HRB1.out.upb b1)
  have hx2 := HRB2.out.bel.size
  clear b1 HRB1 k0 k1 k2 k3 ka hx1
  cases rb with
  | false =>
    obtain ⟨rfl, rfl⟩ := HBAD.out (fun h => by rw [decide_eq_false_iff_not] at hrb; exact hrb h.2)
    clear hrb
    have hR9 := HRB2.out.store (.slice none 0 0) (.int .i64 40)
    have hc4 := HRB2.out.r.cell (k := 0) rfl
    have hf4 := HRB2.out.r.frozen 0
    have hc5 := HRB2.out.e.cell (k := 0) rfl
    have hf5 := HRB2.out.e.frozen 0
    gi_wp2_with (fail)
    exact ⟨_, rd_out rfl rfl rfl (hR9.r.cell rfl) (hR9.e.cell rfl) ⟨_, _, _, rfl⟩ ⟨_, rfl⟩, _, rfl, IsBytes.nil, hR9.bel⟩
  | true =>
  have hHas : Dv.Has ⟨ss, ps, left, st⟩ a := of_decide_eq_true hrb
  obtain ⟨m, rfl⟩ : ∃ m : Nat, a = m := ⟨a.toNat, by have := hHas.1; omega⟩
  have hml : m < ss.length := by have := hHas.2; simp only at this; omega
  obtain rfl : e0 = 0 := by rw [← HE.out]; exact if_pos ⟨HRUN.out, hHas⟩
  have HR2 := Lib.hid (show r0 = Dv.lastW ps m ss[m] by
    rw [← HR.out]; unfold Dv.rd; rw [if_pos ⟨HRUN.out, hHas⟩]
    simp [List.getD_eq_getElem?_getD, hml])
  have hp4 : (ps.length : Int) ≤ 4096 := by have := HRUN.out.1.p2; simp only at this; omega
  have HP4 := Lib.hid hp4
  clear hrb hHas hp4
  have k1 := HRB2.out.d.cell (k := 1) rfl
  gi_wp2_with (fail)
  refine inC (back_any (.slice A2 ps.length c2) w2 ⟨_, _, _, rfl⟩) ?_
  rintro e w3 ⟨rfl, hw3⟩
  clear k1
  gi_wp2_with (fail)
  obtain ⟨A2', c2', vs, hvv, hcap, hlv, hrow, hby⟩ := H2.out
  injection hvv with hv1 _ hv3
  subst hv1 hv3
  have HROW := Lib.hid hrow
  have HBY := Lib.hid hby
  have HLV := Lib.hid hlv
  clear hrow hby hlv hcap
  obtain ⟨dcs, hdcs⟩ : ∃ dcs, [Value.slice A ss.length c, Value.slice A2 ps.length c2, Value.int IntKind.i64 left, Value.bool st] = dcs := ⟨_, rfl⟩
  have HDC := Lib.hid hdcs
  rw [hdcs] at HRB2
  clear hdcs
  have hc3 : w3.cell? ⟨w2.heap.size, 0, none⟩ = some (.slice A2 ps.length c2) := by rw [← hw3]; simp
  have HC3 := Lib.hid hc3
  have HRB3 := Lib.hid (show RdB w w3 dcs (.int .i64 m) (.slice none 0 0) (.int .i64 0) by rw [← hw3]; exact HRB2.out.upb (al1 _ _))
  have hsz3 : w3.heap.size = w2.heap.size + 1 := by rw [← hw3]; simp
  clear hw3 hc3 HRB2
  refine rf_outer (dW ps vs) (protB w2.heap.size w.heap.size)
    (fun k W => Hid (RdB w W dcs (.int .i64 m) (.slice none 0 0) (.int .i64 0)) ∧ Hid (NoW ps m k))
    (fun c k W => c = .ret ∧ ∃ u, Hid (RdB w W dcs (.int .i64 m) u (.int .i64 0)) ∧ Hid (IsBytes w u r0))
    (enc := encD) rfl (enters_of Try.func45 (by kernel_rfl) rfl) (fun _ => rfl) ?hP ?hit ?hI ?hIx ?h0 ?hround ?hdone ?hstop
  case hP => rintro b (h | h) <;> omega
  case hit =>
    intro W hW
    exact back_iter w2.heap.size A2 c2 ps vs w W ((hW.cell (by show w2.heap.size < w3.heap.size; omega)).trans HC3.out) HLV.out HROW.out (HRB3.out.bel.up hW) (by have := HP4.out; omega)
  case hI =>
    rintro k X' Y ⟨h1, h2⟩ hs
    exact ⟨h1.out.istep hs (by omega), h2⟩
  case hIx =>
    rintro cc k X' Y ⟨h1, u, h2, h3⟩ hs
    exact ⟨h1, u, h2.out.istep hs (by omega), h3⟩
  case h0 => exact ⟨HRB3, Lib.hid (fun j h hj => by omega)⟩
  case hround =>
    rintro la k hk W hla ⟨hI, hN⟩
    rw [dW_length] at hk
    obtain ⟨p, hp⟩ : ∃ p : Nat, p + k + 1 = ps.length := ⟨ps.length - k - 1, by omega⟩
    have hpl : p < ps.length := by omega
    have hpv : p < vs.length := by have := HLV.out; omega
    rw [dW_at ps vs k _ p hp hpl hpv]
    have hb := HBY.out p hpv hpl
    have HNX := Lib.hid (show ps[p].at_ ≠ (m : Int) → NoW ps m (k + 1) from fun h j hj hj2 => by
      rcases Nat.lt_or_ge j (ps.length - k) with h3 | h3
      · obtain rfl : j = p := by omega
        exact h
      · exact hN.out j h3 hj2)
    have HYX := Lib.hid (show ps[p].at_ = (m : Int) → r0 = ps[p].data from fun h => by rw [HR2.out, Dv.lastW_at hpl (fun j hj hj2 => hN.out j (by omega) hj2) h])
    generalize ps[p] = q at *
    generalize vs[p] = u at *
    have HU := Lib.hid hb
    obtain ⟨A3, c3, rfl, _⟩ := hb
    simp only [encD]
    have HRBa := Lib.hid (hI.out.upb (al1 W (.cells #[.int .i64 q.at_, .slice A3 q.data.length c3] 54)))
    have HCa := Lib.hid (Cells.new W 54 [.int .i64 q.at_, .slice A3 q.data.length c3])
    clear hI hN
    gi_wp2
    refine ⟨RStep.of_below (al1 W _), ?_⟩
    rintro W2 hW2 _ _
    have HRBb := Lib.hid (HRBa.out.istep hW2 (by omega))
    have HCb := Lib.hid (HCa.out.istep hW2)
    have j0 := HCb.out.cell (k := 0) rfl
    have j1 := HCb.out.cell (k := 1) rfl
    have ka := HRBb.out.a.cell (k := 0) rfl
    have hc4 := HRBb.out.r.cell (k := 0) rfl
    have hf4 := HRBb.out.r.frozen 0
    have hc5 := HRBb.out.e.cell (k := 0) rfl
    have hf5 := HRBb.out.e.frozen 0
    have hR9 := Lib.hid (HRBb.out.store (.slice A3 q.data.length c3) (.int .i64 0))
    clear hW2 HRBa HCa
    by_cases t : q.at_ = m
    · have dt : (q.at_ == (m : Int)) = true := by rw [t]; simp
      have HT := Lib.hid t
      clear t
      gi_wp2_with (fail)
      refine ⟨?_, rfl, _, hR9, Lib.hid (by rw [HYX.out HT.out]; exact HU.out)⟩
      exact (RStep.setCell _ _ _ (fun h => h)).trans (RStep.setCell _ _ _ (fun h => h))
    · have dt : (q.at_ == (m : Int)) = false := beq_false_of_ne t
      have HT := Lib.hid t
      clear t
      gi_wp2_with (fail)
      exact ⟨RStep.refl _ _ _, HRBb, Lib.hid (HNX.out HT.out)⟩
  case hstop =>
    rintro D cc k W hD _ ⟨rfl, u, hR, hU⟩ hDm
    gi_wp2_with (fail)
    refine leaves_marks _ _ (lo := w.heap.size) ⟨D, rfl, by omega, hDm, by simp, trivial⟩ ?_
    rintro W' o1 o2 o3 o4 o5
    have hst : IStep w.heap.size W W' := istep_marks o1 o2 o3 o4 o5
    have hR9 := hR.out.istep hst (Nat.le_refl _)
    obtain ⟨A9, c9, e9, _⟩ := id hU.out
    exact ⟨_, rd_out rfl rfl rfl (hR9.r.cell rfl) (hR9.e.cell rfl) ⟨_, _, _, e9⟩ ⟨_, rfl⟩, _, rfl, hU.out.upb hR9.bel, hR9.bel⟩
  case hdone =>
    rintro D W hD ⟨hR, hN⟩ hDm
    have HRL := Lib.hid (show r0 = ss[m] by rw [HR2.out, Dv.lastW_no (fun j hj => hN.out j (by rw [dW_length]; omega) hj)])
    obtain ⟨b, off, A', c', hA, hb, hcs0, hbs⟩ := bs_at H1.out hml
    have hcs := ((bcell hR.out.bel).1 b (off + m) hb).trans hcs0
    have hbW : b < W.heap.size := Nat.lt_of_lt_of_le hb hR.out.bel.size
    subst hA
    clear hcs0
    have H3 := Lib.hid (hbs)
    have HDC2 := HDC.out
    subst HDC2
    clear hbs hN
    generalize ss[m] = s at *
    obtain rfl := HRL.out
    have k0 := hR.out.d.cell (k := 0) rfl
    have ka := hR.out.a.cell (k := 0) rfl
    have hc4 := hR.out.r.cell (k := 0) rfl
    have hf4 := hR.out.r.frozen 0
    have hc5 := hR.out.e.cell (k := 0) rfl
    have hf5 := hR.out.e.frozen 0
    have HR9 := Lib.hid (hR.out.store (.slice A' r0.length c') (.int .i64 0))
    have HDM := Lib.hid ((KeepsOthers.setCell _ ⟨w.heap.size + 1 + 1 + 1, 0, none⟩ (.int .i64 0)).same D _ ((KeepsOthers.setCell W ⟨w.heap.size + 1 + 1, 0, none⟩ (.slice A' r0.length c')).same D _ hDm rfl) rfl)
    have HBW := Lib.hid hR.out.bel
    gi_wp2_with (fail)
    refine leaves_marks _ _ (lo := w.heap.size) ⟨D, rfl, by omega, HDM.out, by simp, trivial⟩ ?_
    rintro W' o1 o2 o3 o4 o5
    have hst : IStep w.heap.size _ W' := istep_marks o1 o2 o3 o4 o5
    have hR9 := HR9.out.istep hst (Nat.le_refl _)
    exact ⟨_, rd_out rfl rfl rfl (hR9.r.cell rfl) (hR9.e.cell rfl) ⟨_, _, _, rfl⟩ ⟨_, rfl⟩, _, rfl, H3.out.upb hR9.bel, hR9.bel⟩
end Go.Proofs.Ytimpnpdhhhbmgaa
