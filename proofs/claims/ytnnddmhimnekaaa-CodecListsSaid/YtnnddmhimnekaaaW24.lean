/- Walk of the reference's Value: lists. -/
import Derived.Test.YtnnddmhimnekaaaW23
import Derived.Test.YtnnddmhimnekaaaW13
import Derived.Test.YtnnddmhimnekaaaPlain5
namespace Go.Proofs.Ytnnddmhimnekaaa
open Go.RowKit
set_option linter.unusedVariables false
set_option linter.unusedSimpArgs false

theorem val3_bad {d : Nat} {c : UInt8} {bs : List UInt8} (hc : c.toNat = 3) {n : Nat} {t : List UInt8} {bad : Bool} (h : NumR (Cd.numD 0 0 bs) n t bad) (hb : (bad = true ∨ t.length < n) ∨ d = 0) : Cd.valD d (c :: bs) = none := by
  cases d with
  | zero => exact Cd.valD_c0 c bs hc
  | succ d =>
    rw [Cd.valD_c d c bs hc]
    unfold Cd.lenD
    unfold NumR at h
    cases hn : Cd.numD 0 0 bs with
    | none => rfl
    | some p =>
      rw [hn] at h
      obtain ⟨rfl, rfl⟩ := h
      simp only [if_neg (show ¬ n ≤ t.length by simpa using hb)]
theorem val3_ok {d : Nat} {c : UInt8} {bs : List UInt8} (hc : c.toNat = 3) {n : Nat} {t : List UInt8} (h : NumR (Cd.numD 0 0 bs) n t false) (hb : n ≤ t.length) : Cd.valD (d + 1) (c :: bs) = (match Cd.repD (Cd.valD d) n t with
      | some (l, t) => some (.mk 3 0 ByteArray.empty l, t)
      | none => none) := by
  rw [Cd.valD_c d c bs hc]
  unfold Cd.lenD
  unfold NumR at h
  cases hn : Cd.numD 0 0 bs with
  | none => rw [hn] at h; cases h
  | some p =>
    rw [hn] at h
    obtain ⟨rfl, _⟩ := h
    simp only [if_pos hb]
    cases Cd.repD (Cd.valD d) n t <;> rfl

/-- the list that is read, so far -/
def RepS (R : Option (List Cd.Vl × List UInt8)) (f : List UInt8 → Option (Cd.Vl × List UInt8)) (m : Nat) (acc : List Cd.Vl) (cs : List UInt8) (bad : Bool) : Prop := if bad = true then R = none else R = joinR acc (Cd.repD f m cs)
theorem RepS.start (f : List UInt8 → Option (Cd.Vl × List UInt8)) (n : Nat) (t : List UInt8) : RepS (Cd.repD f n t) f n [] t false := by
  unfold RepS joinR
  cases Cd.repD f n t <;> simp
theorem RepS.step {R : Option (List Cd.Vl × List UInt8)} {f : List UInt8 → Option (Cd.Vl × List UInt8)} {m : Nat} {acc : List Cd.Vl} {cs t : List UInt8} {x : Cd.Vl} {bad : Bool} (h : RepS R f (m + 1) acc cs false)
    (hx : match f cs with
    | some p => p = (x, t) ∧ bad = false
    | none => bad = true) : RepS R f m (acc ++ [x]) t bad := by
  have h' : R = joinR acc (Cd.repD f (m + 1) cs) := by simpa [RepS] using h
  cases hf : f cs with
  | none =>
    rw [hf] at hx
    subst hx
    rw [rep_none hf] at h'
    simpa [RepS] using h'
  | some p =>
    rw [hf] at hx
    obtain ⟨rfl, rfl⟩ := hx
    rw [rep_some hf] at h'
    simpa [RepS] using h'
theorem RepS.done {R : Option (List Cd.Vl × List UInt8)} {f : List UInt8 → Option (Cd.Vl × List UInt8)} {m : Nat} {acc : List Cd.Vl} {cs : List UInt8} {bad : Bool} (h : RepS R f m acc cs bad) (hm : m = 0 ∨ bad = true) : match (match R with
      | some (l, t) => some (Cd.Vl.mk 3 0 ByteArray.empty l, t)
      | none => none) with
    | some p => p = (.mk 3 0 ByteArray.empty acc, cs) ∧ bad = false
    | none => bad = true := by
  cases bad with
  | true =>
    have h' : R = none := by simpa [RepS] using h
    rw [h']
  | false =>
    have hm0 : m = 0 := by simpa using hm
    subst hm0
    have h' : R = some (acc, cs) := by simpa [RepS, joinR, Cd.repD] using h
    rw [h']
    exact ⟨rfl, rfl⟩

theorem Sr.grows {base h : Nat} {w X X' : World} {a b c d : Value} {all bs : List UInt8} {bad : Bool} (k : Sr base h w X a b c d all bs bad) (hbh : base ≤ h) {r : Option Nat} (hg : X.grownBy X' r) (hr : ∀ g, r = some g → w.heap.size < g) : Sr base h w X' a b c d all bs bad := by
  have hl := k.hl
  have hlt := k.four.lt
  have old : ∀ q, q ≤ w.heap.size → X'.heap[q]? = X.heap[q]? := fun q hq => hg.block q (by omega) (fun e => by have := hr q e.symm; omega)
  exact ⟨(old _ (Nat.le_refl _)).trans k.four, k.rd.keep hbh (fun b hb => old b (by omega)) hg.os hg.tape hg.output hg.size, ⟨hg.os.trans k.gr.os, hg.tape.trans k.gr.tape, hg.output.trans k.gr.output, Nat.le_trans k.gr.size hg.size, fun q hq hne => (old q (by omega)).trans (k.gr.block q hq hne)⟩, hl⟩
theorem Sr.alloc {base h : Nat} {w X : World} {a b c d : Value} {all bs : List UInt8} {bad : Bool} (k : Sr base h w X a b c d all bs bad) (hbh : base ≤ h) (o : Obj) : Sr base h w (X.alloc o) a b c d all bs bad := k.grows hbh (World.grownBy_alloc X o none) (fun g e => by cases e)
theorem Sr.set3 {base h : Nat} {w X : World} {a b c d : Value} {all bs : List UInt8} {bad : Bool} (k : Sr base h w X a b c d all bs bad) (hbh : base ≤ h) (x : Value) : Sr base h w (X.setCell ⟨w.heap.size, 3, none⟩ x) a b c x all bs bad :=
  ⟨k.four.set3 x, k.rd.grows hbh (grown_setAt X w.heap.size 3 x) (fun g e => by injection e with e; have := k.hl; omega), grown_setNew k.gr 3 x, k.hl⟩

set_option maxRecDepth 100000 in
set_option maxHeartbeats 4000000 in
theorem rvalue_3 (base h d : Nat) (dp : Int) (all : List UInt8) (c : UInt8) (bs : List UInt8) (w : World) (hr : Rs base h w all (c :: bs) false) (hbh : base ≤ h) (hlen : all.length ≤ 1000000) (hc : c.toNat = 3) (hdp : dp = 16 - (d : Int)) (hd16 : d ≤ 16)
    (ih : ∀ d', d = d' + 1 → ∀ (bs : List UInt8) (w : World), Rs base h w all bs false → Calls Try.prog 34 #[.pointer (some ⟨h, 0, none⟩), .int .i64 (dp + 1)] w (WPost base h w all (Cd.valD d' bs))) :
    Calls Try.prog 34 #[.pointer (some ⟨h, 0, none⟩), .int .i64 dp] w (WPost base h w all (Cd.valD d (c :: bs))) := by
  have HI := Lib.hid ih
  clear ih
  have HDP := Lib.hid hdp
  have hdp1 : dp ≤ 16 := by omega
  have hdp3 : 0 ≤ dp := by omega
  clear hdp
  have HS := Lib.hid (Sr.start hr hbh (.int .i64 0) (.int .i64 0) (.string ByteArray.empty) (.slice none 0 0))
  have HC := Lib.hid hc
  clear hr
  go_enter Try.func34, Try.ntmps34
  go_wp2_with (fail)
  refine (next_is base h all c 3 (by omega) bs false _ HS.out.rd hbh hlen).mono ?_
  rintro e w1 ⟨rfl, hr1, hg1⟩
  have HS1 := Lib.hid (HS.out.reads hr1 hg1)
  clear hr1 hg1
  go_wp2_with (fail)
  refine (refNumber_all base h all bs _ HS1.out.rd hbh hlen).mono ?_
  rintro e w2 ⟨hg2, n, t, bad, hn, rfl, hr2, hnr⟩
  have HN := Lib.hid hnr
  have HS2 := Lib.hid (HS1.out.reads hr2 hg2)
  obtain ⟨pre, v, he, hT, hI⟩ := hr2
  obtain ⟨A, cp, rfl, i1, i2, _, _⟩ := hI
  have t0 := hT.c0
  have t1 := hT.c1
  have t2 := hT.c2
  have f2 := hT.fr 2
  have f1 := hT.fr 1
  have hal : all.length = pre.length + t.length := by rw [he]; simp
  have hal1 : all.length ≤ pre.length + t.length := by omega
  have hal2 : pre.length + t.length ≤ all.length := by omega
  clear hg2 hnr hT he hal
  have q0 := HS2.out.four.c0
  have q1 := HS2.out.four.c1
  have q2 := HS2.out.four.c2
  have q3 := HS2.out.four.c3
  have k0 := HS2.out.four.f0 0
  have k1 := HS2.out.four.f0 1
  have k2 := HS2.out.four.f0 2
  have k3 := HS2.out.four.f0 3
  have hsub : IntKind.i64.wrap ((all.length : Int) - (pre.length : Int)) = (t.length : Int) := by rw [IntKind.wrap_i64]; omega
  have hu : IntKind.u64.wrap (t.length : Int) = (t.length : Int) := by rw [IntKind.wrap_u64]; omega
  cases bad with
  | true =>
    have HX := Lib.hid (val3_bad (d := d) HC.out HN.out (.inl (.inl rfl)))
    go_wp2_with (fail)
    go_quiet (fail)
    clear hsub hu
    clear q0 q1 q2 q3 k0 k1 k2 k3
    have HB := Lib.hid ((HS2.out.drewN nq).bad hbh true)
    have q0 := HB.out.four.c0
    have q1 := HB.out.four.c1
    have q2 := HB.out.four.c2
    have q3 := HB.out.four.c3
    have k0 := HB.out.four.f0 0
    have k1 := HB.out.four.f0 1
    have k2 := HB.out.four.f0 2
    have k3 := HB.out.four.f0 3
    go_wp2_with (fail)
    clear q0 q1 q2 q3 k0 k1 k2 k3
    have HB2 := Lib.hid (HB.out.set4 hbh (.int .i64 0) (.int .i64 0) (.string ⟨#[]⟩) (.slice none 0 0))
    have q0 := HB2.out.four.c0
    have q1 := HB2.out.four.c1
    have q2 := HB2.out.four.c2
    have q3 := HB2.out.four.c3
    have k0 := HB2.out.four.f0 0
    have k1 := HB2.out.four.f0 1
    have k2 := HB2.out.four.f0 2
    have k3 := HB2.out.four.f0 3
    refine ⟨rfl, V0, ?_, HB2.out.gr, ?_⟩
    · simp [results, Try.results34, go_sem, q0, q1, q2, q3]
    · rw [HX.out]
      exact ⟨_, .mk 0 0 ByteArray.empty [], t, true, rfl, IsV.of IsVs.nil, HB2.out.rd, rfl⟩
  | false =>
    by_cases hle : n ≤ t.length
    · have hd : decide ((t.length : Int) < (n : Int)) = false := by simp; omega
      have hd' : decide (t.length < n) = false := by simp; omega
      cases d with
      | zero =>
        have HX := Lib.hid (val3_bad (d := 0) HC.out HN.out (.inr rfl))
        have h16 : (dp == 16) = true := by rw [beq_iff_eq]; have := HDP.out; omega
        go_wp2_with (fail)
        go_quiet (fail)
        clear hsub hu
        clear q0 q1 q2 q3 k0 k1 k2 k3
        have HB := Lib.hid ((HS2.out.drewN nq).bad hbh true)
        have q0 := HB.out.four.c0
        have q1 := HB.out.four.c1
        have q2 := HB.out.four.c2
        have q3 := HB.out.four.c3
        have k0 := HB.out.four.f0 0
        have k1 := HB.out.four.f0 1
        have k2 := HB.out.four.f0 2
        have k3 := HB.out.four.f0 3
        go_wp2_with (fail)
        clear q0 q1 q2 q3 k0 k1 k2 k3
        have HB2 := Lib.hid (HB.out.set4 hbh (.int .i64 0) (.int .i64 0) (.string ⟨#[]⟩) (.slice none 0 0))
        have q0 := HB2.out.four.c0
        have q1 := HB2.out.four.c1
        have q2 := HB2.out.four.c2
        have q3 := HB2.out.four.c3
        have k0 := HB2.out.four.f0 0
        have k1 := HB2.out.four.f0 1
        have k2 := HB2.out.four.f0 2
        have k3 := HB2.out.four.f0 3
        refine ⟨rfl, V0, ?_, HB2.out.gr, ?_⟩
        · simp [results, Try.results34, go_sem, q0, q1, q2, q3]
        · rw [HX.out]
          exact ⟨_, .mk 0 0 ByteArray.empty [], t, true, rfl, IsV.of IsVs.nil, HB2.out.rd, rfl⟩
      | succ d =>
        have HX := Lib.hid (val3_ok (d := d) HC.out HN.out hle)
        have h16 : (dp == 16) = false := by rw [beq_eq_false_iff_ne]; have := HDP.out; omega
        have hdp2 : dp < 16 := by have := HDP.out; omega
        have hwr : IntKind.i64.wrap (dp + 1) = dp + 1 := by rw [IntKind.wrap_i64]; omega
        go_wp2_with (fail)
        go_quiet (fail)
        clear hsub hu t0 t1 t2 f1 f2 hd hd' h16
        clear q0 q1 q2 q3 k0 k1 k2 k3
        have HY := Lib.hid (HS2.out.drewN nq)
        generalize hY : w2.drewN nq = Y at *
        have HL := Lib.hid (Sr.start HY.out.rd hbh (.int .i64 3) (.int .i64 0) (.string ⟨#[]⟩) (.slice none 0 0))
        have hlt8 := HY.out.four.lt
        have hhw := HY.out.hl
        clear hY
        go_wp2_with (fail)
        go_loopw [9] (fun i wr => ∃ (j : Nat) (cs : List UInt8) (acc : List Cd.Vl) (lv : Value) (bad : Bool), j ≤ n ∧ i = .int .u64 j ∧ acc.length = j ∧ Hid (Sr base h Y wr (.int .i64 3) (.int .i64 0) (.string ⟨#[]⟩) lv all cs bad) ∧ Hid (OwnVs wr (Y.heap.size + 1) lv acc) ∧ Hid (RepS (Cd.repD (Cd.valD d) n t) (Cd.valD d) (n - j) acc cs bad)) (fun i _ => n - (intOf i).toNat)
        case atStart => exact ⟨0, t, [], .slice none 0 0, false, Nat.zero_le _, rfl, rfl, HL, OwnVs.nil _ _, Lib.hid (RepS.start _ _ _)⟩
        case round =>
          obtain ⟨j, cs, acc, lv, bad, hj, rfl, hacc, HSr, HO, HR⟩ := hrel
          subst hacc
          clear HL
          have hb2 := HSr.out.rd.c2
          by_cases hgo : acc.length < n ∧ bad = false
          · obtain ⟨hlt, rfl⟩ := hgo
            have HC := Lib.hid (HI.out d rfl cs wr.drew HSr.out.drew.rd)
            have h3 := HSr.out.four.c3
            obtain ⟨Al, cl, rfl⟩ := HO.out.slice
            have hlo := HSr.out.four.lt
            go_wp2_with (fail)
            go_region_law (first
              | (refine step_fn2 (by rfl) (.func 34) (.tmp 130) (.tmp 132) _ (by rfl) 34 [] (by rfl) _ _ (by rfl) (by rfl) (enters_of Try.func34 (by kernel_rfl) rfl) HC.out ?_
                 rintro e X2 ⟨hg2, v2, x, r, bad2, rfl, hv2, hr2, hx2⟩
                 refine ⟨v2, rfl, ?_⟩
                 have HX2 := Lib.hid hx2
                 have HV2 := Lib.hid (fresh_but hv2 HO.out.drew hlo)
                 obtain ⟨A2, c2, rfl, _⟩ := hv2.opens
                 have HS4 := Lib.hid (HSr.out.drew.reads hr2 hg2)
                 have HO4 := Lib.hid (HO.out.drew.kept hg2 (fun k e => by injection e with e; omega))
                 have h34 := HS4.out.four.c3
                 have h34a := (HS4.out.alloc hbh (.cells #[.int .i64 x.kind, .int .i64 x.num, .string x.str, .slice A2 x.elems.length c2] 24)).four.c3
                 clear hg2 hr2 hx2)
              | (refine step_pushV (by rfl) (.tmp 129) (.tmp 134) (by rfl) (Y.heap.size + 1) (.slice Al acc.length cl) acc (HO4.out.alloc _) (_, _, _, _) x (HV2.out.under ((Below.refl _ X2).alloc (Nat.le_refl _) _)) X2.heap.size (by rfl) (by rfl) (Four.new X2 _ _ _ _) (by omega) (by have := HS4.out.four.lt; simp; omega) ?_
                 intro v3 X3 hp
                 have HS5 := Lib.hid ((HS4.out.alloc hbh _).grows hbh hp.grown (fun g e => by have := (HO4.out.lt g e).1; omega))
                 have HO5 := Lib.hid hp.own
                 obtain ⟨A3, c3, rfl⟩ := hp.own.slice
                 have h35 := HS5.out.four.c3
                 have hf5 := HS5.out.four.f0 3
                 clear hp))
            all_goals
              have HS6 := Lib.hid (HS5.out.set3 hbh (.slice A3 (acc.length + 1) c3))
              have HO6 := Lib.hid (HO5.out.kept (grown_setAt X3 Y.heap.size 3 (.slice A3 (acc.length + 1) c3)) (fun k e => by injection e with e; omega))
              clear h34 h34a h35 hf5 h3 hb2
              go_wp2_with (fail)
              go_roundw
              case rel => exact ⟨acc.length + 1, r, acc ++ [x], .slice A3 (acc.length + 1) c3, bad2, by omega, by go_num, by simp, HS6, Lib.hid (by have h := HO6.out; simpa using h), Lib.hid (RepS.step (by rw [show n - (acc.length + 1) + 1 = n - acc.length by omega]; exact HR.out) HX2.out)⟩
              case measure => first | omega | (simp [intOf]; done) | (simp [intOf]; omega)
          · have HE := Lib.hid (RepS.done HR.out (by
              rcases Nat.lt_or_ge acc.length n with h | h
              · right; simpa [h] using hgo
              · left; omega))
            obtain ⟨Al, cl, rfl⟩ := HO.out.slice
            have HS5 := Lib.hid (HY.out.reads HSr.out.rd HSr.out.gr)
            have HS6 := Lib.hid (HS5.out.set4 hbh (.int .i64 3) (.int .i64 0) (.string ⟨#[]⟩) (.slice Al acc.length cl))
            have HO6 := Lib.hid (HO.out.kept (grown_set4 wr w.heap.size (.int .i64 3) (.int .i64 0) (.string ⟨#[]⟩) (.slice Al acc.length cl)) (fun k e => by injection e with e; omega))
            have q0 := HSr.out.four.c0
            have q1 := HSr.out.four.c1
            have q2 := HSr.out.four.c2
            have q3 := HSr.out.four.c3
            have m0 := HS5.out.four.c0
            have m1 := HS5.out.four.c1
            have m2 := HS5.out.four.c2
            have m3 := HS5.out.four.c3
            have k0 := HS5.out.four.f0 0
            have k1 := HS5.out.four.f0 1
            have k2 := HS5.out.four.f0 2
            have k3 := HS5.out.four.f0 3
            rcases Nat.lt_or_ge acc.length n with hlt | hge
            · have hbt : bad = true := by simpa [hlt] using hgo
              subst hbt
              clear hgo
              go_wp2_with (fail)
              clear q0 q1 q2 q3 k0 k1 k2 k3 m0 m1 m2 m3 hb2
              have h0 := HS6.out.four.c0
              have h1 := HS6.out.four.c1
              have h2 := HS6.out.four.c2
              have h3 := HS6.out.four.c3
              refine ⟨rfl, .agg #[.int .i64 3, .int .i64 0, .string ⟨#[]⟩, .slice Al acc.length cl], ?_, HS6.out.gr, ?_⟩
              · simp [results, Try.results34, go_sem, h0, h1, h2, h3]
              · rw [HX.out]
                exact ⟨_, .mk 3 0 ByteArray.empty acc, cs, true, rfl, IsV.of (HO6.out.vals.mono (fun b _ hb => by omega)), HS6.out.rd, by have h := HE.out; revert h; cases Cd.repD (Cd.valD d) n t <;> (intro h; first | (simp; done) | (simp at h; done))⟩
            · clear hgo hb2
              go_wp2_with (fail)
              clear q0 q1 q2 q3 k0 k1 k2 k3 m0 m1 m2 m3
              have h0 := HS6.out.four.c0
              have h1 := HS6.out.four.c1
              have h2 := HS6.out.four.c2
              have h3 := HS6.out.four.c3
              refine ⟨rfl, .agg #[.int .i64 3, .int .i64 0, .string ⟨#[]⟩, .slice Al acc.length cl], ?_, HS6.out.gr, ?_⟩
              · simp [results, Try.results34, go_sem, h0, h1, h2, h3]
              · rw [HX.out]
                exact ⟨_, .mk 3 0 ByteArray.empty acc, cs, bad, rfl, IsV.of (HO6.out.vals.mono (fun b _ hb => by omega)), HS6.out.rd, HE.out⟩
    · have HX := Lib.hid (val3_bad (d := d) HC.out HN.out (.inl (.inr (by omega))))
      have hd : decide ((t.length : Int) < (n : Int)) = true := by simp; omega
      have hd' : decide (t.length < n) = true := by simp; omega
      go_wp2_with (fail)
      go_quiet (fail)
      clear hsub hu
      clear q0 q1 q2 q3 k0 k1 k2 k3
      have HB := Lib.hid ((HS2.out.drewN nq).bad hbh true)
      have q0 := HB.out.four.c0
      have q1 := HB.out.four.c1
      have q2 := HB.out.four.c2
      have q3 := HB.out.four.c3
      have k0 := HB.out.four.f0 0
      have k1 := HB.out.four.f0 1
      have k2 := HB.out.four.f0 2
      have k3 := HB.out.four.f0 3
      go_wp2_with (fail)
      clear q0 q1 q2 q3 k0 k1 k2 k3
      have HB2 := Lib.hid (HB.out.set4 hbh (.int .i64 0) (.int .i64 0) (.string ⟨#[]⟩) (.slice none 0 0))
      have q0 := HB2.out.four.c0
      have q1 := HB2.out.four.c1
      have q2 := HB2.out.four.c2
      have q3 := HB2.out.four.c3
      have k0 := HB2.out.four.f0 0
      have k1 := HB2.out.four.f0 1
      have k2 := HB2.out.four.f0 2
      have k3 := HB2.out.four.f0 3
      refine ⟨rfl, V0, ?_, HB2.out.gr, ?_⟩
      · simp [results, Try.results34, go_sem, q0, q1, q2, q3]
      · rw [HX.out]
        exact ⟨_, .mk 0 0 ByteArray.empty [], t, true, rfl, IsV.of IsVs.nil, HB2.out.rd, rfl⟩

/-- whatever the bytes, the reference reads what the plain law reads -/
theorem rvalue_any (base h : Nat) (all : List UInt8) (hbh : base ≤ h) (hlen : all.length ≤ 1000000) : ∀ (d : Nat) (hd : d ≤ 16) (bs : List UInt8) (w : World), Rs base h w all bs false →
    Calls Try.prog 34 #[.pointer (some ⟨h, 0, none⟩), .int .i64 (16 - (d : Int))] w (WPost base h w all (Cd.valD d bs))
  | d, hd, [], w, hr => rvalue_nil base h d _ all w hr hbh hlen
  | d, hd, c :: bs, w, hr => by
    by_cases h1 : c.toNat = 1
    · exact rvalue_1 base h d _ all c bs w hr hbh hlen h1
    · by_cases h2 : c.toNat = 2
      · exact rvalue_2 base h d _ all c bs w hr hbh hlen h2
      · by_cases h3 : c.toNat = 3
        · refine rvalue_3 base h d _ all c bs w hr hbh hlen h3 rfl hd (fun d' e bs' w' hr' => ?_)
          have := rvalue_any base h all hbh hlen d' (by omega) bs' w' hr'
          rw [show (16 : Int) - (d : Int) + 1 = 16 - (d' : Int) by omega]
          exact this
        · exact rvalue_x base h d _ all c bs w hr hbh hlen h1 h2 h3
termination_by d => d
decreasing_by omega

end Go.Proofs.Ytnnddmhimnekaaa
