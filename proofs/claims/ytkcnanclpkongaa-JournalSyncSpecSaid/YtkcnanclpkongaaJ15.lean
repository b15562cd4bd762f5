/- Walk of the iterator of records. -/
import Derived.Test.YtkcnanclpkongaaJD
import Derived.Test.YtkcnanclpkongaaIA
import Derived.Scope
import Derived.WalkMore
import Derived.OwnWalkIn
namespace Go.Proofs.Ytkcnanclpkongaa
open Go.RowKit
set_option linter.unusedVariables false
set_option linter.unusedSimpArgs false
set_option maxRecDepth 20000

theorem wpIn_scope_wide {P : Program} {c : Code} {Q : Exit → Act → World → Prop} {a : Act} {w : World} (h : c.wpIn Fence.wide 0 P (Exit.noGoto Q) a w) : (Code.scope c).wpIn Fence.wide 0 P Q a w :=
  wpIn_wide.2 (wp_scope_straight (wpIn_wide.1 h))
def RelR (base : Nat) : By → Array Value → World → Prop := fun b xv A => ∃ (z : Int) (u : Value), xv = #[.int .i64 z, u] ∧ OwnBytes A base u b
structure BW (w : World) where
  x : World
  h : Below w.heap.size w x
instance (w : World) : Nonempty (BW w) := ⟨⟨w, Below.refl _ w⟩⟩
theorem BW.call {w : World} {n : BW w} {f : Nat} {args : Array Value} {v : Value} {R : Ending → World → Prop} (h : Calls Try.prog f args n.x R) (hR : ∀ e w', R e w' → e = .returned v ∧ Below n.x.heap.size n.x w') :
    Calls Try.prog f args n.x fun e w'' => e = .returned v ∧ ∃ m : BW w, w'' = m.x :=
  h.mono fun e w' hr => ⟨(hR e w' hr).1, ⟨w', n.h.trans ((hR e w' hr).2.mono n.h.size)⟩, rfl⟩
theorem BW.start (w : World) : ∃ n : BW w, w.drew = n.x := ⟨⟨w.drew, below_drewN (Below.refl _ _) 1⟩, rfl⟩
/-- a region that draws, reads, and calls what keeps the world -/
theorem wp_region_kept {id : Nat} {Q : Exit → Act → World → Prop} {a : Act} {w : World} {l : List Oper} (hB : Region.lexB .any l.toArray = true)
    (h : wpQuiet Try.prog l.toArray (fun X => ∃ n : BW w, X = n.x) (fun a' => ∀ w', (∃ n : BW w, w' = n.x) → Q .normal a' w') l a) : (Code.region id l.toArray true).wp Try.prog Q a w :=
  wp_region_quiet (C := fun X => ∃ n : BW w, X = n.x) (by kernel_rfl) hB (BW.start w) (by simpa using h)
theorem BW.cell {w : World} {b o : Nat} {v : Value} (h : w.cell? ⟨b, o, none⟩ = some v) (n : BW w) : n.x.cell? ⟨b, o, none⟩ = some v := (n.h.cell (p := ⟨b, o, none⟩) (cell_lt h)).trans h
def protR (bx n0 : Nat) : Nat → Prop := fun b => b = bx ∨ b < n0
theorem RowAt.keepR {w0 W W' : World} {bx : Nat} {A : Option Addr} {cs : List Value} (h : RowAt w0 A cs) (hb : Below w0.heap.size w0 W) (hs : RStep W.heap.size (protR bx w0.heap.size) W W') : RowAt W' A cs := by
  refine h.keep (Nat.le_trans hb.size hs.size) (fun b hlt => ?_)
  have h1 := hb.block b hlt
  rw [← h1, Array.getElem?_eq_getElem (Nat.lt_of_lt_of_le hlt hb.size)]
  exact hs.block b _ (Array.getElem?_eq_getElem _) (.inr (.inr hlt))
theorem IsBytes.keepR {w0 W W' : World} {bx : Nat} {v : Value} {bs : By} (h : IsBytes w0 v bs) (hb : Below w0.heap.size w0 W) (hs : RStep W.heap.size (protR bx w0.heap.size) W W') : IsBytes W' v bs := by
  obtain ⟨A, c, e, hc, hr⟩ := h
  exact ⟨A, c, e, hc, hr.keepR hb hs⟩
theorem IsBs.keepR {w0 W W' : World} {bx : Nat} {v : Value} {ss : List By} (h : IsBs w0 v ss) (hb : Below w0.heap.size w0 W) (hs : RStep W.heap.size (protR bx w0.heap.size) W W') : IsBs W' v ss := by
  obtain ⟨A, c, vs, e, hc, hl, hr, hi⟩ := h
  exact ⟨A, c, vs, e, hc, hl, hr.keepR hb hs, fun i h h' => (hi i h h').keepR hb hs⟩
theorem drop_cons {l : List By} {k : Nat} {b : By} {r : List By} (h : l.drop k = b :: r) : ∃ hk : k < l.length, l[k] = b ∧ l.drop (k + 1) = r := by
  have hk : k < l.length := by
    rcases Nat.lt_or_ge k l.length with h1 | h1
    · exact h1
    · rw [List.drop_of_length_le h1] at h; cases h
  rw [List.drop_eq_getElem_cons hk] at h
  injection h with h1 h2
  exact ⟨hk, h1, h2⟩

theorem wpListIn_app {ops : Array Oper} {rest : List Oper} {o : Oper} {a : Act} {Q : Exit → Act → World → Prop} {F : Fence} {X : World} {R : Value → World → Prop} (hgd : o.guard = none) (s x : Operand) (T : TypeId) (v y : Value) (ho : o.op = .call { callee := .builtin .append, args := #[s, x], argTypes := #[T, T] })
    (hs : a.eval s = v) (hx : a.eval x = y) (hr : ∃ v' X', (Builtin.append_ #[T, T] o.type #[v, y]).run Try.prog X = .ok v' X' ∧ R v' X')
    (h : ∀ v' X', R v' X' → wpListIn F 0 Try.prog ops Q rest (a.put o.dst v') X') : wpListIn F 0 Try.prog ops Q (o :: rest) a X := by
  refine wpListIn_plain hgd fun K hK' => ?_
  obtain ⟨v', w', hrun, r1⟩ := hr
  unfold Oper.wpIn
  refine ⟨?_, ?_⟩
  · simp [Oper.about, ho, resolve, Target.leads, Sem.run_pure]
  · rw [Oper.semAt_plain F _ _ (by rw [ho]; intro c hc'; cases hc')]
    simp [execOp, ho, resolve, invoke, builtin, hs, hx, hrun, Result.andThen]
    exact hK' _ _ (h v' w' r1)
theorem form_kd {s : By} {k : Nat} (h : Jn.gd s k = true) : (Jn.kd s).toNat ≤ 3 := by
  unfold Jn.gd at h
  rw [decide_eq_true_eq] at h
  have h2 := h.form.k3
  rw [UInt8.le_iff_toNat_le] at h2
  exact h2
theorem good_q2 {s : By} {k : Nat} {v : Value} {w : World} {r : Bool} (hv : IsBytes w v s) (hs : s.length = 128) (hk : k ≤ 65535) (hr : Jn.gd s k = r) (n : BW w) :
    Calls Try.prog 61 #[v, .int .i64 k] n.x fun e w' => e = .returned (.bool r) ∧ Below n.x.heap.size n.x w' := by
  subst hr
  exact good_any (hv.upb n.h) hs hk
theorem get_q2 {v : Value} {bs : By} {w : World} {m : Nat} (hv : IsBytes w v bs) (hl : bs.length ≤ 4) (hm : Jn.num bs = m) (n : BW w) :
    Calls Try.prog 41 #[v] n.x fun e w' => e = .returned (.int .u64 m) ∧ Below n.x.heap.size n.x w' := by
  subst hm
  refine (get_any (hv.upb n.h) hl).mono ?_
  rintro _ _ ⟨rfl, rfl⟩
  exact ⟨rfl, Below.refl _ _⟩
set_option maxHeartbeats 16000000 in
set_option maxRecDepth 100000 in
theorem records_iter (bx : Nat) (l : List By) (A : Option Addr) (cap base : Nat) (w0 W : World) (tb : W.cell? ⟨bx, 0, none⟩ = some (.slice A l.length cap))
    (hv : IsBs w0 (.slice A l.length cap) l) (hb0 : Below w0.heap.size w0 W) (hs : S128 l) (hbase : base ≤ W.heap.size) :
    IterV Try.prog 60 #[.pointer (some ⟨bx, 0, none⟩)] (RelR base) (Jn.Records l) (protR bx w0.heap.size) W := by
  intro la J Jx hJ hJx hY h0
  have HV := Lib.hid hv
  have HS := Lib.hid hs
  have TB := Lib.hid tb
  have HY := Lib.hid hY
  have HJ := Lib.hid hJ
  have HJx := Lib.hid hJx
  have HB0 := Lib.hid hb0
  have HBA := Lib.hid hbase
  have hl4 := hs.1
  have HJ0 := Lib.hid h0
  clear hv hY hJ hJx hb0 hs hbase tb h0
  refine callsIn_of_wp Try.func60 rfl trivial ?_ rfl
  simp only [Try.ntmps60, List.size_toArray, List.length_cons, List.length_nil, Nat.reduceAdd, Nat.reduceSub, Array.replicate_succ, Array.replicate_zero, List.push_toArray, List.append_toArray, List.nil_append, List.cons_append]
  refine wpIn_scope_wide ?_
  gi_wp2
  refine wpIn_label ?_
  gi_wp2
  gi_loopw [3, 4] (fun s3 s4 wr => ∃ (a last f kk : Nat), s3 = .int .i64 a ∧ s4 = .int .u64 last ∧ a ≤ l.length ∧ last < 4294967296 ∧ Hid ((Jn.Records l).drop kk = Jn.recs l f a last) ∧ Hid (l.length + 1 ≤ f + a) ∧ Hid (kk ≤ (Jn.Records l).length) ∧ Hid (J kk wr) ∧ Hid (RStep W.heap.size (protR bx w0.heap.size) W wr)) (fun s3 _ _ => l.length - (intOf s3).toNat)
  case atStart => exact ⟨0, 0, l.length + 1, 0, rfl, rfl, Nat.zero_le _, by omega, Lib.hid rfl, Lib.hid (by omega), Lib.hid (Nat.zero_le _), HJ0, Lib.hid (RStep.refl _ _ _)⟩
  case round =>
    obtain ⟨a, last, f, kk, rfl, rfl, ha, hlast, HR, HF, HKK, HJk, HRS⟩ := hrel
    have ha4 : (a : Int) ≤ 4096 := by omega
    obtain ⟨V, hV⟩ : ∃ V, V = wr := ⟨_, rfl⟩
    subst hV
    gi_wp2
    clear HJ0
    have HO0 := Lib.hid (ownB_nil V V.heap.size)
    have HEND := Lib.hid (fun (h : Jn.recs l f a last = []) => (show kk = (Jn.Records l).length from by
      have h2 := HR.out.trans h
      have h3 := congrArg List.length h2
      rw [List.length_drop] at h3
      have := HKK.out
      simp at h3
      omega))
    have lb := cell_lt TB.out
    have TBr := Lib.hid (HRS.out.cell (.inl rfl) TB.out)
    gi_loopw [3, 4, 5, 6] (fun s3 s4 s5 s6 w2 => ∃ (n m : Nat) (out : By) (A6 : Option Addr) (c6 : Nat), s3 = .int .i64 a ∧ s4 = .int .u64 last ∧ s5 = .slice A6 out.length c6 ∧ s6 = .int .i64 m ∧ m = a + n ∧ m ≤ l.length ∧ Hid (OwnBytes w2 V.heap.size (.slice A6 out.length c6) out) ∧ Hid (Jn.rec1 l a (l.length - a - n) n out = Jn.recA l a) ∧ Hid (out.length ≤ n * 112) ∧ Hid (Below V.heap.size V w2)) (fun _ _ _ s6 _ => l.length - (intOf s6).toNat)
    case atStart => exact ⟨0, a, [], none, 0, rfl, rfl, rfl, rfl, rfl, ha, HO0, Lib.hid (by unfold Jn.recA; rfl), Lib.hid (by simp), Lib.hid (Below.refl _ _)⟩
    case round =>
      clear HO0
      obtain ⟨n, m, out, A6, c6, rfl, rfl, rfl, rfl, hm, hml, HO, HRC, HOL, HB⟩ := hrel
      have hm4 : (m : Int) ≤ 4096 := by omega
      have HMA := Lib.hid hm
      clear hm
      have tb := HB.out.cell (p := ⟨bx, 0, none⟩) (cell_lt TBr.out) |>.trans TBr.out
      by_cases hlt : m < l.length
      case neg =>
        have hd : decide ((m : Int) < (l.length : Int)) = false := decide_eq_false (by omega)
        have HE := Lib.hid (HEND.out (Jn.recs_none (Jn.recA_over (by have := HMA.out; omega) HRC.out)))
        gi_wp2
        refine bodyPost_ret (results_none rfl _ _ _) rfl ?_
        exact ⟨⟨_, rfl⟩, .inl (by rw [← HE.out]; exact HJ.out _ _ _ HJk.out (IStep.of_below HB.out))⟩
      case pos =>
        have hd : decide ((m : Int) < (l.length : Int)) = true := decide_eq_true (by omega)
        have HVr := Lib.hid (HV.out.keepR HB0.out HRS.out)
        obtain ⟨b1, o1, A7, c7, hA7, hbb1, hc1, hb1⟩ := bs_at HVr.out hlt
        subst hA7
        have h128 := HS.out.at hlt
        obtain ⟨s, hsl⟩ : ∃ s, l[m] = s := ⟨_, rfl⟩
        rw [hsl] at hc1 hb1 h128
        have HSL := Lib.hid hsl
        clear hsl
        obtain ⟨b, off, c, e8, hbw0, hS0⟩ := sc_of hb1 h128
        rw [h128] at hc1 e8
        injection e8 with e8 e9 e10
        subst e8 e10
        have hla : a < l.length := by have := HMA.out; omega
        obtain ⟨b1', o1', A9, c9, hA9, hbb9, hc9, hb9⟩ := bs_at HVr.out hla
        injection hA9 with hA9
        injection hA9 with e1 e2
        subst e1 e2
        have h129 := HS.out.at hla
        obtain ⟨t, htl⟩ : ∃ t, l[a] = t := ⟨_, rfl⟩
        rw [htl] at hc9 hb9 h129
        have HTL := Lib.hid htl
        clear htl
        obtain ⟨b', off', c', e8, hbw9, hS9⟩ := sc_of hb9 h129
        rw [h129] at hc9 e8
        injection e8 with e8 e9 e10
        subst e8 e10
        have hc1w := (HB.out.cell (p := ⟨b1, o1 + m, none⟩) (cell_lt hc1)).trans hc1
        have hc9w := (HB.out.cell (p := ⟨b1, o1 + a, none⟩) (cell_lt hc9)).trans hc9
        have HSC := Lib.hid (hS0.up HB.out)
        have HSC9 := Lib.hid (hS9.up HB.out)
        obtain ⟨q, hq⟩ : ∃ x, (Jn.kd s).toNat = x := ⟨_, rfl⟩
        obtain ⟨ln, hln⟩ : ∃ x, Jn.ln s = x := ⟨_, rfl⟩
        obtain ⟨ga, hga⟩ : ∃ x, Jn.gen s = x := ⟨_, rfl⟩
        obtain ⟨g0, hg0⟩ : ∃ x, Jn.gen t = x := ⟨_, rfl⟩
        obtain ⟨g, hg⟩ : ∃ x, Jn.gd s m = x := ⟨_, rfl⟩
        have hq2 : q < 256 := by rw [← hq]; exact (Jn.kd s).toNat_lt
        have hcs : 128 ≤ c7 := hS0.cap
        have hct : 128 ≤ c9 := hS9.cap
        have hcq := HSC.out.c10 hq
        have hcl := HSC.out.c11 hln
        have HGA := Lib.hid (show Jn.num (s.take 4) = ga from hga)
        have HG0 := Lib.hid (show Jn.num (t.take 4) = g0 from hg0)
        have HGD := Lib.hid hg
        have H128 := Lib.hid h128
        have L1 := Lib.hid (show (s.take 4).length ≤ 4 by rw [List.length_take]; omega)
        have L9 := Lib.hid (show (t.take 4).length ≤ 4 by rw [List.length_take]; omega)
        have HKM := Lib.hid (show m ≤ 65535 by omega)
        have HAN := Lib.hid (show a + n < l.length by have := HMA.out; omega)
        have HLM := Lib.hid (show l[a + n]'HAN.out = s from by have h := HMA.out; subst h; exact HSL.out)
        have HGD0 := Lib.hid (show l.getD a [] = t from by rw [List.getD_eq_getElem?_getD, List.getElem?_eq_getElem hla]; exact HTL.out)
        have HG := Lib.hid (show Jn.Goes l a n (l[a + n]'HAN.out) ↔ g = true ∧ (q % 2 = 1 ↔ n = 0) ∧ ga = g0 from by
          rw [HLM.out, goes_iff, odd_iff hq, HGD0.out, hga, hg0, ← HMA.out, hg])
        have H2 := Lib.hid (show 2 ≤ Jn.kd (l[a + n]'HAN.out) ↔ 2 ≤ q from by rw [HLM.out]; exact two_le_iff hq)
        have HGT := Lib.hid (show Jn.gen (l.getD a []) = g0 from by rw [HGD0.out, hg0])
        have HQ3 := Lib.hid (show g = true → q ≤ 3 from fun h => by rw [← hq]; exact form_kd (hg.trans h))
        have HLN := Lib.hid (show g = true → ln ≤ 112 from fun h => by rw [← hln]; exact form_ln (hg.trans h))
        have HPC := Lib.hid (show ln ≤ 112 → IsBytes wr (.slice (some ⟨b, off + 12, none⟩) ln (c7 - 12)) (Jn.pc s) ∧ (Jn.pc s).length = ln from fun h => by
          subst hln
          have h128 := H128.out
          exact ⟨bytes_sub HSC.out.is (i := 12) (j := 12 + Jn.ln s) (by omega) (by rw [h128]; omega) (by omega) (by have := hcs; omega), Jn.pc_len h128 h⟩)
        have HQ := Lib.hid hq
        have HLNQ := Lib.hid hln
        have HS0 := Lib.hid hS0
        clear hq hln hga hg0 hg hS0 hS9 hb1 hb9 hc1 hc9 h128 h129
        gi_wp2_with (fail)
        refine wpIn_wide.2 ?_
        have q0 := BW.cell hcq
        have q1 := BW.cell tb
        have q2 := BW.cell hc9w
        cases g with
        | false =>
          have HE := Lib.hid (HEND.out (Jn.recs_none (Jn.recA_stop HAN.out HRC.out (fun h => by have h := HG.out.1 h; exact absurd h.1 (by decide)))))
          refine wp_region_kept (by kernel_rfl) ?_
          repeat (go_big_quiet_step (first | exact BW.call (good_q2 HSC.out.is H128.out HKM.out HGD.out _) (fun _ _ h => h) | exact BW.call (get_q2 (bytes_sub HSC.out.is (i := 0) (j := 4) (by omega) (by rw [H128.out]; omega) rfl (by omega)) L1.out HGA.out _) (fun _ _ h => h)))
          rintro _ ⟨nq, rfl⟩
          have HB2 := Lib.hid (HB.out.trans (nq.h.mono HB.out.size))
          clear q0 q1 q2
          gi_wp2_with (fail)
          rw [Exit.noGoto_ret]
          refine bodyPost_ret (results_none rfl _ _ _) rfl ?_
          exact ⟨⟨_, rfl⟩, .inl (by rw [← HE.out]; exact HJ.out _ _ _ HJk.out (IStep.of_below HB2.out))⟩
        | true =>
          have hq3 := HQ3.out rfl
          clear HQ3
          have HQ3 := Lib.hid True.intro
          have HS4 := Lib.hid (show IsBytes wr (.slice (some ⟨b, off, none⟩) 4 c7) (s.take 4) from bytes_pre HSC.out.is (j := 4) (by rw [H128.out]; omega) rfl (by omega))
          have HT4 := Lib.hid (show IsBytes wr (.slice (some ⟨b', off', none⟩) 4 c9) (t.take 4) from bytes_pre HSC9.out.is (j := 4) (by rw [HSC9.out.len]; omega) rfl (by omega))
          have q3 := True.intro
          have hq4 : q = 0 ∨ q = 1 ∨ q = 2 ∨ q = 3 := by omega

          rcases hq4 with rfl | rfl | rfl | rfl
          · have a1 : bits .and .u8 0 1 = 0 := by first | rfl | decide
            by_cases hz : n = 0
            case pos =>
              have hz1 : ((m : Int) == (a : Int)) = true := by have := HMA.out; simp; omega
              have hz := Lib.hid hz
              have HE := Lib.hid (HEND.out (Jn.recs_none (Jn.recA_stop HAN.out HRC.out (fun h => by have h := HG.out.1 h; exact absurd (h.2.1.2 hz.out) (by decide)))))
              clear HG H2 HGT HPC HLN HQ3
              refine wp_region_kept (by kernel_rfl) ?_
              repeat (go_big_quiet_step (first | exact BW.call (good_q2 HSC.out.is H128.out HKM.out HGD.out _) (fun _ _ h => h)))
              rintro _ ⟨nq, rfl⟩
              have HB2 := Lib.hid (HB.out.trans (nq.h.mono HB.out.size))
              clear q0 q1 q2 q3
              gi_wp2_with (fail)
              rw [Exit.noGoto_ret]
              refine bodyPost_ret (results_none rfl _ _ _) rfl ?_
              exact ⟨⟨_, rfl⟩, .inl (by rw [← HE.out]; exact HJ.out _ _ _ HJk.out (IStep.of_below HB2.out))⟩
            case neg =>
              have hz1 : ((m : Int) == (a : Int)) = false := by have := HMA.out; simp; omega
              have hz := Lib.hid hz
              by_cases hge : ga = g0
              case neg =>
                have hge1 : ((ga : Int) != (g0 : Int)) = true := by rw [bne_iff_ne]; omega
                have HGE := Lib.hid hge
                have HE := Lib.hid (HEND.out (Jn.recs_none (Jn.recA_stop HAN.out HRC.out (fun h => HGE.out (HG.out.1 h).2.2))))
                clear HG H2 HGT HPC HLN HQ3 hge
                refine wp_region_kept (by kernel_rfl) ?_
                repeat (go_big_quiet_step (first | (go_at_call 61; exact BW.call (good_q2 HSC.out.is H128.out HKM.out HGD.out _) (fun _ _ h => h)) | (go_at_call 41; first | with_reducible exact BW.call (get_q2 HS4.out L1.out HGA.out _) (fun _ _ h => h) | with_reducible exact BW.call (get_q2 HT4.out L9.out HG0.out _) (fun _ _ h => h))))
                rintro _ ⟨nq, rfl⟩
                have HB2 := Lib.hid (HB.out.trans (nq.h.mono HB.out.size))
                clear q0 q1 q2 q3
                gi_wp2_with (fail)
                rw [Exit.noGoto_ret]
                refine bodyPost_ret (results_none rfl _ _ _) rfl ?_
                exact ⟨⟨_, rfl⟩, .inl (by rw [← HE.out]; exact HJ.out _ _ _ HJk.out (IStep.of_below HB2.out))⟩
              case pos =>
                have hge1 : ((ga : Int) != (g0 : Int)) = false := by rw [bne_eq_false_iff_eq]; omega
                have HGE := Lib.hid hge
                clear hge
                by_cases hgl : ga < last
                case pos =>
                  have hgl1 : decide ((ga : Int) < (last : Int)) = true := decide_eq_true (by omega)
                  have hgl2 : decide (ga < last) = true := decide_eq_true hgl
                  have HE := Lib.hid (HEND.out (Jn.recs_less (by rw [HGT.out, ← HGE.out]; exact hgl)))
                  clear HG H2 HGT HPC HLN HQ3 hgl
                  refine wp_region_kept (by kernel_rfl) ?_
                  repeat (go_big_quiet_step (first | (go_at_call 61; exact BW.call (good_q2 HSC.out.is H128.out HKM.out HGD.out _) (fun _ _ h => h)) | (go_at_call 41; first | with_reducible exact BW.call (get_q2 HS4.out L1.out HGA.out _) (fun _ _ h => h) | with_reducible exact BW.call (get_q2 HT4.out L9.out HG0.out _) (fun _ _ h => h))))
                  rintro _ ⟨nq, rfl⟩
                  have HB2 := Lib.hid (HB.out.trans (nq.h.mono HB.out.size))
                  clear q0 q1 q2 q3
                  gi_wp2_with (fail)
                  rw [Exit.noGoto_ret]
                  refine bodyPost_ret (results_none rfl _ _ _) rfl ?_
                  exact ⟨⟨_, rfl⟩, .inl (by rw [← HE.out]; exact HJ.out _ _ _ HJk.out (IStep.of_below HB2.out))⟩
                case neg =>
                  have hgl1 : decide ((ga : Int) < (last : Int)) = false := decide_eq_false (by omega)
                  have hgl2 : decide (ga < last) = false := decide_eq_false hgl
                  have HGL := Lib.hid (show ¬ Jn.gen (l.getD a []) < last by rw [HGT.out, ← HGE.out]; exact hgl)
                  have HGO := Lib.hid (HG.out.2 ⟨rfl, ⟨fun h => absurd h (by decide), fun h => absurd h hz.out⟩, HGE.out⟩)
                  have hln : ln ≤ 112 := HLN.out rfl
                  have HP := Lib.hid (HPC.out hln)
                  have HGT2 := Lib.hid (show Jn.gen (l.getD a []) = ga from HGT.out.trans HGE.out.symm)
                  clear HG HPC HLN HQ3 hgl HGT
                  refine wp_region_kept (by kernel_rfl) ?_
                  repeat (go_big_quiet_step (first | (go_at_call 61; exact BW.call (good_q2 HSC.out.is H128.out HKM.out HGD.out _) (fun _ _ h => h)) | (go_at_call 41; first | with_reducible exact BW.call (get_q2 HS4.out L1.out HGA.out _) (fun _ _ h => h) | with_reducible exact BW.call (get_q2 HT4.out L9.out HG0.out _) (fun _ _ h => h))))
                  rintro _ ⟨nq, rfl⟩
                  have HBX := Lib.hid (HB.out.trans (nq.h.mono HB.out.size))
                  replace HO := Lib.hid (HO.out.below nq.h)
                  have HPX := Lib.hid (HP.out.1.upb nq.h)
                  obtain ⟨X, hX⟩ : ∃ X, nq.x = X := ⟨_, rfl⟩
                  rw [hX] at HBX HO HPX
                  simp only [hX]
                  clear hX q0 q1 q2 q3 hcq hcl hc1w hc9w tb
                  have hcl := (HS0.out.up HBX.out).c11 HLNQ.out
                  have hln2 : (ln : Int) ≤ 112 := by omega
                  have hlc : (12 : Int) + (ln : Int) ≤ (c7 : Int) := by omega
                  have hc12 : ¬ c7 = 12 := by omega
                  have hlt2 : ((12 : Int) + (ln : Int)).toNat - 12 = ln := by omega
                  have a2 : bits .and .u8 0 2 = 0 := by first | rfl | decide
                  have HLE := Lib.hid (show out.length ≤ 1000000 by have := HOL.out; have := HMA.out; omega)
                  have HBZ := Lib.hid (show V.heap.size ≤ X.heap.size from HBX.out.size)
                  gi_wp2_with (gi_at_builtin; go_must (refine wpListIn_app rfl (.tmp 53) (.tmp 60) 35 _ _ rfl rfl rfl (appB_run (base := V.heap.size) _ HO.out HPX.out (by rw [HP.out.2]; have := HLE.out; omega) HBZ.out) ?_); rintro v2 w2 ⟨ho2, hg2, -⟩; have HO2 := Lib.hid ho2; have HB2 := Lib.hid (app_own HO.out HBX.out hg2 HBZ.out); have hcq := (HS0.out.up HB2.out).c10 HQ.out; clear ho2 hg2 hcl hlc hlt2)
                  obtain ⟨ou, hou⟩ : ∃ x, out ++ Jn.pc s = x := ⟨_, rfl⟩
                  rw [hou] at HO2
                  have HOU := Lib.hid (show out ++ Jn.pc (l[a + n]'HAN.out) = ou by rw [HLM.out]; exact hou)
                  have HOL2 := Lib.hid (show ou.length ≤ (n + 1) * 112 by rw [← hou, List.length_append, HP.out.2]; have := HOL.out; omega)
                  clear hou
                  obtain ⟨A8, c8, e2, -⟩ := own_rowAt (show w2.ownsRow V.heap.size 5 1 v2 _ _ from HO2.out)
                  subst e2
                  have HS4X := Lib.hid (show IsBytes w2 (.slice (some ⟨b, off, none⟩) 4 c7) (s.take 4) from bytes_pre (HS0.out.up HB2.out).is (j := 4) (by rw [H128.out]; omega) rfl (by omega))
                  have HR2 := Lib.hid (show Jn.rec1 l a (l.length - a - (n + 1)) (n + 1) ou = Jn.recA l a from by rw [← HOU.out]; exact Jn.recA_at HAN.out out HRC.out HGO.out (fun h => absurd (H2.out.1 h) (by decide)))
                  clear H2

                  gi_wp2_with (fail)
                  go_roundw
                  case rel => exact ⟨n + 1, m + 1, ou, A8, c8, rfl, rfl, rfl, by go_num, by have := HMA.out; omega, by omega, HO2, HR2, HOL2, HB2⟩
                  case measure => simp [intOf]; omega
          · have a1 : bits .and .u8 1 1 = 1 := by first | rfl | decide
            by_cases hz : n = 0
            case pos =>
              have hz1 : ((m : Int) == (a : Int)) = true := by have := HMA.out; simp; omega
              have hz := Lib.hid hz
              by_cases hge : ga = g0
              case neg =>
                have hge1 : ((ga : Int) != (g0 : Int)) = true := by rw [bne_iff_ne]; omega
                have HGE := Lib.hid hge
                have HE := Lib.hid (HEND.out (Jn.recs_none (Jn.recA_stop HAN.out HRC.out (fun h => HGE.out (HG.out.1 h).2.2))))
                clear HG H2 HGT HPC HLN HQ3 hge
                refine wp_region_kept (by kernel_rfl) ?_
                repeat (go_big_quiet_step (first | (go_at_call 61; exact BW.call (good_q2 HSC.out.is H128.out HKM.out HGD.out _) (fun _ _ h => h)) | (go_at_call 41; first | with_reducible exact BW.call (get_q2 HS4.out L1.out HGA.out _) (fun _ _ h => h) | with_reducible exact BW.call (get_q2 HT4.out L9.out HG0.out _) (fun _ _ h => h))))
                rintro _ ⟨nq, rfl⟩
                have HB2 := Lib.hid (HB.out.trans (nq.h.mono HB.out.size))
                clear q0 q1 q2 q3
                gi_wp2_with (fail)
                rw [Exit.noGoto_ret]
                refine bodyPost_ret (results_none rfl _ _ _) rfl ?_
                exact ⟨⟨_, rfl⟩, .inl (by rw [← HE.out]; exact HJ.out _ _ _ HJk.out (IStep.of_below HB2.out))⟩
              case pos =>
                have hge1 : ((ga : Int) != (g0 : Int)) = false := by rw [bne_eq_false_iff_eq]; omega
                have HGE := Lib.hid hge
                clear hge
                by_cases hgl : ga < last
                case pos =>
                  have hgl1 : decide ((ga : Int) < (last : Int)) = true := decide_eq_true (by omega)
                  have hgl2 : decide (ga < last) = true := decide_eq_true hgl
                  have HE := Lib.hid (HEND.out (Jn.recs_less (by rw [HGT.out, ← HGE.out]; exact hgl)))
                  clear HG H2 HGT HPC HLN HQ3 hgl
                  refine wp_region_kept (by kernel_rfl) ?_
                  repeat (go_big_quiet_step (first | (go_at_call 61; exact BW.call (good_q2 HSC.out.is H128.out HKM.out HGD.out _) (fun _ _ h => h)) | (go_at_call 41; first | with_reducible exact BW.call (get_q2 HS4.out L1.out HGA.out _) (fun _ _ h => h) | with_reducible exact BW.call (get_q2 HT4.out L9.out HG0.out _) (fun _ _ h => h))))
                  rintro _ ⟨nq, rfl⟩
                  have HB2 := Lib.hid (HB.out.trans (nq.h.mono HB.out.size))
                  clear q0 q1 q2 q3
                  gi_wp2_with (fail)
                  rw [Exit.noGoto_ret]
                  refine bodyPost_ret (results_none rfl _ _ _) rfl ?_
                  exact ⟨⟨_, rfl⟩, .inl (by rw [← HE.out]; exact HJ.out _ _ _ HJk.out (IStep.of_below HB2.out))⟩
                case neg =>
                  have hgl1 : decide ((ga : Int) < (last : Int)) = false := decide_eq_false (by omega)
                  have hgl2 : decide (ga < last) = false := decide_eq_false hgl
                  have HGL := Lib.hid (show ¬ Jn.gen (l.getD a []) < last by rw [HGT.out, ← HGE.out]; exact hgl)
                  have HGO := Lib.hid (HG.out.2 ⟨rfl, ⟨fun _ => hz.out, fun _ => rfl⟩, HGE.out⟩)
                  have hln : ln ≤ 112 := HLN.out rfl
                  have HP := Lib.hid (HPC.out hln)
                  have HGT2 := Lib.hid (show Jn.gen (l.getD a []) = ga from HGT.out.trans HGE.out.symm)
                  clear HG HPC HLN HQ3 hgl HGT
                  refine wp_region_kept (by kernel_rfl) ?_
                  repeat (go_big_quiet_step (first | (go_at_call 61; exact BW.call (good_q2 HSC.out.is H128.out HKM.out HGD.out _) (fun _ _ h => h)) | (go_at_call 41; first | with_reducible exact BW.call (get_q2 HS4.out L1.out HGA.out _) (fun _ _ h => h) | with_reducible exact BW.call (get_q2 HT4.out L9.out HG0.out _) (fun _ _ h => h))))
                  rintro _ ⟨nq, rfl⟩
                  have HBX := Lib.hid (HB.out.trans (nq.h.mono HB.out.size))
                  replace HO := Lib.hid (HO.out.below nq.h)
                  have HPX := Lib.hid (HP.out.1.upb nq.h)
                  obtain ⟨X, hX⟩ : ∃ X, nq.x = X := ⟨_, rfl⟩
                  rw [hX] at HBX HO HPX
                  simp only [hX]
                  clear hX q0 q1 q2 q3 hcq hcl hc1w hc9w tb
                  have hcl := (HS0.out.up HBX.out).c11 HLNQ.out
                  have hln2 : (ln : Int) ≤ 112 := by omega
                  have hlc : (12 : Int) + (ln : Int) ≤ (c7 : Int) := by omega
                  have hc12 : ¬ c7 = 12 := by omega
                  have hlt2 : ((12 : Int) + (ln : Int)).toNat - 12 = ln := by omega
                  have a2 : bits .and .u8 1 2 = 0 := by first | rfl | decide
                  have HLE := Lib.hid (show out.length ≤ 1000000 by have := HOL.out; have := HMA.out; omega)
                  have HBZ := Lib.hid (show V.heap.size ≤ X.heap.size from HBX.out.size)
                  gi_wp2_with (gi_at_builtin; go_must (refine wpListIn_app rfl (.tmp 53) (.tmp 60) 35 _ _ rfl rfl rfl (appB_run (base := V.heap.size) _ HO.out HPX.out (by rw [HP.out.2]; have := HLE.out; omega) HBZ.out) ?_); rintro v2 w2 ⟨ho2, hg2, -⟩; have HO2 := Lib.hid ho2; have HB2 := Lib.hid (app_own HO.out HBX.out hg2 HBZ.out); have hcq := (HS0.out.up HB2.out).c10 HQ.out; clear ho2 hg2 hcl hlc hlt2)
                  obtain ⟨ou, hou⟩ : ∃ x, out ++ Jn.pc s = x := ⟨_, rfl⟩
                  rw [hou] at HO2
                  have HOU := Lib.hid (show out ++ Jn.pc (l[a + n]'HAN.out) = ou by rw [HLM.out]; exact hou)
                  have HOL2 := Lib.hid (show ou.length ≤ (n + 1) * 112 by rw [← hou, List.length_append, HP.out.2]; have := HOL.out; omega)
                  clear hou
                  obtain ⟨A8, c8, e2, -⟩ := own_rowAt (show w2.ownsRow V.heap.size 5 1 v2 _ _ from HO2.out)
                  subst e2
                  have HS4X := Lib.hid (show IsBytes w2 (.slice (some ⟨b, off, none⟩) 4 c7) (s.take 4) from bytes_pre (HS0.out.up HB2.out).is (j := 4) (by rw [H128.out]; omega) rfl (by omega))
                  have HR2 := Lib.hid (show Jn.rec1 l a (l.length - a - (n + 1)) (n + 1) ou = Jn.recA l a from by rw [← HOU.out]; exact Jn.recA_at HAN.out out HRC.out HGO.out (fun h => absurd (H2.out.1 h) (by decide)))
                  clear H2

                  gi_wp2_with (fail)
                  go_roundw
                  case rel => exact ⟨n + 1, m + 1, ou, A8, c8, rfl, rfl, rfl, by go_num, by have := HMA.out; omega, by omega, HO2, HR2, HOL2, HB2⟩
                  case measure => simp [intOf]; omega
            case neg =>
              have hz1 : ((m : Int) == (a : Int)) = false := by have := HMA.out; simp; omega
              have hz := Lib.hid hz
              have HE := Lib.hid (HEND.out (Jn.recs_none (Jn.recA_stop HAN.out HRC.out (fun h => by have h := HG.out.1 h; exact hz.out (h.2.1.1 (by decide))))))
              clear HG H2 HGT HPC HLN HQ3
              refine wp_region_kept (by kernel_rfl) ?_
              repeat (go_big_quiet_step (first | exact BW.call (good_q2 HSC.out.is H128.out HKM.out HGD.out _) (fun _ _ h => h)))
              rintro _ ⟨nq, rfl⟩
              have HB2 := Lib.hid (HB.out.trans (nq.h.mono HB.out.size))
              clear q0 q1 q2 q3
              gi_wp2_with (fail)
              rw [Exit.noGoto_ret]
              refine bodyPost_ret (results_none rfl _ _ _) rfl ?_
              exact ⟨⟨_, rfl⟩, .inl (by rw [← HE.out]; exact HJ.out _ _ _ HJk.out (IStep.of_below HB2.out))⟩
          · have a1 : bits .and .u8 2 1 = 0 := by first | rfl | decide
            by_cases hz : n = 0
            case pos =>
              have hz1 : ((m : Int) == (a : Int)) = true := by have := HMA.out; simp; omega
              have hz := Lib.hid hz
              have HE := Lib.hid (HEND.out (Jn.recs_none (Jn.recA_stop HAN.out HRC.out (fun h => by have h := HG.out.1 h; exact absurd (h.2.1.2 hz.out) (by decide)))))
              clear HG H2 HGT HPC HLN HQ3
              refine wp_region_kept (by kernel_rfl) ?_
              repeat (go_big_quiet_step (first | exact BW.call (good_q2 HSC.out.is H128.out HKM.out HGD.out _) (fun _ _ h => h)))
              rintro _ ⟨nq, rfl⟩
              have HB2 := Lib.hid (HB.out.trans (nq.h.mono HB.out.size))
              clear q0 q1 q2 q3
              gi_wp2_with (fail)
              rw [Exit.noGoto_ret]
              refine bodyPost_ret (results_none rfl _ _ _) rfl ?_
              exact ⟨⟨_, rfl⟩, .inl (by rw [← HE.out]; exact HJ.out _ _ _ HJk.out (IStep.of_below HB2.out))⟩
            case neg =>
              have hz1 : ((m : Int) == (a : Int)) = false := by have := HMA.out; simp; omega
              have hz := Lib.hid hz
              by_cases hge : ga = g0
              case neg =>
                have hge1 : ((ga : Int) != (g0 : Int)) = true := by rw [bne_iff_ne]; omega
                have HGE := Lib.hid hge
                have HE := Lib.hid (HEND.out (Jn.recs_none (Jn.recA_stop HAN.out HRC.out (fun h => HGE.out (HG.out.1 h).2.2))))
                clear HG H2 HGT HPC HLN HQ3 hge
                refine wp_region_kept (by kernel_rfl) ?_
                repeat (go_big_quiet_step (first | (go_at_call 61; exact BW.call (good_q2 HSC.out.is H128.out HKM.out HGD.out _) (fun _ _ h => h)) | (go_at_call 41; first | with_reducible exact BW.call (get_q2 HS4.out L1.out HGA.out _) (fun _ _ h => h) | with_reducible exact BW.call (get_q2 HT4.out L9.out HG0.out _) (fun _ _ h => h))))
                rintro _ ⟨nq, rfl⟩
                have HB2 := Lib.hid (HB.out.trans (nq.h.mono HB.out.size))
                clear q0 q1 q2 q3
                gi_wp2_with (fail)
                rw [Exit.noGoto_ret]
                refine bodyPost_ret (results_none rfl _ _ _) rfl ?_
                exact ⟨⟨_, rfl⟩, .inl (by rw [← HE.out]; exact HJ.out _ _ _ HJk.out (IStep.of_below HB2.out))⟩
              case pos =>
                have hge1 : ((ga : Int) != (g0 : Int)) = false := by rw [bne_eq_false_iff_eq]; omega
                have HGE := Lib.hid hge
                clear hge
                by_cases hgl : ga < last
                case pos =>
                  have hgl1 : decide ((ga : Int) < (last : Int)) = true := decide_eq_true (by omega)
                  have hgl2 : decide (ga < last) = true := decide_eq_true hgl
                  have HE := Lib.hid (HEND.out (Jn.recs_less (by rw [HGT.out, ← HGE.out]; exact hgl)))
                  clear HG H2 HGT HPC HLN HQ3 hgl
                  refine wp_region_kept (by kernel_rfl) ?_
                  repeat (go_big_quiet_step (first | (go_at_call 61; exact BW.call (good_q2 HSC.out.is H128.out HKM.out HGD.out _) (fun _ _ h => h)) | (go_at_call 41; first | with_reducible exact BW.call (get_q2 HS4.out L1.out HGA.out _) (fun _ _ h => h) | with_reducible exact BW.call (get_q2 HT4.out L9.out HG0.out _) (fun _ _ h => h))))
                  rintro _ ⟨nq, rfl⟩
                  have HB2 := Lib.hid (HB.out.trans (nq.h.mono HB.out.size))
                  clear q0 q1 q2 q3
                  gi_wp2_with (fail)
                  rw [Exit.noGoto_ret]
                  refine bodyPost_ret (results_none rfl _ _ _) rfl ?_
                  exact ⟨⟨_, rfl⟩, .inl (by rw [← HE.out]; exact HJ.out _ _ _ HJk.out (IStep.of_below HB2.out))⟩
                case neg =>
                  have hgl1 : decide ((ga : Int) < (last : Int)) = false := decide_eq_false (by omega)
                  have hgl2 : decide (ga < last) = false := decide_eq_false hgl
                  have HGL := Lib.hid (show ¬ Jn.gen (l.getD a []) < last by rw [HGT.out, ← HGE.out]; exact hgl)
                  have HGO := Lib.hid (HG.out.2 ⟨rfl, ⟨fun h => absurd h (by decide), fun h => absurd h hz.out⟩, HGE.out⟩)
                  have hln : ln ≤ 112 := HLN.out rfl
                  have HP := Lib.hid (HPC.out hln)
                  have HGT2 := Lib.hid (show Jn.gen (l.getD a []) = ga from HGT.out.trans HGE.out.symm)
                  clear HG HPC HLN HQ3 hgl HGT
                  refine wp_region_kept (by kernel_rfl) ?_
                  repeat (go_big_quiet_step (first | (go_at_call 61; exact BW.call (good_q2 HSC.out.is H128.out HKM.out HGD.out _) (fun _ _ h => h)) | (go_at_call 41; first | with_reducible exact BW.call (get_q2 HS4.out L1.out HGA.out _) (fun _ _ h => h) | with_reducible exact BW.call (get_q2 HT4.out L9.out HG0.out _) (fun _ _ h => h))))
                  rintro _ ⟨nq, rfl⟩
                  have HBX := Lib.hid (HB.out.trans (nq.h.mono HB.out.size))
                  replace HO := Lib.hid (HO.out.below nq.h)
                  have HPX := Lib.hid (HP.out.1.upb nq.h)
                  obtain ⟨X, hX⟩ : ∃ X, nq.x = X := ⟨_, rfl⟩
                  rw [hX] at HBX HO HPX
                  simp only [hX]
                  clear hX q0 q1 q2 q3 hcq hcl hc1w hc9w tb
                  have hcl := (HS0.out.up HBX.out).c11 HLNQ.out
                  have hln2 : (ln : Int) ≤ 112 := by omega
                  have hlc : (12 : Int) + (ln : Int) ≤ (c7 : Int) := by omega
                  have hc12 : ¬ c7 = 12 := by omega
                  have hlt2 : ((12 : Int) + (ln : Int)).toNat - 12 = ln := by omega
                  have a2 : bits .and .u8 2 2 = 2 := by first | rfl | decide
                  have HLE := Lib.hid (show out.length ≤ 1000000 by have := HOL.out; have := HMA.out; omega)
                  have HBZ := Lib.hid (show V.heap.size ≤ X.heap.size from HBX.out.size)
                  gi_wp2_with (gi_at_builtin; go_must (refine wpListIn_app rfl (.tmp 53) (.tmp 60) 35 _ _ rfl rfl rfl (appB_run (base := V.heap.size) _ HO.out HPX.out (by rw [HP.out.2]; have := HLE.out; omega) HBZ.out) ?_); rintro v2 w2 ⟨ho2, hg2, -⟩; have HO2 := Lib.hid ho2; have HB2 := Lib.hid (app_own HO.out HBX.out hg2 HBZ.out); have hcq := (HS0.out.up HB2.out).c10 HQ.out; clear ho2 hg2 hcl hlc hlt2)
                  obtain ⟨ou, hou⟩ : ∃ x, out ++ Jn.pc s = x := ⟨_, rfl⟩
                  rw [hou] at HO2
                  have HOU := Lib.hid (show out ++ Jn.pc (l[a + n]'HAN.out) = ou by rw [HLM.out]; exact hou)
                  have HOL2 := Lib.hid (show ou.length ≤ (n + 1) * 112 by rw [← hou, List.length_append, HP.out.2]; have := HOL.out; omega)
                  clear hou
                  obtain ⟨A8, c8, e2, -⟩ := own_rowAt (show w2.ownsRow V.heap.size 5 1 v2 _ _ from HO2.out)
                  subst e2
                  have HS4X := Lib.hid (show IsBytes w2 (.slice (some ⟨b, off, none⟩) 4 c7) (s.take 4) from bytes_pre (HS0.out.up HB2.out).is (j := 4) (by rw [H128.out]; omega) rfl (by omega))
                  have HRA := Lib.hid (Jn.recA_end HAN.out HRC.out HGO.out (H2.out.2 (by decide)))
                  rw [HOU.out] at HRA
                  obtain ⟨f1, hf1⟩ : ∃ f1, f = f1 + 1 := ⟨f - 1, by have := HF.out; omega⟩
                  subst hf1
                  have HD := Lib.hid (HR.out.trans (Jn.recs_some HRA.out HGL.out))
                  obtain ⟨hkk, hgk, hdk⟩ := drop_cons HD.out
                  have HGK := Lib.hid hgk
                  have HDK := Lib.hid hdk
                  have HF2 := Lib.hid (show l.length + 1 ≤ f1 + (m + 1) by have := HF.out; have := HMA.out; omega)
                  have HKL := Lib.hid hkk
                  clear hgk hdk HEND H2
                  gi_wp2_with (fail)
                  refine inC (get_is HS4X.out L1.out HGA.out) ?_
                  rintro e w3 ⟨rfl, rfl⟩
                  obtain ⟨fn, tmps, assign, body, hy, hR⟩ := HY.out kk hkk w2 #[.int .i64 ((m : Int) + 1), .slice A8 ou.length c8] (HJ.out _ _ _ HJk.out (IStep.of_below HB2.out)) (by rw [HGK.out]; exact ⟨_, _, rfl, ownB_base HO2.out (Nat.le_trans HBA.out HRS.out.size)⟩)
                  have HRr := Lib.hid hR
                  clear hR
                  have HGA4 := Lib.hid (show ga < 4294967296 from by rw [← HGA.out]; exact HSC.out.num_lt.1)
                  have HDK2 := Lib.hid (show (Jn.Records l).drop (kk + 1) = Jn.recs l f1 (m + 1) ga from by rw [HDK.out, HGT2.out, HMA.out, Nat.add_assoc])
                  gi_wp2_with (fail)
                  refine ⟨rfl, HRr.out.mono ?_⟩
                  rintro e W3 (⟨rfl, hJ3, hs3⟩ | ⟨rfl, hJx3⟩)
                  · gi_wp2_with (fail)
                    go_roundw
                    case rel => exact ⟨m + 1, ga, f1, kk + 1, by go_num, rfl, by omega, HGA4.out, HDK2, HF2, HKL, Lib.hid hJ3, Lib.hid ((HRS.out.trans (RStep.of_below HB2.out)).trans hs3)⟩
                    case measure => simp [intOf]; have := HMA.out; omega
                  · gi_wp2_with (fail)
                    rw [Exit.noGoto_ret]
                    refine bodyPost_ret (results_none rfl _ _ _) rfl ?_
                    exact ⟨⟨_, rfl⟩, .inr ⟨_, hkk, hJx3⟩⟩
          · have a1 : bits .and .u8 3 1 = 1 := by first | rfl | decide
            by_cases hz : n = 0
            case pos =>
              have hz1 : ((m : Int) == (a : Int)) = true := by have := HMA.out; simp; omega
              have hz := Lib.hid hz
              by_cases hge : ga = g0
              case neg =>
                have hge1 : ((ga : Int) != (g0 : Int)) = true := by rw [bne_iff_ne]; omega
                have HGE := Lib.hid hge
                have HE := Lib.hid (HEND.out (Jn.recs_none (Jn.recA_stop HAN.out HRC.out (fun h => HGE.out (HG.out.1 h).2.2))))
                clear HG H2 HGT HPC HLN HQ3 hge
                refine wp_region_kept (by kernel_rfl) ?_
                repeat (go_big_quiet_step (first | (go_at_call 61; exact BW.call (good_q2 HSC.out.is H128.out HKM.out HGD.out _) (fun _ _ h => h)) | (go_at_call 41; first | with_reducible exact BW.call (get_q2 HS4.out L1.out HGA.out _) (fun _ _ h => h) | with_reducible exact BW.call (get_q2 HT4.out L9.out HG0.out _) (fun _ _ h => h))))
                rintro _ ⟨nq, rfl⟩
                have HB2 := Lib.hid (HB.out.trans (nq.h.mono HB.out.size))
                clear q0 q1 q2 q3
                gi_wp2_with (fail)
                rw [Exit.noGoto_ret]
                refine bodyPost_ret (results_none rfl _ _ _) rfl ?_
                exact ⟨⟨_, rfl⟩, .inl (by rw [← HE.out]; exact HJ.out _ _ _ HJk.out (IStep.of_below HB2.out))⟩
              case pos =>
                have hge1 : ((ga : Int) != (g0 : Int)) = false := by rw [bne_eq_false_iff_eq]; omega
                have HGE := Lib.hid hge
                clear hge
                by_cases hgl : ga < last
                case pos =>
                  have hgl1 : decide ((ga : Int) < (last : Int)) = true := decide_eq_true (by omega)
                  have hgl2 : decide (ga < last) = true := decide_eq_true hgl
                  have HE := Lib.hid (HEND.out (Jn.recs_less (by rw [HGT.out, ← HGE.out]; exact hgl)))
                  clear HG H2 HGT HPC HLN HQ3 hgl
                  refine wp_region_kept (by kernel_rfl) ?_
                  repeat (go_big_quiet_step (first | (go_at_call 61; exact BW.call (good_q2 HSC.out.is H128.out HKM.out HGD.out _) (fun _ _ h => h)) | (go_at_call 41; first | with_reducible exact BW.call (get_q2 HS4.out L1.out HGA.out _) (fun _ _ h => h) | with_reducible exact BW.call (get_q2 HT4.out L9.out HG0.out _) (fun _ _ h => h))))
                  rintro _ ⟨nq, rfl⟩
                  have HB2 := Lib.hid (HB.out.trans (nq.h.mono HB.out.size))
                  clear q0 q1 q2 q3
                  gi_wp2_with (fail)
                  rw [Exit.noGoto_ret]
                  refine bodyPost_ret (results_none rfl _ _ _) rfl ?_
                  exact ⟨⟨_, rfl⟩, .inl (by rw [← HE.out]; exact HJ.out _ _ _ HJk.out (IStep.of_below HB2.out))⟩
                case neg =>
                  have hgl1 : decide ((ga : Int) < (last : Int)) = false := decide_eq_false (by omega)
                  have hgl2 : decide (ga < last) = false := decide_eq_false hgl
                  have HGL := Lib.hid (show ¬ Jn.gen (l.getD a []) < last by rw [HGT.out, ← HGE.out]; exact hgl)
                  have HGO := Lib.hid (HG.out.2 ⟨rfl, ⟨fun _ => hz.out, fun _ => rfl⟩, HGE.out⟩)
                  have hln : ln ≤ 112 := HLN.out rfl
                  have HP := Lib.hid (HPC.out hln)
                  have HGT2 := Lib.hid (show Jn.gen (l.getD a []) = ga from HGT.out.trans HGE.out.symm)
                  clear HG HPC HLN HQ3 hgl HGT
                  refine wp_region_kept (by kernel_rfl) ?_
                  repeat (go_big_quiet_step (first | (go_at_call 61; exact BW.call (good_q2 HSC.out.is H128.out HKM.out HGD.out _) (fun _ _ h => h)) | (go_at_call 41; first | with_reducible exact BW.call (get_q2 HS4.out L1.out HGA.out _) (fun _ _ h => h) | with_reducible exact BW.call (get_q2 HT4.out L9.out HG0.out _) (fun _ _ h => h))))
                  rintro _ ⟨nq, rfl⟩
                  have HBX := Lib.hid (HB.out.trans (nq.h.mono HB.out.size))
                  replace HO := Lib.hid (HO.out.below nq.h)
                  have HPX := Lib.hid (HP.out.1.upb nq.h)
                  obtain ⟨X, hX⟩ : ∃ X, nq.x = X := ⟨_, rfl⟩
                  rw [hX] at HBX HO HPX
                  simp only [hX]
                  clear hX q0 q1 q2 q3 hcq hcl hc1w hc9w tb
                  have hcl := (HS0.out.up HBX.out).c11 HLNQ.out
                  have hln2 : (ln : Int) ≤ 112 := by omega
                  have hlc : (12 : Int) + (ln : Int) ≤ (c7 : Int) := by omega
                  have hc12 : ¬ c7 = 12 := by omega
                  have hlt2 : ((12 : Int) + (ln : Int)).toNat - 12 = ln := by omega
                  have a2 : bits .and .u8 3 2 = 2 := by first | rfl | decide
                  have HLE := Lib.hid (show out.length ≤ 1000000 by have := HOL.out; have := HMA.out; omega)
                  have HBZ := Lib.hid (show V.heap.size ≤ X.heap.size from HBX.out.size)
                  gi_wp2_with (gi_at_builtin; go_must (refine wpListIn_app rfl (.tmp 53) (.tmp 60) 35 _ _ rfl rfl rfl (appB_run (base := V.heap.size) _ HO.out HPX.out (by rw [HP.out.2]; have := HLE.out; omega) HBZ.out) ?_); rintro v2 w2 ⟨ho2, hg2, -⟩; have HO2 := Lib.hid ho2; have HB2 := Lib.hid (app_own HO.out HBX.out hg2 HBZ.out); have hcq := (HS0.out.up HB2.out).c10 HQ.out; clear ho2 hg2 hcl hlc hlt2)
                  obtain ⟨ou, hou⟩ : ∃ x, out ++ Jn.pc s = x := ⟨_, rfl⟩
                  rw [hou] at HO2
                  have HOU := Lib.hid (show out ++ Jn.pc (l[a + n]'HAN.out) = ou by rw [HLM.out]; exact hou)
                  have HOL2 := Lib.hid (show ou.length ≤ (n + 1) * 112 by rw [← hou, List.length_append, HP.out.2]; have := HOL.out; omega)
                  clear hou
                  obtain ⟨A8, c8, e2, -⟩ := own_rowAt (show w2.ownsRow V.heap.size 5 1 v2 _ _ from HO2.out)
                  subst e2
                  have HS4X := Lib.hid (show IsBytes w2 (.slice (some ⟨b, off, none⟩) 4 c7) (s.take 4) from bytes_pre (HS0.out.up HB2.out).is (j := 4) (by rw [H128.out]; omega) rfl (by omega))
                  have HRA := Lib.hid (Jn.recA_end HAN.out HRC.out HGO.out (H2.out.2 (by decide)))
                  rw [HOU.out] at HRA
                  obtain ⟨f1, hf1⟩ : ∃ f1, f = f1 + 1 := ⟨f - 1, by have := HF.out; omega⟩
                  subst hf1
                  have HD := Lib.hid (HR.out.trans (Jn.recs_some HRA.out HGL.out))
                  obtain ⟨hkk, hgk, hdk⟩ := drop_cons HD.out
                  have HGK := Lib.hid hgk
                  have HDK := Lib.hid hdk
                  have HF2 := Lib.hid (show l.length + 1 ≤ f1 + (m + 1) by have := HF.out; have := HMA.out; omega)
                  have HKL := Lib.hid hkk
                  clear hgk hdk HEND H2
                  gi_wp2_with (fail)
                  refine inC (get_is HS4X.out L1.out HGA.out) ?_
                  rintro e w3 ⟨rfl, rfl⟩
                  obtain ⟨fn, tmps, assign, body, hy, hR⟩ := HY.out kk hkk w2 #[.int .i64 ((m : Int) + 1), .slice A8 ou.length c8] (HJ.out _ _ _ HJk.out (IStep.of_below HB2.out)) (by rw [HGK.out]; exact ⟨_, _, rfl, ownB_base HO2.out (Nat.le_trans HBA.out HRS.out.size)⟩)
                  have HRr := Lib.hid hR
                  clear hR
                  have HGA4 := Lib.hid (show ga < 4294967296 from by rw [← HGA.out]; exact HSC.out.num_lt.1)
                  have HDK2 := Lib.hid (show (Jn.Records l).drop (kk + 1) = Jn.recs l f1 (m + 1) ga from by rw [HDK.out, HGT2.out, HMA.out, Nat.add_assoc])
                  gi_wp2_with (fail)
                  refine ⟨rfl, HRr.out.mono ?_⟩
                  rintro e W3 (⟨rfl, hJ3, hs3⟩ | ⟨rfl, hJx3⟩)
                  · gi_wp2_with (fail)
                    go_roundw
                    case rel => exact ⟨m + 1, ga, f1, kk + 1, by go_num, rfl, by omega, HGA4.out, HDK2, HF2, HKL, Lib.hid hJ3, Lib.hid ((HRS.out.trans (RStep.of_below HB2.out)).trans hs3)⟩
                    case measure => simp [intOf]; have := HMA.out; omega
                  · gi_wp2_with (fail)
                    rw [Exit.noGoto_ret]
                    refine bodyPost_ret (results_none rfl _ _ _) rfl ?_
                    exact ⟨⟨_, rfl⟩, .inr ⟨_, hkk, hJx3⟩⟩
            case neg =>
              have hz1 : ((m : Int) == (a : Int)) = false := by have := HMA.out; simp; omega
              have hz := Lib.hid hz
              have HE := Lib.hid (HEND.out (Jn.recs_none (Jn.recA_stop HAN.out HRC.out (fun h => by have h := HG.out.1 h; exact hz.out (h.2.1.1 (by decide))))))
              clear HG H2 HGT HPC HLN HQ3
              refine wp_region_kept (by kernel_rfl) ?_
              repeat (go_big_quiet_step (first | exact BW.call (good_q2 HSC.out.is H128.out HKM.out HGD.out _) (fun _ _ h => h)))
              rintro _ ⟨nq, rfl⟩
              have HB2 := Lib.hid (HB.out.trans (nq.h.mono HB.out.size))
              clear q0 q1 q2 q3
              gi_wp2_with (fail)
              rw [Exit.noGoto_ret]
              refine bodyPost_ret (results_none rfl _ _ _) rfl ?_
              exact ⟨⟨_, rfl⟩, .inl (by rw [← HE.out]; exact HJ.out _ _ _ HJk.out (IStep.of_below HB2.out))⟩
end Go.Proofs.Ytkcnanclpkongaa
