/- Walk of value: lists. -/
import Derived.Test.YtnnddmhimnekaaaW12
import Derived.Deep.RegionLaw
import Derived.RegionDies
namespace Go.Proofs.Ytnnddmhimnekaaa
open Go.RowKit
set_option linter.unusedVariables false
set_option linter.unusedSimpArgs false

def joinR (acc : List Cd.Vl) (r : Option (List Cd.Vl × List UInt8)) : Option (List Cd.Vl × List UInt8) := match r with
  | some (l, t) => some (acc ++ l, t)
  | none => none

theorem rep_none {f : List UInt8 → Option (Cd.Vl × List UInt8)} {n : Nat} {bs : List UInt8} {acc : List Cd.Vl} (h : f bs = none) : joinR acc (Cd.repD f (n + 1) bs) = none := by
  simp only [Cd.repD, h]; rfl
theorem rep_some {f : List UInt8 → Option (Cd.Vl × List UInt8)} {n : Nat} {bs r : List UInt8} {x : Cd.Vl} {acc : List Cd.Vl} (h : f bs = some (x, r)) : joinR acc (Cd.repD f (n + 1) bs) = joinR (acc ++ [x]) (Cd.repD f n r) := by
  simp only [Cd.repD, h]
  cases Cd.repD f n r with
  | none => rfl
  | some p => simp [joinR]

theorem St.drew {base h : Nat} {w X : World} {a b c d : Value} {bs : List UInt8} (k : St base h w X a b c d bs) : St base h w X.drew a b c d bs := ⟨k.four, k.rd, ⟨k.gr.os, k.gr.tape, k.gr.output, k.gr.size, k.gr.block⟩, k.hl⟩

theorem St.grows {base h : Nat} {w X X' : World} {a b c d : Value} {bs : List UInt8} (k : St base h w X a b c d bs) (hbh : base ≤ h) {r : Option Nat} (hg : X.grownBy X' r) (hr : ∀ g, r = some g → w.heap.size < g) : St base h w X' a b c d bs := by
  have hl := k.hl
  have hlt := k.four.lt
  have old : ∀ q, q ≤ w.heap.size → X'.heap[q]? = X.heap[q]? := fun q hq => hg.block q (by omega) (fun e => by have := hr q e.symm; omega)
  refine ⟨(old _ (Nat.le_refl _)).trans k.four, ?_, ⟨hg.os.trans k.gr.os, hg.tape.trans k.gr.tape, hg.output.trans k.gr.output, Nat.le_trans k.gr.size hg.size, fun q hq hne => (old q (by omega)).trans (k.gr.block q hq hne)⟩, hl⟩
  obtain ⟨v, h1, h2⟩ := k.rd
  refine ⟨v, (old h (by omega)).trans h1, ?_⟩
  obtain ⟨A, c, e, k1, k2, k3, k4⟩ := h2
  refine ⟨A, c, e, k1, k2, k3, fun hn => ?_⟩
  obtain ⟨b', off, ea, hb', hc⟩ := k4 hn
  exact ⟨b', off, ea, hb', fun i' hi => (World.cell?_of_block (w := X) (old b' (by omega))).trans (hc i' hi)⟩
theorem St.alloc {base h : Nat} {w X : World} {a b c d : Value} {bs : List UInt8} (k : St base h w X a b c d bs) (hbh : base ≤ h) (o : Obj) : St base h w (X.alloc o) a b c d bs := k.grows hbh (World.grownBy_alloc X o none) (fun g e => by cases e)
theorem grown_setAt (w : World) (b i : Nat) (v : Value) : w.grownBy (w.setCell ⟨b, i, none⟩ v) (some b) :=
  ⟨rfl, rfl, rfl, by simp [World.setCell], fun k _ hne => Below.heap_setCell w ⟨b, i, none⟩ v k (fun e => hne (by rw [e]))⟩

theorem lenD_len {bs : List UInt8} {n : Nat} {r : List UInt8} (h : Cd.lenD bs = some (n, r)) : r.length < bs.length := by
  unfold Cd.lenD at h
  split at h
  · rename_i n' r' hn
    split at h
    · simp only [Option.some.injEq, Prod.mk.injEq] at h
      obtain ⟨rfl, rfl⟩ := h
      exact (Cd.numD_bd hn (by omega) (by decide)).2
    · cases h
  · cases h
theorem repD_len {f : List UInt8 → Option (Cd.Vl × List UInt8)} (hf : ∀ bs x r, f bs = some (x, r) → r.length ≤ bs.length) : ∀ (n : Nat) (bs : List UInt8) (l : List Cd.Vl) (t : List UInt8), Cd.repD f n bs = some (l, t) → t.length ≤ bs.length
  | 0, bs, l, t, h => by
    simp only [Cd.repD, Option.some.injEq, Prod.mk.injEq] at h
    rw [h.2]; exact Nat.le_refl _
  | n + 1, bs, l, t, h => by
    simp only [Cd.repD] at h
    split at h
    · rename_i v r hv
      split at h
      · rename_i l' t' hr
        simp only [Option.some.injEq, Prod.mk.injEq] at h
        have h1 := hf _ _ _ hv
        have h2 := repD_len hf n r l' t' hr
        rw [← h.2]; omega
      · cases h
    · cases h
theorem valD_len : ∀ (d : Nat) (bs : List UInt8) (x : Cd.Vl) (r : List UInt8), Cd.valD d bs = some (x, r) → r.length < bs.length
  | d, [], x, r, h => by rw [Cd.valD.eq_def] at h; cases h
  | d, c :: bs, x, r, h => by
    by_cases h1 : c.toNat = 1
    · rw [valD_1 d c bs h1] at h
      split at h
      · rename_i u r' hn
        simp only [Option.some.injEq, Prod.mk.injEq] at h
        have := (Cd.numD_bd hn (by omega) (by decide)).2
        rw [← h.2]; simp; omega
      · cases h
    · by_cases h2 : c.toNat = 2
      · rw [valD_2 d c bs h2] at h
        split at h
        · rename_i u r' hn
          simp only [Option.some.injEq, Prod.mk.injEq] at h
          have := lenD_len hn
          rw [← h.2]; simp; omega
        · cases h
      · by_cases h3 : c.toNat = 3
        · cases d with
          | zero => rw [valD_30 c bs h3] at h; cases h
          | succ d =>
            rw [valD_3 d c bs h3] at h
            split at h
            · rename_i n r' hn
              split at h
              · rename_i l t hr
                simp only [Option.some.injEq, Prod.mk.injEq] at h
                have k1 := lenD_len hn
                have k2 := repD_len (fun bs x r h => Nat.le_of_lt (valD_len d bs x r h)) n r' l t hr
                rw [← h.2]; simp; omega
              · cases h
            · cases h
        · rw [valD_x d c bs h1 h2 h3] at h; cases h

/-- the value that a nested call returned, ready to be appended -/
theorem fresh_but {X X2 : World} {lo : Nat} {lv v : Value} {x : Cd.Vl} {acc : List Cd.Vl} (hv : IsV (fun b => X.heap.size ≤ b) X2 v x) (hO : OwnVs X (lo + 1) lv acc) (hlo : lo < X.heap.size) : IsV (But (lo + 1) lv.ownBlock) X2 v x :=
  hv.mono (fun b _ hb => ⟨by omega, fun e => by have := (hO.lt b e.symm).2; omega⟩)

set_option maxRecDepth 100000 in
set_option maxHeartbeats 4000000 in
theorem value_3 (base h d : Nat) (dp : Int) (c : UInt8) (bs : List UInt8) (w : World) (hr : Rd base h w (c :: bs)) (hbh : base ≤ h) (hc : c.toNat = 3) (hd0 : 0 ≤ dp) (hd1 : dp < 16) (hlen : bs.length ≤ 1000000)
    (ih : ∀ (bs : List UInt8) (w : World), Rd base h w bs → bs.length ≤ 1000000 → Calls Try.prog 32 #[.pointer (some ⟨h, 0, none⟩), .int .i64 (dp + 1)] w (VPost base h w (Cd.valD d bs))) :
    Calls Try.prog 32 #[.pointer (some ⟨h, 0, none⟩), .int .i64 dp] w (VPost base h w (Cd.valD (d + 1) (c :: bs))) := by
  have HI := Lib.hid ih
  clear ih
  have HS := Lib.hid (St.start hr hbh (.int .i64 0) (.int .i64 0) (.string ByteArray.empty) (.slice none 0 0))
  clear hr
  have hdd : decide (dp < 16) = true := by simpa using hd1
  have hwr : IntKind.i64.wrap (dp + 1) = dp + 1 := by rw [IntKind.wrap_i64]; omega
  go_enter Try.func32, Try.ntmps32
  go_wp2_with (fail)
  refine (take_yes 1 base h (c :: bs) _ HS.out.rd hbh (by simp)).mono ?_
  rintro e w1 ⟨A1, rfl, hi1, hr1, hg1⟩
  obtain ⟨b1, off1, rfl, hb1, hc1⟩ := hi1.at_ (k := 0) (by simp)
  simp only [Nat.add_zero, List.take_succ_cons, List.getElem_cons_zero, hc] at hc1
  have HS1 := Lib.hid (HS.out.reads hr1 hg1)
  have hf := HS1.out.four.f0 0
  have h0 := HS1.out.four.c0
  clear hi1 hr1 hg1
  have HS2 := Lib.hid (HS1.out.set0 hbh (.int .i64 3))
  have HN := Lib.hid (length_any base h bs _ HS2.out.rd hbh)
  have HD := Lib.hid (valD_3 d c bs hc)
  cases hnum : Cd.lenD bs with
  | none =>
    rw [hnum] at HN HD
    go_wp2_with (fail)
    refine (want_yes _ _).mono ?_
    rintro e w2 ⟨rfl, rfl⟩
    go_wp2_with (fail)
    refine HN.out.mono ?_
    rintro e w2 ⟨hg2, he2⟩
    simp only at he2
    subst he2
    go_wp2_with (fail)
    refine ⟨rfl, HS2.out.gr.trans hg2, ?_⟩
    rw [HD.out]
  | some p =>
    obtain ⟨n, t⟩ := p
    have hle := lenD_le hnum
    rw [hnum] at HN HD
    go_wp2_with (fail)
    refine (want_yes _ _).mono ?_
    rintro e w2 ⟨rfl, rfl⟩
    go_wp2_with (fail)
    refine HN.out.mono ?_
    rintro e w2 ⟨hg2, he2, hr2⟩
    subst he2
    have HS3 := Lib.hid (HS2.out.reads hr2 hg2)
    have htl : t.length ≤ 1000000 := by have := lenD_len hnum; omega
    clear h0 hf hc1 hr2 hg2 HS HS1 HS2 HN
    go_wp2_with (fail)
    go_loopw [37] (fun i wr => ∃ (j : Nat) (cs : List UInt8) (acc : List Cd.Vl) (lv : Value), j ≤ n ∧ i = .int .i64 j ∧ cs.length ≤ 1000000 ∧ acc.length = j ∧ Hid (St base h w wr (.int .i64 3) (.int .i64 0) (.string ByteArray.empty) lv cs) ∧ Hid (OwnVs wr (w.heap.size + 1) lv acc) ∧ Hid (Cd.repD (Cd.valD d) n t = joinR acc (Cd.repD (Cd.valD d) (n - j) cs))) (fun i _ => n - (intOf i).toNat)
    case atStart => exact ⟨0, t, [], .slice none 0 0, Nat.zero_le _, rfl, htl, rfl, HS3, OwnVs.nil _ _, Lib.hid (by rw [Nat.sub_zero]; unfold joinR; cases Cd.repD (Cd.valD d) n t <;> simp)⟩
    case round =>
      obtain ⟨j, cs, acc, lv, hj, rfl, hcs, hacc, HSr, HO, HR⟩ := hrel
      subst hacc
      clear HS3
      by_cases hlt : acc.length < n
      · have HC := Lib.hid (HI.out cs wr.drew HSr.out.drew.rd hcs)
        obtain ⟨nj, hnj⟩ : ∃ nj, n - acc.length = nj + 1 := ⟨n - acc.length - 1, by omega⟩
        have h3 := HSr.out.four.c3
        obtain ⟨Al, cl, rfl⟩ := HO.out.slice
        cases hval : Cd.valD d cs with
        | none =>
          rw [hval] at HC
          have HE := Lib.hid (show Cd.repD (Cd.valD d) n t = none by rw [HR.out, hnj]; exact rep_none hval)
          go_wp2_with (fail)
          go_region_dies
          all_goals
            refine HC.out.mono ?_
            rintro e X2 ⟨hg2, he2⟩
            simp only at he2
            subst he2
            go_wp2_with (fail)
            refine ⟨rfl, HSr.out.drew.gr.trans hg2, ?_⟩
            rw [HD.out]
            simp only [HE.out]
        | some p =>
          obtain ⟨x, r⟩ := p
          have hrl := valD_len d cs x r hval
          rw [hval] at HC
          have HE := Lib.hid (show Cd.repD (Cd.valD d) n t = joinR (acc ++ [x]) (Cd.repD (Cd.valD d) (n - (acc.length + 1)) r) by rw [HR.out, hnj, show n - (acc.length + 1) = nj by omega]; exact rep_some hval)
          have hlo := HSr.out.four.lt
          have hl0 := HSr.out.hl
          go_wp2_with (fail)
          go_region_law (first
            | (refine step_fn2 (by rfl) (.func 32) (.tmp 41) (.tmp 43) _ (by rfl) 32 [] (by rfl) _ _ (by rfl) (by rfl) (enters_of Try.func32 (by kernel_rfl) rfl) HC.out ?_
               rintro e X2 ⟨hg2, v2, rfl, hv2, hr2⟩
               refine ⟨v2, rfl, ?_⟩
               have HV2 := Lib.hid (fresh_but hv2 HO.out.drew hlo)
               obtain ⟨A2, c2, rfl, _⟩ := hv2.opens
               have HS4 := Lib.hid (HSr.out.drew.reads hr2 hg2)
               have HO4 := Lib.hid (HO.out.drew.kept hg2 (fun k e => by injection e with e; omega))
               have h34 := HS4.out.four.c3
               have h34a := (HS4.out.alloc hbh (.cells #[.int .i64 x.kind, .int .i64 x.num, .string x.str, .slice A2 x.elems.length c2] 24)).four.c3
               clear hg2 hr2)
            | (refine step_pushV (by rfl) (.tmp 40) (.tmp 45) (by rfl) (w.heap.size + 1) (.slice Al acc.length cl) acc (HO4.out.alloc _) (_, _, _, _) x (HV2.out.under ((Below.refl _ X2).alloc (Nat.le_refl _) _)) X2.heap.size (by rfl) (by rfl) (Four.new X2 _ _ _ _) (by omega) (by have := HS4.out.four.lt; simp; omega) ?_
               intro v3 X3 hp
               have HS5 := Lib.hid ((HS4.out.alloc hbh _).grows hbh hp.grown (fun g e => by have := (HO4.out.lt g e).1; omega))
               have HO5 := Lib.hid hp.own
               obtain ⟨A3, c3, rfl⟩ := hp.own.slice
               have h35 := HS5.out.four.c3
               have hf5 := HS5.out.four.f0 3
               clear hp))
          all_goals
            have HS6 := Lib.hid (HS5.out.set3 hbh (.slice A3 (acc.length + 1) c3))
            have HO6 := Lib.hid (HO5.out.kept (grown_setAt X3 w.heap.size 3 (.slice A3 (acc.length + 1) c3)) (fun k e => by injection e with e; omega))
            clear h34 h34a h35 hf5 h3
            go_wp2_with (fail)
            go_roundw
            case rel => exact ⟨acc.length + 1, r, acc ++ [x], .slice A3 (acc.length + 1) c3, by omega, by go_num, by omega, by simp, HS6, Lib.hid (by have h := HO6.out; simpa using h), HE⟩
            case measure => first | omega | (simp [intOf]; done) | (simp [intOf]; omega)
      · have HE := Lib.hid (show Cd.repD (Cd.valD d) n t = some (acc, cs) by rw [HR.out, show n - acc.length = 0 by omega]; simp [Cd.repD, joinR])
        obtain ⟨Al, cl, rfl⟩ := HO.out.slice
        have hf0 := HSr.out.four.f0 0
        have hf1 := HSr.out.four.f0 1
        have hf2 := HSr.out.four.f0 2
        have hf3 := HSr.out.four.f0 3
        have h0 := HSr.out.four.c0
        have h1 := HSr.out.four.c1
        have h2 := HSr.out.four.c2
        have h3 := HSr.out.four.c3
        have HS5 := Lib.hid (((((HSr.out.set0 hbh (.int .i64 3)).set1 hbh (.int .i64 0)).set2 hbh (.string ByteArray.empty)).set3 hbh (.slice Al acc.length cl)))
        have HO5 := Lib.hid ((((HO.out.kept (grown_setAt _ w.heap.size 0 (.int .i64 3)) (fun k e => by injection e with e; omega)).kept (grown_setAt _ w.heap.size 1 (.int .i64 0)) (fun k e => by injection e with e; omega)).kept (grown_setAt _ w.heap.size 2 (.string ByteArray.empty)) (fun k e => by injection e with e; omega)).kept (grown_setAt _ w.heap.size 3 (.slice Al acc.length cl)) (fun k e => by injection e with e; omega))
        go_wp2_with (fail)
        clear HSr HO h0 h1 h2 h3 hf0 hf1 hf2 hf3
        have h0 := HS5.out.four.c0
        have h1 := HS5.out.four.c1
        have h2 := HS5.out.four.c2
        have h3 := HS5.out.four.c3
        refine ⟨rfl, .agg #[.int .i64 3, .int .i64 0, .string ByteArray.empty, .slice Al acc.length cl], ?_, HS5.out.gr, ?_⟩
        · simp [results, Try.results32, go_sem, h0, h1, h2, h3]
        · rw [HD.out]
          simp only [HE.out]
          exact ⟨_, rfl, IsV.of (HO5.out.vals.mono (fun b _ hb => by omega)), HS5.out.rd⟩


/-- whatever the bytes, value reads what the plain law reads -/
theorem value_any (base h : Nat) (hbh : base ≤ h) : ∀ (d : Nat) (hd : d ≤ 16) (bs : List UInt8) (w : World), Rd base h w bs → bs.length ≤ 1000000 →
    Calls Try.prog 32 #[.pointer (some ⟨h, 0, none⟩), .int .i64 (16 - (d : Int))] w (VPost base h w (Cd.valD d bs))
  | d, hd, [], w, hr, hl => value_nil base h d _ w hr hbh
  | d, hd, c :: bs, w, hr, hl => by
    by_cases h1 : c.toNat = 1
    · exact value_1 base h d _ c bs w hr hbh h1
    · by_cases h2 : c.toNat = 2
      · exact value_2 base h d _ c bs w hr hbh h2
      · by_cases h3 : c.toNat = 3
        · cases d with
          | zero => exact value_30 base h c bs w hr hbh h3
          | succ d =>
            refine value_3 base h d _ c bs w hr hbh h3 (by omega) (by omega) (by simp at hl; omega) (fun bs' w' hr' hl' => ?_)
            have := value_any base h hbh d (by omega) bs' w' hr' hl'
            rw [show (16 : Int) - ((d + 1 : Nat) : Int) + 1 = 16 - (d : Int) by omega]
            exact this
        · exact value_x base h d _ c bs w hr hbh h1 h2 h3

end Go.Proofs.Ytnnddmhimnekaaa
