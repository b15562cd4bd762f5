/- Walk of value: the state of a call, integers. -/
import Derived.Test.YtnnddmhimnekaaaVals
import Derived.Test.YtnnddmhimnekaaaW10
namespace Go.Proofs.Ytnnddmhimnekaaa
open Go.RowKit
set_option linter.unusedVariables false
set_option linter.unusedSimpArgs false

theorem Rd.under {base h : Nat} {w w' : World} {bs : List UInt8} (k : Rd base h w bs) (hbh : base ≤ h) (hb : Below w.heap.size w w') : Rd base h w' bs := by
  obtain ⟨v, h1, h2⟩ := k
  have hlt := h1.lt
  exact ⟨v, (hb.block h hlt).trans h1, h2.keep ⟨hb.os, hb.tape, hb.output, hb.size, fun b hlt' => hb.block b (by omega)⟩⟩
theorem Rd.lt {base h : Nat} {w : World} {bs : List UInt8} (k : Rd base h w bs) : h < w.heap.size := by
  obtain ⟨v, h1, h2⟩ := k
  exact h1.lt
theorem Rd.set {base h : Nat} {w : World} {bs : List UInt8} (k : Rd base h w bs) (hbh : base ≤ h) (b i : Nat) (x : Value) (hb : h < b) : Rd base h (w.setCell ⟨b, i, none⟩ x) bs := by
  obtain ⟨v, h1, h2⟩ := k
  refine ⟨v, (Below.heap_setCell w ⟨b, i, none⟩ x h (by show h ≠ b; omega)).trans h1, ?_⟩
  obtain ⟨A, c, e, k1, k2, k3, k4⟩ := h2
  refine ⟨A, c, e, k1, k2, k3, fun hn => ?_⟩
  obtain ⟨b', off, ea, hb', hc⟩ := k4 hn
  exact ⟨b', off, ea, hb', fun i' hi => (World.cell?_of_block (w := w) (Below.heap_setCell w ⟨b, i, none⟩ x b' (by show b' ≠ b; omega))).trans (hc i' hi)⟩

/-- in a call of value -/
structure St (base h : Nat) (w X : World) (a b c d : Value) (bs : List UInt8) : Prop where
  four : Four X w.heap.size a b c d
  rd : Rd base h X bs
  gr : w.grownBy X (some h)
  hl : h < w.heap.size

theorem St.start {base h : Nat} {w : World} {bs : List UInt8} (k : Rd base h w bs) (hbh : base ≤ h) (a b c d : Value) : St base h w (w.alloc (.cells #[a, b, c, d] 24)) a b c d bs :=
  ⟨Four.new w a b c d, k.under hbh ((Below.refl _ w).alloc (Nat.le_refl _) _), World.grownBy_alloc w _ _, k.lt⟩
theorem St.reads {base h : Nat} {w X X' : World} {a b c d : Value} {bs t : List UInt8} (k : St base h w X a b c d bs) (hr : Rd base h X' t) (hg : X.grownBy X' (some h)) : St base h w X' a b c d t :=
  ⟨(hg.block w.heap.size k.four.lt (fun e => by have := k.hl; injection e; omega)).trans k.four, hr, k.gr.trans hg, k.hl⟩
theorem grown_setNew {w X : World} {r : Option Nat} (k : w.grownBy X r) (i : Nat) (x : Value) : w.grownBy (X.setCell ⟨w.heap.size, i, none⟩ x) r :=
  ⟨k.os, k.tape, k.output, by simpa [World.setCell] using k.size, fun q hq hne => (Below.heap_setCell X ⟨w.heap.size, i, none⟩ x q (by show q ≠ w.heap.size; omega)).trans (k.block q hq hne)⟩
theorem Four.set0 {X : World} {h : Nat} {a b c d : Value} (k : Four X h a b c d) (x : Value) : Four (X.setCell ⟨h, 0, none⟩ x) h x b c d := by
  have hk : X.heap[h]? = _ := k
  have hlt := k.lt
  unfold Four
  simp only [World.setCell]
  rw [Array.getElem?_modify, if_pos rfl, hk]
  rfl
theorem Four.set1 {X : World} {h : Nat} {a b c d : Value} (k : Four X h a b c d) (x : Value) : Four (X.setCell ⟨h, 1, none⟩ x) h a x c d := by
  have hk : X.heap[h]? = _ := k
  have hlt := k.lt
  unfold Four
  simp only [World.setCell]
  rw [Array.getElem?_modify, if_pos rfl, hk]
  rfl
theorem Four.set2 {X : World} {h : Nat} {a b c d : Value} (k : Four X h a b c d) (x : Value) : Four (X.setCell ⟨h, 2, none⟩ x) h a b x d := by
  have hk : X.heap[h]? = _ := k
  have hlt := k.lt
  unfold Four
  simp only [World.setCell]
  rw [Array.getElem?_modify, if_pos rfl, hk]
  rfl
theorem Four.set3 {X : World} {h : Nat} {a b c d : Value} (k : Four X h a b c d) (x : Value) : Four (X.setCell ⟨h, 3, none⟩ x) h a b c x := by
  have hk : X.heap[h]? = _ := k
  have hlt := k.lt
  unfold Four
  simp only [World.setCell]
  rw [Array.getElem?_modify, if_pos rfl, hk]
  rfl
theorem St.set0 {base h : Nat} {w X : World} {a b c d : Value} {bs : List UInt8} (k : St base h w X a b c d bs) (hbh : base ≤ h) (x : Value) : St base h w (X.setCell ⟨w.heap.size, 0, none⟩ x) x b c d bs := ⟨k.four.set0 x, k.rd.set hbh _ _ _ k.hl, grown_setNew k.gr _ _, k.hl⟩
theorem St.set1 {base h : Nat} {w X : World} {a b c d : Value} {bs : List UInt8} (k : St base h w X a b c d bs) (hbh : base ≤ h) (x : Value) : St base h w (X.setCell ⟨w.heap.size, 1, none⟩ x) a x c d bs := ⟨k.four.set1 x, k.rd.set hbh _ _ _ k.hl, grown_setNew k.gr _ _, k.hl⟩
theorem St.set2 {base h : Nat} {w X : World} {a b c d : Value} {bs : List UInt8} (k : St base h w X a b c d bs) (hbh : base ≤ h) (x : Value) : St base h w (X.setCell ⟨w.heap.size, 2, none⟩ x) a b x d bs := ⟨k.four.set2 x, k.rd.set hbh _ _ _ k.hl, grown_setNew k.gr _ _, k.hl⟩
theorem St.set3 {base h : Nat} {w X : World} {a b c d : Value} {bs : List UInt8} (k : St base h w X a b c d bs) (hbh : base ≤ h) (x : Value) : St base h w (X.setCell ⟨w.heap.size, 3, none⟩ x) a b c x bs := ⟨k.four.set3 x, k.rd.set hbh _ _ _ k.hl, grown_setNew k.gr _ _, k.hl⟩

theorem valD_1 (d : Nat) (c : UInt8) (bs : List UInt8) (hc : c.toNat = 1) : Cd.valD d (c :: bs) = (match Cd.numD 0 0 bs with
      | some (u, r) => some (.mk 1 (Cd.sgnD u) ByteArray.empty [], r)
      | none => none) := by
  cases d <;> (rw [Cd.valD.eq_def]; simp only [if_pos hc]; rfl)
theorem valD_2 (d : Nat) (c : UInt8) (bs : List UInt8) (hc : c.toNat = 2) : Cd.valD d (c :: bs) = (match Cd.lenD bs with
      | some (n, r) => some (.mk 2 0 ⟨(r.take n).toArray⟩ [], r.drop n)
      | none => none) := by
  cases d <;> (rw [Cd.valD.eq_def]; simp only [if_neg (show ¬ c.toNat = 1 by omega), if_pos hc]; rfl)
theorem valD_30 (c : UInt8) (bs : List UInt8) (hc : c.toNat = 3) : Cd.valD 0 (c :: bs) = none := by
  rw [Cd.valD.eq_def]; simp only [if_neg (show ¬ c.toNat = 1 by omega), if_neg (show ¬ c.toNat = 2 by omega), if_pos hc]
theorem valD_3 (d : Nat) (c : UInt8) (bs : List UInt8) (hc : c.toNat = 3) : Cd.valD (d + 1) (c :: bs) = (match Cd.lenD bs with
        | some (n, r) => (match Cd.repD (Cd.valD d) n r with
          | some (l, t) => some (.mk 3 0 ByteArray.empty l, t)
          | none => none)
        | none => none) := by
  rw [Cd.valD.eq_def]; simp only [if_neg (show ¬ c.toNat = 1 by omega), if_neg (show ¬ c.toNat = 2 by omega), if_pos hc]; rfl
theorem valD_x (d : Nat) (c : UInt8) (bs : List UInt8) (h1 : c.toNat ≠ 1) (h2 : c.toNat ≠ 2) (h3 : c.toNat ≠ 3) : Cd.valD d (c :: bs) = none := by
  cases d <;> (rw [Cd.valD.eq_def]; simp only [if_neg h1, if_neg h2, if_neg h3])

def VPost (base h : Nat) (w : World) (r : Option (Cd.Vl × List UInt8)) (e : Ending) (w' : World) : Prop :=
  w.grownBy w' (some h) ∧ match r with
    | some (x, t) => ∃ v, e = .returned v ∧ IsV (fun b => w.heap.size ≤ b) w' v x ∧ Rd base h w' t
    | none => e = .panicked bad

set_option maxRecDepth 100000 in
set_option maxHeartbeats 4000000 in
theorem value_nil (base h d : Nat) (dp : Int) (w : World) (hr : Rd base h w []) (hbh : base ≤ h) :
    Calls Try.prog 32 #[.pointer (some ⟨h, 0, none⟩), .int .i64 dp] w (VPost base h w (Cd.valD d [])) := by
  have HS := Lib.hid (St.start hr hbh (.int .i64 0) (.int .i64 0) (.string ByteArray.empty) (.slice none 0 0))
  clear hr
  go_enter Try.func32, Try.ntmps32
  go_wp2_with (fail)
  refine (take_no 1 base h [] _ HS.out.rd (by simp) (by omega)).mono ?_
  rintro e w1 ⟨rfl, rfl⟩
  go_wp2_with (fail)
  refine ⟨rfl, HS.out.gr, ?_⟩
  unfold Cd.valD
  trivial

set_option maxRecDepth 100000 in
set_option maxHeartbeats 4000000 in
theorem value_1 (base h d : Nat) (dp : Int) (c : UInt8) (bs : List UInt8) (w : World) (hr : Rd base h w (c :: bs)) (hbh : base ≤ h) (hc : c.toNat = 1) :
    Calls Try.prog 32 #[.pointer (some ⟨h, 0, none⟩), .int .i64 dp] w (VPost base h w (Cd.valD d (c :: bs))) := by
  have HS := Lib.hid (St.start hr hbh (.int .i64 0) (.int .i64 0) (.string ByteArray.empty) (.slice none 0 0))
  clear hr
  go_enter Try.func32, Try.ntmps32
  go_wp2_with (fail)
  refine (take_yes 1 base h (c :: bs) _ HS.out.rd hbh (by simp)).mono ?_
  rintro e w1 ⟨A1, rfl, hi1, hr1, hg1⟩
  obtain ⟨b1, off1, rfl, hb1, hc1⟩ := hi1.at_ (k := 0) (by simp)
  simp only [Nat.add_zero, List.take_succ_cons, List.getElem_cons_zero, hc] at hc1
  have HS1 := Lib.hid (HS.out.reads hr1 hg1)
  have hf := HS1.out.four.f0 0
  have hf1 := HS1.out.four.f0 1
  have h0 := HS1.out.four.c0
  have h1 := HS1.out.four.c1
  clear hi1 hr1 hg1
  have HS2 := Lib.hid (HS1.out.set0 hbh (.int .i64 1))
  have HN := Lib.hid (number_any base h bs _ HS2.out.rd hbh)
  have HD := Lib.hid (valD_1 d c bs hc)
  cases hnum : Cd.numD 0 0 bs with
  | none =>
    rw [hnum] at HN HD
    go_wp2_with (fail)
    refine HN.out.mono ?_
    rintro e w2 ⟨hg2, he2⟩
    simp only at he2
    subst he2
    go_wp2_with (fail)
    refine ⟨rfl, HS2.out.gr.trans hg2, ?_⟩
    rw [HD.out]
  | some p =>
    obtain ⟨n, t⟩ := p
    have hlt := (Cd.numD_bd hnum (by omega) (by decide)).1
    rw [hnum] at HN HD
    go_wp2_with (fail)
    refine HN.out.mono ?_
    rintro e w2 ⟨hg2, he2, hr2⟩
    subst he2
    have HS3 := Lib.hid (HS2.out.reads hr2 hg2)
    clear h0 h1 hf hf1 hc1 hr2 hg2
    go_wp2_with (fail)
    refine (signed_any n _ hlt).mono ?_
    rintro e w3 ⟨rfl, rfl⟩
    have hf1 := HS3.out.four.f0 1
    have hf0 := HS3.out.four.f0 0
    have hf2 := HS3.out.four.f0 2
    have hf3 := HS3.out.four.f0 3
    have h0 := HS3.out.four.c0
    have h1 := HS3.out.four.c1
    have h2 := HS3.out.four.c2
    have h3 := HS3.out.four.c3
    have HS4 := Lib.hid (HS3.out.set1 hbh (.int .i64 (sgn n)))
    go_wp2_with (fail)
    have HS5 := Lib.hid ((((HS4.out.set0 hbh (.int .i64 1)).set1 hbh (.int .i64 (sgn n))).set2 hbh (.string ByteArray.empty)).set3 hbh (.slice none 0 0))
    clear HS HS1 HS2 HS3 HS4 HN h0 h1 h2 h3 hf0 hf1 hf2 hf3
    have h0 := HS5.out.four.c0
    have h1 := HS5.out.four.c1
    have h2 := HS5.out.four.c2
    have h3 := HS5.out.four.c3
    refine ⟨rfl, .agg #[.int .i64 1, .int .i64 (sgn n), .string ByteArray.empty, .slice none 0 0], ?_, HS5.out.gr, ?_⟩
    · simp [results, Try.results32, go_sem, h0, h1, h2, h3]
    · rw [HD.out]
      exact ⟨_, rfl, IsV.of IsVs.nil, HS5.out.rd⟩

end Go.Proofs.Ytnnddmhimnekaaa
