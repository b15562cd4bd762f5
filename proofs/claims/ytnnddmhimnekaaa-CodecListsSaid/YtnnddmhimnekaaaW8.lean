/- Walks of want, take and number. -/
import Derived.Test.YtnnddmhimnekaaaW7
import Derived.Test.YtnnddmhimnekaaaPlain3
import Derived.RangeFuncBox
namespace Go.Proofs.Ytnnddmhimnekaaa
open Go.RowKit
set_option linter.unusedVariables false
set_option linter.unusedSimpArgs false

def bad : List PanicEntry := [{ v := .iface 28 (.int .i64 10), recovered := false }]

theorem want_yes (p : Value) (w : World) : Calls Try.prog 33 #[p, .bool true] w fun e w' => e = .returned (.tuple #[]) ∧ w = w' := by
  go_enter Try.func33, Try.ntmps33
  go_wp2_with (fail)
  go_end0
  exact ⟨rfl, rfl⟩
theorem want_no (p : Value) (w : World) : Calls Try.prog 33 #[p, .bool false] w fun e w' => e = .panicked bad ∧ w = w' := by
  go_enter Try.func33, Try.ntmps33
  go_wp2_with (fail)
  exact ⟨rfl, rfl, rfl⟩

/-- bytes in blocks below base -/
def InB (base : Nat) (w : World) (v : Value) (bs : List UInt8) : Prop :=
  ∃ A c, v = .slice A bs.length c ∧ bs.length ≤ c ∧ c ≤ 9223372036854775807 ∧ (A = none → c = 0) ∧ (bs ≠ [] → ∃ b off, A = some ⟨b, off, none⟩ ∧ b < base ∧ ∀ i (h : i < bs.length), w.cell? ⟨b, off + i, none⟩ = some (encB bs[i]))
theorem InB.keep {base : Nat} {w w' : World} {v : Value} {bs : List UInt8} (h : InB base w v bs) (hk : Below base w w') : InB base w' v bs := by
  obtain ⟨A, c, e, h1, h2, h3, h4⟩ := h
  refine ⟨A, c, e, h1, h2, h3, fun hn => ?_⟩
  obtain ⟨b, off, ea, hb, hc⟩ := h4 hn
  exact ⟨b, off, ea, hb, fun i hi => (World.cell?_of_block (w := w) (hk.block b hb)).trans (hc i hi)⟩
theorem InB.at_ {base : Nat} {w : World} {A : Option Addr} {n c : Nat} {bs : List UInt8} (h : InB base w (.slice A n c) bs) {k : Nat} (hk : k < bs.length) : ∃ b off, A = some ⟨b, off, none⟩ ∧ b < base ∧ w.cell? ⟨b, off + k, none⟩ = some (.int .u8 (bs[k].toNat : Int)) := by
  obtain ⟨A', c', e, _, _, _, h4⟩ := h
  injection e with e1 e2 e3
  subst e1
  obtain ⟨b, off, ea, hb, hc⟩ := h4 (by intro h0; subst h0; simp at hk)
  exact ⟨b, off, ea, hb, hc k hk⟩
theorem InB.bytes {base : Nat} {w : World} {v : Value} {bs : List UInt8} (h : InB base w v bs) (hb : base ≤ w.heap.size) : IsBytes w v bs := by
  obtain ⟨A, c, e, _, _, _, h4⟩ := h
  refine ⟨A, c, e, fun hn => ?_⟩
  obtain ⟨b, off, ea, hlt, hc⟩ := h4 (by intro h0; subst h0; simp at hn)
  exact ⟨b, off, ea, by omega, fun i hi => by have h5 : i < bs.length := by simpa using hi
                                              rw [hc i h5]; simp⟩

/-- the reader at block h has these bytes left -/
def Rd (base h : Nat) (w : World) (bs : List UInt8) : Prop := ∃ v, Boxed w h 58 v ∧ InB base w v bs
/-- only block h turns, beside what is new -/
theorem grown_set {w : World} {h : Nat} (v : Value) : w.grownBy (w.setCell ⟨h, 0, none⟩ v) (some h) :=
  ⟨rfl, rfl, rfl, by simp [World.setCell], fun k _ hne => Below.heap_setCell w ⟨h, 0, none⟩ v k (fun e => hne (by rw [e]))⟩
theorem grown_trans {a b c : World} {r : Option Nat} (h : a.grownBy b r) (k : b.grownBy c r) : a.grownBy c r := h.trans k
theorem grown_below {base : Nat} {a b : World} {h : Nat} (k : a.grownBy b (some h)) (hb : base ≤ h) (hs : base ≤ a.heap.size) : Below base a b := (Below.refl base a).grown k hs (fun g hg => by injection hg with hg; omega)

theorem take_drop_inB {base : Nat} {w : World} {A : Addr} {m c n : Nat} {bs : List UInt8} (h : InB base w (.slice (some A) m c) bs) (hn : n ≤ bs.length) :
    InB base w (.slice (some A) n n) (bs.take n) ∧ InB base w (.slice (some (A.add n)) (m - n) (c - n)) (bs.drop n) ∧ (c = n → InB base w (.slice (some A) (m - n) 0) (bs.drop n)) := by
  obtain ⟨A', c', e, h1, h2, h3, h4⟩ := h
  injection e with e1 e2 e3
  subst e1 e2 e3
  refine ⟨⟨some A, n, by simp; omega, by simp; omega, by omega, by simp, fun hne => ?_⟩, ⟨some (A.add n), c - n, by simp, by simp; omega, by omega, by simp, fun hne => ?_⟩, fun hcn => ⟨some A, 0, by simp, by simp; omega, by omega, by simp, fun hne => ?_⟩⟩
  · obtain ⟨b, off, ea, hb, hc⟩ := h4 (by intro h0; subst h0; simp at hne)
    exact ⟨b, off, ea, hb, fun i hi => by rw [List.getElem_take]; exact hc i (by simp at hi; omega)⟩
  · obtain ⟨b, off, ea, hb, hc⟩ := h4 (by intro h0; subst h0; simp at hne)
    injection ea with ea
    subst ea
    refine ⟨b, off + n, by unfold Addr.add; split <;> simp_all, hb, fun i hi => ?_⟩
    rw [List.getElem_drop, Nat.add_assoc]
    exact hc (n + i) (by simp at hi; omega)
  · exfalso
    apply hne
    apply List.eq_nil_of_length_eq_zero
    simp; omega

def TkPost (base h : Nat) (w : World) (bs : List UInt8) (n : Nat) (e : Ending) (w' : World) : Prop :=
  ∃ A, e = .returned (.slice A n n) ∧ InB base w' (.slice A n n) (bs.take n) ∧ Rd base h w' (bs.drop n) ∧ w.grownBy w' (some h)

set_option maxHeartbeats 1000000 in
theorem take_yes (n base h : Nat) (bs : List UInt8) (w : World) (hr : Rd base h w bs) (hbh : base ≤ h) (hn : n ≤ bs.length) :
    Calls Try.prog 44 #[.pointer (some ⟨h, 0, none⟩), .int .i64 (n : Int)] w (TkPost base h w bs n) := by
  obtain ⟨v, hb, hi⟩ := hr
  have HB := Lib.hid hb
  have HI := Lib.hid hi
  obtain ⟨A, c, rfl, hc1, hc2, hc3, hc4⟩ := hi
  clear hc4
  have h1 := hb.cell
  have h2 := hb.frozen
  have hlt := hb.lt
  have hsz : base ≤ w.heap.size := by omega
  clear hb
  have fin : ∀ A1 v2, InB base w (.slice A1 n n) (bs.take n) → InB base w v2 (bs.drop n) → TkPost base h w bs n (.returned (.slice A1 n n)) (w.setCell ⟨h, 0, none⟩ v2) := fun A1 v2 k1 k2 =>
    ⟨A1, rfl, k1.keep (grown_below (grown_set _) hbh hsz), ⟨v2, HB.out.set _, k2.keep (grown_below (grown_set _) hbh hsz)⟩, grown_set _⟩
  have FIN := Lib.hid fin
  clear fin
  have hd : decide (n ≤ bs.length) = true := by simpa using hn
  rcases A with _ | A
  · have hz := hc3 rfl
    have hb0 : bs.length = 0 := by omega
    have hn0 : n = 0 := by omega
    have HD := Lib.hid (show bs = [] from List.eq_nil_of_length_eq_zero hb0)
    subst hn0
    rw [hb0, hz] at h1
    clear hd hc3 hz hb0
    have h00 : decide ((0 : Int) ≤ 0) = true := by decide
    go_enter Try.func44, Try.ntmps44
    go_wp2_with (fail)
    refine (want_yes _ _).mono ?_
    rintro e w1 ⟨rfl, rfl⟩
    go_wp2_with (fail)
    go_ret
    refine FIN.out none (.slice none 0 0) ?_ ?_
    · rw [HD.out]; exact ⟨none, 0, rfl, by simp, by omega, by simp, fun hne => by simp at hne⟩
    · rw [HD.out]; exact ⟨none, 0, rfl, by simp, by omega, by simp, fun hne => by simp at hne⟩
  · obtain ⟨k1, k2, k3⟩ := take_drop_inB HI.out hn
    have K1 := Lib.hid k1
    have K2 := Lib.hid k2
    have K3 := Lib.hid k3
    clear k1 k2 k3 hc3
    go_enter Try.func44, Try.ntmps44
    go_wp2_with (fail)
    refine (want_yes _ _).mono ?_
    rintro e w1 ⟨rfl, rfl⟩
    go_wp2_with (fail)
    · have hcn : c = n := by assumption
      go_ret
      exact FIN.out _ _ K1.out (K3.out hcn)
    · go_ret
      exact FIN.out _ _ K1.out K2.out

set_option maxHeartbeats 1000000 in
theorem take_no (n base h : Nat) (bs : List UInt8) (w : World) (hr : Rd base h w bs) (hn : bs.length < n) (hn2 : n ≤ 9223372036854775807) :
    Calls Try.prog 44 #[.pointer (some ⟨h, 0, none⟩), .int .i64 (n : Int)] w fun e w' => e = .panicked bad ∧ w = w' := by
  obtain ⟨v, hb, hi⟩ := hr
  obtain ⟨A, c, rfl, hc1, hc2, hc3, hc4⟩ := hi
  clear hc4
  have h1 := hb.cell
  have hd : decide (n ≤ bs.length) = false := by simpa using hn
  clear hb
  go_enter Try.func44, Try.ntmps44
  go_wp2_with (fail)
  refine (want_no _ _).mono ?_
  rintro e w1 ⟨rfl, rfl⟩
  go_wp2_with (fail)
  exact ⟨rfl, rfl, rfl⟩

end Go.Proofs.Ytnnddmhimnekaaa
