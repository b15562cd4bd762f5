/- Walks of the reference's reader: next, number. -/
import Derived.Test.YtnnddmhimnekaaaW16
import Derived.Test.YtnnddmhimnekaaaW20
namespace Go.Proofs.Ytnnddmhimnekaaa
open Go.RowKit
set_option linter.unusedVariables false
set_option linter.unusedSimpArgs false

/-- three cells of a reader -/
def Tri (X : World) (h : Nat) (a b c : Value) : Prop := X.heap[h]? = some (.cells #[a, b, c] 62 (0, 0))
theorem Tri.lt {X : World} {h : Nat} {a b c : Value} (k : Tri X h a b c) : h < X.heap.size := (Array.getElem?_eq_some_iff.1 k).1
theorem Tri.c0 {X : World} {h : Nat} {a b c : Value} (k : Tri X h a b c) : X.cell? ⟨h, 0, none⟩ = some a := by simp [World.cell?, show X.heap[h]? = _ from k]
theorem Tri.c1 {X : World} {h : Nat} {a b c : Value} (k : Tri X h a b c) : X.cell? ⟨h, 1, none⟩ = some b := by simp [World.cell?, show X.heap[h]? = _ from k]
theorem Tri.c2 {X : World} {h : Nat} {a b c : Value} (k : Tri X h a b c) : X.cell? ⟨h, 2, none⟩ = some c := by simp [World.cell?, show X.heap[h]? = _ from k]
theorem Tri.fr {X : World} {h : Nat} {a b c : Value} (k : Tri X h a b c) (i : Nat) : X.frozen? ⟨h, i, none⟩ = false := by simp [World.frozen?, show X.heap[h]? = _ from k]
theorem Tri.set1 {X : World} {h : Nat} {a b c : Value} (k : Tri X h a b c) (x : Value) : Tri (X.setCell ⟨h, 1, none⟩ x) h a x c := by
  have hk : X.heap[h]? = _ := k
  unfold Tri
  simp only [World.setCell]
  rw [Array.getElem?_modify, if_pos rfl, hk]
  rfl
theorem Tri.set2 {X : World} {h : Nat} {a b c : Value} (k : Tri X h a b c) (x : Value) : Tri (X.setCell ⟨h, 2, none⟩ x) h a b x := by
  have hk : X.heap[h]? = _ := k
  unfold Tri
  simp only [World.setCell]
  rw [Array.getElem?_modify, if_pos rfl, hk]
  rfl

/-- the reference's reader at block h: bs is left of all -/
def Rs (base h : Nat) (w : World) (all bs : List UInt8) (bad : Bool) : Prop := ∃ pre v, all = pre ++ bs ∧ Tri w h v (.int .i64 (pre.length : Nat)) (.bool bad) ∧ InB base w v all
theorem Rs.lt {base h : Nat} {w : World} {all bs : List UInt8} {bad : Bool} (k : Rs base h w all bs bad) : h < w.heap.size := by
  obtain ⟨_, _, _, k, _⟩ := k
  exact k.lt
theorem Rs.keep {base h : Nat} {w w' : World} {all bs : List UInt8} {bad : Bool} (k : Rs base h w all bs bad) (hbh : base ≤ h) (hb : ∀ b, b ≤ h → w'.heap[b]? = w.heap[b]?) (e1 : w'.os = w.os) (e2 : w'.tape = w.tape) (e3 : w'.output = w.output) (hs : w.heap.size ≤ w'.heap.size) : Rs base h w' all bs bad := by
  obtain ⟨pre, v, e, k1, k2⟩ := k
  exact ⟨pre, v, e, (hb h (Nat.le_refl _)).trans k1, k2.keep ⟨e1, e2, e3, hs, fun b hlt => hb b (by omega)⟩⟩
theorem Rs.under {base h : Nat} {w w' : World} {all bs : List UInt8} {bad : Bool} (k : Rs base h w all bs bad) (hbh : base ≤ h) (hb : Below w.heap.size w w') : Rs base h w' all bs bad :=
  k.keep hbh (fun b hle => hb.block b (by have := k.lt; omega)) hb.os hb.tape hb.output hb.size
theorem Rs.grows {base h : Nat} {w w' : World} {all bs : List UInt8} {bad : Bool} (k : Rs base h w all bs bad) (hbh : base ≤ h) {r : Option Nat} (hg : w.grownBy w' r) (hr : ∀ g, r = some g → h < g) : Rs base h w' all bs bad :=
  k.keep hbh (fun b hle => hg.block b (by have := k.lt; omega) (fun e => by have := hr b e.symm; omega)) hg.os hg.tape hg.output hg.size
theorem Rs.drewN {base h : Nat} {w : World} {all bs : List UInt8} {bad : Bool} (k : Rs base h w all bs bad) (n : Nat) : Rs base h (w.drewN n) all bs bad := k
theorem grown_drewN {a b : World} {r : Option Nat} (h : a.grownBy b r) (n : Nat) : a.grownBy (b.drewN n) r := ⟨h.os, h.tape, h.output, h.size, h.block⟩

def NxPost (base h : Nat) (w : World) (all : List UInt8) (n : Nat) (bs : List UInt8) (bad : Bool) (e : Ending) (w' : World) : Prop := e = .returned (.int .u8 (n : Int)) ∧ Rs base h w' all bs bad ∧ w.grownBy w' (some h)

theorem inB_setAt {base h : Nat} {w : World} {v : Value} {bs : List UInt8} (k : InB base w v bs) (hbh : base ≤ h) (hs : h < w.heap.size) (i : Nat) (x : Value) : InB base (w.setCell ⟨h, i, none⟩ x) v bs :=
  k.keep ((Below.refl base w).grown (grown_setAt w h i x) (by omega) (fun g e => by injection e; omega))

set_option maxRecDepth 100000 in
set_option maxHeartbeats 4000000 in
theorem next_nil (base h : Nat) (all : List UInt8) (bad : Bool) (w : World) (hr : Rs base h w all [] bad) (hbh : base ≤ h) (hlen : all.length ≤ 1000000) : Calls Try.prog 48 #[.pointer (some ⟨h, 0, none⟩)] w (NxPost base h w all 0 [] true) := by
  obtain ⟨pre, v, e, hT, hI⟩ := hr
  have HT := Lib.hid hT
  have HI := Lib.hid hI
  have HE := Lib.hid e
  obtain ⟨A, c, rfl, _, _, _, _⟩ := hI
  have hpl : pre.length = all.length := by rw [e]; simp
  rw [hpl] at hT
  have h0 := hT.c0
  have h1 := hT.c1
  have h2 := hT.c2
  have f2 := hT.fr 2
  have hd : decide (all.length ≤ all.length) = true := by simp
  have HP := Lib.hid hpl
  clear hT e hpl
  go_enter Try.func48, Try.ntmps48
  go_wp2_with (fail)
  go_quiet (fail)
  go_wp2_with (fail)
  go_ret
  exact ⟨rfl, ⟨pre, _, HE.out, HT.out.set2 _, inB_setAt HI.out hbh HT.out.lt 2 _⟩, grown_drewN (grown_setAt w h 2 _) _⟩

set_option maxRecDepth 100000 in
set_option maxHeartbeats 4000000 in
theorem next_cons (base h : Nat) (all : List UInt8) (ch : UInt8) (bs : List UInt8) (bad : Bool) (w : World) (hr : Rs base h w all (ch :: bs) bad) (hbh : base ≤ h) (hlen : all.length ≤ 1000000) : Calls Try.prog 48 #[.pointer (some ⟨h, 0, none⟩)] w (NxPost base h w all ch.toNat bs bad) := by
  obtain ⟨pre, v, e, hT, hI⟩ := hr
  have HT := Lib.hid hT
  have HI := Lib.hid hI
  have HE := Lib.hid e
  have hpl : pre.length < all.length := by rw [e]; simp
  have HG := Lib.hid (show all[pre.length] = ch by simp [e])
  obtain ⟨A, c, rfl, _, _, _, _⟩ := hI
  obtain ⟨b, off, rfl, hb, hc⟩ := HI.out.at_ hpl
  rw [HG.out] at hc
  have h0 := hT.c0
  have h1 := hT.c1
  have h2 := hT.c2
  have f1 := hT.fr 1
  have hd : decide (all.length ≤ pre.length) = false := by simp; omega
  have T2 := Lib.hid (HT.out.set1 (.int .i64 ((pre.length : Int) + 1)))
  have hc' : (w.setCell ⟨h, 1, none⟩ (.int .i64 ((pre.length : Int) + 1))).cell? ⟨b, off + pre.length, none⟩ = some (.int .u8 (ch.toNat : Int)) := by
    rw [World.cell?_setCell_other w ⟨h, 1, none⟩ ⟨b, off + pre.length, none⟩ _ (by intro e; injection e; omega)]; exact hc
  have I2 := Lib.hid (inB_setAt HI.out hbh HT.out.lt 1 (.int .i64 ((pre.length : Int) + 1)))
  have k0 := T2.out.c0
  have k1 := T2.out.c1
  clear hT e
  have i0 : (0 : Int) ≤ (pre.length : Int) := by omega
  have i1 : (pre.length : Int) < (all.length : Int) := by omega
  go_enter Try.func48, Try.ntmps48
  go_wp2_with (fail)
  go_quiet (fail)
  go_wp2_with (fail)
  go_quiet (fail)
  go_wp2_with (fail)
  go_ret
  refine ⟨rfl, ⟨pre ++ [ch], _, by rw [HE.out]; simp, ?_, I2.out⟩, ?_⟩
  · have e : (((pre ++ [ch]).length : Nat) : Int) = (pre.length : Int) + 1 := by simp
    rw [e]; exact T2.out
  · exact grown_drewN ((grown_drewN (World.grownBy.refl w _) _).trans (grown_setAt _ h 1 _)) _

/-- what reading a number leaves -/
def NmPost (base h : Nat) (w : World) (all : List UInt8) (r : Option (Nat × List UInt8)) (e : Ending) (w' : World) : Prop :=
  w.grownBy w' (some h) ∧ match r with
    | some (n, t) => e = .returned (.int .u64 (n : Int)) ∧ Rs base h w' all t false
    | none => ∃ (n : Nat) (t : List UInt8), n < 18446744073709551616 ∧ e = .returned (.int .u64 (n : Int)) ∧ Rs base h w' all t true
theorem Rs.bad {base h : Nat} {w : World} {all bs : List UInt8} {bad : Bool} (k : Rs base h w all bs bad) (hbh : base ≤ h) (x : Bool) : Rs base h (w.setCell ⟨h, 2, none⟩ (.bool x)) all bs x := by
  obtain ⟨pre, v, e, hT, hI⟩ := k
  exact ⟨pre, v, e, hT.set2 _, inB_setAt hI hbh hT.lt 2 _⟩
theorem Rs.c2 {base h : Nat} {w : World} {all bs : List UInt8} {bad : Bool} (k : Rs base h w all bs bad) : w.cell? ⟨h, 2, none⟩ = some (.bool bad) := by
  obtain ⟨pre, v, e, hT, hI⟩ := k
  exact hT.c2
theorem Rs.f2 {base h : Nat} {w : World} {all bs : List UInt8} {bad : Bool} (k : Rs base h w all bs bad) (i : Nat) : w.frozen? ⟨h, i, none⟩ = false := by
  obtain ⟨pre, v, e, hT, hI⟩ := k
  exact hT.fr i
theorem shl_sum (q m k : Nat) (h : q + m * 2 ^ k < 18446744073709551616) : IntKind.u64.wrap ((q : Int) + IntKind.u64.wrap ((m : Int) * 2 ^ k)) = ((q + m * 2 ^ k : Nat) : Int) := by
  have e0 : (m : Int) * 2 ^ k = ((m * 2 ^ k : Nat) : Int) := by simp
  rw [e0, IntKind.wrap_u64, IntKind.wrap_u64]
  omega

set_option maxRecDepth 100000 in
set_option maxHeartbeats 4000000 in
theorem refNumber_any (base h : Nat) (all bs : List UInt8) (w : World) (hr : Rs base h w all bs false) (hbh : base ≤ h) (hlen : all.length ≤ 1000000) :
    Calls Try.prog 49 #[.pointer (some ⟨h, 0, none⟩)] w (NmPost base h w all (Cd.numD 0 0 bs)) := by
  have HR := Lib.hid hr
  clear hr
  go_enter Try.func49, Try.ntmps49
  go_wp2_with (fail)
  go_loopw [3, 4] (fun u i wr => ∃ (k q : Nat) (cs : List UInt8), k ≤ 9 ∧ q < 9223372036854775808 ∧ i = .int .i64 k ∧ u = .int .u64 (q : Int) ∧ Hid (q < 2 ^ (7 * k)) ∧ Hid (Cd.numD 0 0 bs = Cd.numD k q cs) ∧ Hid (Rs base h wr all cs false) ∧ Hid (w.grownBy wr (some h))) (fun _ i _ => 10 - (intOf i).toNat)
  case atStart => exact ⟨0, 0, bs, by omega, by omega, rfl, rfl, Lib.hid (by decide), rfl, HR, World.grownBy.refl w _⟩
  case round =>
    obtain ⟨k, q, cs, hk, hq, rfl, rfl, HQ, HN, HRr, HG⟩ := hrel
    have hc2 := HRr.out.c2
    cases cs with
    | nil =>
      go_wp2_with (fail)
      refine (next_nil base h all false _ HRr.out hbh hlen).mono ?_
      rintro e w1 ⟨rfl, hr1, hg1⟩
      have HX := Lib.hid (show Cd.numD 0 0 bs = none by rw [HN.out, Cd.numD])
      have HR1 := Lib.hid hr1
      have HG1 := Lib.hid (HG.out.trans hg1)
      have k2 := hr1.c2
      have f2 := hr1.f2 2
      clear hr1 hg1 hc2
      by_cases g1 : k = 0
      · subst g1
        go_wp2_with (fail)
        go_ret
        refine ⟨HG1.out, ?_⟩
        rw [HX.out]
        exact ⟨q, [], by omega, rfl, HR1.out⟩
      · have hd0 : decide ((0 : Int) < (k : Int)) = true := by simp; omega
        have hd1 : decide (0 < k) = true := by simp; omega
        by_cases g9 : k = 9
        · subst g9
          go_wp2_with (fail)
          go_ret
          refine ⟨HG1.out.trans (grown_setAt w1 h 2 _), ?_⟩
          rw [HX.out]
          exact ⟨0, [], by omega, rfl, HR1.out.bad hbh true⟩
        · have hb9 : ((k : Int) == 9) = false := by rw [beq_eq_false_iff_ne]; omega
          go_wp2_with (fail)
          go_ret
          refine ⟨HG1.out.trans (grown_setAt w1 h 2 _), ?_⟩
          rw [HX.out]
          exact ⟨0, [], by omega, rfl, HR1.out.bad hbh true⟩
    | cons c cs =>
      go_wp2_with (fail)
      refine (next_cons base h all c cs false _ HRr.out hbh hlen).mono ?_
      rintro e w1 ⟨rfl, hr1, hg1⟩
      have HR1 := Lib.hid hr1
      have HG1 := Lib.hid (HG.out.trans hg1)
      have k2 := hr1.c2
      have f2 := hr1.f2 2
      clear hr1 hg1 hc2
      have hcl : c.toNat < 256 := c.toNat_lt
      generalize hcc : c.toNat = cn at *
      have hm : cn % 128 < 128 := Nat.mod_lt _ (by omega)
      have hmi : ((cn : Int) % 128) = ((cn % 128 : Nat) : Int) := by omega
      generalize hmm : cn % 128 = m at *
      by_cases g1 : k = 0
      · subst g1
        have HB := Lib.hid (num_bd (by omega : 0 < 9) HQ.out hm)
        have HV := Lib.hid (shl_sum q m (7 * 0) (by have := HB.out.2; omega))
        go_wp2_with (fail)
        · go_ret
          refine ⟨HG1.out, ?_⟩
          rw [HN.out, numD_end (by omega) (by omega), hcc, hmm]
          refine ⟨ret_int ?_, HR1.out⟩
          simp
        · refine ⟨⟨1, q + m * 2 ^ (7 * 0), cs, by omega, HB.out.2, rfl, ?_, Lib.hid HB.out.1, Lib.hid (by rw [HN.out, numD_more (by omega) (by omega), hcc, hmm]), HR1, HG1⟩, by simp [intOf]⟩
          rw [show ((q + m * 2 ^ (7 * 0) : Nat) : Int) = (q : Int) + m by simp]
      · by_cases g2 : cn = 0
        · have hz : ((cn : Int) == 0) = true := by simp [g2]
          have hz9 : decide (1 < (cn : Int)) = false := by simp; omega
          have hd0 : decide ((0 : Int) < (k : Int)) = true := by simp; omega
          have hd1 : decide (0 < k) = true := by simp; omega
          have HX := Lib.hid (show Cd.numD 0 0 bs = none by rw [HN.out, Cd.numD, if_neg (by rw [hcc]; omega)])
          by_cases g9 : k = 9
          · subst g9
            go_wp2_with (fail)
            go_ret
            refine ⟨HG1.out.trans (grown_setAt w1 h 2 _), ?_⟩
            rw [HX.out]
            exact ⟨0, _, by omega, rfl, HR1.out.bad hbh true⟩
          · have hb9 : ((k : Int) == 9) = false := by rw [beq_eq_false_iff_ne]; omega
            go_wp2_with (fail)
            go_ret
            refine ⟨HG1.out.trans (grown_setAt w1 h 2 _), ?_⟩
            rw [HX.out]
            exact ⟨0, _, by omega, rfl, HR1.out.bad hbh true⟩
        · have hz : ((cn : Int) == 0) = false := by simp [g2]
          have hd0 : decide ((0 : Int) < (k : Int)) = true := by simp; omega
          have hd1 : decide (0 < k) = true := by simp; omega
          by_cases g9 : k = 9
          · subst g9
            by_cases g4 : cn ≤ 1
            · have hz9 : decide (1 < (cn : Int)) = false := by simp; omega
              have HV := Lib.hid (shl_sum q m 63 (by omega))
              go_wp2_with (fail)
              go_ret
              refine ⟨HG1.out, ?_⟩
              rw [HN.out, numD_end (by omega) (by omega), hcc, hmm]
              refine ⟨ret_int ?_, HR1.out⟩
              have e : (2 : Nat) ^ (7 * 9) = 9223372036854775808 := by decide
              rw [e]; omega
            · have hz9 : decide (1 < (cn : Int)) = true := by simp; omega
              have HX := Lib.hid (show Cd.numD 0 0 bs = none by rw [HN.out, Cd.numD, if_neg (by rw [hcc]; omega)])
              go_wp2_with (fail)
              go_ret
              refine ⟨HG1.out.trans (grown_setAt w1 h 2 _), ?_⟩
              rw [HX.out]
              exact ⟨0, _, by omega, rfl, HR1.out.bad hbh true⟩
          · have hb9 : ((k : Int) == 9) = false := by rw [beq_eq_false_iff_ne]; omega
            have HB := Lib.hid (num_bd (by omega : k < 9) HQ.out hm)
            have HV := Lib.hid (shl_sum q m (7 * k) (by have := HB.out.2; omega))
            go_wp2_with (fail)
            · go_ret
              refine ⟨HG1.out, ?_⟩
              rw [HN.out, numD_end (by omega) (by omega), hcc, hmm]
              refine ⟨ret_int ?_, HR1.out⟩
              exact HV.out
            · refine ⟨⟨k + 1, q + m * 2 ^ (7 * k), cs, by omega, HB.out.2, by simp, ?_, Lib.hid HB.out.1, Lib.hid (by rw [HN.out, numD_more (by omega) (by omega), hcc, hmm]), HR1, HG1⟩, by simp [intOf]; omega⟩
              rw [HV.out]

end Go.Proofs.Ytnnddmhimnekaaa
