/- The statement VerdictsStrict, walked. -/
import Derived.Test.YtninnpcggeofmaaW15
namespace Go.Proofs.Ytninnpcggeofmaa
open Go.RowKit
set_option linter.unusedVariables false
set_option linter.unusedSimpArgs false
attribute [local go_sem] frozen_new

def pL (q : Hh.Qq) (y : Hh) : Bool := Hh.binds q y && decide (y.kind = 5)
def pG (q : Hh.Qq) (y : Hh) : Bool := Hh.binds q y && decide (y.kind = 2)
def pA (q : Hh.Qq) (y : Hh) : Bool := Hh.binds q y && decide (y.kind = 4)
def pD (q : Hh.Qq) (y : Hh) : Bool := Hh.binds q y && decide (y.kind = 3) && decide (q.at_ - q.beg < y.ms)
def st (l : List Hh) (q : Hh.Qq) (i : Nat) : Bool := l[i]?.any (fun x => Hh.binds q x && decide (x.kind = 1)) && !(l.drop (i + 1)).any (pL q)
def sK (l : List Hh) (q : Hh.Qq) (k : Nat) : Bool := (List.range k).any (st l q)
def wantF (s g a d : Bool) : Int := if (s || (g && !a)) = true then 2 else if d = true then 1 else 0
theorem any_snoc (P : Hh → Bool) (l : List Hh) (k : Nat) (h : k < l.length) : (l.take (k + 1)).any P = ((l.take k).any P || P l[k]) := by
  rw [List.take_succ_eq_append_getElem h, List.any_append]; simp only [List.any_cons, List.any_nil, Bool.or_false]
theorem sK_snoc (l : List Hh) (q : Hh.Qq) (k : Nat) (h : k < l.length) : sK l q (k + 1) = (sK l q k || (Hh.binds q l[k] && decide (l[k].kind = 1) && !(l.drop (k + 1)).any (pL q))) := by
  unfold sK; rw [List.range_succ]; simp [st, h]
theorem st_iff (l : List Hh) (q : Hh.Qq) : sK l q l.length = true ↔ ∃ i, ∃ h : i < l.length, Hh.binds q l[i] = true ∧ l[i].kind = 1 ∧ ∀ y ∈ l.drop (i + 1), ¬ (Hh.binds q y = true ∧ y.kind = 5) := by
  unfold sK
  rw [List.any_eq_true]
  constructor
  · rintro ⟨i, hi, h⟩
    have hi2 := List.mem_range.1 hi
    refine ⟨i, hi2, ?_⟩
    simp only [st, List.getElem?_eq_getElem hi2, Option.any_some, Bool.and_eq_true, decide_eq_true_eq, Bool.not_eq_true', List.any_eq_false, pL] at h
    exact ⟨h.1.1, h.1.2, fun y hy hc => h.2 y hy hc⟩
  · rintro ⟨i, hi, h1, h2, h3⟩
    refine ⟨i, List.mem_range.2 hi, ?_⟩
    simp only [st, List.getElem?_eq_getElem hi, Option.any_some, Bool.and_eq_true, decide_eq_true_eq, Bool.not_eq_true', List.any_eq_false, pL]
    exact ⟨⟨h1, h2⟩, fun y hy hc => h3 y hy hc⟩
theorem first_pos (kind above : Int) (b : List Hh) (h0 : ∀ x ∈ b, 0 ≤ x.no) : 0 ≤ Hh.firstN kind above b ↔ ∃ x ∈ b, x.kind = kind ∧ above < x.no := by
  induction b with
  | nil => simp [Hh.firstN]
  | cons x r ih =>
    rw [Hh.firstN]
    by_cases hk : x.kind = kind ∧ above < x.no
    · rw [if_pos hk]
      exact ⟨fun _ => ⟨x, by simp, hk⟩, fun _ => h0 x (by simp)⟩
    · rw [if_neg hk, ih (fun y hy => h0 y (by simp [hy]))]
      constructor
      · rintro ⟨y, hy, h⟩; exact ⟨y, by simp [hy], h⟩
      · rintro ⟨y, hy, h⟩
        rcases List.mem_cons.1 hy with rfl | hy
        · exact absurd h hk
        · exact ⟨y, hy, h⟩
theorem delay_pos (q : Hh.Qq) (b : List Hh) (h0 : ∀ x ∈ b, 0 ≤ x.no) : 0 ≤ Hh.delayN q b ↔ ∃ x ∈ b, x.kind = 3 ∧ q.at_ < q.beg + x.ms := by
  induction b with
  | nil => simp [Hh.delayN]
  | cons x r ih =>
    rw [Hh.delayN]
    by_cases hk : x.kind = 3 ∧ q.at_ < q.beg + x.ms
    · rw [if_pos hk]
      exact ⟨fun _ => ⟨x, by simp, hk⟩, fun _ => h0 x (by simp)⟩
    · rw [if_neg hk, ih (fun y hy => h0 y (by simp [hy]))]
      constructor
      · rintro ⟨y, hy, h⟩; exact ⟨y, by simp [hy], h⟩
      · rintro ⟨y, hy, h⟩
        rcases List.mem_cons.1 hy with rfl | hy
        · exact absurd h hk
        · exact ⟨y, hy, h⟩
theorem last_lt0 (kind : Int) (b : List Hh) (z : Int) : ∀ m : Int, b.foldl (fun no h => if h.kind = kind then max no h.no else no) m < z ↔ m < z ∧ ∀ y ∈ b, y.kind = kind → y.no < z := by
  induction b with
  | nil => intro m; simp
  | cons x r ih =>
    intro m
    rw [List.foldl_cons, ih]
    by_cases hk : x.kind = kind
    · rw [if_pos hk]
      constructor
      · rintro ⟨h1, h2⟩
        refine ⟨by omega, fun y hy hyk => ?_⟩
        rcases List.mem_cons.1 hy with rfl | hy
        · omega
        · exact h2 y hy hyk
      · rintro ⟨h1, h2⟩
        have := h2 x (by simp) hk
        exact ⟨by omega, fun y hy => h2 y (by simp [hy])⟩
    · rw [if_neg hk]
      constructor
      · rintro ⟨h1, h2⟩
        refine ⟨h1, fun y hy hyk => ?_⟩
        rcases List.mem_cons.1 hy with rfl | hy
        · exact absurd hyk hk
        · exact h2 y hy hyk
      · rintro ⟨h1, h2⟩
        exact ⟨h1, fun y hy => h2 y (by simp [hy])⟩
theorem last_lt (kind : Int) (b : List Hh) (z : Int) : Hh.lastN kind b < z ↔ -1 < z ∧ ∀ y ∈ b, y.kind = kind → y.no < z := last_lt0 kind b z (-1)
theorem ver_strict {l : List Hh} {q : Hh.Qq} (he : Hh.err l = 0) (ha : Hh.askQ q = true) : (Hh.ver l q).e = 0 ∧ (Hh.ver l q).v = wantF (sK l q l.length) (l.any (pG q)) (l.any (pA q)) (l.any (pD q)) := by
  have hinc := (err_zero he).2
  have hpw := List.pairwise_iff_getElem.1 (incr_pair hinc)
  have hno : ∀ x ∈ l, 0 ≤ x.no := fun x hx => by have := (incr_mem hinc x hx).1; omega
  have hmb : ∀ x, x ∈ Hh.bnd l q ↔ x ∈ l ∧ Hh.binds q x = true := fun x => by unfold Hh.bnd; exact List.mem_filter
  have hnb : ∀ x ∈ Hh.bnd l q, 0 ≤ x.no := fun x hx => hno x ((hmb x).1 hx).1
  have eS : 0 ≤ Hh.firstN 1 (Hh.lastN 5 (Hh.bnd l q)) (Hh.bnd l q) ↔ sK l q l.length = true := by
    rw [first_pos _ _ _ hnb, st_iff]
    constructor
    · rintro ⟨x, hx, hk, hlt⟩
      obtain ⟨hxl, hxb⟩ := (hmb x).1 hx
      obtain ⟨i, hi, rfl⟩ := List.getElem_of_mem hxl
      refine ⟨i, hi, hxb, hk, fun y hy hc => ?_⟩
      obtain ⟨j, hj, rfl⟩ := List.getElem_of_mem hy
      rw [List.length_drop] at hj
      simp only [List.getElem_drop] at hc hy
      have h1 := ((last_lt 5 _ _).1 hlt).2 _ ((hmb _).2 ⟨List.mem_of_mem_drop hy, hc.1⟩) hc.2
      have h2 := hpw i (i + 1 + j) hi (by omega) (by omega)
      omega
    · rintro ⟨i, hi, h1, h2, h3⟩
      refine ⟨l[i], (hmb _).2 ⟨List.getElem_mem hi, h1⟩, h2, (last_lt _ _ _).2 ⟨by have := hno _ (List.getElem_mem hi); omega, fun y hy hk => ?_⟩⟩
      obtain ⟨hyl, hyb⟩ := (hmb y).1 hy
      obtain ⟨j, hj, rfl⟩ := List.getElem_of_mem hyl
      rcases Nat.lt_trichotomy j i with h | h | h
      · exact hpw j i hj hi h
      · subst h; omega
      · exfalso
        refine h3 l[j] ?_ ⟨hyb, hk⟩
        rw [List.mem_drop_iff_getElem]
        exact ⟨j - (i + 1), by omega, by simp [show i + 1 + (j - (i + 1)) = j by omega]⟩
  have eG : 0 ≤ Hh.firstN 2 (-1) (Hh.bnd l q) ↔ l.any (pG q) = true := by
    rw [first_pos _ _ _ hnb, List.any_eq_true]
    constructor
    · rintro ⟨x, hx, hk, _⟩
      obtain ⟨hxl, hxb⟩ := (hmb x).1 hx
      exact ⟨x, hxl, by simp [pG, hxb, hk]⟩
    · rintro ⟨x, hx, h⟩
      simp only [pG, Bool.and_eq_true, decide_eq_true_eq] at h
      exact ⟨x, (hmb x).2 ⟨hx, h.1⟩, h.2, by have := hno x hx; omega⟩
  have eA : Hh.lastN 4 (Hh.bnd l q) < 0 ↔ ¬ l.any (pA q) = true := by
    rw [last_lt, List.any_eq_true]
    constructor
    · rintro ⟨_, h⟩ ⟨x, hx, hp⟩
      simp only [pA, Bool.and_eq_true, decide_eq_true_eq] at hp
      have h1 := h x ((hmb x).2 ⟨hx, hp.1⟩) hp.2
      have h2 := hno x hx
      omega
    · intro h
      refine ⟨by omega, fun y hy hk => ?_⟩
      obtain ⟨hyl, hyb⟩ := (hmb y).1 hy
      exact absurd ⟨y, hyl, by simp [pA, hyb, hk]⟩ h
  have eD : 0 ≤ Hh.delayN q (Hh.bnd l q) ↔ l.any (pD q) = true := by
    rw [delay_pos _ _ hnb, List.any_eq_true]
    constructor
    · rintro ⟨x, hx, hk, hd⟩
      obtain ⟨hxl, hxb⟩ := (hmb x).1 hx
      exact ⟨x, hxl, by simp [pD, hxb, hk]; omega⟩
    · rintro ⟨x, hx, h⟩
      simp only [pD, Bool.and_eq_true, decide_eq_true_eq] at h
      exact ⟨x, (hmb x).2 ⟨hx, h.1.1⟩, h.1.2, by omega⟩
  rw [Hh.ver, if_pos he, if_pos ha]
  unfold Hh.verB wantF
  revert eS eG eA eD
  generalize sK l q l.length = s
  generalize l.any (pG q) = g
  generalize l.any (pA q) = a
  generalize l.any (pD q) = d
  intro eS eG eA eD
  by_cases h1 : 0 ≤ Hh.firstN 1 (Hh.lastN 5 (Hh.bnd l q)) (Hh.bnd l q)
  · rw [if_pos h1, eS.1 h1]; exact ⟨rfl, rfl⟩
  · have hs : s = false := by cases s with | false => rfl | true => exact absurd (eS.2 rfl) h1
    rw [if_neg h1, hs]
    by_cases h2 : 0 ≤ Hh.firstN 2 (-1) (Hh.bnd l q) ∧ Hh.lastN 4 (Hh.bnd l q) < 0
    · have ha2 := eA.1 h2.2
      rw [if_pos h2, eG.1 h2.1]
      cases a with
      | true => exact absurd rfl ha2
      | false => exact ⟨rfl, rfl⟩
    · rw [if_neg h2]
      have hga : (g && !a) = false := by
        cases g with
        | false => rfl
        | true => cases a with
          | true => rfl
          | false => exact absurd ⟨eG.2 rfl, eA.2 (by simp)⟩ h2
      rw [Bool.false_or, hga]
      by_cases h3 : 0 ≤ Hh.delayN q (Hh.bnd l q)
      · rw [if_pos h3, eD.1 h3]; exact ⟨rfl, rfl⟩
      · have hd : d = false := by cases d with | false => rfl | true => exact absurd (eD.2 rfl) h3
        rw [if_neg h3, hd]; exact ⟨rfl, rfl⟩
theorem hs_drop {w : World} {A : Option Addr} {l : List Hh} (h : RowAt w A (l.flatMap encH)) (k : Nat) (hlt : k < l.length) : ∃ b off, A = some ⟨b, off, none⟩ ∧ RowAt w (some ⟨b, off + k * 10, none⟩) ((l.drop k).flatMap encH) := by
  have hl := flatH_len l
  obtain ⟨b, off, e, hb, hc⟩ := h (by intro h0; rw [h0] at hl; simp at hl; omega)
  refine ⟨b, off, e, fun hne => ⟨b, off + k * 10, rfl, hb, fun i hi => ?_⟩⟩
  have hs : l.flatMap encH = (l.take k).flatMap encH ++ (l.drop k).flatMap encH := by
    rw [← List.flatMap_append, List.take_append_drop]
  have ht : ((l.take k).flatMap encH).length = k * 10 := by rw [flatH_len, List.length_take]; omega
  have h2 := hc (k * 10 + i) (by rw [hs, List.length_append, ht]; omega)
  rw [Nat.add_assoc, h2, ← List.getElem?_eq_getElem hi, ← List.getElem?_eq_getElem (by rw [hs, List.length_append, ht]; omega), hs, List.getElem?_append_right (by omega), ht, Nat.add_sub_cancel_left]
set_option maxHeartbeats 8000000 in
set_option maxRecDepth 100000 in
theorem VerdictsStrict_any (v : Value) (l : List Hh) (q : Hh.Qq) (w : World) (hv : IsHs w v l) (hl : l.length ≤ 9223372036854775807) (hcap : ∀ A n c, v = .slice A n c → n ≤ c) : Calls Try.prog 10 #[v, askV q] w fun e w' => e = .returned (.bool true) ∧ Below w.heap.size w w' := by
  have HV := Lib.hid hv
  obtain ⟨A, cap, rfl, hrow⟩ := id hv
  have HR := Lib.hid hrow
  have HA0 := Lib.hid (BoxA.new w q)
  have HB0 := Lib.hid (al1 w (.cells #[.int .i64 q.spk, .int .i64 q.beg, .int .i64 q.lang, .int .i64 q.at_, .int .i64 q.known] 48))
  have haa : askV q = askV q := rfl
  have HCAP := Lib.hid (hcap _ _ _ rfl)
  clear hcap
  unfold askV
  clear haa hv hrow
  go_enter Try.func10, Try.ntmps10
  go_wp2_with (fail)
  refine (sane36_any _).mono ?_
  rintro e w1 ⟨rfl, b1⟩
  have HB := Lib.hid (HB0.out.up b1)
  have HA := Lib.hid (HA0.out.upb b1)
  clear b1 HB0 HA0
  have q0 := HA.out.c0
  have q1 := HA.out.c1
  have q2 := HA.out.c2
  have q3 := HA.out.c3
  have q4 := HA.out.c4
  go_wp2_with (fail)
  cases hrg : rgB l q
  · refine (right36_is (q := q) hrg (HV.out.upb HB.out) hl).mono ?_
    rintro e w2 ⟨rfl, b2⟩
    go_wp2_with (fail)
    go_ret
    exact ⟨rfl, HB.out.up b2⟩
  refine (right36_is (q := q) hrg (HV.out.upb HB.out) hl).mono ?_
  rintro e w2 ⟨rfl, b2⟩
  obtain ⟨h30, he, hask, harg, hinc⟩ := rgB_t hrg
  have HB2 := Lib.hid (HB.out.up b2)
  have HA2 := Lib.hid (HA.out.upb b2)
  have HE := Lib.hid he
  have HARG := Lib.hid harg
  have HRT := Lib.hid (show ∀ x ∈ l, Hh.right x = true from fun x hx => (incr_mem hinc x hx).2)
  have hbeg : 0 ≤ q.beg ∧ q.beg ≤ 1099511627775 := by
    simp only [Hh.argQ, Bool.and_eq_true] at harg
    exact inn_t harg.1.1.2
  have hat : 0 ≤ q.at_ ∧ q.at_ ≤ 1099511627776 := by
    simp only [Hh.argQ, Bool.and_eq_true] at harg
    have := inn_t harg.2
    omega
  obtain ⟨he0, hve⟩ := ver_strict (q := q) he hask
  have HVC := Lib.hid (fun (W : World) (hv : IsHs W (.slice A l.length cap) l) (a : Int) (ha : wantF (sK l q l.length) (l.any (pG q)) (l.any (pA q)) (l.any (pD q)) = a) => verdict36_any _ l q W hv hl (a := a) ⟨hve.trans ha, rfl, he0⟩)
  clear he0 hve
  clear b2 HB HA q0 q1 q2 q3 q4 hrg he hask harg hinc
  have q0 := HA2.out.c0
  have q1 := HA2.out.c1
  have q2 := HA2.out.c2
  have q3 := HA2.out.c3
  have q4 := HA2.out.c4
  go_wp2_with (fail)
  clear q0 q1 q2 q3 q4

  go_loopw [5, 6, 7, 8, 30] (fun f1 f2 f3 f4 i wr => ∃ k : Nat, k ≤ l.length ∧ i = .int .i64 k ∧ f1 = .bool (sK l q k) ∧ f2 = .bool ((l.take k).any (pG q)) ∧ f3 = .bool ((l.take k).any (pA q)) ∧ f4 = .bool ((l.take k).any (pD q)) ∧ Hid (Below w2.heap.size w2 wr)) (fun _ _ _ _ i _ => l.length - (intOf i).toNat)
  case atStart => exact ⟨0, Nat.zero_le _, rfl, rfl, rfl, rfl, rfl, Below.refl _ _⟩
  case round =>
    obtain ⟨k, hk, rfl, rfl, rfl, rfl, rfl, HK⟩ := hrel
    have HAr := Lib.hid (HA2.out.upb HK.out)
    have q0 := HAr.out.c0
    have q1 := HAr.out.c1
    have q2 := HAr.out.c2
    have q3 := HAr.out.c3
    have q4 := HAr.out.c4
    by_cases hlt : k < l.length
    · obtain ⟨bb, off, eA, hatt⟩ := hs_at HR.out hlt
      have HD := Lib.hid (fun (hd : k + 1 < l.length) => hs_drop HR.out (k + 1) hd)
      subst eA
      have HX := Lib.hid (hatt.below (HB2.out.up HK.out))
      have HS := Lib.hid (sK_snoc l q k hlt)
      have HG := Lib.hid (any_snoc (pG q) l k hlt)
      have HAp := Lib.hid (any_snoc (pA q) l k hlt)
      have HDl := Lib.hid (any_snoc (pD q) l k hlt)
      have hrx := HRT.out _ (List.getElem_mem hlt)
      generalize l[k] = x at *
      have hms := Hh.right_ms ((Hh.right_iff x).1 hrx)
      have HBI := Lib.hid (fun W => binds36_any x q W hrx HARG.out)
      have HBY := Lib.hid (fun (y : Hh) (hy : y ∈ l) W => binds36_any y q W (HRT.out y hy) HARG.out)
      have lq := cell_lt q0
      dsimp only at lq
      generalize sK l q k = s at *
      generalize (l.take k).any (pG q) = g at *
      generalize (l.take k).any (pA q) = ap at *
      generalize (l.take k).any (pD q) = de at *
      clear hatt hrx
      have h0 := HX.out.c0
      have h1 := HX.out.c1
      have h2 := HX.out.c2
      have h3 := HX.out.c3
      have h4 := HX.out.c4
      have h5 := HX.out.c5
      have h6 := HX.out.c6
      have h7 := HX.out.c7
      have h8 := HX.out.c8
      have h9 := HX.out.c9
      have HN := Lib.hid (BoxH.new wr x)
      have HAn := Lib.hid (HAr.out.upb (al1 wr (.cells #[.int .i64 x.no, .int .i64 x.kind, .int .i64 x.spk, .int .i64 x.fst, .int .i64 x.lst, .int .i64 x.lang, .int .i64 x.frm, .int .i64 x.unt, .int .i64 x.known, .int .i64 x.ms] 24)))
      have HKn := Lib.hid (HK.out.up (al1 wr (.cells #[.int .i64 x.no, .int .i64 x.kind, .int .i64 x.spk, .int .i64 x.fst, .int .i64 x.lst, .int .i64 x.lang, .int .i64 x.frm, .int .i64 x.unt, .int .i64 x.known, .int .i64 x.ms] 24)))
      go_wp2_with (fail)
      refine (HBI.out _).mono ?_
      rintro e w5 ⟨rfl, b5⟩
      have HN5 := Lib.hid (HN.out.upb b5)
      have HA5 := Lib.hid (HAn.out.upb b5)
      have HK5 := Lib.hid (HKn.out.up b5)
      clear b5 HN HAn HKn HAr HX HBI q0 q1 q2 q3 q4 h0 h1 h2 h3 h4 h5 h6 h7 h8 h9 HK lq
      cases hbi : Hh.binds q x
      · have HP := Lib.hid (show sK l q (k + 1) = s ∧ (l.take (k + 1)).any (pG q) = g ∧ (l.take (k + 1)).any (pA q) = ap ∧ (l.take (k + 1)).any (pD q) = de by rw [HS.out, HG.out, HAp.out, HDl.out]; simp [pG, pA, pD, hbi])
        clear hbi
        go_wp2_with (fail)
        go_roundw
        case rel => exact ⟨k + 1, by omega, by go_num, by rw [HP.out.1], by rw [HP.out.2.1], by rw [HP.out.2.2.1], by rw [HP.out.2.2.2], HK5⟩
        case measure => first | omega | (simp [intOf]; omega)
      replace hbi := Lib.hid hbi
      have h1 := HN5.out.c1
      have h9 := HN5.out.c9
      have q1 := HA5.out.c1
      have q3 := HA5.out.c3
      cases d1 : (x.kind == 1)
      · have e1 := Lib.hid (show ¬ x.kind = 1 by simpa using d1)
        cases d2 : (x.kind == 2)
        · have e2 := Lib.hid (show ¬ x.kind = 2 by simpa using d2)
          cases d4 : (x.kind == 4)
          · have e4 := Lib.hid (show ¬ x.kind = 4 by simpa using d4)
            cases d3 : (x.kind == 3)
            · have e3 := Lib.hid (show ¬ x.kind = 3 by simpa using d3)
              have HP := Lib.hid (show sK l q (k + 1) = s ∧ (l.take (k + 1)).any (pG q) = g ∧ (l.take (k + 1)).any (pA q) = ap ∧ (l.take (k + 1)).any (pD q) = de by rw [HS.out, HG.out, HAp.out, HDl.out]; simp [pG, pA, pD, hbi.out, e1.out, e2.out, e3.out, e4.out])
              go_wp2_with (fail)
              go_roundw
              case rel => exact ⟨k + 1, by omega, by go_num, by rw [HP.out.1], by rw [HP.out.2.1], by rw [HP.out.2.2.1], by rw [HP.out.2.2.2], HK5⟩
              case measure => first | omega | (simp [intOf]; omega)
            · have e3 := Lib.hid (show x.kind = 3 by simpa using d3)
              have hwr : IntKind.i64.wrap (q.at_ - q.beg) = q.at_ - q.beg := by rw [IntKind.wrap_i64]; omega
              cases de
              · cases d6 : decide (q.at_ - q.beg < x.ms)
                · have e6 := Lib.hid d6
                  have HP := Lib.hid (show sK l q (k + 1) = s ∧ (l.take (k + 1)).any (pG q) = g ∧ (l.take (k + 1)).any (pA q) = ap ∧ (l.take (k + 1)).any (pD q) = false by rw [HS.out, HG.out, HAp.out, HDl.out]; simp [pG, pA, pD, hbi.out, e3.out, of_decide_eq_false e6.out])
                  go_wp2_with (fail)
                  go_roundw
                  case rel => exact ⟨k + 1, by omega, by go_num, by rw [HP.out.1], by rw [HP.out.2.1], by rw [HP.out.2.2.1], by rw [HP.out.2.2.2], HK5⟩
                  case measure => first | omega | (simp [intOf]; omega)
                · have e6 := Lib.hid d6
                  have HP := Lib.hid (show sK l q (k + 1) = s ∧ (l.take (k + 1)).any (pG q) = g ∧ (l.take (k + 1)).any (pA q) = ap ∧ (l.take (k + 1)).any (pD q) = true by rw [HS.out, HG.out, HAp.out, HDl.out]; simp [pG, pA, pD, hbi.out, e3.out, of_decide_eq_true e6.out])
                  go_wp2_with (fail)
                  go_roundw
                  case rel => exact ⟨k + 1, by omega, by go_num, by rw [HP.out.1], by rw [HP.out.2.1], by rw [HP.out.2.2.1], by rw [HP.out.2.2.2], HK5⟩
                  case measure => first | omega | (simp [intOf]; omega)
              · skip
                have HP := Lib.hid (show sK l q (k + 1) = s ∧ (l.take (k + 1)).any (pG q) = g ∧ (l.take (k + 1)).any (pA q) = ap ∧ (l.take (k + 1)).any (pD q) = true by rw [HS.out, HG.out, HAp.out, HDl.out]; simp [pG, pA, pD, hbi.out, e3.out])
                go_wp2_with (fail)
                go_roundw
                case rel => exact ⟨k + 1, by omega, by go_num, by rw [HP.out.1], by rw [HP.out.2.1], by rw [HP.out.2.2.1], by rw [HP.out.2.2.2], HK5⟩
                case measure => first | omega | (simp [intOf]; omega)
          · have e4 := Lib.hid (show x.kind = 4 by simpa using d4)
            have HP := Lib.hid (show sK l q (k + 1) = s ∧ (l.take (k + 1)).any (pG q) = g ∧ (l.take (k + 1)).any (pA q) = true ∧ (l.take (k + 1)).any (pD q) = de by rw [HS.out, HG.out, HAp.out, HDl.out]; simp [pG, pA, pD, hbi.out, e4.out])
            have d3 : (x.kind == 3) = false := by rw [e4.out]; rfl
            go_wp2_with (fail)
            go_roundw
            case rel => exact ⟨k + 1, by omega, by go_num, by rw [HP.out.1], by rw [HP.out.2.1], by rw [HP.out.2.2.1], by rw [HP.out.2.2.2], HK5⟩
            case measure => first | omega | (simp [intOf]; omega)
        · have e2 := Lib.hid (show x.kind = 2 by simpa using d2)
          have HP := Lib.hid (show sK l q (k + 1) = s ∧ (l.take (k + 1)).any (pG q) = true ∧ (l.take (k + 1)).any (pA q) = ap ∧ (l.take (k + 1)).any (pD q) = de by rw [HS.out, HG.out, HAp.out, HDl.out]; simp [pG, pA, pD, hbi.out, e2.out])
          have d3 : (x.kind == 3) = false := by rw [e2.out]; rfl
          have d4 : (x.kind == 4) = false := by rw [e2.out]; rfl
          go_wp2_with (fail)
          go_roundw
          case rel => exact ⟨k + 1, by omega, by go_num, by rw [HP.out.1], by rw [HP.out.2.1], by rw [HP.out.2.2.1], by rw [HP.out.2.2.2], HK5⟩
          case measure => first | omega | (simp [intOf]; omega)
      · have e1 := Lib.hid (show x.kind = 1 by simpa using d1)
        have HP0 := Lib.hid (show sK l q (k + 1) = (s || !(l.drop (k + 1)).any (pL q)) ∧ (l.take (k + 1)).any (pG q) = g ∧ (l.take (k + 1)).any (pA q) = ap ∧ (l.take (k + 1)).any (pD q) = de by rw [HS.out, HG.out, HAp.out, HDl.out]; simp [pG, pA, pD, hbi.out, e1.out])
        have hcp := HCAP.out
        have hcw : IntKind.i64.wrap ((k : Int) + 1) = (k : Int) + 1 := by rw [IntKind.wrap_i64]; omega

        go_wp2_with (fail)
        · skip
          clear h1 h9 q1 q3 d1
          generalize hwo : wr = wo at *
          have hcc : cap = k + 1 := by assumption
          subst hcc
          have hz : l.length - (k + 1) = 0 := by omega
          have HRD := Lib.hid (show RowAt w (some ⟨bb, off, none⟩) ((l.drop (k + 1)).flatMap encH) by rw [List.drop_eq_nil_of_le (by omega)]; exact RowAt.nil)
          have HDM := Lib.hid (fun y (hy : y ∈ l.drop (k + 1)) => List.mem_of_mem_drop hy)
          have hm : l.length - (k + 1) = (l.drop (k + 1)).length := List.length_drop.symm
          rw [hm]
          have hd30 : (l.drop (k + 1)).length ≤ 30 := by omega
          clear HD HS HG HAp HDl
          generalize l.drop (k + 1) = D at *
          go_loopw [13, 54] (fun f i wr => ∃ j : Nat, j ≤ D.length ∧ i = .int .i64 j ∧ f = .bool ((D.take j).any (pL q)) ∧ Hid (Below w5.heap.size w5 wr)) (fun _ i _ => D.length - (intOf i).toNat)
          case atStart => exact ⟨0, Nat.zero_le _, rfl, rfl, Below.refl _ _⟩
          case round =>
            obtain ⟨j, hj, rfl, rfl, HKq⟩ := hrel
            have HAq := Lib.hid (HA5.out.upb HKq.out)
            have q0 := HAq.out.c0
            have q1 := HAq.out.c1
            have q2 := HAq.out.c2
            have q3 := HAq.out.c3
            have q4 := HAq.out.c4
            by_cases hlt2 : j < D.length
            · exfalso; omega
            · have HT := Lib.hid (show (D.take j).any (pL q) = D.any (pL q) by rw [List.take_of_length_le (by omega)])
              rw [HT.out]
              generalize D.any (pL q) = lf at *
              have HK6 := Lib.hid (HK5.out.up HKq.out)
              have h1 := (HN5.out.upb HKq.out).c1
              cases s
              · skip
                cases lf
                · skip
                  have HP := Lib.hid (show sK l q (k + 1) = true ∧ (l.take (k + 1)).any (pG q) = g ∧ (l.take (k + 1)).any (pA q) = ap ∧ (l.take (k + 1)).any (pD q) = de by rw [HP0.out.1, HP0.out.2.1, HP0.out.2.2.1, HP0.out.2.2.2]; simp)
                  go_wp2_with (fail)
                  go_roundw
                  case rel => exact ⟨k + 1, by omega, by go_num, by rw [HP.out.1], by rw [HP.out.2.1], by rw [HP.out.2.2.1], by rw [HP.out.2.2.2], HK6⟩
                  case measure => first | omega | (simp [intOf]; omega)
                · skip
                  have HP := Lib.hid (show sK l q (k + 1) = false ∧ (l.take (k + 1)).any (pG q) = g ∧ (l.take (k + 1)).any (pA q) = ap ∧ (l.take (k + 1)).any (pD q) = de by rw [HP0.out.1, HP0.out.2.1, HP0.out.2.2.1, HP0.out.2.2.2]; simp)
                  go_wp2_with (fail)
                  go_roundw
                  case rel => exact ⟨k + 1, by omega, by go_num, by rw [HP.out.1], by rw [HP.out.2.1], by rw [HP.out.2.2.1], by rw [HP.out.2.2.2], HK6⟩
                  case measure => first | omega | (simp [intOf]; omega)
              · skip
                have HP := Lib.hid (show sK l q (k + 1) = true ∧ (l.take (k + 1)).any (pG q) = g ∧ (l.take (k + 1)).any (pA q) = ap ∧ (l.take (k + 1)).any (pD q) = de by rw [HP0.out.1, HP0.out.2.1, HP0.out.2.2.1, HP0.out.2.2.2]; simp)
                go_wp2_with (fail)
                go_roundw
                case rel => exact ⟨k + 1, by omega, by go_num, by rw [HP.out.1], by rw [HP.out.2.1], by rw [HP.out.2.2.1], by rw [HP.out.2.2.2], HK6⟩
                case measure => first | omega | (simp [intOf]; omega)
        · skip
          clear h1 h9 q1 q3 d1
          generalize hwo : wr = wo at *
          have HRD := Lib.hid (show RowAt w (some ⟨bb, off + (k + 1) * 10, none⟩) ((l.drop (k + 1)).flatMap encH) by
            by_cases hd : k + 1 < l.length
            · obtain ⟨b1, o1, e1, hr1⟩ := HD.out hd
              cases e1
              exact hr1
            · rw [List.drop_eq_nil_of_le (by omega)]; exact RowAt.nil)
          have HDM := Lib.hid (fun y (hy : y ∈ l.drop (k + 1)) => List.mem_of_mem_drop hy)
          have hm : l.length - (k + 1) = (l.drop (k + 1)).length := List.length_drop.symm
          rw [hm]
          have hd30 : (l.drop (k + 1)).length ≤ 30 := by omega
          clear HD HS HG HAp HDl
          generalize l.drop (k + 1) = D at *
          go_loopw [13, 54] (fun f i wr => ∃ j : Nat, j ≤ D.length ∧ i = .int .i64 j ∧ f = .bool ((D.take j).any (pL q)) ∧ Hid (Below w5.heap.size w5 wr)) (fun _ i _ => D.length - (intOf i).toNat)
          case atStart => exact ⟨0, Nat.zero_le _, rfl, rfl, Below.refl _ _⟩
          case round =>
            obtain ⟨j, hj, rfl, rfl, HKq⟩ := hrel
            have HAq := Lib.hid (HA5.out.upb HKq.out)
            have q0 := HAq.out.c0
            have q1 := HAq.out.c1
            have q2 := HAq.out.c2
            have q3 := HAq.out.c3
            have q4 := HAq.out.c4
            by_cases hlt2 : j < D.length
            · obtain ⟨b2, o2, e2, hat2⟩ := hs_at HRD.out hlt2
              cases e2
              have HY := Lib.hid (hat2.below ((HB2.out.up HK5.out).up HKq.out))
              have HQ := Lib.hid (any_snoc (pL q) D j hlt2)
              have HBI := Lib.hid (HBY.out _ (HDM.out _ (List.getElem_mem hlt2)))
              generalize D[j] = y at *
              have lq := cell_lt q0
              dsimp only at lq
              generalize (D.take j).any (pL q) = f at *
              clear hat2
              have h0 := HY.out.c0
              have h1 := HY.out.c1
              have h2 := HY.out.c2
              have h3 := HY.out.c3
              have h4 := HY.out.c4
              have h5 := HY.out.c5
              have h6 := HY.out.c6
              have h7 := HY.out.c7
              have h8 := HY.out.c8
              have h9 := HY.out.c9
              have HN := Lib.hid (BoxH.new wr y)
              have HKn := Lib.hid (HKq.out.up (al1 wr (.cells #[.int .i64 y.no, .int .i64 y.kind, .int .i64 y.spk, .int .i64 y.fst, .int .i64 y.lst, .int .i64 y.lang, .int .i64 y.frm, .int .i64 y.unt, .int .i64 y.known, .int .i64 y.ms] 24)))
              go_wp2_with (fail)
              refine (HBI.out _).mono ?_
              rintro e w7 ⟨rfl, b7⟩
              have HN7 := Lib.hid (HN.out.upb b7)
              have HK7 := Lib.hid (HKn.out.up b7)
              clear b7 HN HKn HAq HY HBI q0 q1 q2 q3 q4 h0 h1 h2 h3 h4 h5 h6 h7 h8 h9 HKq lq
              have h1 := HN7.out.c1
              cases f
              rotate_left
              · skip
                have HF := Lib.hid (show (D.take (j + 1)).any (pL q) = true by rw [HQ.out]; simp [pL])
                go_wp2_with (fail)
                go_roundw
                case rel => exact ⟨j + 1, by omega, by go_num, by rw [HF.out], HK7⟩
                case measure => first | omega | (simp [intOf]; omega)
              cases hby : Hh.binds q y
              · replace hby := Lib.hid hby
                have HF := Lib.hid (show (D.take (j + 1)).any (pL q) = false by rw [HQ.out]; simp [pL, hby.out])
                go_wp2_with (fail)
                go_roundw
                case rel => exact ⟨j + 1, by omega, by go_num, by rw [HF.out], HK7⟩
                case measure => first | omega | (simp [intOf]; omega)
              replace hby := Lib.hid hby
              cases d5 : (y.kind == 5)
              · have e5 := Lib.hid (show ¬ y.kind = 5 by simpa using d5)
                have HF := Lib.hid (show (D.take (j + 1)).any (pL q) = false by rw [HQ.out]; simp [pL, hby.out, e5.out])
                go_wp2_with (fail)
                go_roundw
                case rel => exact ⟨j + 1, by omega, by go_num, by rw [HF.out], HK7⟩
                case measure => first | omega | (simp [intOf]; omega)
              · have e5 := Lib.hid (show y.kind = 5 by simpa using d5)
                have HF := Lib.hid (show (D.take (j + 1)).any (pL q) = true by rw [HQ.out]; simp [pL, hby.out, e5.out])
                go_wp2_with (fail)
                go_roundw
                case rel => exact ⟨j + 1, by omega, by go_num, by rw [HF.out], HK7⟩
                case measure => first | omega | (simp [intOf]; omega)
            · have HT := Lib.hid (show (D.take j).any (pL q) = D.any (pL q) by rw [List.take_of_length_le (by omega)])
              rw [HT.out]
              generalize D.any (pL q) = lf at *
              have HK6 := Lib.hid (HK5.out.up HKq.out)
              have h1 := (HN5.out.upb HKq.out).c1
              cases s
              · skip
                cases lf
                · skip
                  have HP := Lib.hid (show sK l q (k + 1) = true ∧ (l.take (k + 1)).any (pG q) = g ∧ (l.take (k + 1)).any (pA q) = ap ∧ (l.take (k + 1)).any (pD q) = de by rw [HP0.out.1, HP0.out.2.1, HP0.out.2.2.1, HP0.out.2.2.2]; simp)
                  go_wp2_with (fail)
                  go_roundw
                  case rel => exact ⟨k + 1, by omega, by go_num, by rw [HP.out.1], by rw [HP.out.2.1], by rw [HP.out.2.2.1], by rw [HP.out.2.2.2], HK6⟩
                  case measure => first | omega | (simp [intOf]; omega)
                · skip
                  have HP := Lib.hid (show sK l q (k + 1) = false ∧ (l.take (k + 1)).any (pG q) = g ∧ (l.take (k + 1)).any (pA q) = ap ∧ (l.take (k + 1)).any (pD q) = de by rw [HP0.out.1, HP0.out.2.1, HP0.out.2.2.1, HP0.out.2.2.2]; simp)
                  go_wp2_with (fail)
                  go_roundw
                  case rel => exact ⟨k + 1, by omega, by go_num, by rw [HP.out.1], by rw [HP.out.2.1], by rw [HP.out.2.2.1], by rw [HP.out.2.2.2], HK6⟩
                  case measure => first | omega | (simp [intOf]; omega)
              · skip
                have HP := Lib.hid (show sK l q (k + 1) = true ∧ (l.take (k + 1)).any (pG q) = g ∧ (l.take (k + 1)).any (pA q) = ap ∧ (l.take (k + 1)).any (pD q) = de by rw [HP0.out.1, HP0.out.2.1, HP0.out.2.2.1, HP0.out.2.2.2]; simp)
                go_wp2_with (fail)
                go_roundw
                case rel => exact ⟨k + 1, by omega, by go_num, by rw [HP.out.1], by rw [HP.out.2.1], by rw [HP.out.2.2.1], by rw [HP.out.2.2.2], HK6⟩
                case measure => first | omega | (simp [intOf]; omega)
    · have hke : k = l.length := by omega
      have HT := Lib.hid (show l.take k = l from List.take_of_length_le (by omega))
      have HVr := Lib.hid (HV.out.upb (HB2.out.up HK.out))
      have HB6 := Lib.hid (HB2.out.up HK.out)
      rw [HT.out, hke]
      clear HT
      generalize sK l q l.length = s at *
      generalize l.any (pG q) = g at *
      generalize l.any (pA q) = ap at *
      generalize l.any (pD q) = de at *
      cases de
      · skip
        cases s
        rotate_left
        · skip
          go_wp2_with (fail)
          refine (HVC.out _ HVr.out 2 rfl).mono ?_
          rintro e w7 ⟨rfl, b7⟩
          have HB7 := Lib.hid (HB6.out.up b7)
          clear b7 q0 q1 q2 q3 q4 HK HAr HVr
          go_wp2_with (fail)
          go_ret
          exact ⟨rfl, HB7.out⟩
        cases g
        · skip
          go_wp2_with (fail)
          refine (HVC.out _ HVr.out 0 rfl).mono ?_
          rintro e w7 ⟨rfl, b7⟩
          have HB7 := Lib.hid (HB6.out.up b7)
          clear b7 q0 q1 q2 q3 q4 HK HAr HVr
          go_wp2_with (fail)
          go_ret
          exact ⟨rfl, HB7.out⟩
        cases ap
        · skip
          go_wp2_with (fail)
          refine (HVC.out _ HVr.out 2 rfl).mono ?_
          rintro e w7 ⟨rfl, b7⟩
          have HB7 := Lib.hid (HB6.out.up b7)
          clear b7 q0 q1 q2 q3 q4 HK HAr HVr
          go_wp2_with (fail)
          go_ret
          exact ⟨rfl, HB7.out⟩
        · skip
          go_wp2_with (fail)
          refine (HVC.out _ HVr.out 0 rfl).mono ?_
          rintro e w7 ⟨rfl, b7⟩
          have HB7 := Lib.hid (HB6.out.up b7)
          clear b7 q0 q1 q2 q3 q4 HK HAr HVr
          go_wp2_with (fail)
          go_ret
          exact ⟨rfl, HB7.out⟩
      · skip
        cases s
        rotate_left
        · skip
          go_wp2_with (fail)
          refine (HVC.out _ HVr.out 2 rfl).mono ?_
          rintro e w7 ⟨rfl, b7⟩
          have HB7 := Lib.hid (HB6.out.up b7)
          clear b7 q0 q1 q2 q3 q4 HK HAr HVr
          go_wp2_with (fail)
          go_ret
          exact ⟨rfl, HB7.out⟩
        cases g
        · skip
          go_wp2_with (fail)
          refine (HVC.out _ HVr.out 1 rfl).mono ?_
          rintro e w7 ⟨rfl, b7⟩
          have HB7 := Lib.hid (HB6.out.up b7)
          clear b7 q0 q1 q2 q3 q4 HK HAr HVr
          go_wp2_with (fail)
          go_ret
          exact ⟨rfl, HB7.out⟩
        cases ap
        · skip
          go_wp2_with (fail)
          refine (HVC.out _ HVr.out 2 rfl).mono ?_
          rintro e w7 ⟨rfl, b7⟩
          have HB7 := Lib.hid (HB6.out.up b7)
          clear b7 q0 q1 q2 q3 q4 HK HAr HVr
          go_wp2_with (fail)
          go_ret
          exact ⟨rfl, HB7.out⟩
        · skip
          go_wp2_with (fail)
          refine (HVC.out _ HVr.out 1 rfl).mono ?_
          rintro e w7 ⟨rfl, b7⟩
          have HB7 := Lib.hid (HB6.out.up b7)
          clear b7 q0 q1 q2 q3 q4 HK HAr HVr
          go_wp2_with (fail)
          go_ret
          exact ⟨rfl, HB7.out⟩

end Go.Proofs.Ytninnpcggeofmaa
