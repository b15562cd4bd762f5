/- Walks of the reference's count, Few, Int, Text, List; few. -/
import Derived.Test.YtnnddmhimnekaaaW19
namespace Go.Proofs.Ytnnddmhimnekaaa
open Go.RowKit
set_option linter.unusedVariables false
set_option linter.unusedSimpArgs false

def IPost (r : Nat) (w : World) (e : Ending) (w' : World) : Prop := e = .returned (.int .i64 (r : Int)) ∧ Below w.heap.size w w'

set_option maxRecDepth 100000 in
set_option maxHeartbeats 4000000 in
theorem count_0 (k n : Int) (s : ByteArray) (l : List Cd.Vl) (A : Option Addr) (c : Nat) (d : Int) (w : World) (h : d < 0 ∨ 150 < l.length) (hs : s.size ≤ 9223372036854775807) :
    Calls Try.prog 36 #[.agg #[.int .i64 k, .int .i64 n, .string s, .slice A l.length c], .int .i64 d] w (IPost 1000 w) := by
  by_cases hd : d < 0
  · have h1 : decide (d < 0) = true := by simpa using hd
    clear h hd
    go_enter Try.func36, Try.ntmps36
    go_wp2_with (fail)
    go_ret
    exact ⟨rfl, blw1 _ _⟩
  · have h1 : decide (d < 0) = false := by simpa using hd
    have h2 : decide (150 < (l.length : Int)) = true := by simp; omega
    clear h hd
    go_enter Try.func36, Try.ntmps36
    go_wp2_with (fail)
    go_ret
    exact ⟨rfl, blw1 _ _⟩

set_option maxRecDepth 100000 in
set_option maxHeartbeats 4000000 in
theorem count_s (d : Nat) (hd : d ≤ 100) (k n : Int) (s : ByteArray) (l : List Cd.Vl) (A : Option Addr) (c : Nat) (P : Nat → Prop) (w : World) (hv : IsVs P w (.slice A l.length c) l) (hlen : ¬ 150 < l.length) (hs : s.size ≤ 9223372036854775807) (hr : ∀ x ∈ l, Cd.raw x)
    (ih : ∀ x ∈ l, ∀ (v : Value) (P : Nat → Prop) (w : World), IsV P w v x → Calls Try.prog 36 #[v, .int .i64 ((d : Int) - 1)] w (IPost (Cd.cnt d x) w)) :
    Calls Try.prog 36 #[.agg #[.int .i64 k, .int .i64 n, .string s, .slice A l.length c], .int .i64 (d : Int)] w (IPost (Cd.cntL d (1 + s.size / 200) l) w) := by
  have HV := Lib.hid hv
  have HI := Lib.hid ih
  have HRw := Lib.hid hr
  clear hv ih hr
  have h1 : decide ((d : Int) < 0) = false := by simp
  have h2 : decide (150 < (l.length : Int)) = false := by simp; omega
  have h3 : decide (150 < l.length) = false := by simp; omega
  have HF := Lib.hid (Four.new w (.int .i64 k) (.int .i64 n) (.string s) (.slice A l.length c))
  go_enter Try.func36, Try.ntmps36
  go_wp2_with (fail)
  go_loopw [5, 6] (fun m i wr => ∃ j : Nat, j ≤ l.length ∧ i = .int .i64 j ∧ m = .int .i64 (Cd.cntL d (1 + s.size / 200) (l.take j) : Nat) ∧ Hid (Below w.heap.size w wr) ∧ Hid (Four wr w.heap.size (.int .i64 k) (.int .i64 n) (.string s) (.slice A l.length c))) (fun _ i _ => l.length - (intOf i).toNat)
  case atStart => exact ⟨0, Nat.zero_le _, rfl, by simp [Cd.cntL], Lib.hid (blw1 _ _), HF⟩
  case round =>
    obtain ⟨j, hj, rfl, rfl, BR, HFr⟩ := hrel
    clear HF
    have hc3 := HFr.out.c3
    by_cases hlt : j < l.length
    · by_cases hm : Cd.cntL d (1 + s.size / 200) (l.take j) ≤ 1000
      · obtain ⟨b, off, A', c', rfl, hb, _, e0, e1, e2, e3, HE⟩ := isVs_at (HV.out.under BR.out) hlt
        have HC := Lib.hid (HI.out l[j] (List.getElem_mem hlt))
        have HT := Lib.hid (show Cd.cntL d (1 + s.size / 200) (l.take (j + 1)) = Cd.cntL d (1 + s.size / 200) (l.take j) + Cd.cnt d l[j] by rw [Cd.cntL_take d _ l j hlt, if_pos hm])
        have hbd := Cd.cnt_bd d l[j] (HRw.out l[j] (List.getElem_mem hlt))
        generalize Cd.cntL d (1 + s.size / 200) (l.take j) = m at *
        generalize l[j] = x at *
        generalize x.kind = xk at *
        generalize x.num = xn at *
        generalize x.str = xs at *
        generalize x.elems.length = xl at *
        have hmd : decide ((m : Int) ≤ 1000) = true := by simp; omega
        go_wp2_with (fail)
        refine (HC.out _ P _ HE.out).mono ?_
        rintro e w2 ⟨rfl, hb2⟩
        have B2 := Lib.hid (BR.out.up hb2)
        have HG := Lib.hid (HFr.out.under hb2)
        clear hb2
        generalize Cd.cnt d x = q at *
        go_wp2_with (fail)
        go_roundw
        case rel => exact ⟨j + 1, by omega, by go_num, by rw [HT.out]; go_num, B2, HG⟩
        case measure => first | omega | (simp [intOf]; done) | (simp [intOf]; omega)
      · have HQ := Lib.hid (Cd.cntL_stop_take d (1 + s.size / 200) l j (by omega))
        generalize Cd.cntL d (1 + s.size / 200) (l.take j) = m at *
        have hmd : decide ((m : Int) ≤ 1000) = false := by simp; omega
        go_wp2_with (fail)
        go_ret
        exact ⟨ret_int (by rw [HQ.out]), BR.out⟩
    · have HQ := Lib.hid (show Cd.cntL d (1 + s.size / 200) l = Cd.cntL d (1 + s.size / 200) (l.take j) by rw [List.take_of_length_le (by omega)])
      generalize Cd.cntL d (1 + s.size / 200) (l.take j) = m at *
      go_wp2_with (fail)
      go_ret
      exact ⟨ret_int (by rw [HQ.out]), BR.out⟩

theorem count_any (d : Nat) : ∀ (hd : d ≤ 100) (v : Cd.Vl) (x : Value) (P : Nat → Prop) (w : World), Cd.raw v → IsV P w x v → Calls Try.prog 36 #[x, .int .i64 ((d : Int) - 1)] w (IPost (Cd.cnt d v) w) := by
  induction d with
  | zero =>
    intro hd v x P w hr hv
    cases v with
    | mk k n s l =>
      obtain ⟨A, c, rfl, hl⟩ := hv.opens
      rw [Cd.cnt_0]
      exact count_0 k n s l A c _ w (.inl (by omega)) (Cd.raw_mk.1 hr).2.1
  | succ d ih =>
    intro hd v x P w hr hv
    cases v with
    | mk k n s l =>
      obtain ⟨A, c, rfl, hl⟩ := hv.opens
      obtain ⟨_, h2, _, h4⟩ := Cd.raw_mk.1 hr
      rw [Cd.cnt_s]
      by_cases hlen : 150 < l.length
      · rw [if_pos hlen]
        exact count_0 k n s l A c _ w (.inr hlen) h2
      · rw [if_neg hlen]
        have := count_s d (by omega) k n s l A c P w hl hlen h2 h4 (fun y hy v P w hv => ih (by omega) y v P w (h4 y hy) hv)
        rw [show ((d + 1 : Nat) : Int) - 1 = (d : Int) by omega]
        exact this

set_option maxHeartbeats 1000000 in
theorem Few_any (v : Cd.Vl) (x : Value) (P : Nat → Prop) (w : World) (hr : Cd.raw v) (hv : IsV P w x v) : Calls Try.prog 25 #[x, .int .i64 20] w (BPost (Cd.fewB v) w) := by
  have HC := Lib.hid (fun X (hb : Below w.heap.size w X) => count_any 21 (by omega) v x P X hr (hv.under hb))
  have HD := Lib.hid (show Cd.fewB v = decide (Cd.cnt 21 v ≤ 200) from rfl)
  obtain ⟨A, c, rfl, _⟩ := hv.opens
  clear hv
  go_enter Try.func25, Try.ntmps25
  go_wp2_with (fail)
  refine (HC.out _ (blw1 w _)).mono ?_
  rintro e w2 ⟨rfl, hb⟩
  have B := Lib.hid ((blw1 w _).up hb)
  clear hb
  generalize Cd.cnt 21 v = q at *
  go_wp2_with (fail)
  go_ret
  exact BPost.of (by rw [HD.out]; simp; omega) B.out

theorem all_take {p : Cd.Vl → Bool} (l : List Cd.Vl) (k : Nat) (h : k < l.length) : (l.take (k + 1)).all p = ((l.take k).all p && p l[k]) := by
  rw [List.take_succ_eq_append_getElem h, List.all_append]; simp
theorem all_no {p : Cd.Vl → Bool} (l : List Cd.Vl) (k : Nat) (h : k < l.length) (hf : p l[k] = false) : l.all p = false := by
  rw [List.all_eq_false]
  exact ⟨l[k], List.getElem_mem h, by simp [hf]⟩

set_option maxRecDepth 100000 in
set_option maxHeartbeats 4000000 in
theorem few_any (l : List Cd.Vl) (v : Value) (P : Nat → Prop) (w : World) (hr : ∀ x ∈ l, Cd.raw x) (hl : l.length ≤ 9223372036854775807) (hv : IsVs P w v l) : Calls Try.prog 11 #[v] w (BPost (l.all Cd.fewB) w) := by
  have HV := Lib.hid hv
  have HRw := Lib.hid hr
  obtain ⟨A, c, rfl⟩ := hv.len
  clear hv hr
  go_enter Try.func11, Try.ntmps11
  go_wp2_with (fail)
  go_loopw [7] (fun i wr => ∃ j : Nat, j ≤ l.length ∧ i = .int .i64 j ∧ Hid ((l.take j).all Cd.fewB = true) ∧ Hid (Below w.heap.size w wr)) (fun i _ => l.length - (intOf i).toNat)
  case atStart => exact ⟨0, Nat.zero_le _, rfl, rfl, Below.refl _ _⟩
  case round =>
    obtain ⟨j, hj, rfl, HA, BR⟩ := hrel
    by_cases hlt : j < l.length
    · obtain ⟨b, off, A', c', rfl, hb, _, e0, e1, e2, e3, HE⟩ := isVs_at (HV.out.under BR.out) hlt
      have HC := Lib.hid (fun x P w => Few_any l[j] x P w (HRw.out l[j] (List.getElem_mem hlt)))
      have HT := Lib.hid (all_take (p := Cd.fewB) l j hlt)
      have HN := Lib.hid (all_no (p := Cd.fewB) l j hlt)
      generalize l[j] = x at *
      generalize x.kind = xk at *
      generalize x.num = xn at *
      generalize x.str = xs at *
      generalize x.elems.length = xl at *
      go_wp2_with (fail)
      refine (HC.out _ P _ (HE.out.under (blw1 wr _))).mono ?_
      rintro e w2 ⟨rfl, hb2⟩
      have B2 := Lib.hid (BR.out.up ((blw1 wr _).up hb2))
      clear hb2
      cases hf : Cd.fewB x
      · have HQ := Lib.hid (HN.out hf)
        clear hf
        go_wp2_with (fail)
        go_ret
        exact BPost.of HQ.out.symm B2.out
      · have HQ := Lib.hid (show (l.take (j + 1)).all Cd.fewB = true by rw [HT.out, HA.out, hf]; rfl)
        clear hf
        go_wp2_with (fail)
        go_roundw
        case rel => exact ⟨j + 1, by omega, by go_num, HQ, B2⟩
        case measure => first | omega | (simp [intOf]; done) | (simp [intOf]; omega)
    · have HQ := Lib.hid (show l.all Cd.fewB = true by have := HA.out; rwa [List.take_of_length_le (by omega)] at this)
      go_wp2_with (fail)
      go_ret
      exact BPost.of HQ.out.symm BR.out

/-- a value built by the call -/
def NewV (a b c d : Value) (w : World) (e : Ending) (w' : World) : Prop := e = .returned (.agg #[a, b, c, d]) ∧ Below w.heap.size w w'

set_option maxHeartbeats 1000000 in
theorem Int_any (n : Int) (w : World) : Calls Try.prog 23 #[.int .i64 n] w (NewV (.int .i64 1) (.int .i64 n) (.string ByteArray.empty) (.slice none 0 0) w) := by
  go_enter Try.func23, Try.ntmps23
  go_wp2_with (fail)
  exact bodyPost_ret (v := .agg #[.int .i64 1, .int .i64 n, .string ByteArray.empty, .slice none 0 0]) (by simp [results, Try.results23, go_sem]; rfl) rfl ⟨rfl, blw1 _ _⟩
set_option maxHeartbeats 1000000 in
theorem Text_any (s : ByteArray) (w : World) : Calls Try.prog 24 #[.string s] w (NewV (.int .i64 2) (.int .i64 0) (.string s) (.slice none 0 0) w) := by
  go_enter Try.func24, Try.ntmps24
  go_wp2_with (fail)
  exact bodyPost_ret (v := .agg #[.int .i64 2, .int .i64 0, .string s, .slice none 0 0]) (by simp [results, Try.results24, go_sem]) rfl ⟨rfl, blw1 _ _⟩
set_option maxHeartbeats 1000000 in
theorem List_any (A : Option Addr) (n c : Nat) (w : World) : Calls Try.prog 22 #[.slice A n c] w (NewV (.int .i64 3) (.int .i64 0) (.string ByteArray.empty) (.slice A n c) w) := by
  go_enter Try.func22, Try.ntmps22
  go_wp2_with (fail)
  exact bodyPost_ret (v := .agg #[.int .i64 3, .int .i64 0, .string ByteArray.empty, .slice A n c]) (by simp [results, Try.results22, go_sem]; rfl) rfl ⟨rfl, blw1 _ _⟩

end Go.Proofs.Ytnnddmhimnekaaa
