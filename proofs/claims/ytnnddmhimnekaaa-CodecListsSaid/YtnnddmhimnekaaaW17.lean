/- Walks of the reference's Formed, Depth and Check. -/
import Derived.Test.YtnnddmhimnekaaaW2
namespace Go.Proofs.Ytnnddmhimnekaaa
open Go.RowKit
set_option linter.unusedVariables false
set_option linter.unusedSimpArgs false

def BPost (r : Bool) (w : World) (e : Ending) (w' : World) : Prop := e = .returned (.bool r) ∧ Below w.heap.size w w'
theorem blw1 (w : World) (o : Obj) : Below w.heap.size w (w.alloc o) := (Below.refl _ _).alloc (Nat.le_refl _) _
theorem BPost.of {r s : Bool} {w w' : World} (h : s = r) (hb : Below w.heap.size w w') : BPost r w (.returned (.bool s)) w' := ⟨by rw [h], hb⟩

set_option maxHeartbeats 4000000 in
theorem refFormed_leaf (k n : Int) (s : ByteArray) (l : List Cd.Vl) (A : Option Addr) (c : Nat) (w : World) (h : k ≠ 3) :
    Calls Try.prog 29 #[.agg #[.int .i64 k, .int .i64 n, .string s, .slice A l.length c]] w (BPost (Cd.formed (.mk k n s l)) w) := by
  by_cases h1 : k = 1
  · subst h1
    by_cases hs : s.toList = [] <;> by_cases hl : l.length = 0
    all_goals
      first
        | have HF := Lib.hid (formed1_t (n := n) hs hl)
        | have HF := Lib.hid (formed1_f (n := n) (.inl hs : ¬ s.toList = [] ∨ ¬ l.length = 0))
        | have HF := Lib.hid (formed1_f (n := n) (.inr hl : ¬ s.toList = [] ∨ ¬ l.length = 0))
      first
        | (have hs1 : s.toList.isEmpty = true := by simp [hs])
        | (have hs1 : s.toList.isEmpty = false := by simp [hs])
      first
        | (have hl1 : ((l.length : Int) == 0) = true := by simp [hl])
        | (have hl1 : ((l.length : Int) == 0) = false := by rw [beq_eq_false_iff_ne]; omega)
      clear hl h
      go_enter Try.func29, Try.ntmps29
      go_wp2_with (fail)
      go_ret
      exact BPost.of HF.out.symm (blw1 _ _)
  · by_cases h2 : k = 2
    · subst h2
      by_cases hn : n = 0 <;> by_cases hl : l.length = 0
      all_goals
        first
          | have HF := Lib.hid (formed2_t (s := s) hn hl)
          | have HF := Lib.hid (formed2_f (s := s) (.inl hn : ¬ n = 0 ∨ ¬ l.length = 0))
          | have HF := Lib.hid (formed2_f (s := s) (.inr hl : ¬ n = 0 ∨ ¬ l.length = 0))
        first
          | (have hn1 : (n == 0) = true := by simp [hn])
          | (have hn1 : (n == 0) = false := by simp [hn])
        first
          | (have hl1 : ((l.length : Int) == 0) = true := by simp [hl])
          | (have hl1 : ((l.length : Int) == 0) = false := by rw [beq_eq_false_iff_ne]; omega)
        clear hl hn h h1
        go_enter Try.func29, Try.ntmps29
        go_wp2_with (fail)
        go_ret
        exact BPost.of HF.out.symm (blw1 _ _)
    · have HF := Lib.hid (show Cd.formed (.mk k n s l) = false by rw [Cd.formed, if_neg h1, if_neg h2, if_neg h])
      have b1 : (k == 1) = false := by simp [h1]
      have b2 : (k == 2) = false := by simp [h2]
      have b3 : (k == 3) = false := by simp [h]
      clear h h1 h2
      go_enter Try.func29, Try.ntmps29
      go_wp2_with (fail)
      go_ret
      exact BPost.of HF.out.symm (blw1 _ _)

set_option maxHeartbeats 4000000 in
theorem refFormed_list (n : Int) (s : ByteArray) (l : List Cd.Vl) (A : Option Addr) (c : Nat) (P : Nat → Prop) (w : World) (hv : IsVs P w (.slice A l.length c) l) (hl : l.length ≤ 1000000)
    (ih : ∀ x ∈ l, ∀ (v : Value) (P : Nat → Prop) (w : World), IsV P w v x → Calls Try.prog 29 #[v] w (BPost (Cd.formed x) w)) :
    Calls Try.prog 29 #[.agg #[.int .i64 3, .int .i64 n, .string s, .slice A l.length c]] w (BPost (Cd.formed (.mk 3 n s l)) w) := by
  have HV := Lib.hid hv
  have HI := Lib.hid ih
  have H3 := Lib.hid (Cd.formed_3 n s l)
  have HS0 := Lib.hid (str0 s)
  clear hv ih
  have HB := Lib.hid (fun (w : World) (hb : Below (w.heap.size + 1) w w) => hb)
  go_enter Try.func29, Try.ntmps29
  go_wp2_with (fail)
  have c3 : (w.alloc (.cells #[.int .i64 3, .int .i64 n, .string s, .slice A l.length c] 24)).heap[w.heap.size]? = some (.cells #[.int .i64 3, .int .i64 n, .string s, .slice A l.length c] 24 (0, 0)) := World.alloc_heap_new w _
  have C3 := Lib.hid c3
  clear c3 HB
  go_loopw [3] (fun i wr => ∃ k : Nat, k ≤ l.length ∧ i = .int .i64 k ∧ Hid (Cd.formedL (l.take k) = true) ∧ Hid (Below (w.heap.size + 1) (w.alloc (.cells #[.int .i64 3, .int .i64 n, .string s, .slice A l.length c] 24)) wr)) (fun i _ => l.length - (intOf i).toNat)
  case atStart => exact ⟨0, Nat.zero_le _, rfl, rfl, Below.refl _ _⟩
  case round =>
    obtain ⟨k, hk, rfl, HF, BR⟩ := hrel
    have BW := Lib.hid (show Below w.heap.size w wr from (blw1 w _).trans (BR.out.mono (by omega)))
    have hblk := Lib.hid ((BR.out.block w.heap.size (by omega)).trans C3.out)
    have hc1 : wr.cell? ⟨w.heap.size, 1, none⟩ = some (.int .i64 n) := by simp [World.cell?, hblk.out]
    have hc2 : wr.cell? ⟨w.heap.size, 2, none⟩ = some (.string s) := by simp [World.cell?, hblk.out]
    have hc3 : wr.cell? ⟨w.heap.size, 3, none⟩ = some (.slice A l.length c) := by simp [World.cell?, hblk.out]
    by_cases hlt : k < l.length
    · obtain ⟨b, off, A', c', rfl, hb, _, h1, h2, h3, h4, HE⟩ := isVs_at (HV.out.under BW.out) hlt
      have HC := Lib.hid (HI.out l[k] (List.getElem_mem hlt))
      have HFT := Lib.hid (Cd.formedL_take l k hlt)
      have HFN := Lib.hid (Cd.formedL_no l k hlt)
      generalize l[k] = x at *
      generalize x.kind = xk at *
      generalize x.num = xn at *
      generalize x.str = xs at *
      generalize x.elems.length = xl at *
      go_wp2_with (fail)
      refine (HC.out _ P _ HE.out).mono ?_
      rintro e w2 ⟨rfl, hb2⟩
      have B2 := Lib.hid (BW.out.up hb2)
      have B3 := Lib.hid (BR.out.trans (hb2.mono (by have := BR.out.size; simp at this; omega)))
      clear hb2
      cases hfx : Cd.formed x
      · have HR := Lib.hid (show Cd.formed (.mk 3 n s l) = false by rw [H3.out, HFN.out hfx]; simp)
        clear hfx
        go_wp2_with (fail)
        go_ret
        exact BPost.of HR.out.symm B2.out
      · have HF2 := Lib.hid (show Cd.formedL (l.take (k + 1)) = true by rw [HFT.out, HF.out, hfx]; rfl)
        clear hfx
        go_wp2_with (fail)
        go_roundw
        case rel => exact ⟨k + 1, by omega, by go_num, HF2, B3⟩
        case measure => first | omega | (simp [intOf]; done) | (simp [intOf]; omega)
    · have HR := Lib.hid (show Cd.formed (.mk 3 n s l) = (decide (n = 0) && decide (s.size = 0)) by rw [H3.out]; have := HF.out; rw [List.take_of_length_le (by omega)] at this; rw [this]; simp)
      by_cases hn : n = 0
      · subst hn
        by_cases hs : s.toList = []
        · have hs1 : s.toList.isEmpty = true := by simp [hs]
          have HQ := Lib.hid (show Cd.formed (.mk 3 0 s l) = true by rw [HR.out]; simp [HS0.out.1 hs])
          go_wp2_with (fail)
          go_ret
          exact BPost.of HQ.out.symm BW.out
        · have hs1 : s.toList.isEmpty = false := by simp [hs]
          have HQ := Lib.hid (show Cd.formed (.mk 3 0 s l) = false by rw [HR.out]; simp; intro e; exact hs (HS0.out.2 (by rw [e]; rfl)))
          go_wp2_with (fail)
          go_ret
          exact BPost.of HQ.out.symm BW.out
      · have hn1 : (n == 0) = false := by simp [hn]
        have HQ := Lib.hid (show Cd.formed (.mk 3 n s l) = false by rw [HR.out]; simp [hn])
        clear hn
        go_wp2_with (fail)
        go_ret
        exact BPost.of HQ.out.symm BW.out

theorem refFormed_any (v : Cd.Vl) : ∀ (x : Value) (P : Nat → Prop) (w : World), Cd.fits v → IsV P w x v → Calls Try.prog 29 #[x] w (BPost (Cd.formed v) w) := by
  induction v using Cd.Vl.ind with
  | h k n s l ih =>
    intro x P w hf hv
    obtain ⟨h1, h2, h3, h4⟩ := Cd.fits_mk.1 hf
    obtain ⟨A, c, rfl, hl⟩ := hv.opens
    by_cases hk : k = 3
    · subst hk
      exact refFormed_list n s l A c P w hl h1 (fun y hy v P w hv => ih y hy v P w (h4 y hy) hv)
    · exact refFormed_leaf k n s l A c w hk

set_option maxHeartbeats 4000000 in
theorem refDepth_leaf (k n : Int) (s : ByteArray) (l : List Cd.Vl) (A : Option Addr) (c : Nat) (w : World) (h : k ≠ 3) :
    Calls Try.prog 30 #[.agg #[.int .i64 k, .int .i64 n, .string s, .slice A l.length c]] w fun e w' => e = .returned (.int .i64 (Cd.depth (.mk k n s l) : Nat)) ∧ Below w.heap.size w w' := by
  have HD := Lib.hid (Cd.depth_0 n s l h)
  have b3 : (k != 3) = true := by simp [h]
  clear h
  go_enter Try.func30, Try.ntmps30
  go_wp2_with (fail)
  go_ret
  exact ⟨ret_int (by rw [HD.out]; rfl), blw1 _ _⟩

set_option maxHeartbeats 4000000 in
theorem refDepth_list (n : Int) (s : ByteArray) (l : List Cd.Vl) (A : Option Addr) (c : Nat) (P : Nat → Prop) (w : World) (hv : IsVs P w (.slice A l.length c) l) (hl : l.length ≤ 1000000) (hd : Cd.depthL l ≤ 1000)
    (ih : ∀ x ∈ l, ∀ (v : Value) (P : Nat → Prop) (w : World), IsV P w v x → Calls Try.prog 30 #[v] w fun e w' => e = .returned (.int .i64 (Cd.depth x : Nat)) ∧ Below w.heap.size w w') :
    Calls Try.prog 30 #[.agg #[.int .i64 3, .int .i64 n, .string s, .slice A l.length c]] w fun e w' => e = .returned (.int .i64 (Cd.depth (.mk 3 n s l) : Nat)) ∧ Below w.heap.size w w' := by
  have HV := Lib.hid hv
  have HI := Lib.hid ih
  have H3 := Lib.hid (Cd.depth_3 n s l)
  clear hv ih
  go_enter Try.func30, Try.ntmps30
  go_wp2_with (fail)
  have c3 : (w.alloc (.cells #[.int .i64 3, .int .i64 n, .string s, .slice A l.length c] 24)).heap[w.heap.size]? = some (.cells #[.int .i64 3, .int .i64 n, .string s, .slice A l.length c] 24 (0, 0)) := World.alloc_heap_new w _
  have C3 := Lib.hid c3
  clear c3
  go_loopw [3, 4] (fun d i wr => ∃ k : Nat, k ≤ l.length ∧ i = .int .i64 k ∧ d = .int .i64 (Cd.depthL (l.take k) : Nat) ∧ Hid (Below (w.heap.size + 1) (w.alloc (.cells #[.int .i64 3, .int .i64 n, .string s, .slice A l.length c] 24)) wr)) (fun _ i _ => l.length - (intOf i).toNat)
  case atStart => exact ⟨0, Nat.zero_le _, rfl, rfl, Below.refl _ _⟩
  case round =>
    obtain ⟨k, hk, rfl, rfl, BR⟩ := hrel
    have BW := Lib.hid (show Below w.heap.size w wr from (blw1 w _).trans (BR.out.mono (by omega)))
    have hblk := Lib.hid ((BR.out.block w.heap.size (by omega)).trans C3.out)
    have hc3 : wr.cell? ⟨w.heap.size, 3, none⟩ = some (.slice A l.length c) := by simp [World.cell?, hblk.out]
    have hdt := Cd.depthL_take_le l k
    by_cases hlt : k < l.length
    · obtain ⟨b, off, A', c', rfl, hb, _, h1, h2, h3, h4, HE⟩ := isVs_at (HV.out.under BW.out) hlt
      have HC := Lib.hid (HI.out l[k] (List.getElem_mem hlt))
      have hdk := Cd.depthL_le l k hlt
      have HDT := Lib.hid (Cd.depthL_take l k hlt)
      generalize l[k] = x at *
      generalize x.kind = xk at *
      generalize x.num = xn at *
      generalize x.str = xs at *
      generalize x.elems.length = xl at *
      go_wp2_with (fail)
      refine (HC.out _ P _ HE.out).mono ?_
      rintro e w2 ⟨rfl, hb2⟩
      have B3 := Lib.hid (BR.out.trans (hb2.mono (by have := BR.out.size; simp at this; omega)))
      clear hb2
      generalize Cd.depth x = dx at *
      go_wp2_with (fail)
      all_goals
        go_roundw
        case rel => exact ⟨k + 1, by omega, by go_num, by rw [HDT.out]; congr 1; omega, B3⟩
        case measure => first | omega | (simp [intOf]; done) | (simp [intOf]; omega)
    · have HR := Lib.hid (show Cd.depth (.mk 3 n s l) = Cd.depthL (l.take k) + 1 by rw [H3.out, List.take_of_length_le (by omega)])
      go_wp2_with (fail)
      go_ret
      exact ⟨ret_int (by rw [HR.out]; simp), BW.out⟩

theorem refDepth_any (v : Cd.Vl) : ∀ (x : Value) (P : Nat → Prop) (w : World), Cd.fits v → Cd.depth v ≤ 1000 → IsV P w x v → Calls Try.prog 30 #[x] w fun e w' => e = .returned (.int .i64 (Cd.depth v : Nat)) ∧ Below w.heap.size w w' := by
  induction v using Cd.Vl.ind with
  | h k n s l ih =>
    intro x P w hf hd hv
    obtain ⟨h1, h2, h3, h4⟩ := Cd.fits_mk.1 hf
    obtain ⟨A, c, rfl, hl⟩ := hv.opens
    by_cases hk : k = 3
    · subst hk
      rw [Cd.depth_3] at hd
      refine refDepth_list n s l A c P w hl h1 (by omega) (fun y hy v P w hv => ih y hy v P w (h4 y hy) ?_ hv)
      obtain ⟨i, hi, rfl⟩ := List.getElem_of_mem hy
      have := Cd.depthL_le l i hi
      omega
    · exact refDepth_leaf k n s l A c w hk

set_option maxHeartbeats 1000000 in
theorem refCheck_any (v : Cd.Vl) (x : Value) (P : Nat → Prop) (w : World) (hf : Cd.fits v) (hd : Cd.depth v ≤ 1000) (hv : IsV P w x v) :
    Calls Try.prog 17 #[x] w fun e w' => e = .returned (.int .i64 (Cd.check v)) ∧ Below w.heap.size w w' := by
  have HV := Lib.hid hv
  obtain ⟨A, c, rfl, _⟩ := hv.opens
  clear hv
  go_enter Try.func17, Try.ntmps17
  go_wp2_with (fail)
  refine (refFormed_any v _ P _ hf (HV.out.under (blw1 w _))).mono ?_
  rintro e w2 ⟨rfl, hb⟩
  have B := Lib.hid ((blw1 w _).up hb)
  have hblk := Lib.hid ((hb.block w.heap.size (by simp)).trans (World.alloc_heap_new w _))
  have hc0 : w2.cell? ⟨w.heap.size, 0, none⟩ = some (.int .i64 v.kind) := by simp [World.cell?, hblk.out]
  have hc1 : w2.cell? ⟨w.heap.size, 1, none⟩ = some (.int .i64 v.num) := by simp [World.cell?, hblk.out]
  have hc2 : w2.cell? ⟨w.heap.size, 2, none⟩ = some (.string v.str) := by simp [World.cell?, hblk.out]
  have hc3 : w2.cell? ⟨w.heap.size, 3, none⟩ = some (.slice A v.elems.length c) := by simp [World.cell?, hblk.out]
  clear hb
  cases hfx : Cd.formed v
  · have HC := Lib.hid (show Cd.check v = 1 by simp [Cd.check, hfx])
    clear hfx
    go_wp2_with (fail)
    go_ret
    exact ⟨ret_int HC.out.symm, B.out⟩
  · have HC := Lib.hid (show Cd.check v = if 16 < Cd.depth v then 2 else 0 by simp [Cd.check, hfx])
    clear hfx
    go_wp2_with (fail)
    refine (refDepth_any v _ P _ hf hd (HV.out.under B.out)).mono ?_
    rintro e w3 ⟨rfl, hb⟩
    have B3 := Lib.hid (B.out.up hb)
    clear hb
    by_cases h : 16 < Cd.depth v
    · have HQ := Lib.hid (show Cd.check v = 2 by rw [HC.out, if_pos h])
      go_wp2_with (fail)
      go_ret
      exact ⟨ret_int HQ.out.symm, B3.out⟩
    · have HQ := Lib.hid (show Cd.check v = 0 by rw [HC.out, if_neg h])
      go_wp2_with (fail)
      go_ret
      exact ⟨ret_int HQ.out.symm, B3.out⟩

end Go.Proofs.Ytnnddmhimnekaaa
