/- Walks of end and into, the iterator that into hands back. -/
import Derived.Test.YtchjjcmlekknfaaW8
import Derived.Test.YtchjjcmlekknfaaRound
namespace Go.Proofs.Ytchjjcmlekknfaa
open Go.RowKit
set_option linter.unusedVariables false
set_option linter.unusedSimpArgs false

/-- a question in a block -/
structure QM (W : World) (B : Nat) (A : Option Addr) (c : Nat) (q : Sc.Qs) : Prop where
  cells : Cells W B 45 (qC A q.r.length c (sumL q.d q.r.length) q.m q.f)
  r : IsInts W (.slice A q.r.length c) q.r
theorem QM.upb {W W' : World} {B : Nat} {A : Option Addr} {c : Nat} {q : Sc.Qs} (h : QM W B A c q) (hb : Below W.heap.size W W') : QM W' B A c q := ⟨h.cells.upb hb, h.r.below hb⟩
theorem QM.drewN {W : World} {B : Nat} {A : Option Addr} {c : Nat} {q : Sc.Qs} (h : QM W B A c q) (n : Nat) : QM (W.drewN n) B A c q := ⟨h.cells, h.r⟩
theorem QM.c0 {W : World} {B : Nat} {A : Option Addr} {c : Nat} {q : Sc.Qs} (h : QM W B A c q) : W.cell? ⟨B, 0, none⟩ = some (.slice A q.r.length c) := h.cells.cell rfl
theorem QM.cs {W : World} {B : Nat} {A : Option Addr} {c : Nat} {q : Sc.Qs} (h : QM W B A c q) {k : Nat} (hk : k ≤ q.r.length) (hn : q.r.length ≤ 64) : W.cell? ⟨B, 1 + k, none⟩ = some (.int .i64 (Sc.sumN q.d k)) :=
  h.cells.cell (by rw [qC_sum (sumL_len _ _) (by omega), sumL_at hk (by omega)])
theorem QM.cm {W : World} {B : Nat} {A : Option Addr} {c : Nat} {q : Sc.Qs} (h : QM W B A c q) : W.cell? ⟨B, 66, none⟩ = some (.int .i64 q.m) := h.cells.cell (qC_most (sumL_len _ _))
theorem QM.cf {W : World} {B : Nat} {A : Option Addr} {c : Nat} {q : Sc.Qs} (h : QM W B A c q) : W.cell? ⟨B, 67, none⟩ = some (.int .i64 q.f) := h.cells.cell (qC_flip (sumL_len _ _))
theorem QM.lt {W : World} {B : Nat} {A : Option Addr} {c : Nat} {q : Sc.Qs} (h : QM W B A c q) : B < W.heap.size := h.cells.lt

set_option maxHeartbeats 4000000 in
set_option maxRecDepth 100000 in
theorem end_any (B : Nat) (A : Option Addr) (c : Nat) (q : Sc.Qs) (i j : Nat) (b : Int) (w : World) (hm : QM w B A c q) (hq : Sc.ok q) (hij : i < j) (hj : j ≤ q.r.length) (h0 : 0 ≤ b) (hb : b ≤ 1125899906842624) :
    Calls Try.prog 29 #[.pointer (some ⟨B, 0, none⟩), .int .i64 i, .int .i64 j, .int .i64 b] w fun e w' => e = .returned (.int .i64 (Sc.scr q i j b)) ∧ ∃ n, w' = w.drewN n := by
  have hlen := hq.len
  have hn := hq.n
  obtain ⟨bb, off, rfl, _, hc⟩ := at_cell hm.r.row (k := j - 1) (by omega)
  have hcj : ((j : Int) - 1).toNat = j - 1 := by omega
  have hj0 : (0 : Int) ≤ (j : Int) - 1 := by omega
  have hj1 : (j : Int) - 1 < (q.r.length : Int) := by omega
  have hj2 : (0 : Int) ≤ (j : Int) := by omega
  have hj3 : (j : Int) < 65 := by omega
  have hi2 : (0 : Int) ≤ (i : Int) := by omega
  have hi3 : (i : Int) < 65 := by omega
  have hjw : IntKind.i64.wrap ((j : Int) - 1) = (j : Int) - 1 := by rw [IntKind.wrap_i64]; omega
  have hr0 := hq.r0 (j - 1) (by omega)
  have hs0 := hq.sum_le (i := j) hj
  have hs1 := hq.sum_le (i := i) (by omega)
  have hf0 := hq.f0
  have hf1 := hq.f1
  have c0 := hm.c0
  have cj := hm.cs hj hn
  have ci := hm.cs (k := i) (by omega) hn
  have cf := hm.cf
  have HM := Lib.hid hm
  obtain ⟨t, ht⟩ : ∃ t, Sc.at_ q.r (j - 1) = t := ⟨_, rfl⟩
  rw [ht] at hc hr0
  obtain ⟨sj, hsj⟩ : ∃ s, Sc.sumN q.d j = s := ⟨_, rfl⟩
  obtain ⟨si, hsi⟩ : ∃ s, Sc.sumN q.d i = s := ⟨_, rfl⟩
  rw [hsj] at cj hs0
  rw [hsi] at ci hs1
  obtain ⟨s, hs⟩ : ∃ s, (if 0 < i then max t (b + q.f) else t) = s := ⟨_, rfl⟩
  have HE := Lib.hid (show Sc.scr q i j b = s + (sj - si) by unfold Sc.scr; rw [ht, hs, hsj, hsi])
  have hsb : 0 ≤ s ∧ s ≤ 1130000000000000 := by rw [← hs]; split <;> omega
  have HS := Lib.hid hs
  have hw1 : IntKind.i64.wrap (s + sj) = s + sj := by rw [IntKind.wrap_i64]; omega
  have hw2 : IntKind.i64.wrap (s + sj - si) = s + sj - si := by rw [IntKind.wrap_i64]; omega
  have hw3 : IntKind.i64.wrap (b + q.f) = b + q.f := by rw [IntKind.wrap_i64]; omega
  clear hs hq hm hlen ht hsj hsi
  have hi : i = 0 ∨ (0 < i ∧ t < b + q.f) ∨ (0 < i ∧ ¬ t < b + q.f) := by omega
  rcases hi with rfl | ⟨hi, hi2'⟩ | ⟨hi, hi2'⟩
  · obtain rfl : t = s := by rw [← HS.out, if_neg (by omega)]
    go_enter Try.func29, Try.ntmps29
    go_wp2
    go_quiet (fail)
    go_wp2
    go_ret
    exact ⟨ret_int (by rw [HE.out]; omega), _, rfl⟩
  · obtain rfl : b + q.f = s := by rw [← HS.out, if_pos hi]; omega
    have hd : decide ((0 : Int) < (i : Int)) = true := by rw [decide_eq_true_eq]; omega
    go_enter Try.func29, Try.ntmps29
    go_wp2
    go_quiet (fail)
    go_wp2
    go_ret
    exact ⟨ret_int (by rw [HE.out]; omega), _, rfl⟩
  · obtain rfl : t = s := by rw [← HS.out, if_pos hi]; omega
    have hd : decide ((0 : Int) < (i : Int)) = true := by rw [decide_eq_true_eq]; omega
    go_enter Try.func29, Try.ntmps29
    go_wp2
    go_quiet (fail)
    go_wp2
    go_ret
    exact ⟨ret_int (by rw [HE.out]; omega), _, rfl⟩

theorem into_any (B : Nat) (j : Int) (w : World) : Calls Try.prog 36 #[.pointer (some ⟨B, 0, none⟩), .int .i64 j] w fun e w' =>
    e = .returned (.func (.func 39) #[] #[.pointer (some ⟨w.heap.size + 1, 0, none⟩), .pointer (some ⟨w.heap.size, 0, none⟩)]) ∧ (w.alloc (.cells #[.pointer (some ⟨B, 0, none⟩)] 62)).alloc (.cells #[.int .i64 j] 3) = w' := by
  go_enter Try.func36, Try.ntmps36
  go_wp2
  go_ret
  exact ⟨rfl, rfl⟩

def protI (B bq bj : Nat) : Nat → Prop := fun b => b = B ∨ b = bq ∨ b = bj
theorem istep_drewN {B : Nat} (w : World) (n : Nat) : IStep B w (w.drewN n) := ⟨rfl, rfl, rfl, Nat.le_refl _, fun _ _ h _ => h⟩
theorem istep_drew {B : Nat} (w : World) : IStep B w w.drew := ⟨rfl, rfl, rfl, Nat.le_refl _, fun _ _ h _ => h⟩
theorem rstep_drew {B : Nat} {Pr : Nat → Prop} (w : World) : RStep B Pr w w.drew := ⟨rfl, rfl, rfl, Nat.le_refl _, fun _ _ h _ => h⟩
theorem rstep_drewN {B : Nat} {Pr : Nat → Prop} (w : World) (n : Nat) : RStep B Pr w (w.drewN n) := ⟨rfl, rfl, rfl, Nat.le_refl _, fun _ _ h _ => h⟩
def encI (i : Nat) : Array Value := #[.int .i64 i]
theorem ins_len (m j : Nat) : (Sc.ins m j).length = j - (j - m) := by simp [Sc.ins]
theorem ins_get {m j k : Nat} (h : k < (Sc.ins m j).length) : (Sc.ins m j)[k] = j - m + k := by simp [Sc.ins, List.getElem_range']

set_option maxHeartbeats 4000000 in
set_option maxRecDepth 100000 in
theorem into_iter (B bq bj : Nat) (m j : Nat) (W : World) (hm : W.cell? ⟨B, 66, none⟩ = some (.int .i64 m)) (hq : W.cell? ⟨bq, 0, none⟩ = some (.pointer (some ⟨B, 0, none⟩))) (hj : W.cell? ⟨bj, 0, none⟩ = some (.int .i64 j)) (hm8 : m ≤ 8) (hj64 : j ≤ 64) :
    Iter Try.prog 39 #[.pointer (some ⟨bj, 0, none⟩), .pointer (some ⟨bq, 0, none⟩)] encI (Sc.ins m j) (protI B bq bj) W := by
  intro l J Jx hJ hJx hY h0
  have T0 := Lib.hid hm
  have T1 := Lib.hid hq
  have T2 := Lib.hid hj
  have HY := Lib.hid hY
  have HJ := Lib.hid hJ
  have HJx := Lib.hid hJx
  have hw0 : IntKind.i64.wrap ((j : Int) - (m : Int)) = (j : Int) - (m : Int) := by rw [IntKind.wrap_i64]; omega
  obtain ⟨lo, hlo⟩ : ∃ lo, j - m = lo := ⟨_, rfl⟩
  have HLO := Lib.hid hlo
  have HLEN := Lib.hid (ins_len m j)
  have hmx : (0 : Int) < (j : Int) - (m : Int) ∨ ¬ (0 : Int) < (j : Int) - (m : Int) := Classical.em _
  clear hY hJ hJx hlo
  refine callsIn_of_wp Try.func39 rfl trivial ?_ rfl
  simp only [Try.ntmps39, List.size_toArray, List.length_cons, List.length_nil, Nat.reduceAdd, Nat.reduceSub, Array.replicate_succ, Array.replicate_zero, List.push_toArray, List.append_toArray, List.nil_append, List.cons_append]
  rcases hmx with hmx | hmx
  · have hst : (j : Int) - (m : Int) = (lo : Int) := by have := HLO.out; omega
    gi_wp2
    gi_region
    gi_wp2
    clear hm hq hj
    gi_loopw [4] (fun iv wr => ∃ t : Nat, t ≤ (Sc.ins m j).length ∧ iv = .int .i64 (lo + t : Nat) ∧ J t wr ∧ RStep W.heap.size (protI B bq bj) W wr) (fun iv _ => j - (intOf iv).toNat)
    case atStart => exact ⟨0, Nat.zero_le _, by first | (congr 1; done) | (congr 1; omega), HJ.out _ _ _ h0 (istep_drew W), rstep_drew W⟩
    case round =>
      obtain ⟨t, ht, rfl, hjj, hs⟩ := hrel
      have t2 := hs.cell (.inr (.inr rfl)) T2.out
      by_cases hlt : lo + t < j
      · have hd : decide (((lo + t : Nat) : Int) < (j : Int)) = true := by rw [decide_eq_true_eq]; omega
        have hl : t < (Sc.ins m j).length := by rw [HLEN.out]; have := HLO.out; omega
        have HEL := Lib.hid (show encI (Sc.ins m j)[t] = #[.int .i64 (lo + t : Nat)] from by rw [ins_get hl, HLO.out]; rfl)
        obtain ⟨fn, tmps, assign, body, hy, hR⟩ := HY.out t hl wr hjj
        rw [HEL.out] at hy
        have HRr := Lib.hid hR
        clear hR
        obtain ⟨x, hx⟩ : ∃ x, lo + t = x := ⟨_, rfl⟩
        rw [hx] at hd hy ⊢
        have hxj : x < j := by omega
        have HX := Lib.hid hx
        clear hx
        gi_wp2
        refine ⟨rfl, HRr.out.mono ?_⟩
        rintro e W3 (⟨rfl, hJ3, hs3⟩ | ⟨rfl, hJx3⟩)
        · gi_wp2
          go_roundw
          case rel => exact ⟨t + 1, hl, by have := HX.out; go_num, hJ3, hs.trans hs3⟩
          case measure => first | omega | (simp [intOf]; omega)
        · gi_wp2
          refine bodyPost_ret (results_none rfl _ _ _) rfl ?_
          exact ⟨⟨_, rfl⟩, .inr ⟨_, hl, hJx3⟩⟩
      · have hd : decide (((lo + t : Nat) : Int) < (j : Int)) = false := by rw [decide_eq_false_iff_not]; omega
        have HE := Lib.hid (show (Sc.ins m j).length = t by have h1 := HLEN.out; have h2 := HLO.out; omega)
        obtain ⟨x, hx⟩ : ∃ x, lo + t = x := ⟨_, rfl⟩
        rw [hx] at hd ⊢
        have hxj : ¬ x < j := by omega
        gi_wp2
        go_end0
        exact ⟨⟨_, rfl⟩, .inl (by rw [HE.out]; exact hjj)⟩
  · have hst : (0 : Int) = (lo : Int) := by have := HLO.out; omega
    gi_wp2
    gi_region
    gi_wp2
    clear hm hq hj
    gi_loopw [4] (fun iv wr => ∃ t : Nat, t ≤ (Sc.ins m j).length ∧ iv = .int .i64 (lo + t : Nat) ∧ J t wr ∧ RStep W.heap.size (protI B bq bj) W wr) (fun iv _ => j - (intOf iv).toNat)
    case atStart => exact ⟨0, Nat.zero_le _, by first | (congr 1; done) | (congr 1; omega), HJ.out _ _ _ h0 (istep_drew W), rstep_drew W⟩
    case round =>
      obtain ⟨t, ht, rfl, hjj, hs⟩ := hrel
      have t2 := hs.cell (.inr (.inr rfl)) T2.out
      by_cases hlt : lo + t < j
      · have hd : decide (((lo + t : Nat) : Int) < (j : Int)) = true := by rw [decide_eq_true_eq]; omega
        have hl : t < (Sc.ins m j).length := by rw [HLEN.out]; have := HLO.out; omega
        have HEL := Lib.hid (show encI (Sc.ins m j)[t] = #[.int .i64 (lo + t : Nat)] from by rw [ins_get hl, HLO.out]; rfl)
        obtain ⟨fn, tmps, assign, body, hy, hR⟩ := HY.out t hl wr hjj
        rw [HEL.out] at hy
        have HRr := Lib.hid hR
        clear hR
        obtain ⟨x, hx⟩ : ∃ x, lo + t = x := ⟨_, rfl⟩
        rw [hx] at hd hy ⊢
        have hxj : x < j := by omega
        have HX := Lib.hid hx
        clear hx
        gi_wp2
        refine ⟨rfl, HRr.out.mono ?_⟩
        rintro e W3 (⟨rfl, hJ3, hs3⟩ | ⟨rfl, hJx3⟩)
        · gi_wp2
          go_roundw
          case rel => exact ⟨t + 1, hl, by have := HX.out; go_num, hJ3, hs.trans hs3⟩
          case measure => first | omega | (simp [intOf]; omega)
        · gi_wp2
          refine bodyPost_ret (results_none rfl _ _ _) rfl ?_
          exact ⟨⟨_, rfl⟩, .inr ⟨_, hl, hJx3⟩⟩
      · have hd : decide (((lo + t : Nat) : Int) < (j : Int)) = false := by rw [decide_eq_false_iff_not]; omega
        have HE := Lib.hid (show (Sc.ins m j).length = t by have h1 := HLEN.out; have h2 := HLO.out; omega)
        obtain ⟨x, hx⟩ : ∃ x, lo + t = x := ⟨_, rfl⟩
        rw [hx] at hd ⊢
        have hxj : ¬ x < j := by omega
        gi_wp2
        go_end0
        exact ⟨⟨_, rfl⟩, .inl (by rw [HE.out]; exact hjj)⟩
end Go.Proofs.Ytchjjcmlekknfaa
