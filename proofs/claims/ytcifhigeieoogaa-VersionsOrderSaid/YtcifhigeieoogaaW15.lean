/- Walks of the laws' helpers: right, is, has, sane. -/
import Derived.Test.YtcifhigeieoogaaW14
namespace Go.Proofs.Ytcifhigeieoogaa
open Go.RowKit
set_option linter.unusedVariables false
set_option linter.unusedSimpArgs false
attribute [local go_sem] frozen_new
namespace Vn
/-- the next one has the same time -/
def dup (x : Am) : List Am → Bool
  | [] => false
  | y :: _ => decide (y.at_ = x.at_)
/-- the steps of what is sorted -/
def hf (v : Int) (ok : Bool) : List Am → List St
  | [] => []
  | x :: r => if dup x r = true then hf v ok r else if x.value = v ∧ (!x.gone) = ok then hf v ok r else ⟨x.at_, x.value, !x.gone⟩ :: hf x.value (!x.gone) r
theorem hf_is {l : List Am} (hl : Ok l) {key kn : Int} {a : List Am} (ha : Sorted l key kn a) : ∀ (n i : Nat) (t : Int) (s : List St) (v : Int) (ok : Bool), a.length - i = n → i ≤ a.length → Upto l key kn a i t s v ok → Hist l key kn (s ++ hf v ok (a.drop i)) := by
  intro n
  induction n with
  | zero =>
    intro i t s v ok hn hi h
    have : i = a.length := by omega
    subst this
    rw [List.drop_length]
    simpa [hf] using h.whole ha
  | succ n ih =>
    intro i t s v ok hn hi h
    have hi' : i < a.length := by omega
    rw [List.drop_eq_getElem_cons hi', hf]
    by_cases hk : i + 1 < a.length
    · have hdup : dup a[i] (a.drop (i + 1)) = decide (a[i + 1].at_ = a[i].at_) := by rw [List.drop_eq_getElem_cons hk]; rfl
      rw [hdup]
      by_cases he : a[i + 1].at_ = a[i].at_
      · rw [if_pos (decide_eq_true he)]
        exact ih (i + 1) t s v ok (by omega) (by omega) (h.skip hk he)
      · rw [if_neg (by simpa using he)]
        obtain ⟨h1, h2⟩ := h.step hl ha hi' (fun _ => he)
        split
        · rename_i hc; exact ih (i + 1) _ s v ok (by omega) (by omega) (h1 hc)
        · rename_i hc
          have := ih (i + 1) _ _ _ _ (by omega) (by omega) (h2 hc)
          rwa [List.append_assoc] at this
    · have e : a.drop (i + 1) = [] := List.drop_eq_nil_of_le (by omega)
      rw [e]
      rw [if_neg (by simp [dup])]
      obtain ⟨h1, h2⟩ := h.step hl ha hi' (fun hh => absurd hh hk)
      split
      · rename_i hc
        have := ih (i + 1) _ s v ok (by omega) (by omega) (h1 hc)
        rwa [e] at this
      · rename_i hc
        have := ih (i + 1) _ _ _ _ (by omega) (by omega) (h2 hc)
        rw [e, List.append_assoc] at this
        exact this
theorem hf_whole {l : List Am} (hl : Ok l) {key kn : Int} {a : List Am} (ha : Sorted l key kn a) : Hist l key kn (hf 0 false a) :=
  hf_is hl ha a.length 0 (-1) [] 0 false (by omega) (Nat.zero_le _) (Upto.zero hl.rt ha)
def rtB (l : List Am) : Bool := decide (l.length ≤ 30) && (err l == 0)
end Vn
theorem rt_any (v : Value) (l : List Am) (w : World) (hv : IsAs w v l) (hl : l.length ≤ 9223372036854775807) : Calls Try.prog 10 #[v] w (BPost (Vn.rtB l) w) := by
  have HV := Lib.hid hv
  obtain ⟨A, c, rfl, _⟩ := id hv
  clear hv
  unfold Vn.rtB
  rw [show decide (l.length ≤ 30) = decide ((l.length : Int) ≤ 30) by rw [decide_eq_decide]; omega]
  obtain ⟨z, hz⟩ : ∃ z, Vn.err l = z := ⟨_, rfl⟩
  rw [hz]
  have HC := Lib.hid (refCheck_is hz HV.out hl)
  clear hz
  cases h1 : decide ((l.length : Int) ≤ 30)
  · go_enter Try.func10, Try.ntmps10
    go_wp2_with (fail)
    go_ret
    exact .of (by simp) (Below.refl _ _)
  · go_enter Try.func10, Try.ntmps10
    go_wp2_with (fail)
    refine HC.out.mono ?_
    rintro e w1 ⟨rfl, b1⟩
    go_wp2_with (fail)
    go_ret
    exact .of (by simp) b1
theorem rt_is {v : Value} {l : List Am} {b : Bool} {w : World} (hb : Vn.rtB l = b) (hv : IsAs w v l) (hl : l.length ≤ 9223372036854775807) : Calls Try.prog 10 #[v] w (BPost b w) := by subst hb; exact rt_any v l w hv hl
theorem is_yes {v : Value} {l : List Am} {t x : Int} {b : Bool} {w : World} (hz : Vn.valE l 0 t 0 = 0) (hx : Vn.val l 0 t 0 = (x, b)) (hv : IsAs w v l) (hl : l.length ≤ 9223372036854775807) : Calls Try.prog 22 #[v, .int .i64 t, .int .i64 x, .bool b] w (BPost true w) := by
  have HC := Lib.hid (Value_is hz hx hv hl)
  obtain ⟨A, c, rfl, _⟩ := id hv
  have hxx : (x == x) = true := beq_self_eq_true _
  clear hz hx hv
  cases b
  all_goals
    go_enter Try.func22, Try.ntmps22
    go_wp2_with (fail)
    refine HC.out.mono ?_
    rintro e w1 ⟨rfl, b1⟩
    go_wp2_with (fail)
    go_ret
    exact .of rfl b1
theorem History_is {v : Value} {l a : List Am} {key k0 : Int} {s : List St} {w : World} (hok : Vn.Ok l) (hz : Vn.hisE l key k0 = 0) (hs : Vn.Hist l key k0 s) (hv : IsAs w v l) : Calls Try.prog 19 #[v, .int .i64 key, .int .i64 k0] w fun e w' => ∃ A c, e = .returned (.tuple #[.slice A s.length c, .int .i64 0]) ∧ IsSs w' (.slice A s.length c) s ∧ Below w.heap.size w w' := by
  refine (History_any v l key k0 w hv (by have := hok.len; omega)).mono ?_
  rintro e w' ⟨v', s', rfl, ho, h1, _, hb⟩
  have : s' = s := Vn.Hist.uniq (h1 hz) hs (fun _ => rfl)
  subst this
  obtain ⟨A, c, rfl⟩ := ho.slice
  exact ⟨A, c, by rw [hz], ho.is, hb⟩
theorem has_yes {v u : Value} {l a : List Am} {s : List St} {w : World} (hok : Vn.Ok l) (ha : Vn.Sorted l 0 0 a) (hs : Vn.hf 0 false a = s) (hv : IsAs w v l) (hu : IsSs w u s) (hl : s.length ≤ 1000) : Calls Try.prog 23 #[v, u] w (BPost true w) := by
  have HC := Lib.hid (History_is (a := a) hok (show Vn.hisE l 0 0 = 0 by unfold Vn.hisE; rw [if_pos ((Vn.err_iff l).2 hok)]; rfl) (hs ▸ Vn.hf_whole hok ha) hv)
  have HU := Lib.hid hu
  obtain ⟨A, c, rfl, _⟩ := id hv
  obtain ⟨A2, c2, rfl, _⟩ := id hu
  clear hok ha hs hv hu
  go_enter Try.func23, Try.ntmps23
  go_wp2_with (fail)
  refine HC.out.mono ?_
  rintro e w1 ⟨A1, c1, rfl, hi, b1⟩
  have HI := Lib.hid hi
  have HB := Lib.hid b1
  have HU1 := Lib.hid (HU.out.upb b1)
  clear hi b1 HU HC
  go_wp2_with (fail)
  refine (sameS_is (decide_eq_true rfl) HI.out HU1.out (by omega) (by omega)).mono ?_
  rintro e w2 ⟨rfl, q, rfl⟩
  go_wp2_with (fail)
  go_ret
  exact .of rfl (below_drewN HB.out q)

theorem lit1A (W : World) (x : Am) : IsAs (W.alloc (.cells #[.int .i64 x.no, .int .i64 x.at_, .int .i64 x.known, .int .i64 x.key, .int .i64 x.value, .bool x.gone] 27)) (.slice (some ⟨W.heap.size, 0, none⟩) 1 1) [x] :=
  ⟨_, 1, rfl, fun _ => ⟨W.heap.size, 0, rfl, by simp, fun i hi => by rw [World.cell?_alloc_new, Nat.zero_add]; simp [encA]⟩⟩
theorem lit2A (W : World) (x y : Am) : IsAs (W.alloc (.cells #[.int .i64 x.no, .int .i64 x.at_, .int .i64 x.known, .int .i64 x.key, .int .i64 x.value, .bool x.gone, .int .i64 y.no, .int .i64 y.at_, .int .i64 y.known, .int .i64 y.key, .int .i64 y.value, .bool y.gone] 27)) (.slice (some ⟨W.heap.size, 0, none⟩) 2 2) [x, y] :=
  ⟨_, 2, rfl, fun _ => ⟨W.heap.size, 0, rfl, by simp, fun i hi => by rw [World.cell?_alloc_new, Nat.zero_add]; simp [encA]⟩⟩
theorem lit1S (W : World) (x : St) : IsSs (W.alloc (.cells #[.int .i64 x.at_, .int .i64 x.value, .bool x.ok] 44)) (.slice (some ⟨W.heap.size, 0, none⟩) 1 1) [x] :=
  ⟨_, 1, rfl, fun _ => ⟨W.heap.size, 0, rfl, by simp, fun i hi => by rw [World.cell?_alloc_new, Nat.zero_add]; simp [encS]⟩⟩
theorem lit2S (W : World) (x y : St) : IsSs (W.alloc (.cells #[.int .i64 x.at_, .int .i64 x.value, .bool x.ok, .int .i64 y.at_, .int .i64 y.value, .bool y.ok] 44)) (.slice (some ⟨W.heap.size, 0, none⟩) 2 2) [x, y] :=
  ⟨_, 2, rfl, fun _ => ⟨W.heap.size, 0, rfl, by simp, fun i hi => by rw [World.cell?_alloc_new, Nat.zero_add]; simp [encS]⟩⟩
namespace Vn
def a5 : Am := ⟨4, 10, 0, 0, 5, false⟩
def aG : Am := ⟨2, 20, 0, 0, 0, true⟩
def a4 : Am := ⟨4, 0, 0, 0, 0, false⟩
def aM : Am := ⟨-1, 0, 0, 0, 0, false⟩
def a7 : Am := ⟨0, 0, 0, 0, 7, false⟩
def a8 : Am := ⟨1, 0, 0, 0, 8, false⟩
def a55 : Am := ⟨0, 10, 0, 0, 5, false⟩
def a56 : Am := ⟨1, 20, 0, 0, 5, false⟩
def aB : Am := ⟨0, 0, 0, 0, 3, true⟩
theorem s_facts : addE [a5] aG = 0 ∧ addL [a5] aG = [aG, a5] ∧ addE [a5] a4 = 181 ∧ addL [a5] a4 = [] ∧ addE [a5] aM = 160 ∧ addL [a5] aM = [] ∧ valE [] 0 (-1) 0 = 1 ∧ val [] 0 (-1) 0 = (0, false) ∧ err [aB] = 160 ∧ err [a7, a8] = 0 ∧ valE [] 0 0 0 = 0 ∧ val [] 0 0 0 = (0, false) ∧ valE [a5] 0 9 0 = 0 ∧ val [a5] 0 9 0 = (0, false) ∧ valE [a5] 0 10 0 = 0 ∧ val [a5] 0 10 0 = (5, true) := by decide +kernel
theorem s_h1 : hf 0 false [] = [] := rfl
theorem s_h2 : hf 0 false [a5, aG] = [⟨10, 5, true⟩, ⟨20, 0, false⟩] := by decide +kernel
theorem s_h3 : hf 0 false [a7, a8] = [⟨0, 8, true⟩] := by decide +kernel
theorem s_h4 : hf 0 false [a55, a56] = [⟨10, 5, true⟩] := by decide +kernel
theorem sorted_nil : Sorted [] 0 0 [] := ⟨fun x => by simp, List.Pairwise.nil⟩
theorem sorted_two {x y : Am} (hx : own 0 0 x = true) (hy : own 0 0 y = true) (h : lexLt x y) : Sorted [x, y] 0 0 [x, y] :=
  ⟨fun z => by simp only [List.mem_cons, List.not_mem_nil, or_false]; exact ⟨fun h => ⟨h, by rcases h with rfl | rfl <;> assumption⟩, fun h => h.1⟩, by simp [h]⟩
theorem sorted_swap {x y : Am} (hx : own 0 0 x = true) (hy : own 0 0 y = true) (h : lexLt x y) : Sorted [y, x] 0 0 [x, y] :=
  ⟨fun z => by simp only [List.mem_cons, List.not_mem_nil, or_false]; exact ⟨fun h => ⟨h.symm, by rcases h with rfl | rfl <;> assumption⟩, fun h => h.1.symm⟩, by simp [h]⟩
theorem ok_err {l : List Am} (h : err l = 0) : Ok l := (err_iff l).1 h
end Vn
end Go.Proofs.Ytcifhigeieoogaa
