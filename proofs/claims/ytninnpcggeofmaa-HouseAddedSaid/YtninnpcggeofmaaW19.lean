/- Walks of slices.Collect and Standing. -/
import Derived.Test.YtninnpcggeofmaaW18
namespace Go.Proofs.Ytninnpcggeofmaa
open Go.RowKit
set_option linter.unusedVariables false
set_option linter.unusedSimpArgs false

theorem ownH_mono {W : World} {b b' : Nat} {v : Value} {xs : List Hh} (h : OwnHs W b v xs) (hb : b' ≤ b) : OwnHs W b' v xs := by
  obtain ⟨h1, h2⟩ := h
  refine ⟨h1, ?_⟩
  rcases h2 with h2 | ⟨g, cap, cur, hv, hg, r⟩
  · exact .inl h2
  · exact .inr ⟨g, cap, cur, hv, Nat.le_trans hb hg, r⟩
theorem collect_any (gf : Nat) (lb : Array Value) (ys : List Hh) (Prot : Nat → Prop) (w : World) (eg : ∀ args W, (callFunc gf args).run Try.prog W = .ok (.enter gf args) W) (hP : ∀ b, Prot b → b < w.heap.size) (hl : ys.length ≤ 1024)
    (hit : ∀ W', Below w.heap.size w W' → Iter Try.prog gf lb encV ys Prot W') :
    Calls Try.prog 43 #[.func (.func gf) #[] lb] w (OwnPost ys w) := by
  have HC := Lib.hid (appendSeq_any gf lb ys Prot w eg hP hl hit)
  clear hit
  go_enter Try.func43, Try.ntmps43
  go_wp2_with (fail)
  refine HC.out.mono ?_
  rintro e w1 ⟨v', rfl, HO, HB⟩
  go_wp2_with (fail)
  go_ret
  exact ⟨_, rfl, HO, HB⟩
theorem that_any (v f : Value) (w : World) (A : Option Addr) (n c : Nat) (hv : v = .slice A n c) (gf : Nat) (lb : Array Value) (hf : f = .func (.func gf) #[] lb) : Calls Try.prog 44 #[v, f] w fun e w' => e = .returned (.func (.func 66) #[] #[.pointer (some ⟨w.heap.size, 0, none⟩), .pointer (some ⟨w.heap.size + 1, 0, none⟩)]) ∧ (w.alloc (.cells #[v] 22)).alloc (.cells #[f] 39) = w' := by
  subst hv hf
  go_enter Try.func44, Try.ntmps44
  go_wp2_with (fail)
  go_ret
  exact ⟨rfl, rfl⟩

set_option maxHeartbeats 4000000 in
theorem Standing_any (v : Value) (l : List Hh) (t : Int) (w : World) (hv : IsHs w v l) (hl : l.length ≤ 9223372036854775807) : Calls Try.prog 18 #[v, .int .i64 t] w (StdPost l t w) := by
  have HV := Lib.hid hv
  obtain ⟨A, cap, rfl, hr⟩ := id hv
  clear hr hv
  have HB0 := Lib.hid (al1 w (.cells #[.int .i64 t] 3))
  have HT0 := Lib.hid (Boxed.new w 3 (.int .i64 t))
  go_enter Try.func18, Try.ntmps18
  go_wp2_with (fail)
  by_cases he : Hh.err l = 0
  rotate_left
  · obtain ⟨x, hx⟩ : ∃ x, Hh.err l = x := ⟨_, rfl⟩
    have hne : (x == 0) = false := by rw [← hx]; simpa using he
    refine (Check_is hx (HV.out.upb HB0.out) hl).mono ?_
    rintro e w1 ⟨rfl, b1⟩
    have e1 : Hh.stdE l t = x := by unfold Hh.stdE; rw [if_neg he, hx]
    have e2 : Hh.stdL l t = [] := by unfold Hh.stdL; rw [e1, if_neg (by rw [← hx]; exact he)]
    have E := Lib.hid e1
    have E2 := Lib.hid e2
    clear e1 e2 he hx
    go_wp2_with (fail)
    go_ret2
    exact ⟨_, by rw [E.out]; rfl, by rw [E2.out]; exact ownH_none _ _, HB0.out.up b1⟩
  have hl2 : l.length ≤ 1024 := (err_zero he).1
  refine (Check_is he (HV.out.upb HB0.out) hl).mono ?_
  rintro e w1 ⟨rfl, b1⟩
  have HB1 := Lib.hid (HB0.out.up b1)
  have HT1 := Lib.hid (boxed_below HT0.out b1)
  have HE := Lib.hid he
  clear b1 he HB0 HT0
  have tc := HT1.out.cell
  go_wp2_with (fail)
  cases ht : Hh.inn t 0 1099511627775
  · refine (within_is ht _).mono ?_
    rintro e _ ⟨rfl, rfl⟩
    have E := Lib.hid (show Hh.stdE l t = 1 by unfold Hh.stdE; rw [if_pos HE.out, ht]; rfl)
    have E2 := Lib.hid (show Hh.stdL l t = [] by unfold Hh.stdL; rw [E.out]; rfl)
    go_wp2_with (fail)
    go_ret2
    exact ⟨_, by rw [E.out]; rfl, by rw [E2.out]; exact ownH_none _ _, HB1.out⟩
  refine (within_is ht _).mono ?_
  rintro e _ ⟨rfl, rfl⟩
  have E := Lib.hid (show Hh.stdE l t = 0 by unfold Hh.stdE; rw [if_pos HE.out, ht]; rfl)
  have E2 := Lib.hid (show Hh.stdL l t = Hh.stand l t by unfold Hh.stdL; rw [E.out]; rfl)
  go_wp2_with (fail)
  refine (that_any _ _ _ A l.length cap rfl 45 _ rfl).mono ?_
  rintro e w2 ⟨rfl, rfl⟩
  have b2 : Below w1.heap.size w1 ((w1.alloc (.cells #[.slice A l.length cap] 22)).alloc (.cells #[.func (.func 45) #[] #[.pointer (some ⟨w.heap.size, 0, none⟩)]] 39)) := (al1 w1 _).up (al1 _ _)
  have c1 := (boxed_below (Boxed.new w1 22 (.slice A l.length cap)) (al1 _ (.cells #[.func (.func 45) #[] #[.pointer (some ⟨w.heap.size, 0, none⟩)]] 39)))
  have c2 := Boxed.new (w1.alloc (.cells #[.slice A l.length cap] 22)) 39 (.func (.func 45) #[] #[.pointer (some ⟨w.heap.size, 0, none⟩)])
  simp only [World.size_alloc] at c2
  have c3 := boxed_below HT1.out b2
  have HB2 := Lib.hid (HB1.out.up b2)
  generalize ((w1.alloc (.cells #[.slice A l.length cap] 22)).alloc (.cells #[.func (.func 45) #[] #[.pointer (some ⟨w.heap.size, 0, none⟩)]] 39)) = w2 at *
  have hw : w.heap.size ≤ w2.heap.size := HB2.out.size
  have hn1 := c1.lt
  have hn2 := c2.lt
  have hn3 := c3.lt
  have HCOL := Lib.hid (collect_any 66 #[.pointer (some ⟨w1.heap.size, 0, none⟩), .pointer (some ⟨w1.heap.size + 1, 0, none⟩)] (Hh.stand l t) (protT w1.heap.size (w1.heap.size + 1) w.heap.size w.heap.size) w2 (fun _ _ => rfl)
    (by rintro b (rfl | rfl | rfl | h) <;> omega) (Nat.le_trans (List.length_filter_le _ _) hl2)
    (fun X hX => that_iter w1.heap.size (w1.heap.size + 1) w.heap.size l A cap t w X (boxed_below c1 hX).cell (boxed_below c2 hX).cell (boxed_below c3 hX).cell HV.out (HB2.out.up hX) hl2))
  clear b2 c1 c2 c3 tc
  go_wp2_with (fail)
  refine HCOL.out.mono ?_
  rintro e w3 ⟨v', rfl, HO, HB3⟩
  have HO3 := Lib.hid (ownH_mono HO hw)
  have HB4 := Lib.hid (HB2.out.up HB3)
  clear HO HB3 HCOL
  go_wp2_with (fail)
  go_ret2
  exact ⟨_, by rw [E.out]; rfl, by rw [E2.out]; exact HO3.out, HB4.out⟩

end Go.Proofs.Ytninnpcggeofmaa
