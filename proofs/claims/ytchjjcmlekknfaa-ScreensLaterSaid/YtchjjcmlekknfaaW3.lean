/- Walk of the reference's best, by its own calls. -/
import Derived.Test.YtchjjcmlekknfaaW2
import Derived.Test.YtchjjcmlekknfaaPlain5
import Derived.Test.YtchjjcmlekknfaaClone
namespace Go.Proofs.Ytchjjcmlekknfaa
open Go.RowKit
set_option linter.unusedVariables false
set_option linter.unusedSimpArgs false

theorem al1 (w : World) (o : Obj) : Below w.heap.size w (w.alloc o) := (Below.refl _ _).alloc (Nat.le_refl _) _
theorem cell_new2 (w : World) (x : Value) (t : TypeId) : (w.alloc (.cells #[x] t)).cell? ⟨w.heap.size, 0, none⟩ = some x := by simp [Addr.add]
theorem wpList_cons1 {W : World} {ops : Array Oper} {rest : List Oper} {o : Oper} {a : Act} {Q : Exit → Act → World → Prop} (hgd : o.guard = none) (s x : Operand)
    (ho : o.op = .call { callee := .builtin .append, args := #[s, x], argTypes := #[22, 22] })
    (H : Nat) (hH : W.heap.size = H) (y : Int) (hs : a.eval s = .slice (some ⟨H, 0, none⟩) 1 1) (xs : List Int) (g c : Nat) (hx : a.eval x = .slice (some ⟨g, 0, none⟩) xs.length c) (hv : IsInts W (.slice (some ⟨g, 0, none⟩) xs.length c) xs)
    (hlen : xs.length ≤ 1000000)
    (h : ∀ g cap w', OwnInts w' W.heap.size (.slice (some ⟨g, 0, none⟩) (xs.length + 1) cap) (y :: xs) → Below W.heap.size W w' → wpList Try.prog ops Q rest (a.put o.dst (.slice (some ⟨g, 0, none⟩) (xs.length + 1) cap)) w') :
    wpList Try.prog ops Q (o :: rest) a (W.alloc (.cells #[.int .i64 y] 3)) := by
  subst hH
  obtain ⟨i0, hi, hz0, hz1, hz2⟩ := info_parts infoInt
  obtain ⟨A', c', e, hr⟩ := hv
  injection e with e1 e2 e3
  subst e1
  refine wpList_append_own_at _ hgd s x _ ho W.heap.size 3 i0 (.int .i64 0) 1 8 Try.underlying22 hi hz0 hz1 hz2 rfl (by decide) _ 1 [.int .i64 y] hs (World.ownsRow_lit W #[.int .i64 y] 1 (Nat.le_refl _) (by unfold maxLen; omega) rfl)
    ⟨g, 0, none⟩ xs.length c (xs.map (Value.int .i64)) hx (by simp) (fun j u hu => ?_) (by simp [Value.oneCell']) (by unfold maxLen; omega) (by omega) (by simp) ?_
  · obtain ⟨hj, rfl⟩ := List.getElem?_eq_some_iff.1 hu
    obtain ⟨b, off, e4, hb, hc⟩ := hr (by intro h0; rw [h0] at hj; simp at hj)
    injection e4 with e4
    injection e4 with e5 e6
    subst e5 e6
    have e : (⟨g, 0, none⟩ : Addr).add j = ⟨g, 0 + j, none⟩ := by unfold Addr.add; split <;> simp_all
    rw [e, World.cell?_alloc_lt _ _ _ hb]
    exact hc j hj
  · intro v' w' h1 h2 _ h4
    have h1' : w'.ownsRow W.heap.size 3 1 v' (xs.length + 1) (((y :: xs)).map (Value.int .i64)) := by rw [Nat.add_comm]; exact h1
    obtain ⟨g', cap, rfl, hg, _⟩ := own_form h1' (by omega)
    exact h g' cap w' h1' (((Below.refl _ W).alloc (Nat.le_refl _) _).grown h2 (by simp) (fun k hk => by
      simp [Value.ownBlock] at hk; omega))

def BsPost (p : List Nat × Int) (w : World) (e : Ending) (w' : World) : Prop :=
  ∃ g c, e = .returned (.tuple #[.slice (some ⟨g, 0, none⟩) (Sc.toI p.1).length c, .int .i64 p.2]) ∧ OwnInts w' w.heap.size (.slice (some ⟨g, 0, none⟩) (Sc.toI p.1).length c) (Sc.toI p.1) ∧ Below w.heap.size w w'

theorem own_up {W W' : World} {base base' : Nat} {v : Value} {xs : List Int} (h : OwnInts W base v xs) (hb : base' ≤ base) : OwnInts W base' v xs := by
  obtain ⟨h1, h2⟩ := h
  refine ⟨h1, ?_⟩
  rcases h2 with h2 | ⟨g, cap, cur, hv, hg, r⟩
  · exact .inl h2
  · exact .inr ⟨g, cap, cur, hv, by omega, r⟩

set_option maxHeartbeats 4000000 in
set_option maxRecDepth 100000 in
theorem refBest_any (q : Sc.Qs) (hq : Sc.ok q) : ∀ (e i : Nat) (v u : Value) (b : Int) (w : World), i + e = q.r.length → IsInts w v q.r → IsInts w u q.d → 0 ≤ b → b ≤ 1099511627776 + 2147483648 * i →
    Calls Try.prog 31 #[v, u, .int .i64 q.m, .int .i64 q.f, .int .i64 i, .int .i64 b] w (BsPost (Sc.best q i b) w) := by
  intro e
  induction e using Nat.strongRecOn with
  | _ e ih =>
    intro i v u b w hie hv hu hb0 hb1
    have HV := Lib.hid hv
    have HU := Lib.hid hu
    have HQ := Lib.hid hq
    have IH := Lib.hid ih
    have hn := hq.n
    have hm1 := hq.m1
    have hm8 := hq.m8
    obtain ⟨A, c, rfl, _⟩ := id hv
    obtain ⟨A2, c2, rfl, _⟩ := id hu
    clear ih hq hv hu
    by_cases hi : i = q.r.length
    · have hd : ((i : Int) == (q.r.length : Int)) = true := by simp; omega
      have HE := Lib.hid (show Sc.best q i b = ([], b) by rw [hi]; exact Sc.best_n)
      clear hi
      go_enter Try.func31, Try.ntmps31
      go_wp2_with (fail)
      go_ret2
      refine ⟨w.heap.size, 0, by rw [HE.out]; rfl, ?_, al1 w _⟩
      rw [HE.out]
      exact own_empty w _ (Nat.le_refl _)
    have hd : ((i : Int) == (q.r.length : Int)) = false := by simp; omega
    have HE := Lib.hid (Sc.best_fold (q := q) (b := b) (show i < q.r.length by omega))
    have hlt0 : i < q.r.length := by omega
    clear hi
    go_enter Try.func31, Try.ntmps31
    go_wp2_with (fail)
    go_loopw [14, 15, 16, 17] (fun fo en dn jv wr => ∃ t : Nat, i + 1 + t ≤ q.r.length + 1 ∧ t ≤ q.m ∧ fo = .bool (Sc.accF q i b t).isSome ∧ dn = .int .i64 (Sc.outB (Sc.accF q i b t)).2 ∧ jv = .int .i64 (i + 1 + t : Nat) ∧ Hid (OwnInts wr w.heap.size en (Sc.toI (Sc.outB (Sc.accF q i b t)).1) ∧ ((Sc.accF q i b t).isSome = true → ∃ g c, en = .slice (some ⟨g, 0, none⟩) (Sc.toI (Sc.outB (Sc.accF q i b t)).1).length c)) ∧ Hid (Below w.heap.size w wr)) (fun _ _ _ jv _ => q.r.length + 1 - (intOf jv).toNat)
    case atStart => exact ⟨0, by omega, by omega, rfl, rfl, by congr 1, Lib.hid ⟨own_none _ _, fun h => by cases h⟩, Lib.hid (Below.refl _ _)⟩
    case round =>
      obtain ⟨t, ht1, ht2, rfl, rfl, rfl, HO, HB⟩ := hrel
      by_cases hj : i + 1 + t ≤ q.r.length
      · have dj : decide (((i + 1 + t : Nat) : Int) ≤ (q.r.length : Int)) = true := by rw [decide_eq_true_eq]; omega
        by_cases hjm : t < q.m
        · have hw0 : IntKind.i64.wrap (((i + 1 + t : Nat) : Int) - (i : Int)) = (t + 1 : Nat) := by rw [IntKind.wrap_i64]; omega
          have djm : decide (((t + 1 : Nat) : Int) ≤ (q.m : Int)) = true := by rw [decide_eq_true_eq]; omega
          have HS := Lib.hid (Sc.accF_succ q i b t)
          have HSB := Lib.hid (HQ.out.scr_bd (i := i) (j := i + 1 + t) (by omega) hj hb0 hb1)
          obtain ⟨j, hjj⟩ : ∃ j, i + 1 + t = j := ⟨_, rfl⟩
          rw [hjj] at HS HSB dj hw0 hj ⊢
          have HJ := Lib.hid hjj
          have hij : i < j := by omega
          clear hjj
          go_wp2_with (fail)
          refine (refScreen_any _ _ q i j b wr (HV.out.below HB.out) (HU.out.below HB.out) HQ.out hij hj hb0 (by omega)).mono ?_
          rintro e' _ ⟨rfl, rfl⟩
          generalize Sc.scr q i j b = s at *
          have hs0 := HSB.out.1
          have hs1 := HSB.out.2
          go_wp2_with (fail)
          refine (IH.out (q.r.length - j) (by omega) j _ _ s wr (by omega) (HV.out.below HB.out) (HU.out.below HB.out) hs0 hs1).mono ?_
          rintro e' w2 ⟨g, cg, rfl, hown, bq⟩
          obtain ⟨p, hp⟩ : ∃ p, Sc.best q j s = p := ⟨_, rfl⟩
          rw [hp] at HS hown ⊢
          have HO2 := Lib.hid hown
          have HB2 := Lib.hid (HB.out.up bq)
          have HOP := Lib.hid (own_below HO.out.1 bq)
          have HOQ := Lib.hid HO.out.2
          have hpl : (Sc.toI p.1).length ≤ 1000 := by
            have g := (Sc.best_best HQ.out.m1 j s hj).grp
            rw [hp] at g
            have := Sc.grp_len g
            rw [Sc.toI_len]; omega
          clear hown bq HO HB hp
          obtain ⟨acc, hacc⟩ : ∃ a, Sc.accF q i b t = a := ⟨_, rfl⟩
          rw [hacc] at HS HOP HOQ ⊢
          clear hacc
          obtain ⟨pl, pd⟩ := p
          dsimp only at hpl HO2 ⊢
          by_cases hc : acc.isSome = false ∨ pd < (Sc.outB acc).2
          · have HE2 := Lib.hid (HS.out.trans (Sc.stepB_yes hc))
            have hb2 := HO2.out
            cases ha : acc.isSome
            · clear hc
              go_wp2_with (at_builtin; go_must (refine wpList_cons1 rfl (.tmp 65) (.tmp 66) rfl w2.heap.size rfl (j : Int) rfl (Sc.toI pl) g cg rfl HO2.out.ints (by omega) ?_); intro g2 c2' w3 hown1 hb1'; have HO3 := Lib.hid (own_up (W' := w3) hown1 (show w.heap.size ≤ w2.heap.size from HB2.out.size)); have HB3 := Lib.hid (HB2.out.up hb1'); clear hown1 hb1')
              go_roundw
              case rel => exact ⟨t + 1, by have := HJ.out; omega, by omega, by rw [HE2.out]; rfl, by rw [HE2.out]; rfl, by have := HJ.out; go_num, by rw [HE2.out]; exact Lib.hid ⟨HO3.out, fun _ => ⟨g2, c2', rfl⟩⟩, HB3⟩
              case measure => first | omega | (simp [intOf]; omega)
            · have hc2 : pd < (Sc.outB acc).2 := by
                rcases hc with h | h
                · rw [ha] at h; cases h
                · exact h
              have hd2 : decide (pd < (Sc.outB acc).2) = true := decide_eq_true hc2
              clear hc hc2
              go_wp2_with (at_builtin; go_must (refine wpList_cons1 rfl (.tmp 65) (.tmp 66) rfl w2.heap.size rfl (j : Int) rfl (Sc.toI pl) g cg rfl HO2.out.ints (by omega) ?_); intro g2 c2' w3 hown1 hb1'; have HO3 := Lib.hid (own_up (W' := w3) hown1 (show w.heap.size ≤ w2.heap.size from HB2.out.size)); have HB3 := Lib.hid (HB2.out.up hb1'); clear hown1 hb1')
              go_roundw
              case rel => exact ⟨t + 1, by have := HJ.out; omega, by omega, by rw [HE2.out]; rfl, by rw [HE2.out]; rfl, by have := HJ.out; go_num, by rw [HE2.out]; exact Lib.hid ⟨HO3.out, fun _ => ⟨g2, c2', rfl⟩⟩, HB3⟩
              case measure => first | omega | (simp [intOf]; omega)
          · have ha : acc.isSome = true := by
              cases h : acc.isSome
              · exact absurd (.inl h) hc
              · rfl
            have hc2 : ¬ pd < (Sc.outB acc).2 := fun h => hc (.inr h)
            have hd2 : decide (pd < (Sc.outB acc).2) = false := decide_eq_false hc2
            have HE2 := Lib.hid (HS.out.trans (Sc.stepB_no ha hc2))
            clear hc hc2
            go_wp2_with (fail)
            go_roundw
            case rel => exact ⟨t + 1, by have := HJ.out; omega, by omega, by rw [HE2.out, ha], by rw [HE2.out], by have := HJ.out; go_num, by rw [HE2.out]; exact Lib.hid ⟨HOP.out, HOQ.out⟩, HB2⟩
            case measure => first | omega | (simp [intOf]; omega)
        · have hw0 : IntKind.i64.wrap (((i + 1 + t : Nat) : Int) - (i : Int)) = (t + 1 : Nat) := by rw [IntKind.wrap_i64]; omega
          have djm : decide (((t + 1 : Nat) : Int) ≤ (q.m : Int)) = false := by rw [decide_eq_false_iff_not]; omega
          have HT := Lib.hid (show min q.r.length (i + q.m) - i = t by omega)
          have ha : (Sc.accF q i b t).isSome = true := by
            cases t with
            | zero => omega
            | succ t =>
              rw [Sc.accF_succ]
              cases Sc.accF q i b t with
              | none => rfl
              | some a => simp only [Sc.stepB]; split <;> rfl
          obtain ⟨g, cg, rfl⟩ := HO.out.2 ha
          have HF := Lib.hid (show Sc.best q i b = Sc.outB (Sc.accF q i b t) by rw [HE.out, HT.out])
          go_wp2_with (fail)
          go_ret2
          refine ⟨g, cg, by rw [HF.out]; rfl, by rw [HF.out]; exact HO.out.1, HB.out⟩
      · have dj : decide (((i + 1 + t : Nat) : Int) ≤ (q.r.length : Int)) = false := by rw [decide_eq_false_iff_not]; omega
        have HT := Lib.hid (show min q.r.length (i + q.m) - i = t by omega)
        have ha : (Sc.accF q i b t).isSome = true := by
          cases t with
          | zero => omega
          | succ t =>
            rw [Sc.accF_succ]
            cases Sc.accF q i b t with
            | none => rfl
            | some a => simp only [Sc.stepB]; split <;> rfl
        obtain ⟨g, cg, rfl⟩ := HO.out.2 ha
        have HF := Lib.hid (show Sc.best q i b = Sc.outB (Sc.accF q i b t) by rw [HE.out, HT.out])
        go_wp2_with (fail)
        go_ret2
        refine ⟨g, cg, by rw [HF.out]; rfl, by rw [HF.out]; exact HO.out.1, HB.out⟩
end Go.Proofs.Ytchjjcmlekknfaa
