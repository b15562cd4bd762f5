/- Walk of slices.Backward. -/
import Derived.Test.YtdcndhfjfllehaaW10
import Derived.OwnWalkIn
namespace Go.Proofs.Ytdcndhfjfllehaa
open Go.RowKit
set_option linter.unusedVariables false
set_option linter.unusedSimpArgs false
attribute [local go_sem] Oper.semAt_some

namespace Bk
def downs (ds : List Int) : List (Nat × Int) := (List.range ds.length).map fun k => (ds.length - 1 - k, ds[ds.length - 1 - k]?.getD 0)
theorem downs_length (ds : List Int) : (downs ds).length = ds.length := by simp [downs]
theorem downs_at (ds : List Int) (k : Nat) (h : k < (downs ds).length) (p : Nat) (hp : p + k + 1 = ds.length) (hpl : p < ds.length) : (downs ds)[k] = (p, ds[p]) := by
  simp only [downs, List.getElem_map, List.getElem_range]
  rw [show ds.length - 1 - k = p by omega, List.getElem?_eq_getElem (by omega)]
  rfl
end Bk
def protD (bd : Nat) (P : Nat → Prop) : Nat → Prop := fun b => b = bd ∨ P b
theorem IsIB.low {P : Nat → Prop} {w : World} {v : Value} {xs : List Int} (h : IsIB P w v xs) : IsIB (fun b => P b ∧ b < w.heap.size) w v xs := by
  obtain ⟨A, c, e, h1, h2⟩ := h
  refine ⟨A, c, e, h1, fun hn => ?_⟩
  obtain ⟨b, off, ea, hp, hb, hc⟩ := h2 hn
  exact ⟨b, off, ea, ⟨hp, hb⟩, hb, hc⟩
theorem IsIB.cells {P : Nat → Prop} {w : World} {A : Option Addr} {n c : Nat} {xs : List Int} (h : IsIB P w (.slice A n c) xs) {k : Nat} (hk : k < xs.length) : ∃ b off, A = some ⟨b, off, none⟩ ∧ P b ∧ w.cell? ⟨b, off + k, none⟩ = some (.int .i64 xs[k]) := by
  obtain ⟨A', c', e, h1, h2⟩ := h
  injection e with e1 _ _
  subst e1
  obtain ⟨b, off, ea, hp, hb, hc⟩ := h2 (by intro e; subst e; simp at hk)
  exact ⟨b, off, ea, hp, hc k hk⟩
/-- a step of a plain region in a round -/
theorem round_step {la : Nat} {P : Program} {ops : Array Oper} {o : Oper} {a : Act} {w : World} {K : Act → World → Prop} {Q : Exit → Act → World → Prop} {E E' : Prop} (hg : o.guard = none) (hd : ∀ c, o.op ≠ .defer c)
    (h : if Region.wanted o (yielded ops a.tmps) = true then Oper.wp P o a w K Q else E) : if Region.wanted o (yielded ops a.tmps) = true then o.wpIn (Fence.wide.inRound la) 0 P a w K Q else E' := by
  have hw : Region.wanted o (yielded ops a.tmps) = true := by simp [Region.wanted, hg]
  rw [if_pos hw] at h ⊢
  exact wp_round_op hd h

/-- append of one int to a row of its own, in a round -/
theorem wpListIn_push {W : World} {la : Nat} {ops : Array Oper} {rest : List Oper} {o : Oper} {a : Act} {Q : Exit → Act → World → Prop} (hgd : o.guard = none) (s x : Operand)
    (ho : o.op = .call { callee := .builtin .append, args := #[s, x], argTypes := #[22, 22] })
    (base : Nat) (v : Value) (xs : List Int) (hs : a.eval s = v) (hown : OwnInts W base v xs) (y : Int) (H : Nat) (hH : W.heap.size = H) (hx : a.eval x = .slice (some ⟨H, 0, none⟩) 1 1)
    (hlen : xs.length ≤ 1000000) (hb : base ≤ W.heap.size)
    (h : ∀ v' w', OwnInts w' base v' (xs ++ [y]) → W.grownBy w' v.ownBlock → (∀ b o, b < base → w'.cell? ⟨b, o, none⟩ = W.cell? ⟨b, o, none⟩) → wpListIn (Fence.wide.inRound la) 0 Try.prog ops Q rest (a.put o.dst v') w') :
    wpListIn (Fence.wide.inRound la) 0 Try.prog ops Q (o :: rest) a (W.alloc (.cells #[.int .i64 y] 3)) := by
  refine wpListIn_step (fun K hK => ?_)
  refine round_step (E := True) hgd (by intro c h; rw [ho] at h; cases h) ?_
  exact step_push (E := True) hgd s x ho base v xs hs hown y H hH hx hlen hb (fun v' w' h1 h2 _ h4 => hK _ _ (h v' w' h1 h2 h4))
set_option maxHeartbeats 1000000 in
theorem backward1_iter (bd : Nat) (A : Option Addr) (cap : Nat) (xs : List Int) (P : Nat → Prop) (W : World) (hd : W.cell? ⟨bd, 0, none⟩ = some (.slice A xs.length cap))
    (hr : IsIB P W (.slice A xs.length cap) xs) (hl : xs.length ≤ 9223372036854775807) :
    Iter Try.prog 35 #[.pointer (some ⟨bd, 0, none⟩)] (fun q : Nat × Int => #[.int .i64 q.1, .int .i64 q.2]) (Bk.downs xs) (protD bd P) W := by
  intro la J Jx hJ hJx hY h0
  have HR := Lib.hid hr
  have HD := Lib.hid hd
  have HY := Lib.hid hY
  have hdl := Bk.downs_length xs
  have HDL := Lib.hid hdl
  clear hr hY hJ hJx hdl
  refine callsIn_of_wp Try.func35 rfl trivial ?_ rfl
  simp only [Try.ntmps35, List.size_toArray, List.length_cons, List.length_nil, Nat.reduceAdd, Nat.reduceSub, Array.replicate_succ, Array.replicate_zero, List.push_toArray, List.append_toArray, List.nil_append, List.cons_append]
  gi_wp2
  gi_loopw [3] (fun i wr => ∃ k : Nat, k ≤ xs.length ∧ i = .int .i64 ((xs.length : Int) - 1 - k) ∧ J k wr ∧ RStep W.heap.size (protD bd P) W wr) (fun i _ => (intOf i + 1).toNat)
  case atStart => exact ⟨0, Nat.zero_le _, by simp, h0, RStep.refl _ _ _⟩
  case round =>
    obtain ⟨k, hk, rfl, hj, hs⟩ := hrel
    by_cases hlt : k < xs.length
    · obtain ⟨p, hp⟩ : ∃ p : Nat, p + k + 1 = xs.length := ⟨xs.length - k - 1, by omega⟩
      rw [show ((xs.length : Int) - 1 - k) = (p : Int) by omega]
      have hpl : p < xs.length := by omega
      have HP := Lib.hid hp
      have hkd : k < (Bk.downs xs).length := by have := HDL.out; omega
      obtain ⟨b, off, rfl, hbb, hc0⟩ := HR.out.cells hpl
      have hc := hs.cell (.inr hbb) hc0
      have hd' := hs.cell (.inl rfl) HD.out
      obtain ⟨fn, tmps, assign, body, hy, hR⟩ := HY.out k hkd wr hj
      rw [Bk.downs_at xs k hkd p hp hpl] at hy
      have HRr := Lib.hid hR
      clear hc0 hR hp hd
      dsimp only at hy
      gi_wp2
      refine ⟨rfl, HRr.out.mono ?_⟩
      rintro e W3 (⟨rfl, hJ3, hs3⟩ | ⟨rfl, hJx3⟩)
      · gi_wp2
        go_roundw
        case rel => exact ⟨k + 1, by omega, by first | (congr 1; done) | (congr 1; have := HP.out; omega), hJ3, hs.trans hs3⟩
        case measure => first | omega | (simp [intOf]; done) | (simp [intOf]; omega)
      · gi_wp2
        refine bodyPost_ret (results_none rfl _ _ _) rfl ?_
        exact ⟨⟨_, rfl⟩, .inr ⟨_, hkd, hJx3⟩⟩
    · have hkx : k = xs.length := by omega
      rw [show ((xs.length : Int) - 1 - k) = -1 by omega]
      have HK := Lib.hid hkx
      clear hkx
      gi_wp2
      go_end0
      exact ⟨⟨_, rfl⟩, .inl (by rw [HDL.out, ← HK.out]; exact hj)⟩

set_option maxHeartbeats 400000 in
theorem backward_any (v : Value) (w : World) (hv : ∃ A l c, v = .slice A l c) :
    Calls Try.prog 25 #[v] w fun e w' => e = .returned (.func (.func 35) #[] #[.pointer (some ⟨w.heap.size, 0, none⟩)]) ∧ w.alloc (.cells #[v] 22) = w' := by
  obtain ⟨A, l, c, rfl⟩ := hv
  go_enter Try.func25, Try.ntmps25
  go_wp2
  go_ret
  exact ⟨rfl, rfl⟩

end Go.Proofs.Ytdcndhfjfllehaa
