/- Walk of formed at a list; Check. -/
import Derived.Test.YtnnddmhimnekaaaW1
namespace Go.Proofs.Ytnnddmhimnekaaa
open Go.RowKit
set_option linter.unusedVariables false
set_option linter.unusedSimpArgs false

theorem IsVs.len {P : Nat → Prop} {w : World} {v : Value} {l : List Cd.Vl} (h : IsVs P w v l) : ∃ A c, v = .slice A l.length c := by
  obtain ⟨A, c, _, e, _⟩ := h
  exact ⟨A, c, e⟩

set_option maxHeartbeats 4000000 in
theorem formed_list (l : List Cd.Vl) (s : ByteArray) (A : Option Addr) (c : Nat) (P : Nat → Prop) (w : World) (hs : s.toList = []) (hv : IsVs P w (.slice A l.length c) l) (hl : l.length ≤ 1000000) (hd : Cd.depthL l ≤ 1000)
    (ih : ∀ x ∈ l, ∀ (v : Value) (P : Nat → Prop) (w : World), IsV P w v x → Calls Try.prog 28 #[v] w (FdPost x w)) :
    Calls Try.prog 28 #[.agg #[.int .i64 3, .int .i64 0, .string s, .slice A l.length c]] w (FdPost (.mk 3 0 s l) w) := by
  have HV := Lib.hid hv
  have HI := Lib.hid ih
  have H3 := Lib.hid (show Cd.formed (.mk 3 0 s l) = Cd.formedL l by rw [Cd.formed_3]; simp [(str0 s).1 hs])
  have HD := Lib.hid (Cd.depth_3 0 s l)
  clear hv ih
  have hs1 : s.toList.isEmpty = true := by simp [hs]
  have h00 : ((0 : Int) == 0) = true := by rfl
  go_enter Try.func28, Try.ntmps28
  go_wp2_with (fail)
  have B0 := Lib.hid (blw2 w (.cells #[.int .i64 3, .int .i64 0, .string s, .slice A l.length c] 24) (.cells #[.bool false, .bool ((l.length : Int) == 0), .bool ((l.length : Int) == 0), .bool true] 71))
  go_loopw [2, 57] (fun d i wr => ∃ k : Nat, k ≤ l.length ∧ i = .int .i64 k ∧ d = .int .i64 (Cd.depthL (l.take k) : Nat) ∧ Hid (Cd.formedL (l.take k) = true) ∧ Hid (Below w.heap.size w wr)) (fun _ i _ => l.length - (intOf i).toNat)
  case atStart => exact ⟨0, Nat.zero_le _, rfl, rfl, rfl, B0.out⟩
  case round =>
    obtain ⟨k, hk, rfl, rfl, HF, BR⟩ := hrel
    by_cases hlt : k < l.length
    · obtain ⟨b, off, A', c', rfl, hb, _, h1, h2, h3, h4, HE⟩ := isVs_at (HV.out.under BR.out) hlt
      have HC := Lib.hid (HI.out l[k] (List.getElem_mem hlt))
      have hdk := Cd.depthL_le l k hlt
      have hdt := Cd.depthL_take_le l k
      have HDT := Lib.hid (Cd.depthL_take l k hlt)
      have HFT := Lib.hid (Cd.formedL_take l k hlt)
      have HFN := Lib.hid (Cd.formedL_no l k hlt)
      have BA := fun o => Lib.hid (BR.out.up ((Below.refl _ wr).alloc (Nat.le_refl _) o))
      generalize l[k] = x at *
      generalize x.kind = xk at *
      generalize x.num = xn at *
      generalize x.str = xs at *
      generalize x.elems.length = xl at *
      go_wp2_with (fail)
      refine (HC.out _ P _ (HE.out.under ((Below.refl _ wr).alloc (Nat.le_refl _) _))).mono ?_
      rintro e w2 ⟨rfl, hb2⟩
      have B2 := Lib.hid ((BA _).out.up hb2)
      clear hb2
      cases hfx : Cd.formed x
      · have HR := Lib.hid (show Cd.formed (.mk 3 0 s l) = false by rw [H3.out]; exact HFN.out hfx)
        have hfd : Cd.fd x = 0 := by simp [Cd.fd, hfx]
        rw [hfd]
        clear hfx hfd
        go_wp2_with (fail)
        go_ret2
        exact FdPost.no HR.out B2.out
      · have hfd : Cd.fd x = Cd.depth x := by simp [Cd.fd, hfx]
        have HF2 := Lib.hid (show Cd.formedL (l.take (k + 1)) = true by rw [HFT.out, HF.out, hfx]; rfl)
        rw [hfd]
        clear hfx hfd
        generalize Cd.depth x = dx at *
        have HDM := Lib.hid HDT.out
        clear HDT
        go_wp2_with (fail)
        all_goals
          go_roundw
          case rel => exact ⟨k + 1, by omega, by go_num, by rw [HDM.out]; congr 1; omega, HF2, B2⟩
          case measure => first | omega | (simp [intOf]; done) | (simp [intOf]; omega)
    · have HR := Lib.hid (show Cd.formed (.mk 3 0 s l) = true by rw [H3.out]; have := HF.out; rwa [List.take_of_length_le (by omega)] at this)
      have HQ := Lib.hid (show Cd.depthL (l.take k) = Cd.depthL l by rw [List.take_of_length_le (by omega)])
      have hdt := Cd.depthL_take_le l k
      go_wp2_with (fail)
      go_ret2
      exact FdPost.yes HR.out (by rw [HD.out, ← HQ.out]; simp) BR.out

theorem formed_any (v : Cd.Vl) : ∀ (x : Value) (P : Nat → Prop) (w : World), Cd.fits v → Cd.depth v ≤ 1000 → IsV P w x v → Calls Try.prog 28 #[x] w (FdPost v w) := by
  induction v using Cd.Vl.ind with
  | h k n s l ih =>
    intro x P w hf hd hv
    obtain ⟨h1, h2, h3, h4⟩ := Cd.fits_mk.1 hf
    obtain ⟨A, c, rfl, hl⟩ := hv.opens
    by_cases hk : k < 1 ∨ 3 < k
    · exact formed_no k n s l A c w hk
    · by_cases e1 : k = 1
      · subst e1; exact formed_leaf1 n s l A c w
      · by_cases e2 : k = 2
        · subst e2; exact formed_leaf2 n s l A c w
        · obtain rfl : k = 3 := by omega
          by_cases hb : ¬ n = 0 ∨ ¬ s.toList = []
          · exact formed_list0 n s l A c w hb
          · obtain rfl : n = 0 := by
              by_cases e : n = 0
              · exact e
              · exact absurd (.inl e) hb
            have hs : s.toList = [] := by
              by_cases e : s.toList = []
              · exact e
              · exact absurd (.inr e) hb
            rw [Cd.depth_3] at hd
            refine formed_list l s A c P w hs hl h1 (by omega) (fun y hy v P w hv => ih y hy v P w (h4 y hy) ?_ hv)
            obtain ⟨i, hi, rfl⟩ := List.getElem_of_mem hy
            have := Cd.depthL_le l i hi
            omega

set_option maxHeartbeats 1000000 in
theorem Check_any (v : Cd.Vl) (x : Value) (P : Nat → Prop) (w : World) (hf : Cd.fits v) (hd : Cd.depth v ≤ 1000) (hv : IsV P w x v) :
    Calls Try.prog 16 #[x] w fun e w' => e = .returned (.int .i64 (Cd.check v)) ∧ Below w.heap.size w w' := by
  have HV := Lib.hid hv
  obtain ⟨A, c, rfl, _⟩ := hv.opens
  clear hv
  go_enter Try.func16, Try.ntmps16
  go_wp2_with (fail)
  refine (formed_any v _ P _ hf hd (HV.out.under ((Below.refl _ w).alloc (Nat.le_refl _) _))).mono ?_
  rintro e w2 ⟨rfl, hb⟩
  have B := Lib.hid (((Below.refl _ w).alloc (Nat.le_refl _) _).up hb)
  clear hb
  cases hfx : Cd.formed v
  · have HC := Lib.hid (show Cd.check v = 1 by simp [Cd.check, hfx])
    rw [show Cd.fd v = 0 by simp [Cd.fd, hfx]]
    clear hfx
    go_wp2_with (fail)
    go_ret
    exact ⟨ret_int HC.out.symm, B.out⟩
  · rw [show Cd.fd v = Cd.depth v by simp [Cd.fd, hfx]]
    by_cases h : 16 < Cd.depth v
    · have HC := Lib.hid (show Cd.check v = 2 by simp [Cd.check, hfx, h])
      clear hfx
      go_wp2_with (fail)
      go_ret
      exact ⟨ret_int HC.out.symm, B.out⟩
    · have HC := Lib.hid (show Cd.check v = 0 by simp [Cd.check, hfx, h])
      clear hfx
      go_wp2_with (fail)
      go_ret
      exact ⟨ret_int HC.out.symm, B.out⟩

end Go.Proofs.Ytnnddmhimnekaaa
