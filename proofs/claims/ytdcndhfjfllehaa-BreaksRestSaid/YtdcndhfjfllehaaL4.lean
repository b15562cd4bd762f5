/- The statement BreaksRest, walked. -/
import Derived.Test.YtdcndhfjfllehaaL5
namespace Go.Proofs.Ytdcndhfjfllehaa
open Go.RowKit
set_option linter.unusedVariables false
set_option linter.unusedSimpArgs false

theorem err_drop {xs : List Int} {sp rm : Int} (h : Bk.err xs sp rm = 0) (k : Nat) : Bk.err (xs.drop k) sp rm = 0 := by
  have hr := Bk.err_rt h
  have hl := hr.len
  have hb : (xs.drop k).any Bk.badW = false := by
    rw [List.any_eq_false]
    intro x hx
    have := hr.w x (List.mem_of_mem_drop hx)
    simp [Bk.badW]; omega
  have hs := hr.s
  have hr' := hr.r
  unfold Bk.err
  rw [if_neg (by rw [List.length_drop]; omega), if_neg (by simp [hb]), if_pos (by simp [Bk.argOk]; omega)]
theorem wide_drop {xs : List Int} {rm : Int} (h : Bk.wide xs rm = false) (k : Nat) : Bk.wide (xs.drop k) rm = false := by
  unfold Bk.wide at *
  rw [List.any_eq_false] at *
  intro x hx
  exact h x (List.mem_of_mem_drop hx)
theorem ends_le {sp rm : Int} (n : Nat) : ∀ (ws : List Int) (at0 : Nat), ws.length ≤ n → Bk.ok sp rm ws → ∀ x ∈ Bk.ends sp rm at0 ws, x ≤ at0 + ws.length := by
  induction n with
  | zero =>
    intro ws at0 hl ho
    have : ws = [] := List.eq_nil_of_length_eq_zero (by omega)
    subst this; simp [Bk.ends_nil]
  | succ n ih =>
    intro ws at0 hl ho x hx
    by_cases hne : ws = []
    · subst hne; simp [Bk.ends_nil] at hx
    · have hb := Bk.fst_bd ho hne
      rw [Bk.ends_cons at0 ws ho hne] at hx
      rcases List.mem_cons.1 hx with rfl | hx
      · omega
      · have := ih (ws.drop (Bk.fst sp rm ws)) _ (by rw [List.length_drop]; omega) (ho.drop _) x hx
        rw [List.length_drop] at this
        omega
theorem endsI_bd {sp rm : Int} {ws : List Int} (ho : Bk.ok sp rm ws) (i : Nat) (h : i < (endsI sp rm 0 ws).length) : 0 ≤ (endsI sp rm 0 ws)[i] ∧ (endsI sp rm 0 ws)[i] ≤ ws.length := by
  have hm := List.getElem_mem h
  unfold endsI at hm
  obtain ⟨x, hx, he⟩ := List.mem_map.1 hm
  have h1 := ends_le ws.length ws 0 (Nat.le_refl _) ho x hx
  have h2 : (endsI sp rm 0 ws)[i] = (x : Int) := he.symm
  omega
theorem rest_ends {sp rm : Int} {xs : List Int} (ho : Bk.ok sp rm xs) (hne : xs ≠ []) : endsI sp rm 0 xs = (Bk.fst sp rm xs : Int) :: (endsI sp rm 0 (xs.drop (Bk.fst sp rm xs))).map (· + (Bk.fst sp rm xs : Int)) := by
  rw [← endsI_shift _ _ (ho.drop _)]
  unfold endsI
  rw [Bk.ends_cons 0 xs ho hne, List.map_cons, Nat.zero_add]
  rfl
theorem ints_drop {w : World} {A : Option Addr} {xs : List Int} (h : RowAt w A (xs.map (Value.int .i64))) (k : Nat) (hk : k ≤ xs.length) (hlt : 0 < xs.length) : ∃ b off, A = some ⟨b, off, none⟩ ∧ RowAt w (some ⟨b, off + k, none⟩) ((xs.drop k).map (Value.int .i64)) := by
  have hne0 : xs.map (Value.int .i64) ≠ [] := by
    intro e
    have h1 : (xs.map (Value.int .i64)).length = 0 := by rw [e]; rfl
    rw [List.length_map] at h1; omega
  obtain ⟨b, off, rfl, hb, hc⟩ := h hne0
  refine ⟨b, off, rfl, fun hne => ⟨b, off + k, rfl, hb, fun i hi => ?_⟩⟩
  have hi2 : i < xs.length - k := by simpa using hi
  have := hc (k + i) (by rw [List.length_map]; omega)
  rw [Nat.add_assoc, this]
  simp
theorem ints_end {w : World} {A : Option Addr} {xs : List Int} {k n c : Nat} (hk : xs.length ≤ k) (hn : n = xs.length - k) : IsInts w (.slice A n c) (xs.drop k) := by
  have h : xs.drop k = [] := List.drop_eq_nil_of_le hk
  rw [h, hn, show xs.length - k = 0 by omega]
  exact ⟨A, c, rfl, RowAt.nil⟩
theorem break_n (xs : List Int) (A : Option Addr) (cap : Nat) (sp rm : Int) (w : World) {n : Nat} (hn : xs.length = n) (hv : IsInts w (.slice A n cap) xs) (hl : n ≤ 9223372036854775807) :
    Calls Try.prog 10 #[.slice A n cap, .int .i64 sp, .int .i64 rm] w (BrPost xs sp rm w) := by
  subst hn; exact break_any xs A cap sp rm w hv hl

set_option maxHeartbeats 4000000 in
set_option maxRecDepth 100000 in
theorem BreaksRest_any (v : Value) (xs : List Int) (sp rm : Int) (w : World) (hv : IsInts w v xs) (lhv : xs.length ≤ 9223372036854775807) (hcap : ∀ A n c, v = .slice A n c → n ≤ c) :
    Calls Try.prog 7 #[v, .int .i64 sp, .int .i64 rm] w fun e w' => e = .returned (.bool true) ∧ Below w.heap.size w w' := by
  have Hhv := Lib.hid hv
  obtain ⟨A, c, rfl, _⟩ := id hv
  clear hv
  have hcap1 := hcap _ _ _ rfl
  clear hcap
  have B := Lib.hid (Below.refl w.heap.size w)
  go_enter Try.func7, Try.ntmps7
  go_wp2_with (fail)
  refine (sane_any _).mono ?_
  rintro e w1 ⟨rfl, b1⟩
  have Dw1 := Lib.hid (b1)
  replace Hhv := Lib.hid (Hhv.out.upb Dw1.out)
  replace B := Lib.hid (B.out.upb Dw1.out)
  clear Dw1 b1
  go_wp2_with (fail)
  by_cases he : Bk.err xs sp rm = 0
  · have HR := Lib.hid (Bk.err_rt he)
    have hn := HR.out.len
    cases hw : Bk.wide xs rm
    · have hok := okB_yes he hw
      obtain ⟨f1, f2, f3⟩ := yes_ends hok
      have HOK := Lib.hid (okB_parts hok).2.2.1
      by_cases hx : xs = []
      · subst hx
        refine (break_any [] _ _ sp rm _ Hhv.out lhv).mono ?_
        rintro e w2 hP
        obtain ⟨A2, c2, rfl, H2, X2⟩ := br_get (ok := true) (x := 0) (s := []) (y := 0) (n := 0) hP hok he f1 f2 rfl
        have Dw2 := Lib.hid (X2.out)
        replace Hhv := Lib.hid (Hhv.out.upb Dw2.out)
        replace B := Lib.hid (B.out.upb Dw2.out)
        clear Dw2 hP X2 H2
        go_wp2_with (fail)
        refine (refError_is _ [] sp rm _ Hhv.out lhv he).mono ?_
        rintro e _ ⟨rfl, rfl⟩
        go_wp2_with (fail)
        go_ret
        exact ⟨rfl, B.out⟩
      · have hn0 : 0 < xs.length := List.length_pos_iff.2 hx
        have hz : ((xs.length : Int) == 0) = false := by rw [beq_eq_false_iff_ne]; omega
        have hb := Bk.fst_bd HOK.out hx
        obtain ⟨c0, hlc, htb⟩ := Bk.tab_fst HOK.out hx
        have hre := rest_ends HOK.out hx
        have HOD := HOK.out.drop (Bk.fst sp rm xs)
        have htd := Bk.tab_bd HR.out.r _ HOD 0
        have htn := Bk.tab_nonneg _ HOD 0
        have hcb := Bk.lc_bd HR.out.pos HR.out.r hlc
        have hel := ends_len _ _ 0 (Nat.le_refl _) HOD
        have hdl : (xs.drop (Bk.fst sp rm xs)).length = xs.length - Bk.fst sp rm xs := List.length_drop ..
        have he2 := err_drop he (Bk.fst sp rm xs)
        have hok2 := okB_yes he2 (wide_drop hw _)
        obtain ⟨g1, g2, g3⟩ := yes_ends hok2
        have HBD := Lib.hid (fun i h => endsI_bd HOD i h)
        have hml : (endsI sp rm 0 (xs.drop (Bk.fst sp rm xs))).length ≤ 64 := by unfold endsI; rw [List.length_map]; omega
        rw [htb] at f2
        rw [hre] at f1
        clear hre htb hel hw f3 g3
        generalize hf : Bk.fst sp rm xs = f at *
        generalize hms : endsI sp rm 0 (xs.drop f) = ms at *
        generalize hy : Bk.at_ (Bk.tab sp rm (xs.drop f)) 0 = y at *
        have hcc := hcb.2.2
        have hy1 : y ≤ 70368744177664 := by rw [hdl] at htd; omega
        clear hf hms hy htd hcb
        refine (break_any xs _ _ sp rm _ Hhv.out lhv).mono ?_
        rintro e w2 hP
        obtain ⟨A2, c2, rfl, H2, X2⟩ := br_get (ok := true) (x := 0) (s := ((f : Int) :: ms.map (· + (f : Int)))) (y := (c0 + y)) (n := (ms.length + 1)) hP hok he f1 f2 (by simp)
        have Dw2 := Lib.hid (X2.out)
        replace Hhv := Lib.hid (Hhv.out.upb Dw2.out)
        replace B := Lib.hid (B.out.upb Dw2.out)
        clear Dw2 hP X2
        go_wp2_with (fail)
        clear f1 f2 hok
        have HZ0 := Lib.hid (show ∃ b off, A2 = some ⟨b, off, none⟩ ∧ w2.cell? ⟨b, off, none⟩ = some (.int .i64 (f : Int)) by
          obtain ⟨b, off, c', e', h'⟩ := ints_zero H2.out (by simp)
          injection e' with e1 e2 e3
          exact ⟨b, off, e1, h'⟩)
        refine (refError_is _ xs sp rm _ Hhv.out lhv he).mono ?_
        rintro e _ ⟨rfl, rfl⟩
        obtain ⟨bl, ol, el, hcl⟩ := HZ0.out
        subst el
        clear HZ0
        have k1 : (((ms.length : Int) + 1) == 0) = false := by rw [beq_eq_false_iff_ne]; omega
        have k2 : decide ((f : Int) < 1) = false := by rw [decide_eq_false_iff_not]; omega
        have k3 : decide ((xs.length : Int) < (f : Int)) = false := by rw [decide_eq_false_iff_not]; omega
        have k4 : (0 : Int) < (ms.length : Int) + 1 := by omega
        go_wp2_with (fail)
        refine (line_some _ xs sp rm f _ Hhv.out HR.out (by omega) hb.2 hlc).mono ?_
        rintro e _ ⟨rfl, rfl⟩
        obtain ⟨Ax, cx, ex, hrx⟩ := Hhv.out
        injection ex with ex1 ex2 ex3
        subst ex1 ex3
        clear ex2
        obtain ⟨bx, ox, ex, hrx2⟩ := ints_drop hrx f hb.2 hn0
        subst ex
        clear hrx
        have hfx : (f : Int) ≤ (xs.length : Int) := by omega
        go_wp2_with (fail)
        · skip
          refine (break_n (xs.drop f) _ _ sp rm _ hdl (ints_end (by omega) rfl) (by omega)).mono ?_
          rintro e w3 hP
          obtain ⟨A3, c3, rfl, H3, X3⟩ := br_get (ok := true) (x := 0) (s := ms) (y := y) (n := ms.length) hP hok2 he2 g1 g2 rfl
          have hcl2 := (World.cell?_of_block (X3.out.block bl (cell_lt hcl))).trans hcl
          have Dw3 := Lib.hid (X3.out)
          replace Hhv := Lib.hid (Hhv.out.upb Dw3.out)
          replace B := Lib.hid (B.out.upb Dw3.out)
          replace H2 := Lib.hid (H2.out.upb Dw3.out)
          clear Dw3 hP X3 hcl
          clear g1 g2 hok2 he2
          go_wp2_with (fail)
          go_loopw [17] (fun i wr => ∃ k : Nat, k ≤ ms.length ∧ i = .int .i64 k ∧ ∃ q, wr = w3.drewN q) (fun i _ => ms.length - (intOf i).toNat)
          case atStart => exact ⟨0, Nat.zero_le _, rfl, 0, rfl⟩
          case round =>
            obtain ⟨k, hk, rfl, q, rfl⟩ := hrel
            by_cases hlt : k < ms.length
            · obtain ⟨Am, cm, em, hrm⟩ := H3.out
              injection em with em1 em2 em3
              subst em1 em3
              clear em2
              obtain ⟨bm, om, em, _, hcm⟩ := ints_at hrm hlt
              subst em
              obtain ⟨Al, cl, el, hrl⟩ := H2.out
              injection el with el1 el2 el3
              obtain ⟨b', o', e', _, hcn⟩ := ints_at hrl (k := k + 1) (by simp; omega)
              rw [← el1] at e'
              injection e' with e'
              injection e' with e1 e2
              subst e1 e2
              have hbd := HBD.out k hlt
              have hv : ((f : Int) :: ms.map (· + (f : Int)))[k + 1]'(by simp; omega) = ms[k] + (f : Int) := by simp
              rw [hv] at hcn
              generalize ms[k] = m at *
              clear hrm hrl el1 el2 el3 hv
              have i1 : (k : Int) + 1 < (ms.length : Int) + 1 := by omega
              have hwm : IntKind.i64.wrap (m + (f : Int)) = m + (f : Int) := by rw [IntKind.wrap_i64]; omega
              go_wp2
              go_quiet (fail)
              go_wp2
              go_roundw
              case rel => exact ⟨k + 1, by omega, by go_num, _, rfl⟩
              case measure => first | omega | (simp [intOf]; omega)
            · go_wp2
              go_ret
              exact ⟨rfl, below_drewN B.out _⟩
        · skip
          refine (break_n (xs.drop f) _ _ sp rm _ hdl ⟨_, _, by rw [hdl], hrx2⟩ (by omega)).mono ?_
          rintro e w3 hP
          obtain ⟨A3, c3, rfl, H3, X3⟩ := br_get (ok := true) (x := 0) (s := ms) (y := y) (n := ms.length) hP hok2 he2 g1 g2 rfl
          have hcl2 := (World.cell?_of_block (X3.out.block bl (cell_lt hcl))).trans hcl
          have Dw3 := Lib.hid (X3.out)
          replace Hhv := Lib.hid (Hhv.out.upb Dw3.out)
          replace B := Lib.hid (B.out.upb Dw3.out)
          replace H2 := Lib.hid (H2.out.upb Dw3.out)
          clear Dw3 hP X3 hcl
          clear g1 g2 hok2 he2
          go_wp2_with (fail)
          go_loopw [17] (fun i wr => ∃ k : Nat, k ≤ ms.length ∧ i = .int .i64 k ∧ ∃ q, wr = w3.drewN q) (fun i _ => ms.length - (intOf i).toNat)
          case atStart => exact ⟨0, Nat.zero_le _, rfl, 0, rfl⟩
          case round =>
            obtain ⟨k, hk, rfl, q, rfl⟩ := hrel
            by_cases hlt : k < ms.length
            · obtain ⟨Am, cm, em, hrm⟩ := H3.out
              injection em with em1 em2 em3
              subst em1 em3
              clear em2
              obtain ⟨bm, om, em, _, hcm⟩ := ints_at hrm hlt
              subst em
              obtain ⟨Al, cl, el, hrl⟩ := H2.out
              injection el with el1 el2 el3
              obtain ⟨b', o', e', _, hcn⟩ := ints_at hrl (k := k + 1) (by simp; omega)
              rw [← el1] at e'
              injection e' with e'
              injection e' with e1 e2
              subst e1 e2
              have hbd := HBD.out k hlt
              have hv : ((f : Int) :: ms.map (· + (f : Int)))[k + 1]'(by simp; omega) = ms[k] + (f : Int) := by simp
              rw [hv] at hcn
              generalize ms[k] = m at *
              clear hrm hrl el1 el2 el3 hv
              have i1 : (k : Int) + 1 < (ms.length : Int) + 1 := by omega
              have hwm : IntKind.i64.wrap (m + (f : Int)) = m + (f : Int) := by rw [IntKind.wrap_i64]; omega
              go_wp2
              go_quiet (fail)
              go_wp2
              go_roundw
              case rel => exact ⟨k + 1, by omega, by go_num, _, rfl⟩
              case measure => first | omega | (simp [intOf]; omega)
            · go_wp2
              go_ret
              exact ⟨rfl, below_drewN B.out _⟩
    · have hok := okB_wide (sp := sp) hw
      obtain ⟨f1, f2, f3⟩ := no_ends hok
      refine (break_any xs _ _ sp rm _ Hhv.out lhv).mono ?_
      rintro e w2 hP
      obtain ⟨A2, c2, rfl, H2, X2⟩ := br_get (ok := false) (x := 0) (s := []) (y := 0) (n := 0) hP hok he f1 f2 rfl
      have Dw2 := Lib.hid (X2.out)
      replace Hhv := Lib.hid (Hhv.out.upb Dw2.out)
      replace B := Lib.hid (B.out.upb Dw2.out)
      clear Dw2 hP X2 H2
      go_wp2_with (fail)
      go_ret
      exact ⟨rfl, B.out⟩
  · obtain ⟨x, hx⟩ : ∃ x, Bk.err xs sp rm = x := ⟨_, rfl⟩
    have hne : (x != 0) = true := by rw [← hx]; simpa using he
    have hok := okB_err he
    obtain ⟨f1, f2, f3⟩ := no_ends hok
    refine (break_any xs _ _ sp rm _ Hhv.out lhv).mono ?_
    rintro e w2 hP
    obtain ⟨A2, c2, rfl, H2, X2⟩ := br_get (ok := false) (x := x) (s := []) (y := 0) (n := 0) hP hok hx f1 f2 rfl
    have Dw2 := Lib.hid (X2.out)
    replace Hhv := Lib.hid (Hhv.out.upb Dw2.out)
    replace B := Lib.hid (B.out.upb Dw2.out)
    clear Dw2 hP X2 H2
    go_wp2_with (fail)
    go_ret
    exact ⟨rfl, B.out⟩

end Go.Proofs.Ytdcndhfjfllehaa
