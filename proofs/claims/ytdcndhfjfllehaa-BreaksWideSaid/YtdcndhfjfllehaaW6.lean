/- Walks of the reference's Prove, Break. -/
import Derived.Test.YtdcndhfjfllehaaW5
namespace Go.Proofs.Ytdcndhfjfllehaa
open Go.RowKit
set_option linter.unusedVariables false
set_option linter.unusedSimpArgs false

/-- there are ends -/
def okB (xs : List Int) (sp rm : Int) : Bool := decide (Bk.err xs sp rm = 0) && !Bk.wide xs rm
def hsL (xs : List Int) (sp rm : Int) : List Int := if okB xs sp rm = true then Bk.tab sp rm xs else []
def endsI (sp rm : Int) (i : Nat) (ws : List Int) : List Int := (Bk.ends sp rm i ws).map Int.ofNat
def esL (xs : List Int) (sp rm : Int) : List Int := if okB xs sp rm = true then endsI sp rm 0 xs else []
def coL (xs : List Int) (sp rm : Int) : Int := if okB xs sp rm = true then Bk.at_ (Bk.tab sp rm xs) 0 else 0
def PrPost (xs : List Int) (sp rm : Int) (w : World) (e : Ending) (w' : World) : Prop :=
  ∃ A c, e = .returned (.tuple #[.slice A (hsL xs sp rm).length c, .bool (okB xs sp rm), .int .i64 (Bk.err xs sp rm)]) ∧ IsInts w' (.slice A (hsL xs sp rm).length c) (hsL xs sp rm) ∧ Below w.heap.size w w'
def BrPost (xs : List Int) (sp rm : Int) (w : World) (e : Ending) (w' : World) : Prop :=
  ∃ A c, e = .returned (.tuple #[.slice A (esL xs sp rm).length c, .int .i64 (coL xs sp rm), .bool (okB xs sp rm), .int .i64 (Bk.err xs sp rm)]) ∧ IsInts w' (.slice A (esL xs sp rm).length c) (esL xs sp rm) ∧ Below w.heap.size w w'
theorem okB_err {xs : List Int} {sp rm : Int} (h : Bk.err xs sp rm ≠ 0) : okB xs sp rm = false := by simp [okB, h]
theorem okB_wide {xs : List Int} {sp rm : Int} (h : Bk.wide xs rm = true) : okB xs sp rm = false := by simp [okB, h]
theorem okB_yes {xs : List Int} {sp rm : Int} (h : Bk.err xs sp rm = 0) (h2 : Bk.wide xs rm = false) : okB xs sp rm = true := by simp [okB, h, h2]
theorem CellsI.intsC {W : World} {g : Nat} {xs : List Int} (h : CellsI W g xs) (n c : Nat) (hn : n = xs.length) : IsInts W (.slice (some ⟨g, 0, none⟩) n c) xs := by
  subst hn
  refine ⟨_, _, rfl, fun _ => ⟨g, 0, rfl, h.lt, fun k hk => ?_⟩⟩
  have hk' : k < xs.length := by simpa using hk
  rw [Nat.zero_add, h.cell k hk']
  simp

set_option maxHeartbeats 1000000 in
theorem refProve_any (v : Value) (xs : List Int) (sp rm : Int) (w : World) (hv : IsInts w v xs) (hl : xs.length ≤ 9223372036854775807) :
    Calls Try.prog 14 #[v, .int .i64 sp, .int .i64 rm] w (PrPost xs sp rm w) := by
  have HV := Lib.hid hv
  obtain ⟨A, cap, rfl, _⟩ := hv
  have HER := Lib.hid (refError_any _ xs sp rm w HV.out hl)
  by_cases he : Bk.err xs sp rm = 0
  · have HRt := Lib.hid (Bk.err_rt he)
    have HE := Lib.hid he
    rw [he] at HER
    have HW := Lib.hid (refWide_any _ xs rm w HV.out hl)
    cases hw : Bk.wide xs rm
    · have HT := Lib.hid (refTable_any _ xs sp rm w HV.out HRt.out (HRt.out.ok hw))
      have HO := Lib.hid (okB_yes he hw)
      rw [hw] at HW
      clear he hw
      go_enter Try.func14, Try.ntmps14
      go_wp2_with (fail)
      refine HER.out.mono ?_
      rintro e w' ⟨rfl, rfl⟩
      go_wp2_with (fail)
      refine HW.out.mono ?_
      rintro e w' ⟨rfl, rfl⟩
      go_wp2_with (fail)
      refine HT.out.mono ?_
      rintro e w' ⟨c, rfl, hc, hb⟩
      have HC := Lib.hid hc
      have HB := Lib.hid hb
      clear hc hb
      have HL := Lib.hid (show (hsL xs sp rm).length = xs.length + 1 by rw [hsL, if_pos HO.out, Bk.tab_len])
      have HX := Lib.hid (show hsL xs sp rm = Bk.tab sp rm xs by rw [hsL, if_pos HO.out])
      go_wp2
      exact bodyPost_ret (v := .tuple #[.slice (some ⟨w.heap.size, 0, none⟩) (xs.length + 1) c, .bool true, .int .i64 0]) (by simp [results, Try.results14, go_sem]) rfl ⟨_, c, by rw [HL.out, HO.out, HE.out], by rw [HX.out]; exact HC.out.intsC _ _ rfl, HB.out⟩
    · have HO := Lib.hid (okB_wide (sp := sp) hw)
      have HX := Lib.hid (show hsL xs sp rm = [] by rw [hsL, if_neg (by rw [HO.out]; simp)])
      rw [hw] at HW
      clear he hw
      go_enter Try.func14, Try.ntmps14
      go_wp2_with (fail)
      refine HER.out.mono ?_
      rintro e w' ⟨rfl, rfl⟩
      go_wp2_with (fail)
      refine HW.out.mono ?_
      rintro e w' ⟨rfl, rfl⟩
      go_wp2
      exact bodyPost_ret (v := .tuple #[.slice none 0 0, .bool false, .int .i64 0]) (by simp [results, Try.results14, go_sem]) rfl ⟨none, 0, by rw [HX.out, HO.out, HE.out]; rfl, by rw [HX.out]; exact IsInts.nil, Below.refl _ _⟩
  · have HO := Lib.hid (okB_err he)
    have HX := Lib.hid (show hsL xs sp rm = [] by rw [hsL, if_neg (by rw [HO.out]; simp)])
    have hne : (Bk.err xs sp rm != 0) = true := by rw [bne_iff_ne]; exact he
    clear he
    generalize hE : Bk.err xs sp rm = E at *
    have HE := Lib.hid hE
    clear hE
    go_enter Try.func14, Try.ntmps14
    go_wp2_with (fail)
    refine HER.out.mono ?_
    rintro e w' ⟨rfl, rfl⟩
    go_wp2
    exact bodyPost_ret (v := .tuple #[.slice none 0 0, .bool false, .int .i64 E]) (by simp [results, Try.results14, go_sem]) rfl ⟨none, 0, by rw [HX.out, HO.out, HE.out]; rfl, by rw [HX.out]; exact IsInts.nil, Below.refl _ _⟩

theorem endsI_step {sp rm : Int} {ws : List Int} (i : Nat) (h : Bk.ok sp rm ws) (hne : ws ≠ []) : endsI sp rm i ws = ((i + Bk.fst sp rm ws : Nat) : Int) :: endsI sp rm (i + Bk.fst sp rm ws) (ws.drop (Bk.fst sp rm ws)) := by
  unfold endsI
  rw [Bk.ends_cons i ws h hne]; rfl
theorem CellsI.grown {W W' : World} {g base : Nat} {xs : List Int} {r : Option Nat} (h : CellsI W g xs) (hg : W.grownBy W' r) (hr : ∀ k, r = some k → base ≤ k) (hb : g < base) : CellsI W' g xs :=
  (hg.block g h.lt (fun e => by have := hr g e.symm; omega)).trans h
theorem ends_len {sp rm : Int} (n : Nat) : ∀ (ws : List Int) (off : Nat), ws.length ≤ n → Bk.ok sp rm ws → (Bk.ends sp rm off ws).length ≤ ws.length := by
  induction n with
  | zero => intro ws off hl h; obtain rfl : ws = [] := List.eq_nil_of_length_eq_zero (by omega); simp [Bk.ends_nil]
  | succ n ih =>
    intro ws off hl h
    by_cases hne : ws = []
    · subst hne; simp [Bk.ends_nil]
    · have hb := Bk.fst_bd h hne
      rw [Bk.ends_cons off ws h hne, List.length_cons]
      have := ih (ws.drop (Bk.fst sp rm ws)) (off + Bk.fst sp rm ws) (by simp; omega) (h.drop _)
      simp at this; omega

set_option maxHeartbeats 4000000 in
set_option maxRecDepth 100000 in
theorem refBreak_any (v : Value) (xs : List Int) (sp rm : Int) (w : World) (hv : IsInts w v xs) (hl : xs.length ≤ 9223372036854775807) :
    Calls Try.prog 11 #[v, .int .i64 sp, .int .i64 rm] w (BrPost xs sp rm w) := by
  have HV := Lib.hid hv
  obtain ⟨A, cap, rfl, _⟩ := hv
  have HER := Lib.hid (refError_any _ xs sp rm w HV.out hl)
  by_cases he : Bk.err xs sp rm = 0
  · have HRt := Lib.hid (Bk.err_rt he)
    have HE := Lib.hid he
    rw [he] at HER
    have HW := Lib.hid (refWide_any _ xs rm w HV.out hl)
    cases hw : Bk.wide xs rm
    · have HOk := Lib.hid (HRt.out.ok hw)
      have HT := Lib.hid (refTable_any _ xs sp rm w HV.out HRt.out HOk.out)
      have HO := Lib.hid (okB_yes he hw)
      rw [hw] at HW
      have hn := HRt.out.len
      clear he hw
      go_enter Try.func11, Try.ntmps11
      go_wp2_with (fail)
      refine HER.out.mono ?_
      rintro e w' ⟨rfl, rfl⟩
      go_wp2_with (fail)
      refine HW.out.mono ?_
      rintro e w' ⟨rfl, rfl⟩
      go_wp2_with (fail)
      refine HT.out.mono ?_
      rintro e w1 ⟨c, rfl, hc, hb⟩
      have HC := Lib.hid hc
      have HB := Lib.hid hb
      have hlt1 : w.heap.size + 1 ≤ w1.heap.size := hc.lt
      have HX := Lib.hid (show esL xs sp rm = endsI sp rm 0 xs by rw [esL, if_pos HO.out])
      have HY := Lib.hid (show coL xs sp rm = Bk.at_ (Bk.tab sp rm xs) 0 by rw [coL, if_pos HO.out])
      have HG0 := Lib.hid hlt1
      clear hc hb hlt1 HT HW HER
      go_wp2
      go_loopw [12, 13] (fun ev i wr => ∃ (k : Nat) (acc : List Int), k ≤ xs.length ∧ acc.length ≤ k ∧ i = .int .i64 k ∧ Hid (acc ++ endsI sp rm k (xs.drop k) = endsI sp rm 0 xs) ∧ Hid (OwnInts wr (w.heap.size + 1) ev acc) ∧ Hid (CellsI wr w.heap.size (Bk.tab sp rm xs)) ∧ Hid (Below w.heap.size w wr)) (fun _ i _ => xs.length - (intOf i).toNat)
      case atStart => exact ⟨0, [], by omega, by simp, rfl, Lib.hid (by simp), own_none _ _, HC, HB⟩
      case round =>
        obtain ⟨k, acc, hk, hacc, rfl, HA, HOw, HCk, HBk⟩ := hrel
        clear HC HB
        by_cases hlt : k < xs.length
        · have HD := Lib.hid (show xs.drop k ≠ [] from by intro e; have := congrArg List.length e; simp at this; omega)
          have HBest := Lib.hid (Bk.fst_spec (HOk.out.drop k) HD.out)
          have hfb := Bk.fst_bd (HOk.out.drop k) HD.out
          have hfb2 : k + Bk.fst sp rm (xs.drop k) ≤ xs.length := by have := hfb.2; simp at this; omega
          have hfb1 := hfb.1
          have HST := Lib.hid (endsI_step k (HOk.out.drop k) HD.out)
          clear hfb
          generalize hF : Bk.fst sp rm (xs.drop k) = F at *
          have HTL := Lib.hid (show (xs.drop k).tail = xs.drop (k + 1) from List.tail_drop)
          rw [HTL.out] at HBest
          clear hF
          go_wp2
          go_loopw [14] (fun j wr2 => ∃ t q : Nat, 1 ≤ t ∧ t ≤ F ∧ j = .int .i64 ((k + t : Nat) : Int) ∧ wr2 = wr.drewN q) (fun j _ => xs.length - (intOf j).toNat)
          case atStart => exact ⟨1, 0, by omega, by omega, by go_num, rfl⟩
          case round =>
            obtain ⟨t, q, ht1, ht2, rfl, rfl⟩ := hrel
            have HLn := Lib.hid (refLine_any _ xs sp rm k (k + t) (wr.drewN q) (HV.out.below (below_drewN HBk.out q)) HRt.out (by omega) (by omega))
            rw [show k + t - k = t by omega] at HLn
            have hck := HCk.out.at? (k := k) (z := Bk.at_ (Bk.tab sp rm (xs.drop k)) 0) (by
              rw [List.getElem?_eq_getElem (by rw [Bk.tab_len]; omega), ← Bk.at_eq _ _ (by rw [Bk.tab_len]; omega), Bk.tab_at _ _ _ _ hk])
            have hcj := HCk.out.at? (k := k + t) (z := Bk.at_ (Bk.tab sp rm (xs.drop (k + 1))) (t - 1)) (by
              rw [List.getElem?_eq_getElem (by rw [Bk.tab_len]; omega), ← Bk.at_eq _ _ (by rw [Bk.tab_len]; omega), ← Bk.tab_drop _ _ _ _ (by omega), Bk.at_drop, show k + 1 + (t - 1) = k + t by omega])
            have htb := Bk.tab_nonneg (xs.drop (k + 1)) (HOk.out.drop (k + 1)) (t - 1)
            have htc : Bk.at_ (Bk.tab sp rm (xs.drop (k + 1))) (t - 1) ≤ 70368744177664 := by
              have h1 := Bk.tab_bd HRt.out.r (xs.drop (k + 1)) (HOk.out.drop (k + 1)) (t - 1)
              have h2 : (xs.drop (k + 1)).length ≤ 64 := by simp; omega
              omega
            cases hlc : Bk.lc sp rm (xs.drop k) t with
            | none =>
              have hne : ¬ t = F := fun e => by
                obtain ⟨c2, hc2, _⟩ := HBest.out.mem
                have := Bk.lc_mem.2 hc2
                rw [← e, hlc] at this; cases this
              rw [hlc] at HLn
              clear hlc htb htc
              go_wp2_with (go_at_call 27; refine HLn.out.mono ?_; rintro e w' ⟨rfl, rfl⟩; unfold lcE)
              go_quiet (fail)
              go_wp2
              go_roundw
              case rel => exact ⟨t + 1, _, by omega, by omega, by go_num, rfl⟩
              case measure => first | omega | (simp [intOf]; done) | (simp [intOf]; omega)
            | some c2 =>
              obtain ⟨_, _, hc0, hc1⟩ := Bk.lc_bd (HRt.out.pos.drop k) HRt.out.r hlc
              have hsum : IntKind.i64.wrap (c2 + Bk.at_ (Bk.tab sp rm (xs.drop (k + 1))) (t - 1)) = c2 + Bk.at_ (Bk.tab sp rm (xs.drop (k + 1))) (t - 1) := by rw [IntKind.wrap_i64]; omega
              have HM := Lib.hid (Bk.lc_mem.1 hlc)
              rw [hlc] at HLn
              by_cases htF : t = F
              · have hbq : (c2 + Bk.at_ (Bk.tab sp rm (xs.drop (k + 1))) (t - 1) == Bk.at_ (Bk.tab sp rm (xs.drop k)) 0) = true := by
                  rw [beq_iff_eq]
                  obtain ⟨c3, hc3, hy⟩ := HBest.out.mem
                  have h3 := Bk.lc_mem.2 hc3
                  rw [← htF, hlc] at h3
                  injection h3 with h3
                  rw [hy, h3, htF]
                clear hlc htb htc hc0 hc1
                generalize Bk.at_ (Bk.tab sp rm (xs.drop (k + 1))) (t - 1) = y at *
                generalize hz : Bk.at_ (Bk.tab sp rm (xs.drop k)) 0 = z at *
                subst htF
                clear hz
                obtain ⟨Ae, ce, rfl⟩ := own_len HOw.out
                have hbs : w.heap.size + 1 ≤ wr.heap.size := HCk.out.lt
                have hal : acc.length ≤ 1000000 := by omega
                have HBS := Lib.hid hbs
                clear hbs
                go_wp2_with (go_at_call 27; refine HLn.out.mono ?_; rintro e w' ⟨rfl, rfl⟩; unfold lcE)
                go_quiet (fail)
                clear hsum hbq hck hcj
                go_wp2_with (at_builtin; go_must (refine wpList_push rfl (.tmp 62) (.tmp 64) rfl (w.heap.size + 1) (.slice Ae acc.length ce) acc rfl (show OwnInts (wr.drewN (q + nq)) (w.heap.size + 1) (.slice Ae acc.length ce) acc from HOw.out) ((k : Int) + (t : Int)) wr.heap.size rfl rfl hal HBS.out ?_); intro v1 w2 hown1 hg1 hat1; have HO1 := Lib.hid hown1; have HG1 := Lib.hid hg1; clear hown1 hg1 hat1)
                have HRow := Lib.hid (fun j h => (World.ownsRow.lt HOw.out j h).1)
                have HC2 := Lib.hid (CellsI.grown (show CellsI (wr.drewN (q + nq)) _ _ from HCk.out) HG1.out HRow.out (by omega))
                have HB2 := Lib.hid ((below_drewN HBk.out (q + nq)).grown HG1.out (by have := HBS.out; show _ ≤ wr.heap.size; omega) (fun j h => by have := HRow.out j h; omega))
                have HA2 := Lib.hid (show (acc ++ [(k : Int) + (t : Int)]) ++ endsI sp rm (k + t) (xs.drop (k + t)) = endsI sp rm 0 xs by rw [← HA.out, HST.out, List.append_assoc, List.drop_drop]; rfl)
                clear HOw HCk HBk
                go_roundw
                case rel => exact ⟨k + t, acc ++ [(k : Int) + (t : Int)], by omega, by simp; omega, by go_num, HA2, HO1, HC2, HB2⟩
                case measure => first | omega | (simp [intOf]; done) | (simp [intOf]; omega)
              · have hbq : (c2 + Bk.at_ (Bk.tab sp rm (xs.drop (k + 1))) (t - 1) == Bk.at_ (Bk.tab sp rm (xs.drop k)) 0) = false := by
                  rw [beq_eq_false_iff_ne]
                  have := HBest.out.lt t c2 HM.out (by omega)
                  omega
                clear hlc htb htc hc0 hc1
                generalize Bk.at_ (Bk.tab sp rm (xs.drop (k + 1))) (t - 1) = y at *
                generalize Bk.at_ (Bk.tab sp rm (xs.drop k)) 0 = z at *
                go_wp2_with (go_at_call 27; refine HLn.out.mono ?_; rintro e w' ⟨rfl, rfl⟩; unfold lcE)
                go_quiet (fail)
                clear hsum hbq
                go_wp2
                go_roundw
                case rel => exact ⟨t + 1, _, by omega, by omega, by go_num, rfl⟩
                case measure => first | omega | (simp [intOf]; done) | (simp [intOf]; omega)
        · obtain rfl : k = xs.length := by omega
          have HF := Lib.hid (show acc = endsI sp rm 0 xs by have h := HA.out; rw [List.drop_length] at h; simpa [endsI, Bk.ends_nil] using h)
          rw [HF.out] at HOw
          obtain ⟨Ae, ce, rfl⟩ := own_len HOw.out
          have hc0 := HCk.out.at? (k := 0) (z := Bk.at_ (Bk.tab sp rm xs) 0) (by rw [List.getElem?_eq_getElem (by rw [Bk.tab_len]; omega), ← Bk.at_eq _ _ (by rw [Bk.tab_len]; omega)])
          rw [← HX.out] at HOw ⊢
          have HI := Lib.hid (OwnInts.ints HOw.out)
          go_wp2
          go_quiet (fail)
          go_wp2
          refine bodyPost_ret (v := .tuple #[.slice Ae (esL xs sp rm).length ce, .int .i64 (Bk.at_ (Bk.tab sp rm xs) 0), .bool true, .int .i64 0]) (by simp [results, Try.results11, go_sem]) rfl ⟨Ae, ce, by rw [HY.out, HO.out, HE.out], HI.out, below_drewN HBk.out _⟩
    · have HO := Lib.hid (okB_wide (sp := sp) hw)
      have HX := Lib.hid (show esL xs sp rm = [] by rw [esL, if_neg (by rw [HO.out]; simp)])
      have HY := Lib.hid (show coL xs sp rm = 0 by rw [coL, if_neg (by rw [HO.out]; simp)])
      rw [hw] at HW
      clear he hw
      go_enter Try.func11, Try.ntmps11
      go_wp2_with (fail)
      refine HER.out.mono ?_
      rintro e w' ⟨rfl, rfl⟩
      go_wp2_with (fail)
      refine HW.out.mono ?_
      rintro e w' ⟨rfl, rfl⟩
      go_wp2
      exact bodyPost_ret (v := .tuple #[.slice none 0 0, .int .i64 0, .bool false, .int .i64 0]) (by simp [results, Try.results11, go_sem]) rfl ⟨none, 0, by rw [HX.out, HY.out, HO.out, HE.out]; rfl, by rw [HX.out]; exact IsInts.nil, Below.refl _ _⟩
  · have HO := Lib.hid (okB_err he)
    have HX := Lib.hid (show esL xs sp rm = [] by rw [esL, if_neg (by rw [HO.out]; simp)])
    have HY := Lib.hid (show coL xs sp rm = 0 by rw [coL, if_neg (by rw [HO.out]; simp)])
    have hne : (Bk.err xs sp rm != 0) = true := by rw [bne_iff_ne]; exact he
    clear he
    generalize hE : Bk.err xs sp rm = E at *
    have HE := Lib.hid hE
    clear hE
    go_enter Try.func11, Try.ntmps11
    go_wp2_with (fail)
    refine HER.out.mono ?_
    rintro e w' ⟨rfl, rfl⟩
    go_wp2
    exact bodyPost_ret (v := .tuple #[.slice none 0 0, .int .i64 0, .bool false, .int .i64 E]) (by simp [results, Try.results11, go_sem]) rfl ⟨none, 0, by rw [HX.out, HY.out, HO.out, HE.out]; rfl, by rw [HX.out]; exact IsInts.nil, Below.refl _ _⟩

end Go.Proofs.Ytdcndhfjfllehaa
