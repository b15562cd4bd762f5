/- Walk of the reference's History. -/
import Derived.Test.YtcifhigeieoogaaW18
namespace Go.Proofs.Ytcifhigeieoogaa
open Go.RowKit
set_option linter.unusedVariables false
set_option linter.unusedSimpArgs false
attribute [local go_sem] frozen_new
def msT (l : List Am) (t : Int) : Nat := if 0 ≤ t then Vn.leftT l t + 1 else 0
/-- the reference's loop over times -/
structure RefH (l : List Am) (key k0 tp tc : Int) (s : List St) (lv : St) : Prop where
  lo : -1 ≤ tp
  nx : Vn.nx l tp = tc
  h : Vn.HistTo l key k0 tp s
  last : (lv.value, lv.ok) = Vn.vl l key tp k0
  len : s.length + Vn.leftT l tp ≤ l.length
theorem RefH.zero {l : List Am} (hl : ∀ x ∈ l, Vn.right x = true) (key k0 : Int) {tc : Int} (h : Vn.nx l (-1) = tc) : RefH l key k0 (-1) tc [] ⟨0, 0, false⟩ :=
  ⟨by omega, h, Vn.HistTo.zero key k0, (Vn.vl_neg hl key k0).symm, by simp; exact List.length_filter_le _ _⟩
theorem RefH.done {l : List Am} {key k0 tp tc : Int} {s : List St} {lv : St} (h : RefH l key k0 tp tc s lv) (ht : ¬ 0 ≤ tc) : Vn.Hist l key k0 s := by
  refine h.h.whole (fun x hx _ => ?_)
  rcases Vn.nx_is l h.lo with ⟨_, h2⟩ | ⟨_, h2, _⟩
  · exact h2 x hx
  · rw [h.nx] at h2; exact absurd h2 ht
theorem RefH.step {l : List Am} {key k0 tp tc tn v : Int} {s : List St} {lv : St} {ok : Bool} (h : RefH l key k0 tp tc s lv) (ht : 0 ≤ tc) (hv : Vn.vl l key tc k0 = (v, ok)) (hn : Vn.nx l tc = tn) :
    ((v = lv.value ∧ ok = lv.ok) → RefH l key k0 tc tn s lv) ∧ (¬ (v = lv.value ∧ ok = lv.ok) → RefH l key k0 tc tn (s ++ [⟨tc, v, ok⟩]) ⟨tc, v, ok⟩) ∧ msT l tn < msT l tc := by
  rcases Vn.nx_is l h.lo with ⟨h1, _⟩ | ⟨h1, h2, ⟨x, hx, hxe⟩, h3⟩
  · rw [h.nx] at h1; omega
  rw [h.nx] at h1 h2 hxe h3
  have hlt := Vn.leftT_lt h1 hx hxe
  obtain ⟨n1, n2⟩ := h.h.next h.lo h1 (fun y hy _ => h3 y hy) hv.symm
  have hlen := h.len
  refine ⟨fun hs => ?_, fun hs => ?_, ?_⟩
  · have e : Vn.vl l key tc k0 = Vn.vl l key tp k0 := by rw [hv, ← h.last, hs.1, hs.2]
    exact ⟨by omega, hn, n1 e, by rw [h.last, e], by omega⟩
  · have e : Vn.vl l key tc k0 ≠ Vn.vl l key tp k0 := fun e => by
      rw [hv, ← h.last] at e
      injection e with e1 e2
      exact hs ⟨e1, e2⟩
    exact ⟨by omega, hn, n2 e, hv.symm, by simp; omega⟩
  · unfold msT
    rw [if_pos ht]
    split
    · rename_i h5
      rcases Vn.nx_is l (t := tc) (by omega) with ⟨h6, _⟩ | ⟨h6, _, ⟨y, hy, hye⟩, _⟩
      · rw [hn] at h6; omega
      · rw [hn] at h6 hye
        have := Vn.leftT_lt h6 hy hye
        omega
    · omega
theorem ownS_set2 {W : World} {base B : Nat} {v : Value} {xs : List St} (h : OwnSs W base v xs) (hB : ∀ g, v.ownBlock = some g → g ≠ B) (x : St) : OwnSs (setS W B x) base v xs :=
  World.ownsRow.kept h (setS_grown W B x) (.inr (fun e => hB B e rfl))

set_option maxHeartbeats 8000000 in
set_option maxRecDepth 100000 in
theorem refHistory_any (v : Value) (l : List Am) (key k0 : Int) (w : World) (hv : IsAs w v l) (hl : l.length ≤ 9223372036854775807) : Calls Try.prog 20 #[v, .int .i64 key, .int .i64 k0] w (HisPost l key k0 w) := by
  have HV := Lib.hid hv
  obtain ⟨A, cap, rfl, hr⟩ := id hv
  clear hr hv
  go_enter Try.func20, Try.ntmps20
  go_wp2_with (fail)
  by_cases he : Vn.err l = 0
  rotate_left
  · obtain ⟨z, hz⟩ : ∃ z, Vn.err l = z := ⟨_, rfl⟩
    have hne : (z != 0) = true := by rw [← hz, bne_iff_ne]; exact he
    have hz0 : z ≠ 0 := by rw [← hz]; exact he
    have E := Lib.hid (And.intro (hisE_err (key := key) (k0 := k0) hz hz0) hz0)
    refine (refCheck_is hz HV.out hl).mono ?_
    rintro e w1 ⟨rfl, b1⟩
    clear he hz hz0
    go_wp2_with (fail)
    go_ret2
    exact .bad E.out.1 E.out.2 b1
  have HOK := Lib.hid ((Vn.err_iff l).1 he)
  have hl2 : l.length ≤ 4096 := HOK.out.len
  refine (refCheck_is he HV.out hl).mono ?_
  rintro e w1 ⟨rfl, b1⟩
  have HB1 := Lib.hid b1
  have HE := Lib.hid he
  clear b1 he
  go_wp2_with (fail)
  cases a0 : Vn.inn key 1048576
  · refine (refWithin_1048577 a0 _).mono ?_
    rintro e _ ⟨rfl, rfl⟩
    have E := Lib.hid (hisE_arg (key := key) (k0 := k0) HE.out (by rw [a0]; rfl))
    go_wp2_with (fail)
    go_ret2
    exact .bad E.out (by decide) HB1.out
  refine (refWithin_1048577 a0 _).mono ?_
  rintro e _ ⟨rfl, rfl⟩
  go_wp2_with (fail)
  cases a1 : Vn.inn k0 1099511627775
  · refine (refWithin_1099511627776 a1 _).mono ?_
    rintro e _ ⟨rfl, rfl⟩
    have E := Lib.hid (hisE_arg (key := key) (k0 := k0) HE.out (by rw [a0, a1]; rfl))
    go_wp2_with (fail)
    go_ret2
    exact .bad E.out (by decide) HB1.out
  refine (refWithin_1099511627776 a1 _).mono ?_
  rintro e _ ⟨rfl, rfl⟩
  have E := Lib.hid (hisE_ok (key := key) (k0 := k0) HE.out (by rw [a0, a1]; rfl))
  clear a0 a1
  have HA2 := Lib.hid ((al1 w1 (.cells #[] 44)).up (al1 _ (.cells #[.int .i64 0, .int .i64 0, .bool false] 44)))
  have HB2 := Lib.hid (HB1.out.up HA2.out)
  have H90 := Lib.hid (show BoxS ((w1.alloc (.cells #[] 44)).alloc (.cells #[.int .i64 0, .int .i64 0, .bool false] 44)) (w1.heap.size + 1) ⟨0, 0, false⟩ from by have h := BoxS.new (w1.alloc (.cells #[] 44)) ⟨0, 0, false⟩; simp only [World.size_alloc] at h; exact h)
  have HO0 := Lib.hid (show OwnSs ((w1.alloc (.cells #[] 44)).alloc (.cells #[.int .i64 0, .int .i64 0, .bool false] 44)) w.heap.size (.slice (some ⟨w1.heap.size, 0, none⟩) 0 0) [] from OwnSs.alloc (OwnSs.empty w1 _ HB1.out.size) _)
  go_wp2_with (fail)
  obtain ⟨tc0, htc⟩ : ∃ z, Vn.nx l (-1) = z := ⟨_, rfl⟩
  have HU0 := Lib.hid (RefH.zero HOK.out.rt key k0 htc)
  refine (next_is htc (HV.out.upb HB2.out) hl2).mono ?_
  rintro e _ ⟨rfl, rfl⟩
  clear htc
  go_wp2_with (fail)
  go_loopw [9, 11] (fun r i wr => ∃ (tp tc : Int) (s : List St) (lv : St), i = .int .i64 tc ∧ Hid (RefH l key k0 tp tc s lv) ∧ Hid (OwnSs wr w.heap.size r s) ∧ Hid (∀ g, r.ownBlock = some g → g ≠ w1.heap.size + 1) ∧ Hid (BoxS wr (w1.heap.size + 1) lv) ∧ Hid (Below w.heap.size w wr)) (fun _ i _ => msT l (intOf i))
  case atStart => exact ⟨-1, tc0, [], ⟨0, 0, false⟩, rfl, HU0, HO0, Lib.hid (fun g hg => by simp [Value.ownBlock] at hg; omega), H90, HB2⟩
  case round =>
    clear H90 HO0 HU0 HB2 HA2
    obtain ⟨tp, tc, s, lv, rfl, HU, HO, HNB, H9, HK⟩ := hrel
    by_cases htc : 0 ≤ tc
    case neg =>
      have hd1 : decide (0 ≤ tc) = false := decide_eq_false htc
      have HD := Lib.hid (HU.out.done htc)
      clear htc
      go_wp2_with (fail)
      go_ret2
      exact .good E.out HO.out HD.out HK.out
    case pos =>
    have hd1 : decide (0 ≤ tc) = true := decide_eq_true htc
    obtain ⟨y, hy⟩ : ∃ y, (Vn.vl l key tc k0).1 = y := ⟨_, rfl⟩
    obtain ⟨f, hf⟩ : ∃ y, (Vn.vl l key tc k0).2 = y := ⟨_, rfl⟩
    obtain ⟨tn, htn⟩ : ∃ y, Vn.nx l tc = y := ⟨_, rfl⟩
    have HVL := Lib.hid (show Vn.vl l key tc k0 = (y, f) by rw [← hy, ← hf])
    have HST := Lib.hid (HU.out.step htc HVL.out htn)
    have HLEN := Lib.hid (show s.length ≤ 1000000 by have := HU.out.len; omega)
    have HTN := Lib.hid htn
    clear hy hf htn htc HU
    go_wp2_with (fail)
    refine (value_is HVL.out (HV.out.upb HK.out) HOK.out).mono ?_
    rintro e w5 ⟨rfl, b5⟩
    replace HO := Lib.hid (HO.out.upb b5)
    replace H9 := Lib.hid (H9.out.upb b5)
    replace HK := Lib.hid (HK.out.up b5)
    clear b5
    have p0 := H9.out.c0
    have p1 := H9.out.c1
    have p2 := H9.out.c2
    have l9 := H9.out.lt
    have f0 := H9.out.frozen 0
    have f1 := H9.out.frozen 1
    have f2 := H9.out.frozen 2
    cases d1 : (y == lv.value)
    · have d2 : (y != lv.value) = true := by rw [bne, d1]; rfl
      have HR2 := Lib.hid (HST.out.2.1 (fun h => by rw [h.1] at d1; simp at d1))
      have HOX := Lib.hid (ownS_set2 HO.out HNB.out ⟨tc, y, f⟩)
      have H9X := Lib.hid (H9.out.setS ⟨tc, y, f⟩)
      have HKX := Lib.hid (below_setS HK.out (B := w1.heap.size + 1) (by have := HB1.out.size; omega) ⟨tc, y, f⟩)
      obtain ⟨X, hX⟩ : ∃ X, setS w5 (w1.heap.size + 1) ⟨tc, y, f⟩ = X := ⟨_, rfl⟩
      rw [hX] at HOX H9X HKX
      have HXE := Lib.hid hX
      clear hX
      go_upto_region 14 with (fail)
      have hX := HXE.out
      unfold setS at hX
      dsimp only at hX
      rw [hX]
      clear hX HXE p0 p1 p2 l9 f0 f1 f2 HO H9 HK
      have p0 := H9X.out.c0
      have p1 := H9X.out.c1
      have p2 := H9X.out.c2
      have l9 := H9X.out.lt
      have hsz : w.heap.size ≤ X.heap.size := HKX.out.size
      have hsl := HLEN.out
      go_wp2_with (at_builtin; go_must (refine wpList_pushS rfl (.tmp 58) (.tmp 60) rfl w.heap.size _ s rfl HOX.out ⟨tc, y, f⟩ X.heap.size rfl rfl hsl hsz ?_); intro v1 w6 hown1 hg1 hat1; have HO3 := Lib.hid hown1; have H93 := Lib.hid (show BoxS w6 (w1.heap.size + 1) ⟨tc, y, f⟩ from (hg1.block _ H9X.out.lt (fun e => HNB.out _ e.symm rfl)).trans H9X.out); have HK3 := Lib.hid (HKX.out.grown hg1 hsz (fun g hg => (OwnSs.at HOX.out g hg).1)); have HNB3 := Lib.hid (show ∀ g, v1.ownBlock = some g → g ≠ w1.heap.size + 1 from fun g hg => (by rcases hat1 with h | h; exact HNB.out g (h ▸ hg); rw [h] at hg; injection hg with hg; have := l9; omega)); clear hown1 hat1 hg1)
      refine (next_is HTN.out (HV.out.upb HK3.out) hl2).mono ?_
      rintro e _ ⟨rfl, rfl⟩
      go_wp2_with (fail)
      go_roundw
      case rel => exact ⟨tc, tn, s ++ [⟨tc, y, f⟩], ⟨tc, y, f⟩, rfl, HR2, HO3, HNB3, H93, HK3⟩
      case measure => simpa [intOf] using HST.out.2.2
    · have d2 : (y != lv.value) = false := by rw [bne, d1]; rfl
      cases d3 : (f == lv.ok)
      · have d4 : (f != lv.ok) = true := by rw [bne, d3]; rfl
        have HR2 := Lib.hid (HST.out.2.1 (fun h => by rw [h.2] at d3; simp at d3))
        have HOX := Lib.hid (ownS_set2 HO.out HNB.out ⟨tc, y, f⟩)
        have H9X := Lib.hid (H9.out.setS ⟨tc, y, f⟩)
        have HKX := Lib.hid (below_setS HK.out (B := w1.heap.size + 1) (by have := HB1.out.size; omega) ⟨tc, y, f⟩)
        obtain ⟨X, hX⟩ : ∃ X, setS w5 (w1.heap.size + 1) ⟨tc, y, f⟩ = X := ⟨_, rfl⟩
        rw [hX] at HOX H9X HKX
        have HXE := Lib.hid hX
        clear hX
        go_upto_region 14 with (fail)
        have hX := HXE.out
        unfold setS at hX
        dsimp only at hX
        rw [hX]
        clear hX HXE p0 p1 p2 l9 f0 f1 f2 HO H9 HK
        have p0 := H9X.out.c0
        have p1 := H9X.out.c1
        have p2 := H9X.out.c2
        have l9 := H9X.out.lt
        have hsz : w.heap.size ≤ X.heap.size := HKX.out.size
        have hsl := HLEN.out
        go_wp2_with (at_builtin; go_must (refine wpList_pushS rfl (.tmp 58) (.tmp 60) rfl w.heap.size _ s rfl HOX.out ⟨tc, y, f⟩ X.heap.size rfl rfl hsl hsz ?_); intro v1 w6 hown1 hg1 hat1; have HO3 := Lib.hid hown1; have H93 := Lib.hid (show BoxS w6 (w1.heap.size + 1) ⟨tc, y, f⟩ from (hg1.block _ H9X.out.lt (fun e => HNB.out _ e.symm rfl)).trans H9X.out); have HK3 := Lib.hid (HKX.out.grown hg1 hsz (fun g hg => (OwnSs.at HOX.out g hg).1)); have HNB3 := Lib.hid (show ∀ g, v1.ownBlock = some g → g ≠ w1.heap.size + 1 from fun g hg => (by rcases hat1 with h | h; exact HNB.out g (h ▸ hg); rw [h] at hg; injection hg with hg; have := l9; omega)); clear hown1 hat1 hg1)
        refine (next_is HTN.out (HV.out.upb HK3.out) hl2).mono ?_
        rintro e _ ⟨rfl, rfl⟩
        go_wp2_with (fail)
        go_roundw
        case rel => exact ⟨tc, tn, s ++ [⟨tc, y, f⟩], ⟨tc, y, f⟩, rfl, HR2, HO3, HNB3, H93, HK3⟩
        case measure => simpa [intOf] using HST.out.2.2
      · have d4 : (f != lv.ok) = false := by rw [bne, d3]; rfl
        have HR2 := Lib.hid (HST.out.1 ⟨by simpa using d1, by simpa using d3⟩)
        go_wp2_with (fail)
        refine (next_is HTN.out (HV.out.upb HK.out) hl2).mono ?_
        rintro e _ ⟨rfl, rfl⟩
        go_wp2_with (fail)
        go_roundw
        case rel => exact ⟨tc, tn, s, lv, rfl, HR2, HO, HNB, H9, HK⟩
        case measure => simpa [intOf] using HST.out.2.2
end Go.Proofs.Ytcifhigeieoogaa
