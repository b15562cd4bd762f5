/- Walk of the statement PortionsWants. -/
import Derived.Test.YtagbdjdphghflaaL3
namespace Go.Proofs.Ytagbdjdphghflaa
open Go.RowKit

theorem own_form {W : World} {base : Nat} {e : TypeId} {size n : Nat} {v : Value} {xs : List Value} (h : W.ownsRow base e size v n xs) (hn : 0 < n) : ∃ g cap, v = .slice (some ⟨g, 0, none⟩) n cap ∧ base ≤ g ∧ g < W.heap.size := by
  rcases h.2 with ⟨_, h0⟩ | ⟨g, cap, cur, rfl, hb, hg, _⟩
  · omega
  · exact ⟨g, cap, rfl, hb, (Array.getElem?_eq_some_iff.1 hg).1⟩

/-- what is known of the two divisions -/
structure Wants (xs l m : List Int) (k : Nat) : Prop where
  len1 : l.length = xs.length
  len2 : m.length = xs.length
  own : ∀ (h1 : k < l.length) (h2 : k < m.length), l[k] ≤ m[k]
  other : ∀ i (h1 : i < l.length) (h2 : i < m.length), i ≠ k → m[i] ≤ l[i]

theorem wants_of (c : Int) (xs : List Int) (k : Nat) (hk : k < xs.length) (b : Int) (hb : xs[k] ≤ b) (he : Pl.err c xs = 0) : Wants xs (Pl.divide c xs) (Pl.divide c (xs.set k b)) k := by
  have H0 := err_ok he
  have hd : ∀ x ∈ xs, 0 ≤ x := fun x hx => (H0.2.2.1.2 x hx).1
  have e1 := Pl.divide_length c xs
  refine ⟨e1, by rw [Pl.divide_length]; simp, fun h1 h2 => Pl.divide_wants_own c xs H0.1 hd k hk b hb h1 h2, fun i h1 h2 hi => Pl.divide_wants_other c xs H0.1 hd k hk b hb i (by omega) hi h1 h2⟩

set_option maxHeartbeats 2000000 in
set_option maxRecDepth 100000 in
theorem PortionsWants_any (c : Int) (v : Value) (xs : List Int) (a by_ : Nat) (w : World) (hv : IsInts w v xs) (hl : xs.length ≤ 9223372036854775807) (ha : a ≤ 255) (hby : by_ ≤ 4294967295) :
    Calls Try.prog 7 #[.int .i64 c, v, .int .u8 a, .int .u32 by_] w fun e w' => e = .returned (.bool true) ∧ Below w.heap.size w w' := by
  have HV := Lib.hid hv
  obtain ⟨A, cap, rfl, hr⟩ := hv
  clear hr
  by_cases he : Pl.err c xs = 0
  · have HE := Lib.hid he
    have H0 := err_ok he
    have h32 := H0.2.2.2
    have HS := Lib.hid H0.2.2.1
    clear H0 he
    by_cases hz : xs.length = 0
    · have hzb : ((xs.length : Int) == 0) = true := by simp [hz]
      clear hz
      go_enter Try.func7, Try.ntmps7
      go_wp2_with (fail)
      refine (sane_any _).mono ?_
      rintro e w1 ⟨rfl, hb1⟩
      go_wp2_with (fail)
      refine (divided_yes c _ xs _ (HV.out.below hb1) hl HE.out).mono ?_
      rintro e w2 ⟨⟨x, rfl, hx⟩, hb2⟩
      obtain ⟨A3, cap3, rfl, hr3⟩ := hx
      have hw2 := hb1.up hb2
      clear hb1 hb2 hr3
      go_wp2_with (fail)
      go_ret
      exact ⟨rfl, hw2⟩
    · have hzb : ((xs.length : Int) == 0) = false := by simp; simpa using hz
      have hpos : 0 < xs.length := by omega
      clear hz
      have hkl : a % xs.length < xs.length := Nat.mod_lt _ hpos
      obtain ⟨i0, hi, hz0, hz1, hz2⟩ := info_parts info3
      have hxk := HS.out.2 xs[a % xs.length] (List.getElem_mem hkl)
      go_enter Try.func7, Try.ntmps7
      go_wp2_with (fail)
      refine (sane_any _).mono ?_
      rintro e w1 ⟨rfl, hb1⟩
      go_wp2_with (fail)
      refine (divided_yes c _ xs _ (HV.out.below hb1) hl HE.out).mono ?_
      rintro e w2 ⟨⟨x, rfl, hx⟩, hb2⟩
      have HX := Lib.hid hx
      obtain ⟨A3, cap3, rfl, hr3⟩ := hx
      have hw2 := hb1.up hb2
      clear hb1 hb2 hr3
      obtain ⟨A', cap', hA', hr'⟩ := HV.out.below hw2
      cases hA'
      obtain ⟨b, off, rfl, hbb, hc00⟩ := ints_at hr' hpos
      have hcells : ∀ j u, (xs.map (Value.int .i64))[j]? = some u → (w2.alloc (.cells #[] 3)).cell? ((⟨b, off, none⟩ : Addr).add j) = some u := by
        intro j u hu
        obtain ⟨b', off', e', _, hcc⟩ := hr' (by intro h0; simp at h0; subst h0; simp at hpos)
        cases e'
        obtain ⟨hj, rfl⟩ := List.getElem?_eq_some_iff.1 hu
        rw [Go.WideShapes.add_plain, World.cell?_alloc_lt _ _ _ hbb]
        exact hcc j hj
      have HC := Lib.hid hcells
      clear hcells hr' hc00
      go_wp2_with (at_builtin; go_must (refine wpList_append_own _ rfl _ _ 22 rfl w2.heap.size 3 i0 (.int .i64 0) 1 8 Try.underlying22 hi hz0 hz1 hz2 rfl (by decide) _ 0 [] rfl (World.ownsRow_made w2 #[] 0 (Nat.le_refl _) (by unfold maxLen; omega) rfl) ⟨b, off, none⟩ xs.length cap (xs.map (Value.int .i64)) rfl (by simp) HC.out (by simp [Value.oneCell']) (by unfold maxLen; omega) (by omega) (by simp) ?_; intro v' wx hown' hgrow _; simp only [Nat.zero_add, List.nil_append] at hown'; obtain ⟨g, capg, hvg, hgb, hglt⟩ := own_form hown' hpos; subst hvg; have hcell := World.ownsRow.cellAt hown' (a % xs.length) (by omega); have hfro := World.ownsRow.frozenAt hown' (a % xs.length); have hst := World.ownsRow.stored hown' (a % xs.length) (.int .i64 (xs[a % xs.length] + by_)); rw [List.getElem?_map, List.getElem?_eq_getElem hkl] at hcell; simp only [Option.map_some] at hcell; have HST := Lib.hid hst; have HGR := Lib.hid hgrow; clear hst hown' hgrow))
      rw [show ((a : Int) % (xs.length : Int)) = ((a % xs.length : Nat) : Int) from (Int.natCast_emod a xs.length).symm]
      generalize a % xs.length = k at *
      have hgi : IsInts (wx.setCell ⟨g, k, none⟩ (.int .i64 (xs[k] + by_))) (.slice (some ⟨g, 0, none⟩) xs.length capg) (xs.set k (xs[k] + by_)) := by
        refine OwnInts.ints (base := w2.heap.size) ?_
        unfold OwnInts
        rw [List.map_set, List.length_set]
        exact HST.out.1
      have hw3 : Below w.heap.size w (wx.setCell ⟨g, k, none⟩ (.int .i64 (xs[k] + by_))) := by
        refine (hw2.trans ?_).setCell (p := ⟨g, k, none⟩) (by have := hw2.size; show w.heap.size ≤ g; omega) _
        exact ((Below.refl _ w2).alloc hw2.size _).grown HGR.out (by have := hw2.size; simp; omega) (fun j hj => by have h2 : some w2.heap.size = some j := hj; injection h2 with h2; have := hw2.size; omega)
      have hb23 : Below w2.heap.size w2 (wx.setCell ⟨g, k, none⟩ (.int .i64 (xs[k] + by_))) := by
        refine Below.setCell (p := ⟨g, k, none⟩) ?_ hgb _
        exact ((Below.refl _ w2).alloc (Nat.le_refl _) _).grown HGR.out (by simp) (fun j hj => by have h2 : some w2.heap.size = some j := hj; injection h2 with h2; omega)
      generalize wx.setCell ⟨g, k, none⟩ (.int .i64 (xs[k] + by_)) = W3 at hgi hw3 hb23 ⊢
      have hll : (xs.set k (xs[k] + by_)).length ≤ 9223372036854775807 := by simpa using hl
      by_cases hf : Pl.err c (xs.set k (xs[k] + by_)) = 0
      · have HWa := Lib.hid (wants_of c xs k hkl (xs[k] + by_) (by omega) HE.out)
        have hlen1 := Pl.divide_length c xs
        refine (divided_yes c _ _ _ hgi hll hf).mono ?_
        rintro e w4 ⟨⟨y, rfl, hy⟩, hb4⟩
        generalize Pl.divide c (xs.set k (xs[k] + by_)) = dm at HWa hy
        have HX2 := Lib.hid (HX.out.below (hb23.up hb4))
        generalize Pl.divide c xs = dl at HWa HX2 HX hlen1 ⊢
        obtain ⟨A4, cap4, rfl, hr4⟩ := hy
        obtain ⟨A5, cap5, hA5, hr5⟩ := HX2.out
        cases hA5
        have HR4 := Lib.hid hr4
        have HR5 := Lib.hid hr5
        have HW := Lib.hid (hw3.up hb4)
        clear hr4 hr5 hcell hfro HST HGR hgi hw3 hb23 hb4 hf hll HX HX2 hlen1
        go_wp2_with (fail)
        go_loopw [68] (fun i wr => ∃ j : Nat, j ≤ xs.length ∧ i = .int .i64 j ∧ ∃ q, wr = w4.drewN q) (fun i _ => xs.length - (intOf i).toNat)
        case atStart => exact ⟨0, Nat.zero_le _, rfl, 0, rfl⟩
        case round =>
          obtain ⟨j, hj, rfl, q, rfl⟩ := hrel
          by_cases hlt : j < xs.length
          · have hk1 : j < dl.length := by have := HWa.out.len1; omega
            have hk2 : j < dm.length := by have := HWa.out.len2; omega
            obtain ⟨b4, off4, rfl, _, hc4⟩ := ints_at HR4.out hk2
            obtain ⟨b5, off5, rfl, _, hc5⟩ := ints_at HR5.out hk1
            by_cases hjk : j = k
            · have f1 : dl[j] ≤ dm[j] := by subst hjk; exact HWa.out.own hk1 hk2
              subst hjk
              generalize dl[j] = d at hc5 f1
              generalize dm[j] = m at hc4 f1
              have hf1 : decide (m < d) = false := by simpa using f1
              go_wp2
              go_quiet (fail)
              go_wp2
              go_roundw
              case rel => exact ⟨j + 1, by omega, by go_num, _, rfl⟩
              case measure => first | omega | (simp [intOf]; omega)
            · have hjb4 : ((j : Int) == (k : Int)) = false := by simp; omega
              have hjb5 : ((j : Int) != (k : Int)) = true := by simp; omega
              have f1 : dm[j] ≤ dl[j] := HWa.out.other j hk1 hk2 hjk
              generalize dl[j] = d at hc5 f1
              generalize dm[j] = m at hc4 f1
              have hf1 : decide (d < m) = false := by simpa using f1
              go_wp2
              go_quiet (fail)
              go_wp2
              go_roundw
              case rel => exact ⟨j + 1, by omega, by go_num, _, rfl⟩
              case measure => first | omega | (simp [intOf]; omega)
          · go_wp2
            go_ret
            exact ⟨rfl, below_drewN HW.out _⟩
      · refine (divided_no c _ _ _ hgi hll hf).mono ?_
        rintro e w4 ⟨rfl, hb4⟩
        go_wp2_with (fail)
        go_ret
        exact ⟨rfl, hw3.up hb4⟩
  · go_enter Try.func7, Try.ntmps7
    go_wp2_with (fail)
    refine (sane_any _).mono ?_
    rintro e w1 ⟨rfl, hb1⟩
    go_wp2_with (fail)
    refine (divided_no c _ xs _ (HV.out.below hb1) hl he).mono ?_
    rintro e w2 ⟨rfl, hb2⟩
    go_wp2_with (fail)
    go_ret
    exact ⟨rfl, hb1.up hb2⟩

end Go.Proofs.Ytagbdjdphghflaa
