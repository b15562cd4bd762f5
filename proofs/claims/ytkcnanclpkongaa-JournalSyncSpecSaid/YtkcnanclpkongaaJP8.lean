/- Plain mathematics of layer 5: one byte of a sector turned. No program in sight. -/
import Derived.Test.YtkcnanclpkongaaJPB
namespace Go.Proofs.Ytkcnanclpkongaa
set_option linter.unusedVariables false
set_option linter.unusedSimpArgs false
namespace Jn
theorem set_at {s : By} {i : Nat} (hi : i < s.length) {x : UInt8} (h : (s.set i x)[i]? = s[i]?) : x = s[i] := by
  rw [List.getElem?_set_self hi, List.getElem?_eq_getElem hi] at h
  injection h
theorem seg_get {s : By} {a b i : Nat} (h1 : a ≤ i) (h2 : i < b) : ((s.take b).drop a)[i - a]? = s[i]? := by
  rw [List.getElem?_drop, show a + (i - a) = i by omega, List.getElem?_take_of_lt h2]
theorem seg_set {s : By} {a b i : Nat} {x : UInt8} (h : i < a ∨ b ≤ i) : (((s.set i x).take b).drop a) = ((s.take b).drop a) := by
  apply List.ext_getElem?
  intro n
  rw [List.getElem?_drop, List.getElem?_drop]
  by_cases hn : a + n < b
  · rw [List.getElem?_take_of_lt hn, List.getElem?_take_of_lt hn, List.getElem?_set_ne (by omega)]
  · rw [List.getElem?_eq_none (by rw [List.length_take]; omega), List.getElem?_eq_none (by rw [List.length_take]; omega)]
theorem gen_seg (s : By) : gen s = num ((s.take 4).drop 0) := rfl
theorem gnT_seg {s : By} (hs : s.length = 128) : gnT s = num ((s.take 128).drop 124) := by
  unfold gnT; rw [List.take_of_length_le (by omega)]
theorem seg_len {s : By} {a b : Nat} (hb : b ≤ s.length) : ((s.take b).drop a).length = b - a := by rw [List.length_drop, List.length_take]; omega
/-- a good sector with one byte turned is not good -/
theorem gd_one {s : By} {k i : Nat} {x : UInt8} (hs : s.length = 128) (hi : i < s.length) (hne : x ≠ s[i]) (hg : Gd s k) : ¬ Gd (s.set i x) k := by
  intro hg'
  have hs' : (s.set i x).length = 128 := by rw [List.length_set]; exact hs
  have key : ∀ a b, a ≤ i → i < b → b ≤ 128 → num (((s.set i x).take b).drop a) = num ((s.take b).drop a) → False := fun a b h1 h2 h3 h => by
    have h4 := num_inj (by rw [seg_len (by omega), seg_len (by omega)]) h
    have h5 := congrArg (fun l : By => l[i - a]?) h4
    simp only [seg_get h1 h2] at h5
    exact hne (set_at hi h5)
  have hgen : 4 ≤ i → gen (s.set i x) = gen s := fun h => by rw [gen_seg, gen_seg, seg_set (.inr h)]
  have hgnT : i < 124 → gnT (s.set i x) = gnT s := fun h => by rw [gnT_seg hs', gnT_seg hs, seg_set (.inl h)]
  have hcrF : i < 4 ∨ 8 ≤ i → crF (s.set i x) = crF s := fun h => by unfold crF; rw [seg_set h]
  have hbd : i < 8 ∨ 124 ≤ i → bd (s.set i x) = bd s := fun h => by unfold bd; rw [seg_set h]
  rcases Nat.lt_or_ge i 4 with h1 | h1
  · refine key 0 4 (by omega) h1 (by omega) ?_
    rw [← gen_seg, ← gen_seg, hg'.gt, hg.gt, hgnT (by omega)]
  rcases Nat.lt_or_ge i 8 with h2 | h2
  · refine key 4 8 h1 h2 (by omega) ?_
    show crF (s.set i x) = crF s
    rw [hg'.cr, hg.cr, hbd (.inl h2)]
  rcases Nat.lt_or_ge i 124 with h3 | h3
  · have hc : crc (bd (s.set i x)) = crc (bd s) := by rw [← hg'.cr, ← hg.cr, hcrF (.inr h2)]
    have hb := bd_len hs
    have hil : i - 8 < (bd s).length := by omega
    have e1 : bd (s.set i x) = (bd s).set (i - 8) x := by
      apply List.ext_getElem?
      intro n
      unfold bd
      rw [List.getElem?_drop]
      by_cases hn : 8 + n < 124
      · rw [List.getElem?_take_of_lt hn]
        by_cases he : n = i - 8
        · subst he
          rw [List.getElem?_set_self (show i - 8 < ((s.take 124).drop 8).length from hil), show 8 + (i - 8) = i by omega, List.getElem?_set_self hi]
        · rw [List.getElem?_set_ne (by omega), List.getElem?_set_ne (by omega), List.getElem?_drop, List.getElem?_take_of_lt hn]
      · rw [List.getElem?_eq_none (by rw [List.length_take]; omega), List.getElem?_eq_none (by rw [List.length_set, List.length_drop, List.length_take]; omega)]
    have e2 : bd s = (bd s).take (i - 8) ++ (bd s)[i - 8] :: (bd s).drop (i - 8 + 1) := by
      rw [← List.drop_eq_getElem_cons hil, List.take_append_drop]
    have e3 : (bd s).set (i - 8) x = (bd s).take (i - 8) ++ x :: (bd s).drop (i - 8 + 1) := List.set_eq_take_append_cons_drop .. |>.trans (by rw [if_pos hil])
    rw [e1, e3] at hc
    conv at hc => rhs; rw [e2]
    have h5 := crc_change _ _ hc
    refine hne (h5.trans ?_)
    have h6 : (bd s)[i - 8]? = s[i]? := by
      unfold bd
      exact seg_get h2 h3
    rw [List.getElem?_eq_getElem hil, List.getElem?_eq_getElem hi] at h6
    injection h6
  · refine key 124 128 h3 (by omega) (Nat.le_refl _) ?_
    rw [← gnT_seg hs', ← gnT_seg hs, ← hg'.gt, ← hg.gt, hgen (by omega)]
/-- what is read after one byte of a sector that was written is turned -/
theorem damage {l : Jl} {n : Nat} {sx sy : List By} (hA : Acc l ⟨List.replicate n Dv.zs, [], -1, false⟩) (hs0 : l.syn = 0) (hsy : sy = Dv.put (List.replicate n Dv.zs) (wrs 0 (what l ⟨List.replicate n Dv.zs, [], -1, false⟩))) {κ i : Nat} {x : UInt8} (hκ : κ < used l.rs)
    (hi : i < (sy.getD κ []).length) (hx : x ≠ (sy.getD κ [])[i]) (hsx : sx = sy.set κ ((sy.getD κ []).set i x)) :
    ∃ k, k < l.rs.length ∧ used (l.rs.take k) ≤ κ ∧ κ < used (l.rs.take (k + 1)) ∧ Records sx = l.rs.take k := by
  have hold : old l = [] := by unfold old; rw [hs0]; rfl
  have hnews : news l = l.rs := by unfold news; rw [hs0]; rfl
  have hu := hA.used
  have hl := hA.len
  rw [hold, hnews] at hu
  rw [hnews] at hl
  simp only [used, Nat.zero_add] at hu
  have hn2 := hA.okd.n2
  simp only at hn2
  have hln : (List.replicate n Dv.zs).length = n := List.length_replicate ..
  have hget := put_wrs (what l ⟨List.replicate n Dv.zs, [], -1, false⟩) 0 (List.replicate n Dv.zs) (by omega)
  rw [← hsy] at hget
  have hlen : sy.length = n := by rw [hsy, Dv.put_len]; exact hln
  have hg32 := hA.g32
  have hgn : gnext (List.replicate n Dv.zs) = 1 := by unfold gnext; rw [gmax_new]
  have hwh : what l ⟨List.replicate n Dv.zs, [], -1, false⟩ = encG 1 0 l.rs := by
    unfold what
    rw [hold, hnews]
    show encG (gnext (List.replicate n Dv.zs)) 0 l.rs = _
    rw [hgn]
  rw [hwh] at hget hl
  have hκn : κ < sy.length := by omega
  have hsκ : sy[κ]? = (encG 1 0 l.rs)[κ]? := by rw [hget, if_pos (by omega), Nat.sub_zero]
  obtain ⟨s, hs⟩ : ∃ s, sy.getD κ [] = s := ⟨_, rfl⟩
  have hsy2 : sy[κ]? = some s := by rw [← hs, List.getD_eq_getElem?_getD, List.getElem?_eq_getElem hκn]; rfl
  rw [hs] at hsx
  simp only [hs] at hi hx
  have hsl : sx.length = n := by rw [hsx, List.length_set, hlen]
  have hxget : ∀ q, q ≠ κ → sx[q]? = sy[q]? := fun q hq => by rw [hsx, List.getElem?_set_ne (by omega)]
  have hxκ : sx[κ]? = some (s.set i x) := by rw [hsx, List.getElem?_set_self hκn]
  have hmem : s ∈ encG 1 0 l.rs := List.mem_of_getElem? (hsκ.symm.trans hsy2)
  have hs128 := (enc_mem (show 1 < 4294967296 by decide) _ _ _ hmem).1
  -- the sector was good
  have hgood : Gd s κ := by
    obtain ⟨k, hk, h1, h2⟩ := split_used l.rs hκ
    have hsp : l.rs = l.rs.take k ++ l.rs[k] :: l.rs.drop (k + 1) := by rw [← List.drop_eq_getElem_cons hk, List.take_append_drop]
    have hh : HoldsG sy 0 (encG 1 0 l.rs) (used l.rs) := fun q hq => by rw [Nat.zero_add, hget, if_pos (by omega), Nat.sub_zero]
    rw [hsp] at hh
    have hB := hh.app.2
    have hle : used (l.rs.take k) + nsec l.rs[k].length ≤ used l.rs := by
      conv => rhs; rw [hsp, used_append]
      simp [used]
    have h3 := hB.first (e := nsec l.rs[k].length) (Nat.le_refl _) (by rw [← hsp]; omega)
    have h4 := h3 (κ - used (l.rs.take k)) (by omega)
    rw [Nat.zero_add, show used (l.rs.take k) + (κ - used (l.rs.take k)) = κ by omega, hsy2] at h4
    injection h4 with h4
    rw [h4]
    have := gd_secJ (g := 1) (a := used (l.rs.take k)) (b := l.rs[k]) (j := κ - used (l.rs.take k)) (by decide) (by decide) (by omega) (by omega)
    rwa [show used (l.rs.take k) + (κ - used (l.rs.take k)) = κ by omega] at this
  have hbad := gd_one hs128 hi hx hgood
  obtain ⟨k, hk, h1, h2, h3⟩ := recs_bad (l := sx) (g := 1) (by decide) (by decide) (by omega) (news := l.rs) (f := sx.length + 1) (a := 0) (last := 0) (c := κ) (by decide) (by omega)
    (fun q hq => by rw [Nat.zero_add, hxget q (by omega), hget, if_pos (by omega), Nat.sub_zero]) hκ (by omega)
    (fun s' hs' hgd => by
      rw [Nat.zero_add] at hs' hgd
      rw [hxκ] at hs'
      injection hs' with hs'
      subst hs'
      exact hbad hgd)
  exact ⟨k, hk, h1, by rw [used_take hk]; exact h2, h3⟩
end Jn
end Go.Proofs.Ytkcnanclpkongaa
