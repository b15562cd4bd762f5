/- slices.SortFunc over amendments, by the library's proved contract; slices.SortedFunc. -/
import Derived.Test.YtcifhigeieoogaaW12
import Derived.Shelf.SlSortCmp.NoneTotal
import Derived.Shelf.SlSortCmp.WholeK
import Derived.Shelf.Lay
import Derived.Ground.SlsfProg
namespace Go.Proofs.Ytcifhigeieoogaa
open Go.RowKit
set_option linter.unusedVariables false
set_option linter.unusedSimpArgs false
open Go.Shelf Go.Sort
shelf_lay_g SlLaysF0.n6 Slsf 6 at Try 45 as sortA
theorem below_sort {base g n : Nat} {w : World} {d : Array Am} {os : Array Obj} (hb : base ≤ g) (hw : base ≤ w.heap.size) : Below base w (sortWorldK encA 6 w g 0 n d os) := by
  refine ⟨rfl, rfl, rfl, ?_, fun k hk => ?_⟩
  · unfold sortWorldK; rw [size_grow, size_putRowK]; show w.heap.size ≤ w.heap.size + _; omega
  · have h1 : k < (mapBlock (Go.Sort.ahead w n) g (putCells id 0 (flatK encA 6 d))).heap.size := by
      show k < (w.heap.modify g _).size
      rw [Array.size_modify]; omega
    show ((mapBlock (Go.Sort.ahead w n) g (putCells id 0 (flatK encA 6 d))).heap ++ os)[k]? = _
    rw [Array.getElem?_append_left h1]
    show (w.heap.modify g _)[k]? = _
    rw [Array.getElem?_modify, if_neg (by omega)]
theorem encA_len (x : Am) : (encA x).length = 6 := rfl
theorem encA_one (x : Am) : ∀ v ∈ encA x, v.oneCell' = true := by
  intro v hv
  simp [encA] at hv
  rcases hv with rfl | rfl | rfl | rfl | rfl | rfl <;> rfl
theorem flatK_at (l : List Am) {j : Nat} (hj : j < l.length * 6) : (flatK encA 6 l.toArray)[j]! = (l.flatMap encA)[j]'(by rw [flatA_len]; omega) := by
  have hk : j / 6 < l.length := by omega
  have h1 := flatA_at l (j / 6) (j % 6) hk (Nat.mod_lt _ (by omega))
  rw [show j / 6 * 6 + j % 6 = j by omega] at h1
  rw [get_flatK encA 6 l.toArray j (by simpa using hj)]
  have e : (l.toArray)[j / 6]! = l[j / 6] := by simp [hk]
  rw [e]
  have h2 : j % 6 < (encA l[j / 6]).length := by rw [encA_len]; exact Nat.mod_lt _ (by omega)
  rw [List.getElem?_eq_getElem (by rw [flatA_len]; omega), List.getElem?_eq_getElem h2] at h1
  rw [Option.some.inj h1]
  simp [h2]
theorem holds_own {w : World} {base g cap : Nat} {l : List Am} {n : Nat} (hown : OwnAs w base (.slice (some ⟨g, 0, none⟩) n cap) l) : HoldsK encA 6 w g 0 l.toArray := by
  intro j hj
  rw [size_flatK] at hj
  simp only [List.size_toArray] at hj
  obtain ⟨A0, c0, e0⟩ := OwnAs.slice hown
  injection e0 with _ e0 _
  subst e0
  have h1 := World.ownsRow.cellAt hown j hj
  refine ⟨?_, ?_⟩
  · rw [Nat.zero_add, h1, flatK_at l hj, List.getElem?_eq_getElem (by rw [flatA_len]; omega)]; rfl
  · rw [Nat.zero_add]; exact World.ownsRow.frozenAt hown j
theorem is_holds {w : World} {g cap : Nat} {d : Array Am} (h : HoldsK encA 6 w g 0 d) (hg : g < w.heap.size) : IsAs w (.slice (some ⟨g, 0, none⟩) d.toList.length cap) d.toList := by
  refine ⟨_, cap, rfl, fun _ => ⟨g, 0, rfl, hg, fun i hi => ?_⟩⟩
  have hl := flatA_len d.toList
  have h1 := (h i (by rw [size_flatK]; simp only [Array.length_toList] at hl; omega)).1
  rw [h1]
  have := flatK_at d.toList (j := i) (by omega)
  simp only [Array.toArray_toList] at this
  rw [this]; rfl
theorem swoAt : SWO (ltOf cfAt) where
  irrefl x := by show decide (cfAt x x < 0) = false; rw [cfAt_neg]; simp
  trans x y z h1 h2 := by
    change decide (cfAt x y < 0) = true at h1; change decide (cfAt y z < 0) = true at h2
    show decide (cfAt x z < 0) = true
    rw [cfAt_neg] at *; simp only [decide_eq_true_eq] at *; omega
  ntrans x y z h1 h2 := by
    change decide (cfAt x y < 0) = false at h1; change decide (cfAt y z < 0) = false at h2
    show decide (cfAt x z < 0) = false
    rw [cfAt_neg] at *; simp only [decide_eq_false_iff_not] at *; omega
theorem cmpLays33 (blk off size : Nat) (w : World) : CmpLays Try.prog 33 #[] encA 6 cfAt blk off size w := fun _ _ _ _ x y => byAt_any x y _
def NoLess (l : List Am) : Prop := l.Pairwise (fun x y => ¬ cfAt y x < 0)
def SortPost (v : Value) (l : List Am) (base : Nat) (w : World) : Ending → World → Prop := fun e w' => e = .returned (.tuple #[]) ∧ ∃ l', l'.Perm l ∧ NoLess l' ∧ IsAs w' v l' ∧ Below base w w'
theorem sort_any {v : Value} {l : List Am} {w : World} {base : Nat} (hown : OwnAs w base v l) (hb : base ≤ w.heap.size) (hl : l.length ≤ 4096) : Calls Try.prog 45 #[v, .func (.func 33) #[] #[]] w (SortPost v l base w) := by
  obtain ⟨A, c, rfl⟩ := OwnAs.slice hown
  by_cases h0 : l.length = 0
  · have : l = [] := List.eq_nil_of_length_eq_zero h0
    subst this
    have h := AnyF.slices_SortFunc_none sortA A c (.func (.func 33) #[] #[]) w
    change Calls Try.prog 45 _ _ _ at h
    refine h.mono ?_
    rintro e w' ⟨rfl, rfl⟩
    exact ⟨rfl, [], List.Perm.refl _, List.Pairwise.nil, hown.is, Below.refl _ _⟩
  · obtain ⟨g, cap, e, hbg, hgw⟩ := own_form hown (by omega)
    injection e with e1 e2 e3
    subst e1 e3
    have hH := holds_own hown
    have h := AnyQ.slices_SortFunc sortA 6 Try.isAgg27 Try.sizeOf27 encA encA_len encA_one cfAt swoAt 33 #[] g 0 c l.toArray w (enters_of Try.func33 (by kernel_rfl) rfl) (cmpLays33 _ _ _ _) hH hgw (by simp; omega)
    change Calls Try.prog 45 _ _ _ at h
    have e3 : l.toArray.size = l.length := by simp
    rw [e3] at h
    refine h.mono ?_
    rintro e w' ⟨rfl, d', n, os, ⟨hs, _, hp⟩, hsr, rfl⟩
    rw [e3] at hs
    have hp2 : d'.toList.Perm l := by
      have e1 : d'.extract 0 l.length = d' := by rw [← hs]; exact Array.extract_size
      have e2 : l.toArray.extract 0 l.length = l.toArray := by rw [← e3]; exact Array.extract_size
      rw [e1, e2] at hp
      simpa using hp
    refine ⟨rfl, d'.toList, hp2, ?_, ?_, below_sort hbg hb⟩
    · unfold NoLess
      rw [List.pairwise_iff_getElem]
      intro i j hi hj hij
      have h1 := hsr i j (Nat.zero_le _) hij (by simp only [Array.length_toList] at hj; omega)
      change decide (cfAt d'[j]! d'[i]! < 0) = false at h1
      simp only [Array.length_toList] at hi hj
      rw [getElem!_pos d' j hj, getElem!_pos d' i hi] at h1
      simpa using h1
    · have hk := SWK.holds (w0 := w) (W := sortWorldK encA 6 w g 0 n d' os) ⟨n, os, rfl⟩ hgw hH (by rw [hs]; simp)
      have h2 := is_holds (cap := c) hk (Nat.lt_of_lt_of_le hgw (below_sort (base := w.heap.size) (n := n) (d := d') (os := os) (g := w.heap.size) (Nat.le_refl _) (Nat.le_refl _) |> fun _ => by unfold sortWorldK; rw [size_grow, size_putRowK]; show w.heap.size ≤ w.heap.size + _; omega))
      have e4 : d'.toList.length = l.length := hp2.length_eq
      rw [e4] at h2
      exact h2
/-- what is sorted -/
theorem sorted_of {l l' : List Am} {key k0 : Int} (h : l.Pairwise (fun x y => x.no < y.no)) (hp : l'.Perm (kn l key k0)) (hn : NoLess l') : Vn.Sorted l key k0 l' where
  mem := fun x => by rw [hp.mem_iff]; unfold kn; rw [List.mem_filter]
  srt := by
    have h1 : (kn l key k0).Pairwise (fun x y => x.no ≠ y.no) := (h.imp (fun h => by omega)).filter _
    have h2 : l'.Pairwise (fun x y => x.no ≠ y.no) := (hp.pairwise_iff (fun h => Ne.symm h)).2 h1
    refine (hn.and h2).imp ?_
    rintro x y ⟨h3, h4⟩
    have h5 := cfAt_neg y x
    rw [decide_eq_false h3] at h5
    have h6 : ¬ (y.at_ < x.at_ ∨ y.at_ = x.at_ ∧ y.no < x.no) := by simpa using h5.symm
    unfold Vn.lexLt
    omega
def SfPost (ys : List Am) (w : World) : Ending → World → Prop := fun e w' => ∃ A c l', e = .returned (.slice A l'.length c) ∧ l'.Perm ys ∧ NoLess l' ∧ IsAs w' (.slice A l'.length c) l' ∧ Below w.heap.size w w'
theorem sortedFunc_any (gf : Nat) (lb : Array Value) (ys : List Am) (Prot : Nat → Prop) (w : World) (eg : ∀ args W, (callFunc gf args).run Try.prog W = .ok (.enter gf args) W) (hP : ∀ b, Prot b → b < w.heap.size) (hl : ys.length ≤ 4096)
    (hit : ∀ W', Below w.heap.size w W' → Iter Try.prog gf lb encV ys Prot W') :
    Calls Try.prog 37 #[.func (.func gf) #[] lb, .func (.func 33) #[] #[]] w (SfPost ys w) := by
  have HC := Lib.hid (collect_any gf lb ys Prot w eg hP hl hit)
  clear hit
  go_enter Try.func37, Try.ntmps37
  go_wp2_with (fail)
  refine HC.out.mono ?_
  rintro e w1 ⟨v', rfl, HO, HB⟩
  have HS := Lib.hid (sort_any HO HB.size hl)
  have HB1 := Lib.hid HB
  obtain ⟨A, c, rfl⟩ := OwnAs.slice HO
  clear HO HB HC
  go_wp2_with (fail)
  refine HS.out.mono ?_
  rintro e w2 ⟨rfl, l', hp, hn, hi, hb⟩
  have HI := Lib.hid hi
  have HP := Lib.hid hp
  have HN := Lib.hid hn
  have HB2 := Lib.hid (HB1.out.trans hb)
  have hll := hp.length_eq
  rw [← hll] at HI ⊢
  clear hi hp hn hb hll HS HB1
  go_wp2_with (fail)
  go_ret
  exact ⟨A, c, l', rfl, HP.out, HN.out, HI.out, HB2.out⟩
end Go.Proofs.Ytcifhigeieoogaa
