/- Walks of Clone (three), Clip. -/
import Derived.Test.YtimpnpdhhhbmgaaOwn
namespace Go.Proofs.Ytimpnpdhhhbmgaa
open Go.RowKit
set_option linter.unusedVariables false
set_option linter.unusedSimpArgs false

theorem app_below {w X w' : World} {o : Option Nat} (hb : Below w.heap.size w X) (hg : X.grownBy w' o) (ho : ∀ g, o = some g → w.heap.size ≤ g) : Below w.heap.size w w' := hb.grown hg hb.size ho
theorem nil_of_none {w : World} {n c : Nat} {bs : By} (h : IsBytes w (.slice none n c) bs) : bs = [] := by
  obtain ⟨A, c', e, _, hr⟩ := h
  injection e with e
  subst e
  cases bs with
  | nil => rfl
  | cons x r =>
    obtain ⟨b, off, e, _⟩ := hr (by simp)
    cases e
theorem nilS_of_none {w : World} {n c : Nat} {bs : List By} (h : IsBs w (.slice none n c) bs) : bs = [] := by
  obtain ⟨A, c', vs, e, _, hl, hr, _⟩ := h
  injection e with e
  subst e
  cases bs with
  | nil => rfl
  | cons x r =>
    obtain ⟨b, off, e, _⟩ := hr (by intro h; subst h; simp at hl)
    cases e
theorem nilW_of_none {w : World} {n c : Nat} {ps : List Wr} (h : IsWs w (.slice none n c) ps) : ps = [] := by
  obtain ⟨A, c', vs, e, _, hl, hr, _⟩ := h
  injection e with e
  subst e
  cases ps with
  | nil => rfl
  | cons x r =>
    obtain ⟨b, off, e, _⟩ := hr (by
      cases vs with
      | nil => simp at hl
      | cons => simp [rowW])
    cases e
theorem ownB_made (W : World) : OwnBytes (W.alloc (.cells #[] 5)) W.heap.size (.slice (some ⟨W.heap.size, 0, none⟩) 0 0) [] := own_made W 5 1
theorem ownS_made (W : World) : OwnSs (W.alloc (.cells #[] 35)) W.heap.size (.slice (some ⟨W.heap.size, 0, none⟩) 0 0) [] := ⟨[], rfl, own_made W 35 1, fun i h => by simp at h⟩
theorem ownW_made (W : World) : OwnWs (W.alloc (.cells #[] 54)) W.heap.size (.slice (some ⟨W.heap.size, 0, none⟩) 0 0) [] := ⟨[], rfl, own_made W 54 2, fun i h => by simp at h⟩
theorem ownB_nil (W : World) (base : Nat) : OwnBytes W base (.slice none 0 0) [] := World.ownsRow_nil W base _ 1
theorem ownS_nil (W : World) (base : Nat) : OwnSs W base (.slice none 0 0) [] := ⟨[], rfl, World.ownsRow_nil W base _ 1, fun i h => by simp at h⟩
theorem ownW_nil (W : World) (base : Nat) : OwnWs W base (.slice none 0 0) [] := ⟨[], rfl, World.ownsRow_nil W base _ 2, fun i h => by simp at h⟩
theorem ownBlk {H n c : Nat} : ∀ g, (Value.slice (some ⟨H, 0, none⟩) n c).ownBlock = some g → H ≤ g := by
  intro g h; simp [Value.ownBlock] at h; omega
/-- sectors read outside of what is new -/
theorem offS {w : World} {v : Value} {ss : List By} (hv : IsBs w v ss) : ∃ A c us, v = .slice A ss.length c ∧ us.length = ss.length ∧ RowAt w A us ∧ ∀ (X : World) (o : Option Nat), Below w.heap.size w X → (∀ g, o = some g → w.heap.size ≤ g) → ∀ i (h : i < us.length) (h' : i < ss.length), OffB o X us[i] ss[i] := by
  obtain ⟨A, c, vs, e, hc, hl, hr, hi⟩ := hv
  exact ⟨A, c, vs, e, hl, hr, fun X o hX ho i h h' => OffB.of (hi i h h') hX ho⟩
theorem offW {w : World} {v : Value} {ps : List Wr} (hv : IsWs w v ps) : ∃ A c us, v = .slice A ps.length c ∧ us.length = ps.length ∧ RowAt w A (rowW ps us) ∧ ∀ (X : World) (o : Option Nat), Below w.heap.size w X → (∀ g, o = some g → w.heap.size ≤ g) → ∀ i (h : i < us.length) (h' : i < ps.length), OffB o X us[i] ps[i].data := by
  obtain ⟨A, c, vs, e, hc, hl, hr, hi⟩ := hv
  exact ⟨A, c, vs, e, hl, hr, fun X o hX ho i h h' => OffB.of (hi i h h') hX ho⟩
/-- sectors onto a row of the call's own -/
theorem appS_is {w X : World} {v u : Value} {ss ts : List By} (ty : TypeId) (hb : Below w.heap.size w X) (hu : IsBs w u ts) (hown : OwnSs X w.heap.size v ss) (hlen : ss.length + ts.length ≤ 1000000000) :
    ∃ v' w', (Builtin.append_ #[22, 22] ty #[v, u]).run Try.prog X = .ok v' w' ∧ OwnSs w' w.heap.size v' (ss ++ ts) ∧ X.grownBy w' v.ownBlock ∧ (v'.ownBlock = v.ownBlock ∨ v'.ownBlock = some X.heap.size) := by
  obtain ⟨A, c, us, rfl, hl, hr, hi⟩ := offS hu
  have hlt := hown
  obtain ⟨vs, _, ho, _⟩ := hlt
  exact appS_run ty hown hl (hr.below hb) (hi X _ hb (fun g hg => (World.ownsRow.lt ho g hg).1)) hlen hb.size
theorem appW_is {w X : World} {v u : Value} {ps qs : List Wr} (ty : TypeId) (hb : Below w.heap.size w X) (hu : IsWs w u qs) (hown : OwnWs X w.heap.size v ps) (hlen : ps.length + qs.length ≤ 1000000000) :
    ∃ v' w', (Builtin.append_ #[23, 23] ty #[v, u]).run Try.prog X = .ok v' w' ∧ OwnWs w' w.heap.size v' (ps ++ qs) ∧ X.grownBy w' v.ownBlock ∧ (v'.ownBlock = v.ownBlock ∨ v'.ownBlock = some X.heap.size) := by
  obtain ⟨A, c, us, rfl, hl, hr, hi⟩ := offW hu
  have hlt := hown
  obtain ⟨vs, _, ho, _⟩ := hlt
  exact appW_run ty hown hl (hr.below hb) (hi X _ hb (fun g hg => (World.ownsRow.lt ho g hg).1)) hlen hb.size

set_option maxHeartbeats 1000000 in
theorem cloneB_any {v : Value} {bs : By} {w : World} (hv : IsBytes w v bs) (hl : bs.length ≤ 100000000) :
    Calls Try.prog 41 #[v] w fun e w' => ∃ u, e = .returned u ∧ OwnBytes w' w.heap.size u bs ∧ Below w.heap.size w w' := by
  have HV := Lib.hid hv
  have HL := Lib.hid hl
  obtain ⟨A, cap, n, hn, rfl⟩ : ∃ A c n, n = bs.length ∧ v = .slice A n c := by
    first | (obtain ⟨A, c, e, _⟩ := hv; exact ⟨A, c, _, rfl, e⟩) | (obtain ⟨A, c, vs, e, _⟩ := hv; exact ⟨A, c, _, rfl, e⟩)
  have HN := Lib.hid hn
  clear hv hl hn
  cases A with
  | none =>
    obtain rfl := nil_of_none HV.out
    obtain rfl : n = 0 := HN.out
    have hnil : ∀ W, (binOp .eql 35 (.slice none 0 cap) (.slice none 0 0)).run Try.prog W = .ok (.bool true) W := fun _ => rfl
    go_enter Try.func41, Try.ntmps41
    go_wp2_with (fail)
    go_ret
    exact ⟨_, rfl, ownB_nil _ _, Below.refl _ _⟩
  | some ad =>
    have hnil : ∀ W, (binOp .eql 35 (.slice (some ad) n cap) (.slice none 0 0)).run Try.prog W = .ok (.bool false) W := fun _ => rfl
    go_enter Try.func41, Try.ntmps41
    go_wp2_with (at_builtin; go_must (refine wpList_app rfl (.tmp 5) (.tmp 6) 35 _ _ rfl rfl rfl (appB_run _ (ownB_made w) (HV.out.upb (al1 w _)) (by have := HL.out; simp; omega) (by simp)) ?_); rintro v1 w1 ⟨hown1, hg1, hat1⟩; have HO := Lib.hid hown1; have HB := Lib.hid (app_below (al1 w _) hg1 ownBlk); clear hown1 hg1 hat1)
    go_ret
    exact ⟨_, rfl, HO.out, HB.out⟩

set_option maxHeartbeats 1000000 in
theorem cloneS_any {v : Value} {bs : List By} {w : World} (hv : IsBs w v bs) (hl : bs.length ≤ 100000000) :
    Calls Try.prog 46 #[v] w fun e w' => ∃ u, e = .returned u ∧ OwnSs w' w.heap.size u bs ∧ Below w.heap.size w w' := by
  have HV := Lib.hid hv
  have HL := Lib.hid hl
  obtain ⟨A, cap, n, hn, rfl⟩ : ∃ A c n, n = bs.length ∧ v = .slice A n c := by
    first | (obtain ⟨A, c, e, _⟩ := hv; exact ⟨A, c, _, rfl, e⟩) | (obtain ⟨A, c, vs, e, _⟩ := hv; exact ⟨A, c, _, rfl, e⟩)
  have HN := Lib.hid hn
  clear hv hl hn
  cases A with
  | none =>
    obtain rfl := nilS_of_none HV.out
    obtain rfl : n = 0 := HN.out
    have hnil : ∀ W, (binOp .eql 22 (.slice none 0 cap) (.slice none 0 0)).run Try.prog W = .ok (.bool true) W := fun _ => rfl
    go_enter Try.func46, Try.ntmps46
    go_wp2_with (fail)
    go_ret
    exact ⟨_, rfl, ownS_nil _ _, Below.refl _ _⟩
  | some ad =>
    have hnil : ∀ W, (binOp .eql 22 (.slice (some ad) n cap) (.slice none 0 0)).run Try.prog W = .ok (.bool false) W := fun _ => rfl
    go_enter Try.func46, Try.ntmps46
    go_wp2_with (at_builtin; go_must (refine wpList_app rfl (.tmp 5) (.tmp 6) 22 _ _ rfl rfl rfl (appS_is _ (al1 w _) HV.out (ownS_made w) (by have := HL.out; simp; omega)) ?_); rintro v1 w1 ⟨hown1, hg1, hat1⟩; have HO := Lib.hid hown1; have HB := Lib.hid (app_below (al1 w _) hg1 ownBlk); clear hown1 hg1 hat1)
    go_ret
    exact ⟨_, rfl, HO.out, HB.out⟩

set_option maxHeartbeats 1000000 in
theorem cloneW_any {v : Value} {bs : List Wr} {w : World} (hv : IsWs w v bs) (hl : bs.length ≤ 100000000) :
    Calls Try.prog 38 #[v] w fun e w' => ∃ u, e = .returned u ∧ OwnWs w' w.heap.size u bs ∧ Below w.heap.size w w' := by
  have HV := Lib.hid hv
  have HL := Lib.hid hl
  obtain ⟨A, cap, n, hn, rfl⟩ : ∃ A c n, n = bs.length ∧ v = .slice A n c := by
    first | (obtain ⟨A, c, e, _⟩ := hv; exact ⟨A, c, _, rfl, e⟩) | (obtain ⟨A, c, vs, e, _⟩ := hv; exact ⟨A, c, _, rfl, e⟩)
  have HN := Lib.hid hn
  clear hv hl hn
  cases A with
  | none =>
    obtain rfl := nilW_of_none HV.out
    obtain rfl : n = 0 := HN.out
    have hnil : ∀ W, (binOp .eql 23 (.slice none 0 cap) (.slice none 0 0)).run Try.prog W = .ok (.bool true) W := fun _ => rfl
    go_enter Try.func38, Try.ntmps38
    go_wp2_with (fail)
    go_ret
    exact ⟨_, rfl, ownW_nil _ _, Below.refl _ _⟩
  | some ad =>
    have hnil : ∀ W, (binOp .eql 23 (.slice (some ad) n cap) (.slice none 0 0)).run Try.prog W = .ok (.bool false) W := fun _ => rfl
    go_enter Try.func38, Try.ntmps38
    go_wp2_with (at_builtin; go_must (refine wpList_app rfl (.tmp 5) (.tmp 6) 23 _ _ rfl rfl rfl (appW_is _ (al1 w _) HV.out (ownW_made w) (by have := HL.out; simp; omega)) ?_); rintro v1 w1 ⟨hown1, hg1, hat1⟩; have HO := Lib.hid hown1; have HB := Lib.hid (app_below (al1 w _) hg1 ownBlk); clear hown1 hg1 hat1)
    go_ret
    exact ⟨_, rfl, HO.out, HB.out⟩

theorem clip_any {A : Option Addr} {n c : Nat} {w : World} (hc : n ≤ c) (hA : A ≠ none) : Calls Try.prog 37 #[.slice A n c] w fun e w' => e = .returned (.slice A n n) ∧ w = w' := by
  obtain ⟨ad, rfl⟩ := Option.ne_none_iff_exists'.1 hA
  go_enter Try.func37, Try.ntmps37
  go_wp2
  go_ret
  exact ⟨rfl, rfl⟩
end Go.Proofs.Ytimpnpdhhhbmgaa
