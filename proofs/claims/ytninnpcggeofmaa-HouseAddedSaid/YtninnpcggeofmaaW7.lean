/- Appending a decision; walks of the reference's Binding, first, last, delay. -/
import Derived.Test.YtninnpcggeofmaaW6
import Derived.Test.YtninnpcggeofmaaPlain2
import Derived.Maps.AppendAt
import Derived.OwnWalk
import Derived.Deep.AppendLies
namespace Go.Proofs.Ytninnpcggeofmaa
open Go.RowKit
set_option linter.unusedVariables false
set_option linter.unusedSimpArgs false
attribute [local go_sem] frozen_new

theorem infoHouse : (Try.prog.info? 24).map (fun i => (i.zero, i.size, i.bytes)) = some (some (.agg #[.int .i64 0, .int .i64 0, .int .i64 0, .int .i64 0, .int .i64 0, .int .i64 0, .int .i64 0, .int .i64 0, .int .i64 0, .int .i64 0]), 10, 80) := by kernel_rfl
def OwnHs (W : World) (base : Nat) (v : Value) (x : List Hh) : Prop := W.ownsRow base 24 10 v x.length (x.flatMap encH)
theorem OwnHs.hs {W : World} {base : Nat} {v : Value} {x : List Hh} (h : OwnHs W base v x) : IsHs W v x := by
  rcases h.2 with ⟨rfl, h0⟩ | ⟨g, cap, cur, rfl, _, hg, _, _, _, ht⟩
  · have : x = [] := List.eq_nil_of_length_eq_zero h0
    subst this
    exact IsHs.nil
  · refine ⟨_, cap, rfl, fun _ => ⟨g, 0, rfl, (Array.getElem?_eq_some_iff.1 hg).1, fun i hi => ?_⟩⟩
    have hl := flatH_len x
    have := World.ownsRow.cellAt h i (by omega)
    rw [Nat.zero_add, this, List.getElem?_eq_getElem hi]
theorem ownH_none (w : World) (base : Nat) : OwnHs w base (.slice none 0 0) [] := World.ownsRow_nil w base _ 10
theorem ownH_empty (w : World) (base : Nat) (hb : base ≤ w.heap.size) : OwnHs (w.alloc (.cells #[] 24)) base (.slice (some ⟨w.heap.size, 0, none⟩) 0 0) [] :=
  World.ownsRow_made w #[] 0 hb (by unfold maxLen; omega) rfl
theorem ownH_alloc {w : World} {base : Nat} {v : Value} {xs : List Hh} (h : OwnHs w base v xs) (o : Obj) : OwnHs (w.alloc o) base v xs := World.ownsRow.alloc h o
theorem ownH_drewN {w : World} {base : Nat} {v : Value} {xs : List Hh} (h : OwnHs w base v xs) (n : Nat) : OwnHs (w.drewN n) base v xs := h
theorem ownH_below {W W' : World} {base : Nat} {v : Value} {xs : List Hh} (h : OwnHs W base v xs) (hb : Below W.heap.size W W') : OwnHs W' base v xs := row_below h hb
theorem ownH_at {W : World} {base : Nat} {v : Value} {xs : List Hh} (h : OwnHs W base v xs) : ∀ g, v.ownBlock = some g → base ≤ g ∧ g < W.heap.size := World.ownsRow.lt h
theorem ownH_slice {W : World} {base : Nat} {v : Value} {xs : List Hh} (h : OwnHs W base v xs) : ∃ A c, v = .slice A xs.length c := own_slice h
theorem info_parts {t : TypeId} {z : Value} {s b : Nat} (h : (Try.prog.info? t).map (fun i => (i.zero, i.size, i.bytes)) = some (some z, s, b)) : ∃ i, Try.prog.info? t = some i ∧ i.zero = some z ∧ i.size = s ∧ i.bytes = b := by
  cases hi : Try.prog.info? t with
  | none => rw [hi] at h; cases h
  | some i =>
    rw [hi] at h
    simp only [Option.map_some, Option.some.injEq, Prod.mk.injEq] at h
    exact ⟨i, rfl, h⟩
theorem cell_newH (w : World) (l : List Value) (t : TypeId) (j : Nat) (u : Value) (h : l[j]? = some u) : (w.alloc (.cells l.toArray t)).cell? ((⟨w.heap.size, 0, none⟩ : Addr).add j) = some u := by
  have e : (⟨w.heap.size, 0, none⟩ : Addr).add j = ⟨w.heap.size, j, none⟩ := by
    unfold Addr.add; split <;> simp_all
  rw [e, World.cell?_alloc_new]
  simpa using h
theorem wpList_pushH {W : World} {ops : Array Oper} {rest : List Oper} {o : Oper} {a : Act} {Q : Exit → Act → World → Prop} (hgd : o.guard = none) (s x : Operand)
    (ho : o.op = .call { callee := .builtin .append, args := #[s, x], argTypes := #[22, 22] })
    (base : Nat) (v : Value) (xs : List Hh) (hs : a.eval s = v) (hown : OwnHs W base v xs) (h : Hh) (H : Nat) (hH : W.heap.size = H) (hx : a.eval x = .slice (some ⟨H, 0, none⟩) 1 1)
    (hlen : xs.length ≤ 1000000) (hb : base ≤ W.heap.size)
    (hk : ∀ v' w', OwnHs w' base v' (xs ++ [h]) → W.grownBy w' v.ownBlock → (v'.ownBlock = v.ownBlock ∨ v'.ownBlock = some (W.heap.size + 1)) → wpList Try.prog ops Q rest (a.put o.dst v') w') :
    wpList Try.prog ops Q (o :: rest) a (W.alloc (.cells #[.int .i64 h.no, .int .i64 h.kind, .int .i64 h.spk, .int .i64 h.fst, .int .i64 h.lst, .int .i64 h.lang, .int .i64 h.frm, .int .i64 h.unt, .int .i64 h.known, .int .i64 h.ms] 24)) := by
  subst hH
  obtain ⟨i0, hi, hz0, hz1, hz2⟩ := info_parts infoHouse
  refine wpList_append_own_at _ hgd s x _ ho base 24 i0 _ 10 80 Try.underlying22 hi hz0 hz1 hz2 rfl (by decide) v xs.length (xs.flatMap encH) hs (World.ownsRow.alloc hown _)
    ⟨W.heap.size, 0, none⟩ 1 1 (encH h) hx rfl (cell_newH W (encH h) _) (by simp [Value.oneCell', encH]) (by unfold maxLen; omega) (by omega) (by simp; omega) ?_
  intro v' w' h1 h2 _ h4
  refine hk v' w' ?_ ?_ (by simpa using h4)
  · unfold OwnHs; simpa [encH] using h1
  · exact (World.grownBy_alloc W _ v.ownBlock).trans h2

theorem bnd_snoc (l : List Hh) (q : Hh.Qq) (k : Nat) (h : k < l.length) : Hh.bnd (l.take (k + 1)) q = if Hh.binds q l[k] = true then Hh.bnd (l.take k) q ++ [l[k]] else Hh.bnd (l.take k) q := by
  unfold Hh.bnd
  rw [List.take_succ_eq_append_getElem h, List.filter_append]
  split
  · rename_i hb; simp [hb]
  · rename_i hb; simp [hb]
theorem refCovers_is {h : Hh} {q : Hh.Qq} {b : Bool} {x : Int} (h1 : Hh.cov h q = b) (h2 : Hh.covE h q = x) (w : World) : Calls Try.prog 24 #[vH h, .int .i64 q.spk, .int .i64 q.beg, .int .i64 q.lang, .int .i64 q.at_] w fun e w' => e = .returned (.tuple #[.bool b, .int .i64 x]) ∧ Below w.heap.size w w' := by
  subst h1 h2; exact refCovers_any h q w

set_option maxHeartbeats 4000000 in
theorem refBinding_any (v : Value) (l : List Hh) (q : Hh.Qq) (w : World) (hv : IsHs w v l) (hl : l.length ≤ 1024) : Calls Try.prog 57 #[v, .int .i64 q.spk, .int .i64 q.beg, .int .i64 q.lang, .int .i64 q.at_, .int .i64 q.known] w fun e w' => ∃ v', e = .returned v' ∧ OwnHs w' w.heap.size v' (Hh.bnd l q) ∧ Below w.heap.size w w' := by
  obtain ⟨A, cap, rfl, hr⟩ := hv
  have HR := Lib.hid hr
  clear hr
  go_enter Try.func57, Try.ntmps57
  go_wp2_with (fail)
  go_loopw [13, 14] (fun r i wr => ∃ k : Nat, k ≤ l.length ∧ i = .int .i64 k ∧ Hid (OwnHs wr w.heap.size r (Hh.bnd (l.take k) q)) ∧ Hid (Below w.heap.size w wr)) (fun _ i _ => l.length - (intOf i).toNat)
  case atStart => exact ⟨0, Nat.zero_le _, rfl, ownH_empty w _ (Nat.le_refl _), al1 w _⟩
  case round =>
    obtain ⟨k, hk, rfl, HO, HB⟩ := hrel
    by_cases hlt : k < l.length
    · obtain ⟨b, off, rfl, hat⟩ := hs_at HR.out hlt
      have HX := Lib.hid (hat.below HB.out)
      have HS := Lib.hid (bnd_snoc l q k hlt)
      have hgl : (Hh.bnd (l.take k) q).length ≤ 1000000 := by
        have h1 := List.length_filter_le (Hh.binds q) (l.take k)
        have h2 : (l.take k).length ≤ k := List.length_take_le _ _
        unfold Hh.bnd; omega
      generalize l[k] = x at *
      clear hat
      have q0 := HX.out.c0
      have q1 := HX.out.c1
      have q2 := HX.out.c2
      have q3 := HX.out.c3
      have q4 := HX.out.c4
      have q5 := HX.out.c5
      have q6 := HX.out.c6
      have q7 := HX.out.c7
      have q8 := HX.out.c8
      have q9 := HX.out.c9
      go_wp2_with (fail)
      cases hc : Hh.cov x q
      · have HE := Lib.hid (show Hh.bnd (l.take (k + 1)) q = Hh.bnd (l.take k) q by rw [HS.out, if_neg (by simp [Hh.binds, hc])])
        refine (refCovers_is hc rfl _).mono ?_
        rintro e w2 ⟨rfl, hb2⟩
        have HO2 := Lib.hid (ownH_below HO.out hb2)
        have HB2 := Lib.hid (HB.out.up hb2)
        clear hb2 q0 q1 q2 q3 q4 q5 q6 q7 q8 q9 HX HO HB
        go_wp2_with (fail)
        go_roundw
        case rel => exact ⟨k + 1, by omega, by go_num, by rw [HE.out]; exact HO2, HB2⟩
        case measure => first | omega | (simp [intOf]; omega)
      · refine (refCovers_is hc rfl _).mono ?_
        rintro e w2 ⟨rfl, hb2⟩
        have HO2 := Lib.hid (ownH_below HO.out hb2)
        have HB2 := Lib.hid (HB.out.up hb2)
        have HX2 := Lib.hid (HX.out.below hb2)
        clear hb2 q0 q1 q2 q3 q4 q5 q6 q7 q8 q9 HX HO HB
        have q0 := HX2.out.c0
        have q1 := HX2.out.c1
        have q2 := HX2.out.c2
        have q3 := HX2.out.c3
        have q4 := HX2.out.c4
        have q5 := HX2.out.c5
        have q6 := HX2.out.c6
        have q7 := HX2.out.c7
        have q8 := HX2.out.c8
        have q9 := HX2.out.c9
        by_cases hn : x.known ≤ q.known
        · have hnd : decide (x.known ≤ q.known) = true := decide_eq_true hn
          have HE := Lib.hid (show Hh.bnd (l.take (k + 1)) q = Hh.bnd (l.take k) q ++ [x] by rw [HS.out, if_pos (by simp [Hh.binds, hc, hn])])
          clear hn
          go_wp2_with (at_builtin; go_must (refine wpList_pushH rfl (.tmp 46) (.tmp 51) rfl w.heap.size _ _ rfl HO2.out x w2.heap.size rfl rfl hgl HB2.out.size ?_); intro v1 w3 hown1 hg1 hat1; have HO1 := Lib.hid hown1; have HG1 := Lib.hid hg1; clear hown1 hg1 hat1)
          go_roundw
          case rel => exact ⟨k + 1, by omega, by go_num, by rw [HE.out]; exact HO1, Lib.hid (HB2.out.grown HG1.out HB2.out.size (fun g hg => (ownH_at HO2.out g hg).1))⟩
          case measure => first | omega | (simp [intOf]; omega)
        · have hnd : decide (x.known ≤ q.known) = false := decide_eq_false hn
          have HE := Lib.hid (show Hh.bnd (l.take (k + 1)) q = Hh.bnd (l.take k) q by rw [HS.out, if_neg (by simp [Hh.binds, hn])])
          clear hn
          go_wp2_with (fail)
          go_roundw
          case rel => exact ⟨k + 1, by omega, by go_num, by rw [HE.out]; exact HO2, HB2⟩
          case measure => first | omega | (simp [intOf]; omega)
    · have HE := Lib.hid (show Hh.bnd (l.take k) q = Hh.bnd l q by rw [List.take_of_length_le (by omega)])
      go_wp2_with (fail)
      go_ret
      exact ⟨_, rfl, by rw [← HE.out]; exact HO.out, HB.out⟩

set_option maxHeartbeats 2000000 in
theorem refLast_any (v : Value) (l : List Hh) (kind : Int) (w : World) (hv : IsHs w v l) (hl : l.length ≤ 1024) : Calls Try.prog 59 #[v, .int .i64 kind] w fun e w' => e = .returned (.int .i64 (Hh.lastN kind l)) ∧ w = w' := by
  obtain ⟨A, cap, rfl, hr⟩ := hv
  have HR := Lib.hid hr
  clear hr
  go_enter Try.func59, Try.ntmps59
  go_wp2
  go_loop [5, 6] (fun t i => ∃ k : Nat, k ≤ l.length ∧ i = .int .i64 k ∧ t = .int .i64 (Hh.lastN kind (l.take k))) (fun _ i => l.length - (intOf i).toNat)
  case atStart => exact ⟨0, Nat.zero_le _, rfl, rfl⟩
  case round =>
    obtain ⟨k, hk, rfl, rfl⟩ := hrel
    by_cases hlt : k < l.length
    · obtain ⟨b, off, rfl, hat⟩ := hs_at HR.out hlt
      have HS := Lib.hid (show Hh.lastN kind (l.take (k + 1)) = if l[k].kind = kind then max (Hh.lastN kind (l.take k)) l[k].no else Hh.lastN kind (l.take k) by rw [List.take_succ_eq_append_getElem hlt, Hh.lastN_snoc])
      generalize l[k] = x at *
      have q0 := hat.c0
      have q1 := hat.c1
      clear hat
      generalize Hh.lastN kind (l.take k) = z at *
      by_cases he : x.kind = kind
      · have hed : (x.kind == kind) = true := by rw [beq_iff_eq]; exact he
        have HS2 := Lib.hid (show Hh.lastN kind (l.take (k + 1)) = max z x.no by rw [HS.out, if_pos he])
        rcases Int.lt_or_le z x.no with hx | hx
        all_goals
          go_wp2
          go_round
          case rel => exact ⟨k + 1, by omega, by go_num, by congr 1; rw [HS2.out]; omega⟩
          case measure => simp [intOf]; omega
      · have hed : (x.kind == kind) = false := by rw [beq_eq_false_iff_ne]; exact he
        have HS2 := Lib.hid (show Hh.lastN kind (l.take (k + 1)) = z by rw [HS.out, if_neg he])
        clear he
        go_wp2
        go_round
        case rel => exact ⟨k + 1, by omega, by go_num, by rw [HS2.out]⟩
        case measure => simp [intOf]; omega
    · have HE := Lib.hid (show Hh.lastN kind (l.take k) = Hh.lastN kind l by rw [List.take_of_length_le (by omega)])
      go_wp2
      go_ret
      exact ⟨ret_int HE.out, rfl⟩

set_option maxHeartbeats 2000000 in
theorem refFirst_any (v : Value) (l : List Hh) (kind above : Int) (w : World) (hv : IsHs w v l) (hl : l.length ≤ 1024) : Calls Try.prog 58 #[v, .int .i64 kind, .int .i64 above] w fun e w' => e = .returned (.int .i64 (Hh.firstN kind above l)) ∧ w = w' := by
  obtain ⟨A, cap, rfl, hr⟩ := hv
  have HR := Lib.hid hr
  clear hr
  go_enter Try.func58, Try.ntmps58
  go_wp2
  go_loop [7] (fun i => ∃ k : Nat, k ≤ l.length ∧ i = .int .i64 k ∧ Hid (Hh.firstN kind above l = Hh.firstN kind above (l.drop k))) (fun i => l.length - (intOf i).toNat)
  case atStart => exact ⟨0, Nat.zero_le _, rfl, rfl⟩
  case round =>
    obtain ⟨k, hk, rfl, H⟩ := hrel
    by_cases hlt : k < l.length
    · obtain ⟨b, off, rfl, hat⟩ := hs_at HR.out hlt
      have HS := Lib.hid (show Hh.firstN kind above l = if l[k].kind = kind ∧ above < l[k].no then l[k].no else Hh.firstN kind above (l.drop (k + 1)) by rw [H.out, List.drop_eq_getElem_cons hlt, Hh.firstN])
      generalize l[k] = x at *
      have q0 := hat.c0
      have q1 := hat.c1
      clear hat
      by_cases he : x.kind = kind
      · have hed : (x.kind == kind) = true := by rw [beq_iff_eq]; exact he
        by_cases hn : above < x.no
        · have hnd : decide (above < x.no) = true := decide_eq_true hn
          have HE := Lib.hid (show Hh.firstN kind above l = x.no by rw [HS.out, if_pos ⟨he, hn⟩])
          clear he hn
          go_wp2
          go_ret
          exact ⟨ret_int HE.out.symm, rfl⟩
        · have hnd : decide (above < x.no) = false := decide_eq_false hn
          have HE := Lib.hid (show Hh.firstN kind above l = Hh.firstN kind above (l.drop (k + 1)) by rw [HS.out, if_neg (fun h => hn h.2)])
          clear he hn
          go_wp2
          go_round
          case rel => exact ⟨k + 1, by omega, by go_num, HE⟩
          case measure => simp [intOf]; omega
      · have hed : (x.kind == kind) = false := by rw [beq_eq_false_iff_ne]; exact he
        have HE := Lib.hid (show Hh.firstN kind above l = Hh.firstN kind above (l.drop (k + 1)) by rw [HS.out, if_neg (fun h => he h.1)])
        clear he
        go_wp2
        go_round
        case rel => exact ⟨k + 1, by omega, by go_num, HE⟩
        case measure => simp [intOf]; omega
    · have HE := Lib.hid (show Hh.firstN kind above l = -1 by rw [H.out, List.drop_eq_nil_of_le (by omega)]; rfl)
      go_wp2
      go_ret
      exact ⟨ret_int HE.out.symm, rfl⟩

set_option maxHeartbeats 2000000 in
theorem refDelay_any (v : Value) (l : List Hh) (q : Hh.Qq) (w : World) (hv : IsHs w v l) (hl : l.length ≤ 1024) (hm : ∀ x ∈ l, 0 ≤ x.ms ∧ x.ms ≤ 1073741824) (hb : 0 ≤ q.beg ∧ q.beg ≤ 1099511627775) : Calls Try.prog 60 #[v, .int .i64 q.beg, .int .i64 q.at_] w fun e w' => e = .returned (.int .i64 (Hh.delayN q l)) ∧ w = w' := by
  obtain ⟨A, cap, rfl, hr⟩ := hv
  have HR := Lib.hid hr
  clear hr
  go_enter Try.func60, Try.ntmps60
  go_wp2
  go_loop [7] (fun i => ∃ k : Nat, k ≤ l.length ∧ i = .int .i64 k ∧ Hid (Hh.delayN q l = Hh.delayN q (l.drop k))) (fun i => l.length - (intOf i).toNat)
  case atStart => exact ⟨0, Nat.zero_le _, rfl, rfl⟩
  case round =>
    obtain ⟨k, hk, rfl, H⟩ := hrel
    by_cases hlt : k < l.length
    · obtain ⟨b, off, rfl, hat⟩ := hs_at HR.out hlt
      have HS := Lib.hid (show Hh.delayN q l = if l[k].kind = 3 ∧ q.at_ < q.beg + l[k].ms then l[k].no else Hh.delayN q (l.drop (k + 1)) by rw [H.out, List.drop_eq_getElem_cons hlt, Hh.delayN])
      have hmk := hm l[k] (List.getElem_mem hlt)
      generalize l[k] = x at *
      have hw : IntKind.i64.wrap (q.beg + x.ms) = q.beg + x.ms := by rw [IntKind.wrap_i64]; omega
      have q0 := hat.c0
      have q1 := hat.c1
      have q9 := hat.c9
      clear hat hmk
      by_cases he : x.kind = 3
      · have hed : (x.kind == 3) = true := by rw [beq_iff_eq]; exact he
        by_cases hn : q.at_ < q.beg + x.ms
        · have hnd : decide (q.at_ < q.beg + x.ms) = true := decide_eq_true hn
          have HE := Lib.hid (show Hh.delayN q l = x.no by rw [HS.out, if_pos ⟨he, hn⟩])
          clear he hn
          go_wp2
          go_ret
          exact ⟨ret_int HE.out.symm, rfl⟩
        · have hnd : decide (q.at_ < q.beg + x.ms) = false := decide_eq_false hn
          have HE := Lib.hid (show Hh.delayN q l = Hh.delayN q (l.drop (k + 1)) by rw [HS.out, if_neg (fun h => hn h.2)])
          clear he hn
          go_wp2
          go_round
          case rel => exact ⟨k + 1, by omega, by go_num, HE⟩
          case measure => simp [intOf]; omega
      · have hed : (x.kind == 3) = false := by rw [beq_eq_false_iff_ne]; exact he
        have HE := Lib.hid (show Hh.delayN q l = Hh.delayN q (l.drop (k + 1)) by rw [HS.out, if_neg (fun h => he h.1)])
        clear he
        go_wp2
        go_round
        case rel => exact ⟨k + 1, by omega, by go_num, HE⟩
        case measure => simp [intOf]; omega
    · have HE := Lib.hid (show Hh.delayN q l = -1 by rw [H.out, List.drop_eq_nil_of_le (by omega)]; rfl)
      go_wp2
      go_ret
      exact ⟨ret_int HE.out.symm, rfl⟩

end Go.Proofs.Ytninnpcggeofmaa
