/- Plain mathematics of layer 5: Sync. No program in sight. Plain mathematics of layer 5: the writes of a Sync, one by one. No program in sight. Plain mathematics of layer 5: a new disk; the statements' examples. No program in sight. -/
import Derived.Test.YtkcnanclpkongaaJP4
import Derived.Test.YtkcnanclpkongaaJD
import Derived.Test.YtkcnanclpkongaaJC
namespace Go.Proofs.Ytkcnanclpkongaa
section
set_option linter.unusedVariables false
set_option linter.unusedSimpArgs false
namespace Jn
def gm1 (n : Nat) (s : By) : Nat := max n (max (gen s) (gnT s))
/-- the greatest generation on sectors -/
def gmax (ss : List By) : Nat := ss.foldl gm1 0
def gnext (ss : List By) : Nat := gmax ss + 1
theorem gfold_le : ∀ (ss : List By) (n B : Nat), n ≤ B → (∀ s ∈ ss, gen s ≤ B ∧ gnT s ≤ B) → ss.foldl gm1 n ≤ B
  | [], n, B, h, _ => h
  | s :: r, n, B, h, hs => by
    have h1 := hs s (by simp)
    exact gfold_le r _ B (by unfold gm1; omega) (fun t ht => hs t (by simp [ht]))
theorem gfold_ge : ∀ (ss : List By) (n : Nat), n ≤ ss.foldl gm1 n ∧ ∀ s ∈ ss, gen s ≤ ss.foldl gm1 n ∧ gnT s ≤ ss.foldl gm1 n
  | [], n => ⟨Nat.le_refl _, by simp⟩
  | s :: r, n => by
    obtain ⟨h1, h2⟩ := gfold_ge r (gm1 n s)
    have h3 : n ≤ gm1 n s ∧ gen s ≤ gm1 n s ∧ gnT s ≤ gm1 n s := by unfold gm1; omega
    refine ⟨by show n ≤ r.foldl gm1 (gm1 n s); omega, fun t ht => ?_⟩
    show gen t ≤ r.foldl gm1 (gm1 n s) ∧ gnT t ≤ r.foldl gm1 (gm1 n s)
    rcases List.mem_cons.1 ht with rfl | ht
    · omega
    · exact h2 t ht
theorem gmax_ge {ss : List By} {s : By} (h : s ∈ ss) : gen s ≤ gmax ss ∧ gnT s ≤ gmax ss := (gfold_ge ss 0).2 s h
theorem gmax_le {ss : List By} {B : Nat} (h : ∀ s ∈ ss, gen s ≤ B ∧ gnT s ≤ B) : gmax ss ≤ B := gfold_le ss 0 B (Nat.zero_le _) h
def old (l : Jl) : List By := l.rs.take l.syn.toNat
def news (l : Jl) : List By := l.rs.drop l.syn.toNat
def wrs : Nat → List By → List Wr
  | _, [] => []
  | a, s :: r => ⟨(a : Int), s⟩ :: wrs (a + 1) r
theorem wrs_len : ∀ (a : Nat) (l : List By), (wrs a l).length = l.length
  | _, [] => rfl
  | a, s :: r => by simp only [wrs, List.length_cons, wrs_len (a + 1) r]
theorem wrs_take : ∀ (a k : Nat) (l : List By), (wrs a l).take k = wrs a (l.take k)
  | _, 0, _ => by simp [wrs]
  | _, k + 1, [] => by simp [wrs]
  | a, k + 1, s :: r => by simp only [wrs, List.take_succ_cons, wrs_take (a + 1) k r]
theorem wrs_app : ∀ (a : Nat) (l r : List By), wrs a (l ++ r) = wrs a l ++ wrs (a + l.length) r
  | a, [], r => by simp [wrs]
  | a, s :: l, r => by simp only [wrs, List.cons_append, wrs_app (a + 1) l r, List.length_cons]; rw [show a + 1 + l.length = a + (l.length + 1) by omega]
theorem wrs_get : ∀ (a k : Nat) (l : List By), (wrs a l)[k]? = (l[k]?).map fun s => ⟨((a + k : Nat) : Int), s⟩
  | _, _, [] => by simp [wrs]
  | a, 0, s :: r => by simp [wrs]
  | a, k + 1, s :: r => by
    simp only [wrs, List.getElem?_cons_succ, wrs_get (a + 1) k r]
    rw [show a + 1 + k = a + (k + 1) by omega]
theorem wrs_mem {a : Nat} {l : List By} {p : Wr} (h : p ∈ wrs a l) : ∃ k, ∃ hk : k < l.length, p = ⟨((a + k : Nat) : Int), l[k]⟩ := by
  obtain ⟨k, hk⟩ := List.getElem?_of_mem h
  rw [wrs_get] at hk
  rcases h1 : l[k]? with _ | s
  · rw [h1] at hk; cases hk
  · rw [h1] at hk
    obtain ⟨h2, h3⟩ := List.getElem?_eq_some_iff.1 h1
    injection hk with hk
    exact ⟨k, h2, by rw [← hk, h3]⟩
theorem put_wrs : ∀ (ws : List By) (a : Nat) (ss : List By), a + ws.length ≤ ss.length → ∀ i, (Dv.put ss (wrs a ws))[i]? = if a ≤ i ∧ i < a + ws.length then ws[i - a]? else ss[i]?
  | [], a, ss, _, i => by
    rw [if_neg (by simp only [List.length_nil]; omega)]; rfl
  | s :: r, a, ss, h, i => by
    simp only [List.length_cons] at h ⊢
    have ih := put_wrs r (a + 1) (ss.set a s) (by rw [List.length_set]; omega) i
    show (Dv.put (Dv.put1 ss ⟨(a : Int), s⟩) (wrs (a + 1) r))[i]? = _
    rw [show Dv.put1 ss ⟨(a : Int), s⟩ = ss.set a s from rfl, ih]
    by_cases h1 : a + 1 ≤ i ∧ i < a + 1 + r.length
    · rw [if_pos h1, if_pos (by omega), show i - a = (i - (a + 1)) + 1 by omega, List.getElem?_cons_succ]
    · rw [if_neg h1]
      by_cases h2 : i = a
      · subst h2
        rw [if_pos (by omega), Nat.sub_self, List.getElem?_set_self (by omega)]; rfl
      · rw [if_neg (by omega), List.getElem?_set_ne (by omega)]
/-- a disk and a journal that a Sync accepts -/
structure Acc (l : Jl) (d : Dk) : Prop where
  okj : OkJ l
  okd : Dv.Ok d
  st : d.st = false
  many : l.many = d.ss.length
  ps : d.ps.length = 0
  recs : Records d.ss = old l
  g32 : gnext d.ss < 4294967296
instance (l : Jl) (d : Dk) : Decidable (Acc l d) :=
  decidable_of_iff (OkJ l ∧ Dv.Ok d ∧ d.st = false ∧ l.many = d.ss.length ∧ d.ps.length = 0 ∧ Records d.ss = old l ∧ gnext d.ss < 4294967296)
    ⟨fun ⟨a, b, c, d, e, f, g⟩ => ⟨a, b, c, d, e, f, g⟩, fun ⟨a, b, c, d, e, f, g⟩ => ⟨a, b, c, d, e, f, g⟩⟩
def what (l : Jl) (d : Dk) : List By := encG (gnext d.ss) (used (old l)) (news l)
def wrt (l : Jl) (d : Dk) : Dk := { d with ps := wrs (used (old l)) (what l d) }
def syncE (l : Jl) (d : Dk) : Int :=
  if OkJ l then if Dv.Ok d then if d.st = true then 40 else if l.many = d.ss.length ∧ d.ps.length = 0 then
    if Records d.ss = old l ∧ gnext d.ss < 4294967296 then if l.syn = l.rs.length then 0 else Dv.syE (wrt l d) else 50
  else 1 else 40 else 1
def syncJ (l : Jl) (d : Dk) : Jl := if Acc l d then if l.syn = l.rs.length then l else if Dv.syE (wrt l d) = 0 then { l with syn := l.rs.length } else j0 else j0
def syncD (l : Jl) (d : Dk) : Dk := if Acc l d then if l.syn = l.rs.length then d else Dv.sy (wrt l d) else d0
theorem Acc.err {l : Jl} {d : Dk} (h : Acc l d) : syncE l d = if l.syn = l.rs.length then 0 else Dv.syE (wrt l d) := by
  unfold syncE
  rw [if_pos h.okj, if_pos h.okd, if_neg (by rw [h.st]; simp), if_pos ⟨h.many, h.ps⟩, if_pos ⟨h.recs, h.g32⟩]
theorem Acc.used {l : Jl} {d : Dk} (h : Acc l d) : used (old l) + used (news l) ≤ d.ss.length := by
  have h1 := h.okj.2.2.2.2
  have h2 := h.many
  have : Jn.used l.rs = Jn.used (old l) + Jn.used (news l) := by
    rw [← used_append]; unfold old news; rw [List.take_append_drop]
  omega
theorem Acc.len {l : Jl} {d : Dk} (h : Acc l d) : (what l d).length = Jn.used (news l) := encG_len _ _ _
theorem enc_mem {g : Nat} (hg : g < 4294967296) : ∀ (news : List By) (a : Nat) (s : By), s ∈ encG g a news → s.length = 128 ∧ gen s = g ∧ gnT s = g
  | [], _, _, h => by simp [encG] at h
  | b :: r, a, s, h => by
    simp only [encG, List.mem_append] at h
    rcases h with h | h
    · unfold encR at h
      obtain ⟨j, _, rfl⟩ := List.mem_map.1 h
      exact ⟨secJ_len _ _ _ _, secJ_gen hg _ _ _, secJ_gnT hg _ _ _⟩
    · exact enc_mem hg r _ s h
theorem Acc.mem {l : Jl} {d : Dk} (h : Acc l d) {s : By} (hs : s ∈ what l d) : s.length = 128 ∧ gen s = gnext d.ss ∧ gnT s = gnext d.ss := enc_mem h.g32 _ _ _ hs
theorem ok_s {d : Dk} (h : Dv.Ok d) : ∀ s ∈ d.ss, s.length = 128 := (s128_ok h).2
theorem Acc.wok {l : Jl} {d : Dk} (h : Acc l d) : Dv.Run (wrt l d) := by
  have hu := h.used
  have hl := h.len
  have h2 := h.okd.n2
  refine ⟨⟨h.okd.n1, h2, ?_, h.okd.l1, h.okd.l2, ?_, h.okd.ss⟩, h.st⟩
  · show (wrs _ _).length ≤ 4096
    rw [wrs_len]; omega
  · show (wrs _ _).any (Dv.badW d.ss.length) = false
    rw [Dv.any_ps]
    intro p hp
    obtain ⟨k, hk, rfl⟩ := wrs_mem hp
    have h3 := h.mem (List.getElem_mem hk)
    exact ⟨by simp only; omega, by simp only; omega, h3.1⟩
/-- what a change behind the old records leaves of them -/
theorem Acc.head {l : Jl} {d : Dk} (h : Acc l d) {ss : List By} (hlen : ss.length = d.ss.length) (hag : ∀ i, i < Jn.used (old l) → ss[i]? = d.ss[i]?) :
    ∃ f' last', last' ≤ gmax d.ss ∧ ss.length + 1 ≤ f' + Jn.used (old l) ∧ Records ss = old l ++ Jn.recs ss f' (Jn.used (old l)) last' := by
  obtain ⟨f', last', h1, h2, h3, h4, h5⟩ := recs_pre (l := d.ss) (l' := ss) hlen (ok_s h.okd) (G := gmax d.ss) (fun s hs => (gmax_ge hs).1) (old l) [] (d.ss.length + 1) 0 0 (by rw [List.append_nil]; exact h.recs) (Nat.zero_le _) (by omega) (Nat.zero_le _) (by simpa using hag)
  rw [Nat.zero_add] at h2 h3 h4
  refine ⟨f', last', h1, by omega, ?_⟩
  unfold Records
  rw [hlen]
  exact h4
theorem Acc.full {l : Jl} {d : Dk} (h : Acc l d) (hs : l.syn ≠ l.rs.length) : Records (Dv.put d.ss (wrs (Jn.used (old l)) (what l d))) = l.rs := by
  have hu := h.used
  have hl := h.len
  have h2 := h.okd.n2
  obtain ⟨ss, hss⟩ : ∃ ss, Dv.put d.ss (wrs (Jn.used (old l)) (what l d)) = ss := ⟨_, rfl⟩
  have hget := put_wrs (what l d) (Jn.used (old l)) d.ss (by omega)
  rw [hss] at hget ⊢
  have hlen : ss.length = d.ss.length := by rw [← hss]; exact Dv.put_len _ _
  obtain ⟨f', last', h3, h4, h5⟩ := h.head hlen (fun i hi => by rw [hget, if_neg (by omega)])
  obtain ⟨f2, h6, h7⟩ := recs_new (l := ss) (g := gnext d.ss) (Nat.succ_pos _) h.g32 (by omega) (news l) f' (Jn.used (old l)) last' (Jn.used (news l)) (by unfold gnext; omega) h4
    (fun i hi => by rw [hget, if_pos (by omega), Nat.add_sub_cancel_left]; rfl) (Nat.le_refl _) (by omega)
  have hne : news l ≠ [] := fun h0 => by
    have := congrArg List.length h0
    have h8 := h.okj.2.2.2.1
    have h9 := h.okj.2.2.1
    unfold news at this
    simp at this
    omega
  rw [h5, h7, if_neg hne, recs_old, List.append_nil]
  · unfold old news; exact List.take_append_drop _ _
  · intro s hs
    rw [hget, if_neg (by omega)] at hs
    have := gmax_ge (List.mem_of_getElem? hs)
    unfold gnext; omega
theorem torn_gen {x y : By} (hx : x.length = 128) : gen (Dv.torn x y) = gen x := by
  unfold gen Dv.torn
  rw [List.take_append_of_le_length (by rw [List.length_take]; omega), List.take_take]; rfl
theorem torn_gnT {x y : By} (hx : x.length = 128) : gnT (Dv.torn x y) = gnT y := by
  unfold gnT Dv.torn
  rw [List.drop_append, List.drop_of_length_le (show (x.take 64).length ≤ 124 by rw [List.length_take]; omega), List.nil_append, List.length_take, hx, List.drop_drop]; rfl
theorem torn_len {x y : By} (hx : x.length = 128) (hy : y.length = 128) : (Dv.torn x y).length = 128 := by
  unfold Dv.torn
  rw [List.length_append, List.length_take, List.length_drop]; omega
/-- the sectors after a stop -/
theorem Acc.half {l : Jl} {d : Dk} (h : Acc l d) {c : Nat} (hc : c < (what l d).length) :
    (Dv.halfS (wrt l d) c).length = d.ss.length ∧ ∀ i, (Dv.halfS (wrt l d) c)[i]? = if i = Jn.used (old l) + c then some (Dv.torn ((what l d).getD c []) (d.ss.getD (Jn.used (old l) + c) [])) else if Jn.used (old l) ≤ i ∧ i < Jn.used (old l) + c then (what l d)[i - Jn.used (old l)]? else d.ss[i]? := by
  have hu := h.used
  have hl := h.len
  have hp : (wrt l d).ps[c]? = some ⟨((Jn.used (old l) + c : Nat) : Int), (what l d)[c]⟩ := by
    show (wrs _ _)[c]? = _
    rw [wrs_get, List.getElem?_eq_getElem hc]; rfl
  have e1 : Dv.halfS (wrt l d) c = (Dv.put d.ss (wrs (Jn.used (old l)) ((what l d).take c))).set (Jn.used (old l) + c) (Dv.torn ((what l d)[c]) ((Dv.put d.ss (wrs (Jn.used (old l)) ((what l d).take c))).getD (Jn.used (old l) + c) [])) := by
    unfold Dv.halfS
    rw [hp]
    show (Dv.put d.ss ((wrs (Jn.used (old l)) (what l d)).take c)).set (((Jn.used (old l) + c : Nat) : Int)).toNat (Dv.torn ((what l d)[c]) ((Dv.put d.ss ((wrs (Jn.used (old l)) (what l d)).take c)).getD (((Jn.used (old l) + c : Nat) : Int)).toNat [])) = _
    rw [wrs_take, Int.toNat_natCast]
  have hget := put_wrs ((what l d).take c) (Jn.used (old l)) d.ss (by rw [List.length_take]; omega)
  have hlen : (Dv.put d.ss (wrs (Jn.used (old l)) ((what l d).take c))).length = d.ss.length := Dv.put_len _ _
  obtain ⟨ss, hss⟩ : ∃ ss, Dv.put d.ss (wrs (Jn.used (old l)) ((what l d).take c)) = ss := ⟨_, rfl⟩
  rw [hss] at e1 hget hlen
  rw [e1]
  have ht : ((what l d).take c).length = c := by rw [List.length_take]; omega
  rw [ht] at hget
  refine ⟨by rw [List.length_set, hlen], fun i => ?_⟩
  by_cases hi : i = Jn.used (old l) + c
  · subst hi
    rw [if_pos rfl, List.getElem?_set_self (by omega)]
    congr 1
    have h3 : (what l d)[c] = (what l d).getD c [] := by rw [List.getD_eq_getElem?_getD, List.getElem?_eq_getElem hc]; rfl
    have h4 : ss.getD (Jn.used (old l) + c) [] = d.ss.getD (Jn.used (old l) + c) [] := by
      rw [List.getD_eq_getElem?_getD, List.getD_eq_getElem?_getD, hget, if_neg (by omega)]
    rw [h3, h4]
  · rw [if_neg hi, List.getElem?_set_ne (by omega), hget]
    by_cases h3 : Jn.used (old l) ≤ i ∧ i < Jn.used (old l) + c
    · rw [if_pos h3, if_pos h3, List.getElem?_take_of_lt (by omega)]
    · rw [if_neg h3, if_neg h3]
theorem Acc.stop {l : Jl} {d : Dk} (h : Acc l d) {c : Nat} (hc : c < (what l d).length) :
    ∃ k, k < (news l).length ∧ Records (Dv.halfS (wrt l d) c) = old l ++ (news l).take k := by
  have hu := h.used
  have hl := h.len
  have h2 := h.okd.n2
  obtain ⟨hlen, hget⟩ := h.half hc
  obtain ⟨ss, hss⟩ : ∃ ss, Dv.halfS (wrt l d) c = ss := ⟨_, rfl⟩
  rw [hss] at hlen hget ⊢
  obtain ⟨f', last', h3, h4, h5⟩ := h.head hlen (fun i hi => by rw [hget, if_neg (by omega), if_neg (by omega)])
  have hm := h.mem (List.getElem_mem hc)
  obtain ⟨k, hk, _, _, h6⟩ := recs_bad (l := ss) (g := gnext d.ss) (Nat.succ_pos _) h.g32 (by omega) (news := news l) (f := f') (a := Jn.used (old l)) (last := last') (c := c) (by unfold gnext; omega) h4
    (fun i hi => by rw [hget, if_neg (by omega), if_pos (by omega), Nat.add_sub_cancel_left]; rfl) (by omega) (by omega)
    (fun s hs hgd => by
      rw [hget, if_pos rfl] at hs
      injection hs with hs
      have hw : (what l d).getD c [] = (what l d)[c] := by rw [List.getD_eq_getElem?_getD, List.getElem?_eq_getElem hc]; rfl
      have hx : (what l d)[c].length = 128 := hm.1
      have hlt : Jn.used (old l) + c < d.ss.length := by omega
      have hy : d.ss.getD (Jn.used (old l) + c) [] = d.ss[Jn.used (old l) + c] := by rw [List.getD_eq_getElem?_getD, List.getElem?_eq_getElem hlt]; rfl
      rw [hw, hy] at hs
      have hg := hgd.gt
      rw [← hs, torn_gen hx, torn_gnT hx, hm.2.1] at hg
      have := (gmax_ge (List.getElem_mem hlt)).2
      unfold gnext at hg
      omega)
  exact ⟨k, hk, by rw [h5, h6]⟩
/-- sectors that were there, or are new, or torn -/
theorem Acc.gens {l : Jl} {d : Dk} (h : Acc l d) (hst : Dv.Run (wrt l d)) : (Dv.sy (wrt l d)).ss.length = d.ss.length ∧ ∀ s ∈ (Dv.sy (wrt l d)).ss, s.length = 128 ∧ gen s ≤ gnext d.ss ∧ gnT s ≤ gnext d.ss := by
  have hu := h.used
  have hl := h.len
  have hold : ∀ s ∈ d.ss, s.length = 128 ∧ gen s ≤ gnext d.ss ∧ gnT s ≤ gnext d.ss := fun s hs => by
    have := gmax_ge hs
    exact ⟨ok_s h.okd s hs, by unfold gnext; omega, by unfold gnext; omega⟩
  have hnew : ∀ s ∈ what l d, s.length = 128 ∧ gen s ≤ gnext d.ss ∧ gnT s ≤ gnext d.ss := fun s hs => by
    have := h.mem hs
    exact ⟨this.1, by omega, by omega⟩
  unfold Dv.sy
  rw [if_pos hst]
  by_cases hS : Dv.Stops (wrt l d)
  · rw [if_pos hS]
    have hc : (wrt l d).left.toNat < (what l d).length := by
      have h1 := hS.1
      have h2 := hS.2
      have h3 : ((wrt l d).ps).length = (what l d).length := wrs_len _ _
      omega
    obtain ⟨h1, h2⟩ := h.half hc
    refine ⟨h1, fun s hs => ?_⟩
    obtain ⟨i, hi⟩ := List.getElem?_of_mem hs
    simp only at hi
    rw [h2] at hi
    split at hi
    · injection hi with hi
      have hlt : Jn.used (old l) + (wrt l d).left.toNat < d.ss.length := by omega
      have e1 : (what l d).getD (wrt l d).left.toNat [] = (what l d)[(wrt l d).left.toNat] := by rw [List.getD_eq_getElem?_getD, List.getElem?_eq_getElem hc]; rfl
      have e2 : d.ss.getD (Jn.used (old l) + (wrt l d).left.toNat) [] = d.ss[Jn.used (old l) + (wrt l d).left.toNat] := by rw [List.getD_eq_getElem?_getD, List.getElem?_eq_getElem hlt]; rfl
      rw [e1, e2] at hi
      have a1 := hnew _ (List.getElem_mem hc)
      have a2 := hold _ (List.getElem_mem hlt)
      rw [← hi]
      exact ⟨torn_len a1.1 a2.1, by rw [torn_gen a1.1]; exact a1.2.1, by rw [torn_gnT a1.1]; exact a2.2.2⟩
    · split at hi
      · exact hnew s (List.mem_of_getElem? hi)
      · exact hold s (List.mem_of_getElem? hi)
  · rw [if_neg hS]
    refine ⟨Dv.put_len _ _, fun s hs => ?_⟩
    obtain ⟨i, hi⟩ := List.getElem?_of_mem hs
    have h2 := put_wrs (what l d) (Jn.used (old l)) d.ss (by omega) i
    rw [show (Dv.put d.ss (wrs (Jn.used (old l)) (what l d)))[i]? = some s from hi] at h2
    split at h2
    · exact hnew s (List.mem_of_getElem? h2.symm)
    · exact hold s (List.mem_of_getElem? h2.symm)
end Jn
end
section
set_option linter.unusedVariables false
set_option linter.unusedSimpArgs false
namespace Jn
/-- the sectors that are written when i records and j pieces of the next are under way -/
def wkS (g a0 : Nat) (rest : List By) (i j : Nat) : List By := encG g a0 (rest.take i) ++ (encR g (a0 + used (rest.take i)) (rest.getD i [])).take j
def wkD (ss : List By) (left : Int) (g a0 : Nat) (rest : List By) (i j : Nat) : Dk := ⟨ss, wrs a0 (wkS g a0 rest i j), left, false⟩
theorem getD_at {l : List By} {i : Nat} (h : i < l.length) : l.getD i [] = l[i] := by rw [List.getD_eq_getElem?_getD, List.getElem?_eq_getElem h]; rfl
theorem wkS_len {g a0 : Nat} {rest : List By} {i j : Nat} (hi : i < rest.length) (hj : j ≤ nsec rest[i].length) : (wkS g a0 rest i j).length = used (rest.take i) + j := by
  unfold wkS
  rw [List.length_append, encG_len, List.length_take, encR_len, getD_at hi]; omega
theorem wkS_next {g a0 : Nat} {rest : List By} {i j : Nat} (hi : i < rest.length) (hj : j < nsec rest[i].length) : wkS g a0 rest i (j + 1) = wkS g a0 rest i j ++ [secJ g (a0 + used (rest.take i)) rest[i] j] := by
  unfold wkS
  rw [getD_at hi, List.append_assoc]
  congr 1
  have hl : j < (encR g (a0 + used (rest.take i)) rest[i]).length := by rw [encR_len]; exact hj
  rw [List.take_succ_eq_append_getElem hl]
  congr 2
  have := encR_get (g := g) (a := a0 + used (rest.take i)) hj
  rw [List.getElem?_eq_getElem hl] at this
  injection this
theorem wkS_done {g a0 : Nat} {rest : List By} {i : Nat} (hi : i < rest.length) : wkS g a0 rest i (nsec rest[i].length) = wkS g a0 rest (i + 1) 0 := by
  unfold wkS
  rw [getD_at hi, List.take_of_length_le (l := encR g (a0 + used (rest.take i)) rest[i]) (by rw [encR_len]; exact Nat.le_refl _), List.take_zero, List.append_nil, List.take_succ_eq_append_getElem hi, encG_append]
  simp [encG]
theorem wkS_zero (g a0 : Nat) (rest : List By) : wkS g a0 rest 0 0 = [] := by unfold wkS; simp [encG]
theorem wkS_all {g a0 : Nat} {rest : List By} {i : Nat} (h : rest.length ≤ i) : wkS g a0 rest i 0 = encG g a0 rest := by
  unfold wkS
  rw [List.take_zero, List.append_nil, List.take_of_length_le h]
theorem wkS_128 {g a0 : Nat} (hg : g < 4294967296) {rest : List By} {i j : Nat} : ∀ s ∈ wkS g a0 rest i j, s.length = 128 := by
  intro s hs
  unfold wkS at hs
  rcases List.mem_append.1 hs with h | h
  · exact (enc_mem hg _ _ _ h).1
  · have h2 := List.mem_of_mem_take h
    unfold encR at h2
    obtain ⟨k, _, rfl⟩ := List.mem_map.1 h2
    exact secJ_len _ _ _ _
theorem run_wrs {ss : List By} {ps : List Wr} {left : Int} {a0 : Nat} {ws : List By} (hok : Dv.Ok ⟨ss, ps, left, false⟩) (hws : ∀ s ∈ ws, s.length = 128) (hl : a0 + ws.length ≤ ss.length) : Dv.Run ⟨ss, wrs a0 ws, left, false⟩ := by
  have h2 : ss.length ≤ 4096 := hok.n2
  refine ⟨⟨hok.n1, h2, ?_, hok.l1, hok.l2, ?_, hok.ss⟩, rfl⟩
  · show (wrs _ _).length ≤ 4096
    rw [wrs_len]; omega
  · show (wrs _ _).any (Dv.badW ss.length) = false
    rw [Dv.any_ps]
    intro p hp
    obtain ⟨k, hk, rfl⟩ := wrs_mem hp
    exact ⟨by simp only; omega, by simp only; omega, hws _ (List.getElem_mem hk)⟩
theorem pad_128 {s : By} (h : s.length = 128) : Dv.pad s = s := by unfold Dv.pad; rw [h]; simp
theorem wr_next {ss : List By} {left : Int} {a0 : Nat} {ws : List By} {s : By} (hr : Dv.Run ⟨ss, wrs a0 ws, left, false⟩) (hs : s.length = 128) (hl : a0 + ws.length < ss.length) :
    Dv.wrE ⟨ss, wrs a0 ws, left, false⟩ ((a0 + ws.length : Nat) : Int) s = 0 ∧ Dv.wr ⟨ss, wrs a0 ws, left, false⟩ ((a0 + ws.length : Nat) : Int) s = ⟨ss, wrs a0 (ws ++ [s]), left, false⟩ := by
  have h2 : ss.length ≤ 4096 := hr.1.n2
  have hh : Dv.Has ⟨ss, wrs a0 ws, left, false⟩ ((a0 + ws.length : Nat) : Int) := ⟨by omega, by simp only; omega⟩
  have hp : ¬ (wrs a0 ws).length = 4096 := by rw [wrs_len]; omega
  unfold Dv.wrE Dv.wr
  simp only [if_pos (And.intro hr hh), if_pos (show s.length ≤ 128 by omega), if_neg hp]
  refine ⟨trivial, ?_⟩
  rw [wrs_app, pad_128 hs]
  rfl
/-- one write more -/
theorem wk_write {ss : List By} {ps : List Wr} {left : Int} (hok : Dv.Ok ⟨ss, ps, left, false⟩) {g a0 : Nat} (hg : g < 4294967296) {rest : List By} {i j : Nat} (hi : i < rest.length) (hj : j < nsec rest[i].length) (hl : a0 + used rest ≤ ss.length) :
    a0 + used (rest.take i) + j < ss.length ∧ Dv.wrE (wkD ss left g a0 rest i j) ((a0 + used (rest.take i) + j : Nat) : Int) (secJ g (a0 + used (rest.take i)) rest[i] j) = 0 ∧ Dv.wr (wkD ss left g a0 rest i j) ((a0 + used (rest.take i) + j : Nat) : Int) (secJ g (a0 + used (rest.take i)) rest[i] j) = wkD ss left g a0 rest i (j + 1) := by
  have hu : used (rest.take i) + nsec rest[i].length ≤ used rest := by
    have h1 := used_take hi
    have h2 : used rest = used (rest.take (i + 1)) + used (rest.drop (i + 1)) := by rw [← used_append, List.take_append_drop]
    omega
  have hlen := wkS_len (g := g) (a0 := a0) hi (show j ≤ nsec rest[i].length by omega)
  have hr : Dv.Run ⟨ss, wrs a0 (wkS g a0 rest i j), left, false⟩ := run_wrs hok (wkS_128 hg) (by rw [hlen]; omega)
  have := wr_next hr (secJ_len g (a0 + used (rest.take i)) rest[i] j) (by rw [hlen]; omega)
  rw [hlen, ← Nat.add_assoc] at this
  refine ⟨by omega, this.1, ?_⟩
  unfold wkD
  rw [wkS_next hi hj]
  exact this.2
theorem wkD_done {ss : List By} {left : Int} {g a0 : Nat} {rest : List By} {i : Nat} (hi : i < rest.length) : wkD ss left g a0 rest i (nsec rest[i].length) = wkD ss left g a0 rest (i + 1) 0 := by unfold wkD; rw [wkS_done hi]
theorem wkD_ps {ss : List By} {left : Int} {g a0 : Nat} {rest : List By} {i j : Nat} (hi : i < rest.length) (hj : j ≤ nsec rest[i].length) : (wkD ss left g a0 rest i j).ps.length = used (rest.take i) + j := by
  show (wrs _ _).length = _
  rw [wrs_len, wkS_len hi hj]
end Jn
end
section
set_option linter.unusedVariables false
set_option linter.unusedSimpArgs false
namespace Jn
theorem gen_zs : gen Dv.zs = 0 := by decide
theorem gnT_zs : gnT Dv.zs = 0 := by decide
/-- no record begins where the first sector's generation is 0 -/
theorem recs_zero {ss : List By} (h : ∀ s, ss[0]? = some s → gen s = 0) : Records ss = [] := by
  unfold Records
  refine recs_none ?_
  cases ss with
  | nil => rfl
  | cons s r =>
    refine recA_stop (l := s :: r) (a := 0) (n := 0) (out := []) (by simp) (by unfold recA; simp) (fun hg => ?_)
    exact hg.1.g0 (h s rfl)
theorem recs_new0 (n : Nat) : Records (List.replicate n Dv.zs) = [] := recs_zero (fun s h => by
  have := List.mem_of_getElem? h
  rw [List.eq_of_mem_replicate this]; exact gen_zs)
theorem gmax_new (n : Nat) : gmax (List.replicate n Dv.zs) = 0 := Nat.le_zero.1 (gmax_le (fun s h => by
  rw [List.eq_of_mem_replicate h, gen_zs, gnT_zs]; exact ⟨Nat.le_refl _, Nat.le_refl _⟩))
theorem ok_ss {ss : List By} {left : Int} {st : Bool} (h1 : 1 ≤ ss.length) (h2 : ss.length ≤ 4096) (h : ∀ s ∈ ss, s.length = 128) (l1 : -1 ≤ left) (l2 : left ≤ 65536) : Dv.Ok ⟨ss, [], left, st⟩ :=
  ⟨h1, h2, by simp, l1, l2, rfl, by rw [Dv.any_ss]; exact h⟩
theorem ok_new {n : Nat} (h1 : 1 ≤ n) (h2 : n ≤ 4096) : Dv.Ok ⟨List.replicate n Dv.zs, [], -1, false⟩ :=
  ok_ss (by simpa using h1) (by simpa using h2) (fun s h => by rw [List.eq_of_mem_replicate h]; rfl) (by decide) (by decide)
theorem nw_eq {n : Nat} (h1 : 1 ≤ n) (h2 : n ≤ 4096) : Dv.nw n = ⟨List.replicate n Dv.zs, [], -1, false⟩ ∧ Dv.nwE n = 0 := by
  unfold Dv.nw Dv.nwE
  rw [if_pos (by omega), if_pos (by omega)]
  exact ⟨by simp, rfl⟩
theorem open_ss {ss : List By} {left : Int} (hok : Dv.Ok ⟨ss, [], left, false⟩) : openE ⟨ss, [], left, false⟩ = 0 ∧ openJ ⟨ss, [], left, false⟩ = ⟨Records ss, ss.length, (Records ss).length⟩ := by
  unfold openE openJ
  rw [if_pos hok, if_neg (by simp), if_pos (by rfl), if_pos ⟨hok, rfl, rfl⟩]
  exact ⟨rfl, rfl⟩
/-- a Sync that runs through -/
theorem Acc.done {l : Jl} {d : Dk} (h : Acc l d) (hs : l.syn ≠ l.rs.length) (hst : ¬ Dv.Stops (wrt l d)) :
    syncE l d = 0 ∧ syncJ l d = { l with syn := l.rs.length } ∧ (syncD l d).ps = [] ∧ (syncD l d).st = false ∧ (syncD l d).left = (if 0 ≤ d.left then d.left - (wrt l d).ps.length else d.left) ∧ (syncD l d).ss.length = d.ss.length ∧ (∀ s ∈ (syncD l d).ss, s.length = 128 ∧ gen s ≤ gnext d.ss ∧ gnT s ≤ gnext d.ss) ∧ Records (syncD l d).ss = l.rs := by
  have he : Dv.syE (wrt l d) = 0 := by unfold Dv.syE; rw [if_pos h.wok, if_neg hst]
  have hd : Dv.sy (wrt l d) = ⟨Dv.put d.ss (wrs (Jn.used (old l)) (what l d)), [], if 0 ≤ d.left then d.left - (wrt l d).ps.length else d.left, false⟩ := by unfold Dv.sy; rw [if_pos h.wok, if_neg hst]; rfl
  have hD : syncD l d = Dv.sy (wrt l d) := by unfold syncD; rw [if_pos h, if_neg hs]
  have hg := h.gens h.wok
  refine ⟨by rw [h.err, if_neg hs, he], by unfold syncJ; rw [if_pos h, if_neg hs, if_pos he], by rw [hD, hd], by rw [hD, hd], by rw [hD, hd], by rw [hD]; exact hg.1, by rw [hD]; exact hg.2, ?_⟩
  rw [hD, hd]
  exact h.full hs
theorem nostop {l : Jl} {d : Dk} (h : d.left = -1) : ¬ Dv.Stops (wrt l d) := fun hs => by
  have h1 : 0 ≤ d.left := hs.1
  omega
def ab : By := [97, 98]
def sx : Jl := ⟨[ab], 1, 0⟩
def sd : Dk := ⟨List.replicate 1 Dv.zs, [], -1, false⟩
theorem acc_sx : Acc sx sd := by
  refine ⟨?_, ok_new (by decide) (by decide), rfl, rfl, rfl, ?_, ?_⟩
  · refine ⟨by decide, by decide, by decide, by decide, by decide⟩
  · rw [show sd.ss = List.replicate 1 Dv.zs from rfl, recs_new0]; rfl
  · rw [show sd.ss = List.replicate 1 Dv.zs from rfl]; unfold gnext; rw [gmax_new]; decide
theorem sane_facts : Dv.nwE 1 = 0 ∧ Dv.nw 1 = sd ∧ openE sd = 0 ∧ openJ sd = ⟨[], 1, 0⟩ ∧ appE ⟨[], 1, 0⟩ (List.replicate 113 0) = 2 ∧ appE ⟨[], 1, 0⟩ ab = 0 ∧ appJ ⟨[], 1, 0⟩ ab = sx ∧
    syncE sx sd = 0 ∧ syncJ sx sd = ⟨[ab], 1, 1⟩ ∧ openE (syncD sx sd) = 0 ∧ openJ (syncD sx sd) = ⟨[ab], 1, 1⟩ ∧ syncE sx (syncD sx sd) = 50 ∧ room ⟨[], 1, 0⟩ = 112 ∧ chkJ j0 = 1 := by
  have h0 := nw_eq (n := 1) (by decide) (by decide)
  have h1 := open_ss (ss := List.replicate 1 Dv.zs) (left := -1) (ok_new (by decide) (by decide))
  rw [recs_new0] at h1
  have hA := acc_sx
  obtain ⟨d1, d2, d3, d4, d5, d6, d7, d8⟩ := hA.done (by decide) (nostop rfl)
  obtain ⟨D, hD⟩ : ∃ D, syncD sx sd = D := ⟨_, rfl⟩
  rw [hD] at d3 d4 d5 d6 d7 d8 ⊢
  have hDe : D = ⟨D.ss, [], -1, false⟩ := by
    obtain ⟨a, b, c, e⟩ := D
    simp only at d3 d4 d5
    rw [if_neg (by decide)] at d5
    rw [d3, d4, d5]; rfl
  have hok : Dv.Ok ⟨D.ss, [], -1, false⟩ := ok_ss (by rw [d6]; decide) (by rw [d6]; decide) (fun s hs => (d7 s hs).1) (by decide) (by decide)
  have h2 := open_ss hok
  rw [← hDe, d8, d6] at h2
  refine ⟨h0.2, h0.1, h1.1, h1.2, by decide, by decide, by decide, d1, d2, h2.1, h2.2, ?_, by decide, by decide⟩
  have hok2 : Dv.Ok D := by rw [hDe]; exact hok
  unfold syncE
  rw [if_pos hA.okj, if_pos hok2, if_neg (by rw [d4]; simp), if_pos ⟨by rw [d6]; rfl, by rw [d3]; rfl⟩, if_neg]
  rintro ⟨e, _⟩
  rw [d8] at e
  exact absurd e (by decide)
end Jn
end
end Go.Proofs.Ytkcnanclpkongaa
