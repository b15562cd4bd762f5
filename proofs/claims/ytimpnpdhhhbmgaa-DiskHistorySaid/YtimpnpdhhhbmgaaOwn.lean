/- Rows of the call's own: bytes, sectors, writes. -/
import Derived.Test.YtimpnpdhhhbmgaaW3
import Derived.Maps.AppendAt
import Derived.OwnWalk
import Derived.Deep.AppendLies
import Derived.Deep.Upon
import Derived.Deep.AppendSrc
import Derived.ArgAppend
namespace Go.Proofs.Ytimpnpdhhhbmgaa
open Go.RowKit
set_option linter.unusedVariables false
set_option linter.unusedSimpArgs false

theorem info5 : (Try.prog.info? 5).map (fun i => (i.zero, i.size, i.bytes)) = some (some (.int .u8 0), 1, 1) := by kernel_rfl
theorem info35 : (Try.prog.info? 35).map (fun i => (i.zero, i.size, i.bytes)) = some (some (.slice none 0 0), 1, 24) := by kernel_rfl
theorem info54 : (Try.prog.info? 54).map (fun i => (i.zero, i.size, i.bytes)) = some (some (.agg #[.int .i64 0, .slice none 0 0]), 2, 32) := by kernel_rfl

theorem grownBy_self (w : World) (r : Option Nat) : w.grownBy w r := ⟨rfl, rfl, rfl, Nat.le_refl _, fun _ _ _ => rfl⟩
theorem own_le {W : World} {base : Nat} {e : TypeId} {size n : Nat} {v : Value} {xs : List Value} (h : W.ownsRow base e size v n xs) : ∃ A c, v = .slice A n c ∧ n ≤ c := by
  obtain ⟨_, h | ⟨g, cap, cur, e1, _, _, h3, _⟩⟩ := h
  · exact ⟨_, _, h.1.trans (by rw [h.2]), Nat.le_refl _⟩
  · exact ⟨_, _, e1, h3⟩
theorem rowAt_cells {W : World} {ad : Addr} {ys : List Value} (hr : RowAt W (some ad) ys) : ∀ j u, ys[j]? = some u → W.cell? (ad.add j) = some u := fun j u hu => by
  obtain ⟨hj, rfl⟩ := List.getElem?_eq_some_iff.1 hu
  obtain ⟨b, off, e, hb, hc⟩ := hr (by intro h0; rw [h0] at hj; simp at hj)
  injection e with e
  subst e
  have e : (⟨b, off, none⟩ : Addr).add j = ⟨b, off + j, none⟩ := by unfold Addr.add; split <;> simp_all
  rw [e]
  exact hc j hj

/-- an append of a row that can be read onto a row of the call's own -/
theorem app_run (W : World) (base : Nat) (T ty e : TypeId) (z : Value) (size bytes : Nat) (ht : Try.prog.underlying T = some (.slice e)) (hinfo : (Try.prog.info? e).map (fun i => (i.zero, i.size, i.bytes)) = some (some z, size, bytes)) (hzs : z.cells.size = size) (hsz : 0 < size)
    (v : Value) (n : Nat) (xs : List Value) (hown : W.ownsRow base e size v n xs) (A : Option Addr) (m c : Nat) (ys : List Value) (hys : ys.length = m * size) (hr : RowAt W A ys) (h1 : ∀ u ∈ ys, u.oneCell' = true)
    (h63 : n + m ≤ maxLen) (hbytes : (n + m) * bytes ≤ 140737488355328) (hb : base ≤ W.heap.size) :
    ∃ v' w', (Builtin.append_ #[T, T] ty #[v, .slice A m c]).run Try.prog W = .ok v' w' ∧ w'.ownsRow base e size v' (n + m) (xs ++ ys) ∧ W.grownBy w' v.ownBlock ∧ (v'.ownBlock = v.ownBlock ∨ v'.ownBlock = some W.heap.size) := by
  obtain ⟨i0, hi, hz0, hz1, hz2⟩ := info_parts hinfo
  cases A with
  | none =>
    have hy : ys = [] := by
      cases ys with
      | nil => rfl
      | cons x r =>
        obtain ⟨b, off, e, _⟩ := hr (by simp)
        cases e
    subst hy
    have hm : m = 0 := by
      have : m * size = 0 := by simpa using hys.symm
      rcases Nat.mul_eq_zero.1 this with h | h
      · exact h
      · omega
    subst hm
    obtain ⟨A, cv, rfl, hle⟩ := own_le hown
    exact ⟨_, _, run_append_nothing W T T ty e i0 ht hi A n cv hle _ (Src.ofNil W ht c), by rw [List.append_nil]; exact hown, grownBy_self W _, .inl rfl⟩
  | some ad =>
    obtain ⟨v', w', k1, k2, k3, _, k5⟩ := run_append_own_at (P := Try.prog) W base T ty e i0 z size bytes ht hi hz0 hz1 hz2 hzs hsz v n xs hown ad m c ys hys (rowAt_cells hr) h1 h63 hbytes hb
    exact ⟨v', w', k1, k2, k3, k5⟩

/-- what such an append leaves -/
structure App (W w' : World) (base : Nat) (e : TypeId) (size : Nat) (v v' : Value) (n : Nat) (zs : List Value) : Prop where
  own : w'.ownsRow base e size v' n zs
  grown : W.grownBy w' v.ownBlock
  at_ : v'.ownBlock = v.ownBlock ∨ v'.ownBlock = some W.heap.size
section
variable {ops : Array Oper} {rest : List Oper} {o : Oper} {a : Act} {Q : Exit → Act → World → Prop}
theorem wp_app {X : World} {K : Act → World → Prop} {R : Value → World → Prop} (s x : Operand) (T : TypeId) (v y : Value) (ho : o.op = .call { callee := .builtin .append, args := #[s, x], argTypes := #[T, T] })
    (hs : a.eval s = v) (hx : a.eval x = y) (hr : ∃ v' X', (Builtin.append_ #[T, T] o.type #[v, y]).run Try.prog X = .ok v' X' ∧ R v' X')
    (h : ∀ v' X', R v' X' → K (a.put o.dst v') X') : o.wp Try.prog a X K Q := by
  obtain ⟨v', X', h1, h2⟩ := hr
  unfold Oper.wp execOp
  simp only [ho, resolve, invoke, builtin, Sem.run_bind, Sem.run_pure, Result.andThen_ok, List.map_toArray, List.map_cons, List.map_nil, hs, hx, h1]
  exact h v' X' h2
theorem wpList_app {X : World} {R : Value → World → Prop} (hgd : o.guard = none) (s x : Operand) (T : TypeId) (v y : Value) (ho : o.op = .call { callee := .builtin .append, args := #[s, x], argTypes := #[T, T] })
    (hs : a.eval s = v) (hx : a.eval x = y) (hr : ∃ v' X', (Builtin.append_ #[T, T] o.type #[v, y]).run Try.prog X = .ok v' X' ∧ R v' X')
    (h : ∀ v' X', R v' X' → wpList Try.prog ops Q rest (a.put o.dst v') X') : wpList Try.prog ops Q (o :: rest) a X :=
  wpList_plain hgd fun K hK => wp_app s x T v y ho hs hx hr (fun v' X' hc => hK _ _ (h v' X' hc))
theorem step_app {X : World} {K : Act → World → Prop} {E : Prop} {R : Value → World → Prop} (hgd : o.guard = none) (s x : Operand) (T : TypeId) (v y : Value) (ho : o.op = .call { callee := .builtin .append, args := #[s, x], argTypes := #[T, T] })
    (hs : a.eval s = v) (hx : a.eval x = y) (hr : ∃ v' X', (Builtin.append_ #[T, T] o.type #[v, y]).run Try.prog X = .ok v' X' ∧ R v' X')
    (h : ∀ v' X', R v' X' → K (a.put o.dst v') X') : if Region.wanted o (yielded ops a.tmps) = true then Oper.wp Try.prog o a X K Q else E := by
  have hw : Region.wanted o (yielded ops a.tmps) = true := by simp [Region.wanted, hgd]
  rw [if_pos hw]
  exact wp_app s x T v y ho hs hx hr h
end

/-- bytes outside a block -/
def OffB (o : Option Nat) (W : World) (v : Value) (bs : By) : Prop := ∃ A c, v = .slice A bs.length c ∧ bs.length ≤ c ∧ (bs ≠ [] → ∃ b off, A = some ⟨b, off, none⟩ ∧ o ≠ some b ∧ b < W.heap.size ∧ ∀ i (h : i < bs.length), W.cell? ⟨b, off + i, none⟩ = some (encB bs[i]))
theorem OffB.bytes {o : Option Nat} {W : World} {v : Value} {bs : By} (h : OffB o W v bs) : IsBytes W v bs := by
  obtain ⟨A, c, e, hc, hr⟩ := h
  refine ⟨A, c, e, hc, fun hn => ?_⟩
  obtain ⟨b, off, e1, _, hb, hcc⟩ := hr (by intro h0; subst h0; simp at hn)
  exact ⟨b, off, e1, hb, fun i hi => by rw [hcc i (by simpa using hi)]; simp⟩
theorem OffB.of {o : Option Nat} {W w : World} {v : Value} {bs : By} (h : IsBytes w v bs) (hb : Below w.heap.size w W) (ho : ∀ g, o = some g → w.heap.size ≤ g) : OffB o W v bs := by
  obtain ⟨A, c, e, hc, hr⟩ := h
  refine ⟨A, c, e, hc, fun hn => ?_⟩
  obtain ⟨b, off, e1, hlt, hcc⟩ := hr (by intro h0; simp at h0; exact hn h0)
  refine ⟨b, off, e1, fun h => by have := ho b h; omega, Nat.lt_of_lt_of_le hlt hb.size, fun i hi => ?_⟩
  rw [(bcell hb).1 b _ hlt, hcc i (by simpa using hi)]; simp
theorem OffB.grown {o : Option Nat} {W W' : World} {v : Value} {bs : By} (h : OffB o W v bs) (hg : W.grownBy W' o) : OffB o W' v bs := by
  obtain ⟨A, c, e, hc, hr⟩ := h
  refine ⟨A, c, e, hc, fun hn => ?_⟩
  obtain ⟨b, off, e1, hne, hlt, hcc⟩ := hr hn
  exact ⟨b, off, e1, hne, Nat.lt_of_lt_of_le hlt hg.size, fun i hi => (World.cell?_of_block (hg.block b hlt (fun e => hne e.symm))).trans (hcc i hi)⟩
theorem OffB.turn {o o' : Option Nat} {W : World} {v : Value} {bs : By} (h : OffB o W v bs) (ho : o' = o ∨ ∃ g, o' = some g ∧ W.heap.size ≤ g) : OffB o' W v bs := by
  obtain ⟨A, c, e, hc, hr⟩ := h
  refine ⟨A, c, e, hc, fun hn => ?_⟩
  obtain ⟨b, off, e1, hne, hlt, hcc⟩ := hr hn
  refine ⟨b, off, e1, ?_, hlt, hcc⟩
  rcases ho with rfl | ⟨g, rfl, hg⟩
  · exact hne
  · intro e2; injection e2 with e2; omega
theorem OffB.below {o : Option Nat} {W W' : World} {v : Value} {bs : By} (h : OffB o W v bs) (hb : Below W.heap.size W W') : OffB o W' v bs := by
  obtain ⟨A, c, e, hc, hr⟩ := h
  refine ⟨A, c, e, hc, fun hn => ?_⟩
  obtain ⟨b, off, e1, hne, hlt, hcc⟩ := hr hn
  exact ⟨b, off, e1, hne, Nat.lt_of_lt_of_le hlt hb.size, fun i hi => ((bcell hb).1 b _ hlt).trans (hcc i hi)⟩
/-- an append onto the row that the bytes lie outside of -/
theorem OffB.app {W w' : World} {base : Nat} {e : TypeId} {size n : Nat} {v v' u : Value} {zs : List Value} {bs : By} (h : OffB v.ownBlock W u bs) (ha : App W w' base e size v v' n zs) : OffB v'.ownBlock w' u bs := by
  rcases ha.at_ with e1 | e1
  · rw [e1]; exact h.grown ha.grown
  · have h2 := h.turn (o' := some W.heap.size) (.inr ⟨_, rfl, Nat.le_refl _⟩)
    rw [e1]
    obtain ⟨A, c, e, hc, hr⟩ := h
    refine ⟨A, c, e, hc, fun hn => ?_⟩
    obtain ⟨b, off, e2, hne, hlt, hcc⟩ := hr hn
    exact ⟨b, off, e2, by intro e3; injection e3 with e3; omega, Nat.lt_of_lt_of_le hlt ha.grown.size, fun i hi => (World.cell?_of_block (ha.grown.block b hlt (fun e => hne e.symm))).trans (hcc i hi)⟩
theorem OffB.one {o : Option Nat} {W : World} {v : Value} {bs : By} (h : OffB o W v bs) : v.oneCell' = true := by
  obtain ⟨A, c, rfl, _⟩ := h; rfl
theorem IsBytes.one {W : World} {v : Value} {bs : By} (h : IsBytes W v bs) : v.oneCell' = true := by
  obtain ⟨A, c, rfl, _⟩ := h; rfl

def OwnBytes (W : World) (base : Nat) (v : Value) (bs : By) : Prop := W.ownsRow base 5 1 v bs.length (bs.map encB)
theorem own_rowAt {W : World} {base : Nat} {e : TypeId} {size n : Nat} {v : Value} {xs : List Value} (h : W.ownsRow base e size v n xs) : ∃ A c, v = .slice A n c ∧ n ≤ c ∧ RowAt W A xs ∧ (∀ g, v.ownBlock = some g → xs ≠ [] → A = some ⟨g, 0, none⟩) ∧ (xs ≠ [] → ∃ g, v.ownBlock = some g) := by
  rcases id h.2 with ⟨rfl, h0⟩ | ⟨g, cap, cur, rfl, _, hg, hnc, _, _, ht⟩
  · have : xs = [] := List.eq_nil_of_length_eq_zero (by rw [h.1, h0]; simp)
    subst this; subst h0
    exact ⟨_, _, rfl, Nat.le_refl _, RowAt.nil, fun g h => by simp [Value.ownBlock] at h, fun h => absurd rfl h⟩
  · refine ⟨_, cap, rfl, hnc, fun _ => ⟨g, 0, rfl, (Array.getElem?_eq_some_iff.1 hg).1, fun i hi => ?_⟩, fun g' h _ => ?_, fun _ => ⟨g, rfl⟩⟩
    · have := World.ownsRow.cellAt h i (by rw [← h.1]; exact hi)
      rw [Nat.zero_add, this, List.getElem?_eq_getElem hi]
    · have : g = g' := by simpa [Value.ownBlock] using h
      rw [this]
theorem OwnBytes.bytes {W : World} {base : Nat} {v : Value} {bs : By} (h : OwnBytes W base v bs) : IsBytes W v bs := by
  obtain ⟨A, c, e, h1, h2, _⟩ := own_rowAt h
  exact ⟨A, c, e, h1, h2⟩
theorem own_made (W : World) (e : TypeId) (size : Nat) : (W.alloc (.cells #[] e)).ownsRow W.heap.size e size (.slice (some ⟨W.heap.size, 0, none⟩) 0 0) 0 [] :=
  World.ownsRow_made W #[] 0 (Nat.le_refl _) (by unfold maxLen; omega) (by simp)

/-- sectors of the call's own -/
def OwnSs (W : World) (base : Nat) (v : Value) (ss : List By) : Prop := ∃ vs, vs.length = ss.length ∧ W.ownsRow base 35 1 v ss.length vs ∧ ∀ i (h : i < vs.length) (h' : i < ss.length), OffB v.ownBlock W vs[i] ss[i]
theorem OwnSs.is {W : World} {base : Nat} {v : Value} {ss : List By} (h : OwnSs W base v ss) : IsBs W v ss := by
  obtain ⟨vs, hl, ho, hi⟩ := h
  obtain ⟨A, c, e, h1, h2, _⟩ := own_rowAt ho
  exact ⟨A, c, vs, e, h1, hl, h2, fun i h h' => (hi i h h').bytes⟩
theorem OwnSs.below {W W' : World} {base : Nat} {v : Value} {ss : List By} (h : OwnSs W base v ss) (hb : Below W.heap.size W W') : OwnSs W' base v ss := by
  obtain ⟨vs, hl, ho, hi⟩ := h
  exact ⟨vs, hl, row_below ho hb, fun i h h' => (hi i h h').below hb⟩
theorem OwnSs.form {W : World} {base : Nat} {v : Value} {ss : List By} (h : OwnSs W base v ss) (hn : 0 < ss.length) : ∃ g cap, v = .slice (some ⟨g, 0, none⟩) ss.length cap ∧ base ≤ g ∧ g < W.heap.size := by
  obtain ⟨vs, hl, ho, hi⟩ := h
  exact own_form ho hn
theorem OwnSs.cell {W : World} {base g n c : Nat} {ss : List By} (h : OwnSs W base (.slice (some ⟨g, 0, none⟩) n c) ss) {k : Nat} (hk : k < ss.length) : ∃ A c', W.cell? ⟨g, k, none⟩ = some (.slice A ss[k].length c') ∧ IsBytes W (.slice A ss[k].length c') ss[k] := by
  obtain ⟨vs, hl, ho, hi⟩ := h
  have hk' : k < vs.length := by omega
  have h2 := (hi k hk' hk).bytes
  obtain ⟨A, c', e, _⟩ := id h2
  obtain ⟨A0, c0, e0⟩ := own_slice ho
  injection e0 with _ e0 _
  subst e0
  have := World.ownsRow.cellAt ho k (by omega)
  refine ⟨A, c', ?_, by rw [← e]; exact h2⟩
  rw [this, List.getElem?_eq_getElem hk', e]
theorem OwnSs.frozen {W : World} {base g n c : Nat} {ss : List By} (h : OwnSs W base (.slice (some ⟨g, 0, none⟩) n c) ss) (k : Nat) : W.frozen? ⟨g, k, none⟩ = false := by
  obtain ⟨vs, hl, ho, hi⟩ := h
  obtain ⟨A0, c0, e0⟩ := own_slice ho
  injection e0 with _ e0 _
  subst e0
  exact World.ownsRow.frozenAt ho k
theorem OwnSs.set {W : World} {base g n c : Nat} {ss : List By} (h : OwnSs W base (.slice (some ⟨g, 0, none⟩) n c) ss) (k : Nat) {u : Value} {b : By} (hu : OffB (some g) W u b) : OwnSs (W.setCell ⟨g, k, none⟩ u) base (.slice (some ⟨g, 0, none⟩) n c) (ss.set k b) := by
  obtain ⟨vs, hl, ho, hi⟩ := h
  obtain ⟨A0, c0, e0⟩ := own_slice ho
  injection e0 with _ e0 _
  subst e0
  have h1 := (World.ownsRow.stored ho k u).1
  have hg : W.grownBy (W.setCell ⟨g, k, none⟩ u) (some g) := ⟨rfl, rfl, rfl, by simp [World.setCell], fun b hb hne => Below.heap_setCell W ⟨g, k, none⟩ u b (fun e => hne (by rw [e]))⟩
  have hu2 := hu.grown hg
  refine ⟨vs.set k u, by simpa using hl, by rw [List.length_set]; exact h1, fun i h2 h3 => ?_⟩
  simp only [List.length_set] at h2 h3
  rw [List.getElem_set, List.getElem_set]
  split
  · exact hu2
  · exact (hi i h2 h3).grown hg

/-- writes of the call's own -/
def OwnWs (W : World) (base : Nat) (v : Value) (ps : List Wr) : Prop := ∃ vs, vs.length = ps.length ∧ W.ownsRow base 54 2 v ps.length (rowW ps vs) ∧ ∀ i (h : i < vs.length) (h' : i < ps.length), OffB v.ownBlock W vs[i] ps[i].data
theorem OwnWs.is {W : World} {base : Nat} {v : Value} {ps : List Wr} (h : OwnWs W base v ps) : IsWs W v ps := by
  obtain ⟨vs, hl, ho, hi⟩ := h
  obtain ⟨A, c, e, h1, h2, _⟩ := own_rowAt ho
  exact ⟨A, c, vs, e, h1, hl, h2, fun i h h' => (hi i h h').bytes⟩
theorem rowW_one {ps : List Wr} {vs : List Value} (h : ∀ v ∈ vs, v.oneCell' = true) : ∀ u ∈ rowW ps vs, u.oneCell' = true := by
  induction ps generalizing vs with
  | nil => intro u hu; simp [rowW] at hu
  | cons p ps ih =>
    cases vs with
    | nil => intro u hu; simp [rowW] at hu
    | cons v vs =>
      intro u hu
      simp only [rowW, List.mem_cons] at hu
      rcases hu with rfl | rfl | hu
      · rfl
      · exact h _ (by simp)
      · exact ih (fun v hv => h v (by simp [hv])) u hu

/-- the appends of this chapter -/
theorem appB_run {W : World} {base : Nat} (ty : TypeId) {v u : Value} {bs ys : By} (hown : OwnBytes W base v bs) (hu : IsBytes W u ys) (hlen : bs.length + ys.length ≤ 1000000000000) (hb : base ≤ W.heap.size) :
    ∃ v' w', (Builtin.append_ #[35, 35] ty #[v, u]).run Try.prog W = .ok v' w' ∧ OwnBytes w' base v' (bs ++ ys) ∧ W.grownBy w' v.ownBlock ∧ (v'.ownBlock = v.ownBlock ∨ v'.ownBlock = some W.heap.size) := by
  obtain ⟨A, c, rfl, hc, hr⟩ := hu
  obtain ⟨v', w', h1, h2, h3, h4⟩ := app_run W base 35 ty 5 _ 1 1 Try.underlying35 info5 rfl (by decide) v _ _ hown A ys.length c (ys.map encB) (by simp) hr (by intro u hu; simp only [List.mem_map] at hu; obtain ⟨y, _, rfl⟩ := hu; rfl) (by unfold maxLen; omega) (by omega) hb
  exact ⟨v', w', h1, by unfold OwnBytes; rw [List.length_append, List.map_append]; exact h2, h3, h4⟩
theorem vals_one {W : World} {ss : List By} {vs : List Value} (hl : vs.length = ss.length) (h : ∀ i (h : i < vs.length) (h' : i < ss.length), IsBytes W vs[i] ss[i]) : ∀ u ∈ vs, u.oneCell' = true := fun u hu => by
  obtain ⟨i, hi, rfl⟩ := List.getElem_of_mem hu
  exact (h i hi (by omega)).one
/-- sectors appended onto sectors: what is appended lies outside the own row -/
theorem appS_run {W : World} {base : Nat} (ty : TypeId) {v : Value} {ss ts : List By} (hown : OwnSs W base v ss) {A : Option Addr} {c : Nat} {us : List Value} (hl : us.length = ts.length) (hr : RowAt W A us) (hi : ∀ i (h : i < us.length) (h' : i < ts.length), OffB v.ownBlock W us[i] ts[i]) (hlen : ss.length + ts.length ≤ 1000000000) (hb : base ≤ W.heap.size) :
    ∃ v' w', (Builtin.append_ #[22, 22] ty #[v, .slice A ts.length c]).run Try.prog W = .ok v' w' ∧ OwnSs w' base v' (ss ++ ts) ∧ W.grownBy w' v.ownBlock ∧ (v'.ownBlock = v.ownBlock ∨ v'.ownBlock = some W.heap.size) := by
  obtain ⟨vs, hlv, ho, hiv⟩ := hown
  obtain ⟨v', w', h1, h2, h3, h4⟩ := app_run W base 22 ty 35 _ 1 24 Try.underlying22 info35 rfl (by decide) v _ _ ho A ts.length c us (by omega) hr (vals_one hl (fun i h h' => (hi i h h').bytes)) (by unfold maxLen; omega) (by omega) hb
  have ha : App W w' base 35 1 v v' (ss.length + ts.length) (vs ++ us) := ⟨h2, h3, h4⟩
  refine ⟨v', w', h1, ⟨vs ++ us, by simp [hlv, hl], by rw [List.length_append]; exact h2, fun i k1 k2 => ?_⟩, h3, h4⟩
  by_cases e : i < vs.length
  · rw [List.getElem_append_left e, List.getElem_append_left (by omega)]
    exact (hiv i e (by omega)).app ha
  · rw [List.getElem_append_right (by omega), List.getElem_append_right (by omega)]
    simp only [List.length_append] at k1
    have hx := (hi (i - vs.length) (by omega) (by omega)).app ha
    have : ts[i - ss.length]'(by omega) = ts[i - vs.length]'(by omega) := by congr 1; omega
    rw [this]; exact hx
theorem appW_run {W : World} {base : Nat} (ty : TypeId) {v : Value} {ps qs : List Wr} (hown : OwnWs W base v ps) {A : Option Addr} {c : Nat} {us : List Value} (hl : us.length = qs.length) (hr : RowAt W A (rowW qs us)) (hi : ∀ i (h : i < us.length) (h' : i < qs.length), OffB v.ownBlock W us[i] qs[i].data) (hlen : ps.length + qs.length ≤ 1000000000) (hb : base ≤ W.heap.size) :
    ∃ v' w', (Builtin.append_ #[23, 23] ty #[v, .slice A qs.length c]).run Try.prog W = .ok v' w' ∧ OwnWs w' base v' (ps ++ qs) ∧ W.grownBy w' v.ownBlock ∧ (v'.ownBlock = v.ownBlock ∨ v'.ownBlock = some W.heap.size) := by
  obtain ⟨vs, hlv, ho, hiv⟩ := hown
  obtain ⟨v', w', h1, h2, h3, h4⟩ := app_run W base 23 ty 54 _ 2 32 Try.underlying23 info54 rfl (by decide) v _ _ ho A qs.length c (rowW qs us) (rowW_len hl) hr (rowW_one (fun u hu => by
    obtain ⟨i, hi2, rfl⟩ := List.getElem_of_mem hu
    exact (hi i hi2 (by omega)).one)) (by unfold maxLen; omega) (by omega) hb
  have ha : App W w' base 54 2 v v' (ps.length + qs.length) (rowW ps vs ++ rowW qs us) := ⟨h2, h3, h4⟩
  refine ⟨v', w', h1, ⟨vs ++ us, by simp [hlv, hl], by rw [List.length_append, rowW_append hlv]; exact h2, fun i k1 k2 => ?_⟩, h3, h4⟩
  by_cases e : i < vs.length
  · rw [List.getElem_append_left e, List.getElem_append_left (by omega)]
    exact (hiv i e (by omega)).app ha
  · rw [List.getElem_append_right (by omega), List.getElem_append_right (by omega)]
    simp only [List.length_append] at k1
    have hx := (hi (i - vs.length) (by omega) (by omega)).app ha
    have : qs[i - ps.length]'(by omega) = qs[i - vs.length]'(by omega) := by congr 1; omega
    rw [this]; exact hx
end Go.Proofs.Ytimpnpdhhhbmgaa
