/- Rows of the call's own: bytes, sectors, writes. Walks of Clone (three), Clip. Walk of perform. Walks of Stop and Restart, of both sides. Made slices of bytes, copies, one write more. -/
import Derived.Test.YtkcnanclpkongaaWA
import Derived.Maps.AppendAt
import Derived.OwnWalk
import Derived.Deep.AppendLies
import Derived.Deep.Upon
import Derived.Deep.AppendSrc
import Derived.ArgAppend
import Derived.Laws.CopyOwn
namespace Go.Proofs.Ytkcnanclpkongaa
section
open Go.RowKit
set_option linter.unusedVariables false
set_option linter.unusedSimpArgs false
set_option maxRecDepth 20000

theorem info5 : (Try.prog.info? 5).map (fun i => (i.zero, i.size, i.bytes)) = some (some (.int .u8 0), 1, 1) := by kernel_rfl
theorem info35 : (Try.prog.info? 35).map (fun i => (i.zero, i.size, i.bytes)) = some (some (.slice none 0 0), 1, 24) := by kernel_rfl
theorem info76 : (Try.prog.info? 76).map (fun i => (i.zero, i.size, i.bytes)) = some (some (.agg #[.int .i64 0, .slice none 0 0]), 2, 32) := by kernel_rfl

theorem grownBy_self (w : World) (r : Option Nat) : w.grownBy w r := ⟨rfl, rfl, rfl, Nat.le_refl _, fun _ _ _ => rfl⟩
theorem own_le {W : World} {base : Nat} {e : TypeId} {size n : Nat} {v : Value} {xs : List Value} (h : W.ownsRow base e size v n xs) : ∃ A c, v = .slice A n c ∧ n ≤ c := by
  obtain ⟨_, h | ⟨g, cap, cur, e1, _, _, h3, _⟩⟩ := h
  · exact ⟨_, _, h.1.trans (by rw [h.2]), Nat.le_refl _⟩
  · exact ⟨_, _, e1, h3⟩
theorem rowAt_cells {W : World} {ad : Addr} {ys : List Value} (hr : RowAt W (some ad) ys) : ∀ j u, ys[j]? = some u → W.cell? (ad.add j) = some u := fun j u hu => by
  obtain ⟨hj, rfl⟩ := List.getElem?_eq_some_iff.1 hu
  obtain ⟨b, off, e, hb, hc⟩ := hr (by intro h0; rw [h0] at hj; simp at hj)
  injection e with e
  subst e
  have e : (⟨b, off, none⟩ : Addr).add j = ⟨b, off + j, none⟩ := by unfold Addr.add; split <;> simp_all
  rw [e]
  exact hc j hj

/-- an append of a row that can be read onto a row of the call's own -/
theorem app_run (W : World) (base : Nat) (T ty e : TypeId) (z : Value) (size bytes : Nat) (ht : Try.prog.underlying T = some (.slice e)) (hinfo : (Try.prog.info? e).map (fun i => (i.zero, i.size, i.bytes)) = some (some z, size, bytes)) (hzs : z.cells.size = size) (hsz : 0 < size)
    (v : Value) (n : Nat) (xs : List Value) (hown : W.ownsRow base e size v n xs) (A : Option Addr) (m c : Nat) (ys : List Value) (hys : ys.length = m * size) (hr : RowAt W A ys) (h1 : ∀ u ∈ ys, u.oneCell' = true)
    (h63 : n + m ≤ maxLen) (hbytes : (n + m) * bytes ≤ 140737488355328) (hb : base ≤ W.heap.size) :
    ∃ v' w', (Builtin.append_ #[T, T] ty #[v, .slice A m c]).run Try.prog W = .ok v' w' ∧ w'.ownsRow base e size v' (n + m) (xs ++ ys) ∧ W.grownBy w' v.ownBlock ∧ (v'.ownBlock = v.ownBlock ∨ v'.ownBlock = some W.heap.size) := by
  obtain ⟨i0, hi, hz0, hz1, hz2⟩ := info_parts hinfo
  cases A with
  | none =>
    have hy : ys = [] := by
      cases ys with
      | nil => rfl
      | cons x r =>
        obtain ⟨b, off, e, _⟩ := hr (by simp)
        cases e
    subst hy
    have hm : m = 0 := by
      have : m * size = 0 := by simpa using hys.symm
      rcases Nat.mul_eq_zero.1 this with h | h
      · exact h
      · omega
    subst hm
    obtain ⟨A, cv, rfl, hle⟩ := own_le hown
    exact ⟨_, _, run_append_nothing W T T ty e i0 ht hi A n cv hle _ (Src.ofNil W ht c), by rw [List.append_nil]; exact hown, grownBy_self W _, .inl rfl⟩
  | some ad =>
    obtain ⟨v', w', k1, k2, k3, _, k5⟩ := run_append_own_at (P := Try.prog) W base T ty e i0 z size bytes ht hi hz0 hz1 hz2 hzs hsz v n xs hown ad m c ys hys (rowAt_cells hr) h1 h63 hbytes hb
    exact ⟨v', w', k1, k2, k3, k5⟩

/-- what such an append leaves -/
structure App (W w' : World) (base : Nat) (e : TypeId) (size : Nat) (v v' : Value) (n : Nat) (zs : List Value) : Prop where
  own : w'.ownsRow base e size v' n zs
  grown : W.grownBy w' v.ownBlock
  at_ : v'.ownBlock = v.ownBlock ∨ v'.ownBlock = some W.heap.size
section
variable {ops : Array Oper} {rest : List Oper} {o : Oper} {a : Act} {Q : Exit → Act → World → Prop}
theorem wp_app {X : World} {K : Act → World → Prop} {R : Value → World → Prop} (s x : Operand) (T : TypeId) (v y : Value) (ho : o.op = .call { callee := .builtin .append, args := #[s, x], argTypes := #[T, T] })
    (hs : a.eval s = v) (hx : a.eval x = y) (hr : ∃ v' X', (Builtin.append_ #[T, T] o.type #[v, y]).run Try.prog X = .ok v' X' ∧ R v' X')
    (h : ∀ v' X', R v' X' → K (a.put o.dst v') X') : o.wp Try.prog a X K Q := by
  obtain ⟨v', X', h1, h2⟩ := hr
  unfold Oper.wp execOp
  simp only [ho, resolve, invoke, builtin, Sem.run_bind, Sem.run_pure, Result.andThen_ok, List.map_toArray, List.map_cons, List.map_nil, hs, hx, h1]
  exact h v' X' h2
theorem wpList_app {X : World} {R : Value → World → Prop} (hgd : o.guard = none) (s x : Operand) (T : TypeId) (v y : Value) (ho : o.op = .call { callee := .builtin .append, args := #[s, x], argTypes := #[T, T] })
    (hs : a.eval s = v) (hx : a.eval x = y) (hr : ∃ v' X', (Builtin.append_ #[T, T] o.type #[v, y]).run Try.prog X = .ok v' X' ∧ R v' X')
    (h : ∀ v' X', R v' X' → wpList Try.prog ops Q rest (a.put o.dst v') X') : wpList Try.prog ops Q (o :: rest) a X :=
  wpList_plain hgd fun K hK => wp_app s x T v y ho hs hx hr (fun v' X' hc => hK _ _ (h v' X' hc))
theorem step_app {X : World} {K : Act → World → Prop} {E : Prop} {R : Value → World → Prop} (hgd : o.guard = none) (s x : Operand) (T : TypeId) (v y : Value) (ho : o.op = .call { callee := .builtin .append, args := #[s, x], argTypes := #[T, T] })
    (hs : a.eval s = v) (hx : a.eval x = y) (hr : ∃ v' X', (Builtin.append_ #[T, T] o.type #[v, y]).run Try.prog X = .ok v' X' ∧ R v' X')
    (h : ∀ v' X', R v' X' → K (a.put o.dst v') X') : if Region.wanted o (yielded ops a.tmps) = true then Oper.wp Try.prog o a X K Q else E := by
  have hw : Region.wanted o (yielded ops a.tmps) = true := by simp [Region.wanted, hgd]
  rw [if_pos hw]
  exact wp_app s x T v y ho hs hx hr h
end

/-- bytes outside a block -/
def OffB (o : Option Nat) (W : World) (v : Value) (bs : By) : Prop := ∃ A c, v = .slice A bs.length c ∧ bs.length ≤ c ∧ (bs ≠ [] → ∃ b off, A = some ⟨b, off, none⟩ ∧ o ≠ some b ∧ b < W.heap.size ∧ ∀ i (h : i < bs.length), W.cell? ⟨b, off + i, none⟩ = some (encB bs[i]))
theorem OffB.bytes {o : Option Nat} {W : World} {v : Value} {bs : By} (h : OffB o W v bs) : IsBytes W v bs := by
  obtain ⟨A, c, e, hc, hr⟩ := h
  refine ⟨A, c, e, hc, fun hn => ?_⟩
  obtain ⟨b, off, e1, _, hb, hcc⟩ := hr (by intro h0; subst h0; simp at hn)
  exact ⟨b, off, e1, hb, fun i hi => by rw [hcc i (by simpa using hi)]; simp⟩
theorem OffB.of {o : Option Nat} {W w : World} {v : Value} {bs : By} (h : IsBytes w v bs) (hb : Below w.heap.size w W) (ho : ∀ g, o = some g → w.heap.size ≤ g) : OffB o W v bs := by
  obtain ⟨A, c, e, hc, hr⟩ := h
  refine ⟨A, c, e, hc, fun hn => ?_⟩
  obtain ⟨b, off, e1, hlt, hcc⟩ := hr (by intro h0; simp at h0; exact hn h0)
  refine ⟨b, off, e1, fun h => by have := ho b h; omega, Nat.lt_of_lt_of_le hlt hb.size, fun i hi => ?_⟩
  rw [(bcell hb).1 b _ hlt, hcc i (by simpa using hi)]; simp
theorem OffB.grown {o : Option Nat} {W W' : World} {v : Value} {bs : By} (h : OffB o W v bs) (hg : W.grownBy W' o) : OffB o W' v bs := by
  obtain ⟨A, c, e, hc, hr⟩ := h
  refine ⟨A, c, e, hc, fun hn => ?_⟩
  obtain ⟨b, off, e1, hne, hlt, hcc⟩ := hr hn
  exact ⟨b, off, e1, hne, Nat.lt_of_lt_of_le hlt hg.size, fun i hi => (World.cell?_of_block (hg.block b hlt (fun e => hne e.symm))).trans (hcc i hi)⟩
theorem OffB.turn {o o' : Option Nat} {W : World} {v : Value} {bs : By} (h : OffB o W v bs) (ho : o' = o ∨ ∃ g, o' = some g ∧ W.heap.size ≤ g) : OffB o' W v bs := by
  obtain ⟨A, c, e, hc, hr⟩ := h
  refine ⟨A, c, e, hc, fun hn => ?_⟩
  obtain ⟨b, off, e1, hne, hlt, hcc⟩ := hr hn
  refine ⟨b, off, e1, ?_, hlt, hcc⟩
  rcases ho with rfl | ⟨g, rfl, hg⟩
  · exact hne
  · intro e2; injection e2 with e2; omega
theorem OffB.below {o : Option Nat} {W W' : World} {v : Value} {bs : By} (h : OffB o W v bs) (hb : Below W.heap.size W W') : OffB o W' v bs := by
  obtain ⟨A, c, e, hc, hr⟩ := h
  refine ⟨A, c, e, hc, fun hn => ?_⟩
  obtain ⟨b, off, e1, hne, hlt, hcc⟩ := hr hn
  exact ⟨b, off, e1, hne, Nat.lt_of_lt_of_le hlt hb.size, fun i hi => ((bcell hb).1 b _ hlt).trans (hcc i hi)⟩
/-- an append onto the row that the bytes lie outside of -/
theorem OffB.app {W w' : World} {base : Nat} {e : TypeId} {size n : Nat} {v v' u : Value} {zs : List Value} {bs : By} (h : OffB v.ownBlock W u bs) (ha : App W w' base e size v v' n zs) : OffB v'.ownBlock w' u bs := by
  rcases ha.at_ with e1 | e1
  · rw [e1]; exact h.grown ha.grown
  · have h2 := h.turn (o' := some W.heap.size) (.inr ⟨_, rfl, Nat.le_refl _⟩)
    rw [e1]
    obtain ⟨A, c, e, hc, hr⟩ := h
    refine ⟨A, c, e, hc, fun hn => ?_⟩
    obtain ⟨b, off, e2, hne, hlt, hcc⟩ := hr hn
    exact ⟨b, off, e2, by intro e3; injection e3 with e3; omega, Nat.lt_of_lt_of_le hlt ha.grown.size, fun i hi => (World.cell?_of_block (ha.grown.block b hlt (fun e => hne e.symm))).trans (hcc i hi)⟩
theorem OffB.one {o : Option Nat} {W : World} {v : Value} {bs : By} (h : OffB o W v bs) : v.oneCell' = true := by
  obtain ⟨A, c, rfl, _⟩ := h; rfl
theorem IsBytes.one {W : World} {v : Value} {bs : By} (h : IsBytes W v bs) : v.oneCell' = true := by
  obtain ⟨A, c, rfl, _⟩ := h; rfl

def OwnBytes (W : World) (base : Nat) (v : Value) (bs : By) : Prop := W.ownsRow base 5 1 v bs.length (bs.map encB)
theorem own_rowAt {W : World} {base : Nat} {e : TypeId} {size n : Nat} {v : Value} {xs : List Value} (h : W.ownsRow base e size v n xs) : ∃ A c, v = .slice A n c ∧ n ≤ c ∧ RowAt W A xs ∧ (∀ g, v.ownBlock = some g → xs ≠ [] → A = some ⟨g, 0, none⟩) ∧ (xs ≠ [] → ∃ g, v.ownBlock = some g) := by
  rcases id h.2 with ⟨rfl, h0⟩ | ⟨g, cap, cur, rfl, _, hg, hnc, _, _, ht⟩
  · have : xs = [] := List.eq_nil_of_length_eq_zero (by rw [h.1, h0]; simp)
    subst this; subst h0
    exact ⟨_, _, rfl, Nat.le_refl _, RowAt.nil, fun g h => by simp [Value.ownBlock] at h, fun h => absurd rfl h⟩
  · refine ⟨_, cap, rfl, hnc, fun _ => ⟨g, 0, rfl, (Array.getElem?_eq_some_iff.1 hg).1, fun i hi => ?_⟩, fun g' h _ => ?_, fun _ => ⟨g, rfl⟩⟩
    · have := World.ownsRow.cellAt h i (by rw [← h.1]; exact hi)
      rw [Nat.zero_add, this, List.getElem?_eq_getElem hi]
    · have : g = g' := by simpa [Value.ownBlock] using h
      rw [this]
theorem OwnBytes.bytes {W : World} {base : Nat} {v : Value} {bs : By} (h : OwnBytes W base v bs) : IsBytes W v bs := by
  obtain ⟨A, c, e, h1, h2, _⟩ := own_rowAt h
  exact ⟨A, c, e, h1, h2⟩
theorem own_made (W : World) (e : TypeId) (size : Nat) : (W.alloc (.cells #[] e)).ownsRow W.heap.size e size (.slice (some ⟨W.heap.size, 0, none⟩) 0 0) 0 [] :=
  World.ownsRow_made W #[] 0 (Nat.le_refl _) (by unfold maxLen; omega) (by simp)

/-- sectors of the call's own -/
def OwnSs (W : World) (base : Nat) (v : Value) (ss : List By) : Prop := ∃ vs, vs.length = ss.length ∧ W.ownsRow base 35 1 v ss.length vs ∧ ∀ i (h : i < vs.length) (h' : i < ss.length), OffB v.ownBlock W vs[i] ss[i]
theorem OwnSs.is {W : World} {base : Nat} {v : Value} {ss : List By} (h : OwnSs W base v ss) : IsBs W v ss := by
  obtain ⟨vs, hl, ho, hi⟩ := h
  obtain ⟨A, c, e, h1, h2, _⟩ := own_rowAt ho
  exact ⟨A, c, vs, e, h1, hl, h2, fun i h h' => (hi i h h').bytes⟩
theorem OwnSs.below {W W' : World} {base : Nat} {v : Value} {ss : List By} (h : OwnSs W base v ss) (hb : Below W.heap.size W W') : OwnSs W' base v ss := by
  obtain ⟨vs, hl, ho, hi⟩ := h
  exact ⟨vs, hl, row_below ho hb, fun i h h' => (hi i h h').below hb⟩
theorem OwnSs.form {W : World} {base : Nat} {v : Value} {ss : List By} (h : OwnSs W base v ss) (hn : 0 < ss.length) : ∃ g cap, v = .slice (some ⟨g, 0, none⟩) ss.length cap ∧ base ≤ g ∧ g < W.heap.size := by
  obtain ⟨vs, hl, ho, hi⟩ := h
  exact own_form ho hn
theorem OwnSs.cell {W : World} {base g n c : Nat} {ss : List By} (h : OwnSs W base (.slice (some ⟨g, 0, none⟩) n c) ss) {k : Nat} (hk : k < ss.length) : ∃ A c', W.cell? ⟨g, k, none⟩ = some (.slice A ss[k].length c') ∧ IsBytes W (.slice A ss[k].length c') ss[k] := by
  obtain ⟨vs, hl, ho, hi⟩ := h
  have hk' : k < vs.length := by omega
  have h2 := (hi k hk' hk).bytes
  obtain ⟨A, c', e, _⟩ := id h2
  obtain ⟨A0, c0, e0⟩ := own_slice ho
  injection e0 with _ e0 _
  subst e0
  have := World.ownsRow.cellAt ho k (by omega)
  refine ⟨A, c', ?_, by rw [← e]; exact h2⟩
  rw [this, List.getElem?_eq_getElem hk', e]
theorem OwnSs.frozen {W : World} {base g n c : Nat} {ss : List By} (h : OwnSs W base (.slice (some ⟨g, 0, none⟩) n c) ss) (k : Nat) : W.frozen? ⟨g, k, none⟩ = false := by
  obtain ⟨vs, hl, ho, hi⟩ := h
  obtain ⟨A0, c0, e0⟩ := own_slice ho
  injection e0 with _ e0 _
  subst e0
  exact World.ownsRow.frozenAt ho k
theorem OwnSs.set {W : World} {base g n c : Nat} {ss : List By} (h : OwnSs W base (.slice (some ⟨g, 0, none⟩) n c) ss) (k : Nat) {u : Value} {b : By} (hu : OffB (some g) W u b) : OwnSs (W.setCell ⟨g, k, none⟩ u) base (.slice (some ⟨g, 0, none⟩) n c) (ss.set k b) := by
  obtain ⟨vs, hl, ho, hi⟩ := h
  obtain ⟨A0, c0, e0⟩ := own_slice ho
  injection e0 with _ e0 _
  subst e0
  have h1 := (World.ownsRow.stored ho k u).1
  have hg : W.grownBy (W.setCell ⟨g, k, none⟩ u) (some g) := ⟨rfl, rfl, rfl, by simp [World.setCell], fun b hb hne => Below.heap_setCell W ⟨g, k, none⟩ u b (fun e => hne (by rw [e]))⟩
  have hu2 := hu.grown hg
  refine ⟨vs.set k u, by simpa using hl, by rw [List.length_set]; exact h1, fun i h2 h3 => ?_⟩
  simp only [List.length_set] at h2 h3
  rw [List.getElem_set, List.getElem_set]
  split
  · exact hu2
  · exact (hi i h2 h3).grown hg

/-- writes of the call's own -/
def OwnWs (W : World) (base : Nat) (v : Value) (ps : List Wr) : Prop := ∃ vs, vs.length = ps.length ∧ W.ownsRow base 76 2 v ps.length (rowW ps vs) ∧ ∀ i (h : i < vs.length) (h' : i < ps.length), OffB v.ownBlock W vs[i] ps[i].data
theorem OwnWs.is {W : World} {base : Nat} {v : Value} {ps : List Wr} (h : OwnWs W base v ps) : IsWs W v ps := by
  obtain ⟨vs, hl, ho, hi⟩ := h
  obtain ⟨A, c, e, h1, h2, _⟩ := own_rowAt ho
  exact ⟨A, c, vs, e, h1, hl, h2, fun i h h' => (hi i h h').bytes⟩
theorem rowW_one {ps : List Wr} {vs : List Value} (h : ∀ v ∈ vs, v.oneCell' = true) : ∀ u ∈ rowW ps vs, u.oneCell' = true := by
  induction ps generalizing vs with
  | nil => intro u hu; simp [rowW] at hu
  | cons p ps ih =>
    cases vs with
    | nil => intro u hu; simp [rowW] at hu
    | cons v vs =>
      intro u hu
      simp only [rowW, List.mem_cons] at hu
      rcases hu with rfl | rfl | hu
      · rfl
      · exact h _ (by simp)
      · exact ih (fun v hv => h v (by simp [hv])) u hu

/-- the appends of this chapter -/
theorem appB_run {W : World} {base : Nat} (ty : TypeId) {v u : Value} {bs ys : By} (hown : OwnBytes W base v bs) (hu : IsBytes W u ys) (hlen : bs.length + ys.length ≤ 1000000000000) (hb : base ≤ W.heap.size) :
    ∃ v' w', (Builtin.append_ #[35, 35] ty #[v, u]).run Try.prog W = .ok v' w' ∧ OwnBytes w' base v' (bs ++ ys) ∧ W.grownBy w' v.ownBlock ∧ (v'.ownBlock = v.ownBlock ∨ v'.ownBlock = some W.heap.size) := by
  obtain ⟨A, c, rfl, hc, hr⟩ := hu
  obtain ⟨v', w', h1, h2, h3, h4⟩ := app_run W base 35 ty 5 _ 1 1 Try.underlying35 info5 rfl (by decide) v _ _ hown A ys.length c (ys.map encB) (by simp) hr (by intro u hu; simp only [List.mem_map] at hu; obtain ⟨y, _, rfl⟩ := hu; rfl) (by unfold maxLen; omega) (by omega) hb
  exact ⟨v', w', h1, by unfold OwnBytes; rw [List.length_append, List.map_append]; exact h2, h3, h4⟩
theorem vals_one {W : World} {ss : List By} {vs : List Value} (hl : vs.length = ss.length) (h : ∀ i (h : i < vs.length) (h' : i < ss.length), IsBytes W vs[i] ss[i]) : ∀ u ∈ vs, u.oneCell' = true := fun u hu => by
  obtain ⟨i, hi, rfl⟩ := List.getElem_of_mem hu
  exact (h i hi (by omega)).one
/-- sectors appended onto sectors: what is appended lies outside the own row -/
theorem appS_run {W : World} {base : Nat} (ty : TypeId) {v : Value} {ss ts : List By} (hown : OwnSs W base v ss) {A : Option Addr} {c : Nat} {us : List Value} (hl : us.length = ts.length) (hr : RowAt W A us) (hi : ∀ i (h : i < us.length) (h' : i < ts.length), OffB v.ownBlock W us[i] ts[i]) (hlen : ss.length + ts.length ≤ 1000000000) (hb : base ≤ W.heap.size) :
    ∃ v' w', (Builtin.append_ #[22, 22] ty #[v, .slice A ts.length c]).run Try.prog W = .ok v' w' ∧ OwnSs w' base v' (ss ++ ts) ∧ W.grownBy w' v.ownBlock ∧ (v'.ownBlock = v.ownBlock ∨ v'.ownBlock = some W.heap.size) := by
  obtain ⟨vs, hlv, ho, hiv⟩ := hown
  obtain ⟨v', w', h1, h2, h3, h4⟩ := app_run W base 22 ty 35 _ 1 24 Try.underlying22 info35 rfl (by decide) v _ _ ho A ts.length c us (by omega) hr (vals_one hl (fun i h h' => (hi i h h').bytes)) (by unfold maxLen; omega) (by omega) hb
  have ha : App W w' base 35 1 v v' (ss.length + ts.length) (vs ++ us) := ⟨h2, h3, h4⟩
  refine ⟨v', w', h1, ⟨vs ++ us, by simp [hlv, hl], by rw [List.length_append]; exact h2, fun i k1 k2 => ?_⟩, h3, h4⟩
  by_cases e : i < vs.length
  · rw [List.getElem_append_left e, List.getElem_append_left (by omega)]
    exact (hiv i e (by omega)).app ha
  · rw [List.getElem_append_right (by omega), List.getElem_append_right (by omega)]
    simp only [List.length_append] at k1
    have hx := (hi (i - vs.length) (by omega) (by omega)).app ha
    have : ts[i - ss.length]'(by omega) = ts[i - vs.length]'(by omega) := by simp only [hlv]
    rw [this]; exact hx
theorem appW_run {W : World} {base : Nat} (ty : TypeId) {v : Value} {ps qs : List Wr} (hown : OwnWs W base v ps) {A : Option Addr} {c : Nat} {us : List Value} (hl : us.length = qs.length) (hr : RowAt W A (rowW qs us)) (hi : ∀ i (h : i < us.length) (h' : i < qs.length), OffB v.ownBlock W us[i] qs[i].data) (hlen : ps.length + qs.length ≤ 1000000000) (hb : base ≤ W.heap.size) :
    ∃ v' w', (Builtin.append_ #[23, 23] ty #[v, .slice A qs.length c]).run Try.prog W = .ok v' w' ∧ OwnWs w' base v' (ps ++ qs) ∧ W.grownBy w' v.ownBlock ∧ (v'.ownBlock = v.ownBlock ∨ v'.ownBlock = some W.heap.size) := by
  obtain ⟨vs, hlv, ho, hiv⟩ := hown
  obtain ⟨v', w', h1, h2, h3, h4⟩ := app_run W base 23 ty 76 _ 2 32 Try.underlying23 info76 rfl (by decide) v _ _ ho A qs.length c (rowW qs us) (rowW_len hl) hr (rowW_one (fun u hu => by
    obtain ⟨i, hi2, rfl⟩ := List.getElem_of_mem hu
    exact (hi i hi2 (by omega)).one)) (by unfold maxLen; omega) (by omega) hb
  have ha : App W w' base 76 2 v v' (ps.length + qs.length) (rowW ps vs ++ rowW qs us) := ⟨h2, h3, h4⟩
  refine ⟨v', w', h1, ⟨vs ++ us, by simp [hlv, hl], by rw [List.length_append, rowW_append hlv]; exact h2, fun i k1 k2 => ?_⟩, h3, h4⟩
  by_cases e : i < vs.length
  · rw [List.getElem_append_left e, List.getElem_append_left (by omega)]
    exact (hiv i e (by omega)).app ha
  · rw [List.getElem_append_right (by omega), List.getElem_append_right (by omega)]
    simp only [List.length_append] at k1
    have hx := (hi (i - vs.length) (by omega) (by omega)).app ha
    have : qs[i - ps.length]'(by omega) = qs[i - vs.length]'(by omega) := by simp only [hlv]
    rw [this]; exact hx
end
section
open Go.RowKit
set_option linter.unusedVariables false
set_option linter.unusedSimpArgs false
set_option maxRecDepth 20000

theorem app_below {w X w' : World} {o : Option Nat} (hb : Below w.heap.size w X) (hg : X.grownBy w' o) (ho : ∀ g, o = some g → w.heap.size ≤ g) : Below w.heap.size w w' := hb.grown hg hb.size ho
theorem nil_of_none {w : World} {n c : Nat} {bs : By} (h : IsBytes w (.slice none n c) bs) : bs = [] := by
  obtain ⟨A, c', e, _, hr⟩ := h
  injection e with e
  subst e
  cases bs with
  | nil => rfl
  | cons x r =>
    obtain ⟨b, off, e, _⟩ := hr (by simp)
    cases e
theorem nilS_of_none {w : World} {n c : Nat} {bs : List By} (h : IsBs w (.slice none n c) bs) : bs = [] := by
  obtain ⟨A, c', vs, e, _, hl, hr, _⟩ := h
  injection e with e
  subst e
  cases bs with
  | nil => rfl
  | cons x r =>
    obtain ⟨b, off, e, _⟩ := hr (by intro h; subst h; simp at hl)
    cases e
theorem nilW_of_none {w : World} {n c : Nat} {ps : List Wr} (h : IsWs w (.slice none n c) ps) : ps = [] := by
  obtain ⟨A, c', vs, e, _, hl, hr, _⟩ := h
  injection e with e
  subst e
  cases ps with
  | nil => rfl
  | cons x r =>
    obtain ⟨b, off, e, _⟩ := hr (by
      cases vs with
      | nil => simp at hl
      | cons => simp [rowW])
    cases e
theorem ownB_made (W : World) : OwnBytes (W.alloc (.cells #[] 5)) W.heap.size (.slice (some ⟨W.heap.size, 0, none⟩) 0 0) [] := own_made W 5 1
theorem ownS_made (W : World) : OwnSs (W.alloc (.cells #[] 35)) W.heap.size (.slice (some ⟨W.heap.size, 0, none⟩) 0 0) [] := ⟨[], rfl, own_made W 35 1, fun i h => by simp at h⟩
theorem ownW_made (W : World) : OwnWs (W.alloc (.cells #[] 76)) W.heap.size (.slice (some ⟨W.heap.size, 0, none⟩) 0 0) [] := ⟨[], rfl, own_made W 76 2, fun i h => by simp at h⟩
theorem ownB_nil (W : World) (base : Nat) : OwnBytes W base (.slice none 0 0) [] := World.ownsRow_nil W base _ 1
theorem ownS_nil (W : World) (base : Nat) : OwnSs W base (.slice none 0 0) [] := ⟨[], rfl, World.ownsRow_nil W base _ 1, fun i h => by simp at h⟩
theorem ownW_nil (W : World) (base : Nat) : OwnWs W base (.slice none 0 0) [] := ⟨[], rfl, World.ownsRow_nil W base _ 2, fun i h => by simp at h⟩
theorem ownBlk {H n c : Nat} : ∀ g, (Value.slice (some ⟨H, 0, none⟩) n c).ownBlock = some g → H ≤ g := by
  intro g h; simp [Value.ownBlock] at h; omega
/-- sectors read outside of what is new -/
theorem offS {w : World} {v : Value} {ss : List By} (hv : IsBs w v ss) : ∃ A c us, v = .slice A ss.length c ∧ us.length = ss.length ∧ RowAt w A us ∧ ∀ (X : World) (o : Option Nat), Below w.heap.size w X → (∀ g, o = some g → w.heap.size ≤ g) → ∀ i (h : i < us.length) (h' : i < ss.length), OffB o X us[i] ss[i] := by
  obtain ⟨A, c, vs, e, hc, hl, hr, hi⟩ := hv
  exact ⟨A, c, vs, e, hl, hr, fun X o hX ho i h h' => OffB.of (hi i h h') hX ho⟩
theorem offW {w : World} {v : Value} {ps : List Wr} (hv : IsWs w v ps) : ∃ A c us, v = .slice A ps.length c ∧ us.length = ps.length ∧ RowAt w A (rowW ps us) ∧ ∀ (X : World) (o : Option Nat), Below w.heap.size w X → (∀ g, o = some g → w.heap.size ≤ g) → ∀ i (h : i < us.length) (h' : i < ps.length), OffB o X us[i] ps[i].data := by
  obtain ⟨A, c, vs, e, hc, hl, hr, hi⟩ := hv
  exact ⟨A, c, vs, e, hl, hr, fun X o hX ho i h h' => OffB.of (hi i h h') hX ho⟩
/-- sectors onto a row of the call's own -/
theorem appS_is {w X : World} {v u : Value} {ss ts : List By} (ty : TypeId) (hb : Below w.heap.size w X) (hu : IsBs w u ts) (hown : OwnSs X w.heap.size v ss) (hlen : ss.length + ts.length ≤ 1000000000) :
    ∃ v' w', (Builtin.append_ #[22, 22] ty #[v, u]).run Try.prog X = .ok v' w' ∧ OwnSs w' w.heap.size v' (ss ++ ts) ∧ X.grownBy w' v.ownBlock ∧ (v'.ownBlock = v.ownBlock ∨ v'.ownBlock = some X.heap.size) := by
  obtain ⟨A, c, us, rfl, hl, hr, hi⟩ := offS hu
  have hlt := hown
  obtain ⟨vs, _, ho, _⟩ := hlt
  exact appS_run ty hown hl (hr.below hb) (hi X _ hb (fun g hg => (World.ownsRow.lt ho g hg).1)) hlen hb.size
theorem appW_is {w X : World} {v u : Value} {ps qs : List Wr} (ty : TypeId) (hb : Below w.heap.size w X) (hu : IsWs w u qs) (hown : OwnWs X w.heap.size v ps) (hlen : ps.length + qs.length ≤ 1000000000) :
    ∃ v' w', (Builtin.append_ #[23, 23] ty #[v, u]).run Try.prog X = .ok v' w' ∧ OwnWs w' w.heap.size v' (ps ++ qs) ∧ X.grownBy w' v.ownBlock ∧ (v'.ownBlock = v.ownBlock ∨ v'.ownBlock = some X.heap.size) := by
  obtain ⟨A, c, us, rfl, hl, hr, hi⟩ := offW hu
  have hlt := hown
  obtain ⟨vs, _, ho, _⟩ := hlt
  exact appW_run ty hown hl (hr.below hb) (hi X _ hb (fun g hg => (World.ownsRow.lt ho g hg).1)) hlen hb.size

set_option maxHeartbeats 1000000 in
theorem cloneB_any {v : Value} {bs : By} {w : World} (hv : IsBytes w v bs) (hl : bs.length ≤ 100000000) :
    Calls Try.prog 38 #[v] w fun e w' => ∃ u, e = .returned u ∧ OwnBytes w' w.heap.size u bs ∧ Below w.heap.size w w' := by
  have HV := Lib.hid hv
  have HL := Lib.hid hl
  obtain ⟨A, cap, n, hn, rfl⟩ : ∃ A c n, n = bs.length ∧ v = .slice A n c := by
    first | (obtain ⟨A, c, e, _⟩ := hv; exact ⟨A, c, _, rfl, e⟩) | (obtain ⟨A, c, vs, e, _⟩ := hv; exact ⟨A, c, _, rfl, e⟩)
  have HN := Lib.hid hn
  clear hv hl hn
  cases A with
  | none =>
    obtain rfl := nil_of_none HV.out
    obtain rfl : n = 0 := HN.out
    have hnil : ∀ W, (binOp .eql 35 (.slice none 0 cap) (.slice none 0 0)).run Try.prog W = .ok (.bool true) W := fun _ => rfl
    go_enter Try.func38, Try.ntmps38
    go_wp2_with (fail)
    go_ret
    exact ⟨_, rfl, ownB_nil _ _, Below.refl _ _⟩
  | some ad =>
    have hnil : ∀ W, (binOp .eql 35 (.slice (some ad) n cap) (.slice none 0 0)).run Try.prog W = .ok (.bool false) W := fun _ => rfl
    go_enter Try.func38, Try.ntmps38
    go_wp2_with (at_builtin; go_must (refine wpList_app rfl (.tmp 5) (.tmp 6) 35 _ _ rfl rfl rfl (appB_run _ (ownB_made w) (HV.out.upb (al1 w _)) (by have := HL.out; simp; omega) (by simp)) ?_); rintro v1 w1 ⟨hown1, hg1, hat1⟩; have HO := Lib.hid hown1; have HB := Lib.hid (app_below (al1 w _) hg1 ownBlk); clear hown1 hg1 hat1)
    go_ret
    exact ⟨_, rfl, HO.out, HB.out⟩

set_option maxHeartbeats 1000000 in
theorem cloneS_any {v : Value} {bs : List By} {w : World} (hv : IsBs w v bs) (hl : bs.length ≤ 100000000) :
    Calls Try.prog 69 #[v] w fun e w' => ∃ u, e = .returned u ∧ OwnSs w' w.heap.size u bs ∧ Below w.heap.size w w' := by
  have HV := Lib.hid hv
  have HL := Lib.hid hl
  obtain ⟨A, cap, n, hn, rfl⟩ : ∃ A c n, n = bs.length ∧ v = .slice A n c := by
    first | (obtain ⟨A, c, e, _⟩ := hv; exact ⟨A, c, _, rfl, e⟩) | (obtain ⟨A, c, vs, e, _⟩ := hv; exact ⟨A, c, _, rfl, e⟩)
  have HN := Lib.hid hn
  clear hv hl hn
  cases A with
  | none =>
    obtain rfl := nilS_of_none HV.out
    obtain rfl : n = 0 := HN.out
    have hnil : ∀ W, (binOp .eql 22 (.slice none 0 cap) (.slice none 0 0)).run Try.prog W = .ok (.bool true) W := fun _ => rfl
    go_enter Try.func69, Try.ntmps69
    go_wp2_with (fail)
    go_ret
    exact ⟨_, rfl, ownS_nil _ _, Below.refl _ _⟩
  | some ad =>
    have hnil : ∀ W, (binOp .eql 22 (.slice (some ad) n cap) (.slice none 0 0)).run Try.prog W = .ok (.bool false) W := fun _ => rfl
    go_enter Try.func69, Try.ntmps69
    go_wp2_with (at_builtin; go_must (refine wpList_app rfl (.tmp 5) (.tmp 6) 22 _ _ rfl rfl rfl (appS_is _ (al1 w _) HV.out (ownS_made w) (by have := HL.out; simp; omega)) ?_); rintro v1 w1 ⟨hown1, hg1, hat1⟩; have HO := Lib.hid hown1; have HB := Lib.hid (app_below (al1 w _) hg1 ownBlk); clear hown1 hg1 hat1)
    go_ret
    exact ⟨_, rfl, HO.out, HB.out⟩

set_option maxHeartbeats 1000000 in
theorem cloneW_any {v : Value} {bs : List Wr} {w : World} (hv : IsWs w v bs) (hl : bs.length ≤ 100000000) :
    Calls Try.prog 53 #[v] w fun e w' => ∃ u, e = .returned u ∧ OwnWs w' w.heap.size u bs ∧ Below w.heap.size w w' := by
  have HV := Lib.hid hv
  have HL := Lib.hid hl
  obtain ⟨A, cap, n, hn, rfl⟩ : ∃ A c n, n = bs.length ∧ v = .slice A n c := by
    first | (obtain ⟨A, c, e, _⟩ := hv; exact ⟨A, c, _, rfl, e⟩) | (obtain ⟨A, c, vs, e, _⟩ := hv; exact ⟨A, c, _, rfl, e⟩)
  have HN := Lib.hid hn
  clear hv hl hn
  cases A with
  | none =>
    obtain rfl := nilW_of_none HV.out
    obtain rfl : n = 0 := HN.out
    have hnil : ∀ W, (binOp .eql 23 (.slice none 0 cap) (.slice none 0 0)).run Try.prog W = .ok (.bool true) W := fun _ => rfl
    go_enter Try.func53, Try.ntmps53
    go_wp2_with (fail)
    go_ret
    exact ⟨_, rfl, ownW_nil _ _, Below.refl _ _⟩
  | some ad =>
    have hnil : ∀ W, (binOp .eql 23 (.slice (some ad) n cap) (.slice none 0 0)).run Try.prog W = .ok (.bool false) W := fun _ => rfl
    go_enter Try.func53, Try.ntmps53
    go_wp2_with (at_builtin; go_must (refine wpList_app rfl (.tmp 5) (.tmp 6) 23 _ _ rfl rfl rfl (appW_is _ (al1 w _) HV.out (ownW_made w) (by have := HL.out; simp; omega)) ?_); rintro v1 w1 ⟨hown1, hg1, hat1⟩; have HO := Lib.hid hown1; have HB := Lib.hid (app_below (al1 w _) hg1 ownBlk); clear hown1 hg1 hat1)
    go_ret
    exact ⟨_, rfl, HO.out, HB.out⟩

theorem clip_any {A : Option Addr} {n c : Nat} {w : World} (hc : n ≤ c) (hA : A ≠ none) : Calls Try.prog 52 #[.slice A n c] w fun e w' => e = .returned (.slice A n n) ∧ w = w' := by
  obtain ⟨ad, rfl⟩ := Option.ne_none_iff_exists'.1 hA
  go_enter Try.func52, Try.ntmps52
  go_wp2
  go_ret
  exact ⟨rfl, rfl⟩
end
section
open Go.RowKit
set_option linter.unusedVariables false
set_option linter.unusedSimpArgs false
set_option maxRecDepth 20000

set_option maxHeartbeats 2000000 in
theorem perform_any {v u : Value} {ss : List By} {ps : List Wr} {w : World} (hv : IsBs w v ss) (hu : IsWs w u ps) (hn : 0 < ss.length) (hs : ss.length ≤ 4096) (hl : ps.length ≤ 4096)
    (hok : ∀ k (h : k < ps.length), 0 ≤ ps[k].at_ ∧ ps[k].at_ < (ss.length : Int)) :
    Calls Try.prog 54 #[v, u] w fun e w' => ∃ x, e = .returned x ∧ OwnSs w' w.heap.size x (Dv.put ss ps) ∧ Below w.heap.size w w' := by
  have HV := Lib.hid hv
  have HU := Lib.hid hu
  obtain ⟨A2, c2, vs, rfl, _⟩ := id hu
  have HOK := Lib.hid hok
  have HN := Lib.hid (And.intro hn hs)
  have hp4 : (ps.length : Int) ≤ 4096 := by omega
  clear hv hu hok hn hs
  go_enter Try.func54, Try.ntmps54
  go_wp2_with (fail)
  refine (cloneS_any HV.out (by have := HN.out.2; omega)).mono ?_
  rintro e w1 ⟨x, rfl, ho, hb⟩
  obtain ⟨g, cap, rfl, hg1, hg2⟩ := ho.form HN.out.1
  have HO1 := Lib.hid ho
  have HB1 := Lib.hid hb
  clear ho hb
  obtain ⟨n, hnn⟩ : ∃ n, ss.length = n := ⟨_, rfl⟩
  rw [hnn] at HO1
  have HNN := Lib.hid hnn
  simp only [hnn]
  clear hnn
  go_wp2_with (fail)
  go_loopw [12] (fun i wr => ∃ k : Nat, i = .int .i64 k ∧ k ≤ ps.length ∧ Hid (OwnSs wr w.heap.size (.slice (some ⟨g, 0, none⟩) n cap) (Dv.put ss (ps.take k))) ∧ Hid (Below w.heap.size w wr) ∧ Hid (g < wr.heap.size)) (fun i _ => ps.length - (intOf i).toNat)
  case atStart => exact ⟨0, rfl, Nat.zero_le _, HO1, HB1, Lib.hid hg2⟩
  case round =>
    obtain ⟨k, rfl, hk, HO, HB, HG⟩ := hrel
    by_cases hlt2 : k < ps.length
    · obtain ⟨b, off, A', c', rfl, hbb, hc1, hc2, hc3⟩ := ws_at HU.out hlt2
      have h1 : wr.cell? ⟨b, off + k * 2, none⟩ = some (.int .i64 ps[k].at_) := by rw [(bcell HB.out).1 b _ hbb, hc1]
      have h2 : wr.cell? ⟨b, off + k * 2 + 1, none⟩ = some (.slice A' ps[k].data.length c') := by rw [(bcell HB.out).1 b _ hbb, hc2]
      have H3 := Lib.hid hc3
      have HS := Lib.hid (Dv.put_succ hlt2 ss)
      have hr := HOK.out k hlt2
      clear hc1 hc2 hc3
      generalize ps[k] = p at *
      obtain ⟨at0, data⟩ := p
      simp only at h1 h2 H3 HS hr
      obtain ⟨m, rfl⟩ : ∃ m : Nat, at0 = m := ⟨at0.toNat, by omega⟩
      have hmn : m < n := by have := HNN.out; omega
      have hpl : m < (Dv.put ss (ps.take k)).length := by rw [Dv.put_len]; omega
      obtain ⟨v5, hcc⟩ : ∃ v5, wr.cell? ⟨g, m, none⟩ = some v5 := by obtain ⟨A5, c5, hcc, _⟩ := HO.out.cell hpl; exact ⟨_, hcc⟩
      have hff := HO.out.frozen m
      have hgw := HG.out
      have HX := Lib.hid ((HO.out.set m (OffB.of H3.out HB.out (by intro g' h; injection h with h; omega))).below (al1 _ (.cells #[.int .i64 m, .slice A' data.length c'] 76)))
      have HBX := Lib.hid ((HB.out.setCell (p := ⟨g, m, none⟩) hg1 (.slice A' data.length c')).up (al1 _ (.cells #[.int .i64 m, .slice A' data.length c'] 76)))
      clear hr hpl
      go_wp2_with (fail)
      go_roundw
      case rel => exact ⟨k + 1, by go_num, by omega, by rw [HS.out]; exact HX, HBX, Lib.hid (by have := HG.out; simp [World.setCell]; omega)⟩
      case measure => first | omega | (simp [intOf]; done) | (simp [intOf]; omega)
    · obtain rfl : k = ps.length := by omega
      go_wp2_with (fail)
      go_ret
      exact ⟨_, rfl, by have := HO.out; rwa [List.take_length] at this, HB.out⟩
end
section
open Go.RowKit
set_option linter.unusedVariables false
set_option linter.unusedSimpArgs false
set_option maxRecDepth 20000

/-- a box of four is stored whole -/
def set4 (W : World) (B : Nat) (b0 b1 b2 b3 : Value) : World := (((W.setCell ⟨B, 0, none⟩ b0).setCell ⟨B, 1, none⟩ b1).setCell ⟨B, 2, none⟩ b2).setCell ⟨B, 3, none⟩ b3
theorem Cells.set4 {W : World} {B : Nat} {a0 a1 a2 a3 : Value} (h : Cells W B 25 [a0, a1, a2, a3]) (b0 b1 b2 b3 : Value) : Cells (set4 W B b0 b1 b2 b3) B 25 [b0, b1, b2, b3] :=
  (((h.set (k := 0) b0).set (k := 1) b1).set (k := 2) b2).set (k := 3) b3
theorem below_set4 {n : Nat} {w W : World} (h : Below n w W) {B : Nat} (hB : n ≤ B) (b0 b1 b2 b3 : Value) : Below n w (set4 W B b0 b1 b2 b3) :=
  (((h.setCell (p := ⟨B, 0, none⟩) hB b0).setCell (p := ⟨B, 1, none⟩) hB b1).setCell (p := ⟨B, 2, none⟩) hB b2).setCell (p := ⟨B, 3, none⟩) hB b3
def Shown (cs : List Value) : Prop := ∃ A n c A2 n2 c2 l st, cs = [.slice A n c, .slice A2 n2 c2, .int .i64 l, .bool st]
theorem dk_out {fn : Func} {B i j : Nat} {W : World} {tmps : Array Value} {e A n c A2 n2 c2 l st} (hres : fn.results = #[.cell i 25, .tmp j]) (t4 : tmps.getD i undef = .pointer (some ⟨B, 0, none⟩)) (t5 : tmps.getD j undef = .int .i64 e)
    (h : Cells W B 25 [.slice A n c, .slice A2 n2 c2, .int .i64 l, .bool st]) : (results fn tmps).run Try.prog W = .ok (.tuple #[.agg #[.slice A n c, .slice A2 n2 c2, .int .i64 l, .bool st], .int .i64 e]) W := by
  have t4' : tmps[i]?.getD undef = .pointer (some ⟨B, 0, none⟩) := by rw [← t4]; simp
  have t5' : tmps[j]?.getD undef = .int .i64 e := by rw [← t5]; simp
  have h0 := h.cell (k := 0) rfl
  have h1 := h.cell (k := 1) rfl
  have h2 := h.cell (k := 2) rfl
  have h3 := h.cell (k := 3) rfl
  simp [results, hres, go_sem, t4', t5', h0, h1, h2, h3]
theorem dk_out1 {fn : Func} {B i : Nat} {W : World} {tmps : Array Value} {A n c A2 n2 c2 l st} (hres : fn.results = #[.cell i 25]) (t4 : tmps.getD i undef = .pointer (some ⟨B, 0, none⟩))
    (h : Cells W B 25 [.slice A n c, .slice A2 n2 c2, .int .i64 l, .bool st]) : (results fn tmps).run Try.prog W = .ok (.agg #[.slice A n c, .slice A2 n2 c2, .int .i64 l, .bool st]) W := by
  have t4' : tmps[i]?.getD undef = .pointer (some ⟨B, 0, none⟩) := by rw [← t4]; simp
  have h0 := h.cell (k := 0) rfl
  have h1 := h.cell (k := 1) rfl
  have h2 := h.cell (k := 2) rfl
  have h3 := h.cell (k := 3) rfl
  simp [results, hres, go_sem, t4', h0, h1, h2, h3]
/-- where the sectors of a result lie: where those of the argument lie, or in new blocks -/
def Sec (n : Nat) (v x : Value) : Prop := ∃ sv pv l s sv' pv' l' s', v = .agg #[sv, pv, l, s] ∧ x = .agg #[sv', pv', l', s'] ∧ (sv' = sv ∨ ∀ b off k c, sv' = .slice (some ⟨b, off, none⟩) k c → n ≤ b)
theorem sec_same {n : Nat} {sv pv l s pv' l' s' : Value} : Sec n (.agg #[sv, pv, l, s]) (.agg #[sv, pv', l', s']) := ⟨_, _, _, _, _, _, _, _, rfl, rfl, .inl rfl⟩
theorem sec_nil {n : Nat} {sv pv l s pv' l' s' : Value} {k c : Nat} : Sec n (.agg #[sv, pv, l, s]) (.agg #[.slice none k c, pv', l', s']) := ⟨_, _, _, _, _, _, _, _, rfl, rfl, .inr (fun b off k c h => by injection h with h; cases h)⟩
theorem sec_ge {n g k c o : Nat} {sv pv l s pv' l' s' : Value} (h : n ≤ g) : Sec n (.agg #[sv, pv, l, s]) (.agg #[.slice (some ⟨g, o, none⟩) k c, pv', l', s']) := ⟨_, _, _, _, _, _, _, _, rfl, rfl, .inr (fun b off k c e => by injection e with e; injection e with e; injection e with e; omega)⟩
theorem isD_mk {W : World} {A c A2 c2 l st} {ss : List By} {ps : List Wr} {n n2 : Nat} (h1 : IsBs W (.slice A n c) ss) (h2 : IsWs W (.slice A2 n2 c2) ps) : IsD W (.agg #[.slice A n c, .slice A2 n2 c2, .int .i64 l, .bool st]) ⟨ss, ps, l, st⟩ := ⟨_, _, rfl, h1, h2⟩

set_option maxHeartbeats 2000000 in
theorem Restart_any {d : Dk} {v : Value} {w : World} (hv : IsD w v d) :
    Calls Try.prog 30 #[v] w fun e w' => ∃ u, e = .returned u ∧ IsD w' u (Dv.rs d) ∧ Below w.heap.size w w' ∧ Sec w.heap.size v u := by
  obtain ⟨A, c, A2, c2, rfl, h1, h2⟩ := hv.open_
  obtain ⟨ss, ps, left, st⟩ := d
  simp only at h1 h2 ⊢
  have H1 := Lib.hid h1
  clear hv h1 h2
  go_enter Try.func30, Try.ntmps30
  go_wp2_with (fail)
  have h := Cells.new (w.alloc (.cells #[Value.slice A ss.length c, Value.slice A2 ps.length c2, Value.int IntKind.i64 left, Value.bool st] 25)) 25 [Value.slice A ss.length c, Value.slice none 0 0, Value.int IntKind.i64 (-1), Value.bool false]
  simp only [World.size_alloc] at h
  refine bodyPost_ret (dk_out1 rfl rfl h) rfl ?_
  have hb := (al1 w (.cells #[Value.slice A ss.length c, Value.slice A2 ps.length c2, Value.int IntKind.i64 left, Value.bool st] 25)).up (al1 _ (.cells [Value.slice A ss.length c, Value.slice none 0 0, Value.int IntKind.i64 (-1), Value.bool false].toArray 25))
  exact ⟨_, rfl, isD_mk (H1.out.upb hb) IsWs.nil, hb, sec_same⟩

set_option maxHeartbeats 4000000 in
theorem Stop_any {d : Dk} {v : Value} {w : World} (hv : IsD w v d) (l : Int) :
    Calls Try.prog 29 #[v, .int .i64 l] w fun e w' => ∃ u, e = .returned (.tuple #[u, .int .i64 (Dv.stE d l)]) ∧ IsD w' u (Dv.stp d l) ∧ Below w.heap.size w w' ∧ Sec w.heap.size v u := by
  have HV := Lib.hid hv
  obtain ⟨A, c, A2, c2, rfl, h1, h2⟩ := hv.open_
  obtain ⟨ss, ps, left, st⟩ := d
  simp only at HV h1 h2 ⊢
  have H1 := Lib.hid h1
  have H2 := Lib.hid h2
  clear hv h1 h2
  obtain ⟨e0, he⟩ : ∃ e, Dv.stE ⟨ss, ps, left, st⟩ l = e := ⟨_, rfl⟩
  obtain ⟨r0, hr⟩ : ∃ e, Dv.stp ⟨ss, ps, left, st⟩ l = e := ⟨_, rfl⟩
  rw [he, hr]
  have HE := Lib.hid he
  have HR := Lib.hid hr
  clear he hr
  have HX := Lib.hid ((Cells.new w 25 [Value.slice A ss.length c, Value.slice A2 ps.length c2, Value.int IntKind.i64 left, Value.bool st]).upb (al1 _ (.cells #[.slice none 0 0, .slice none 0 0, .int .i64 0, .bool false] 25)))
  have HZ := Lib.hid (Cells.new (w.alloc (.cells [Value.slice A ss.length c, Value.slice A2 ps.length c2, Value.int IntKind.i64 left, Value.bool st].toArray 25)) 25 [.slice none 0 0, .slice none 0 0, .int .i64 0, .bool false])
  have HB := Lib.hid ((al1 w (.cells [Value.slice A ss.length c, Value.slice A2 ps.length c2, Value.int IntKind.i64 left, Value.bool st].toArray 25)).up (al1 _ (.cells #[.slice none 0 0, .slice none 0 0, .int .i64 0, .bool false] 25)))
  obtain ⟨rb, hrb⟩ : ∃ b, decide (Dv.Run ⟨ss, ps, left, st⟩) = b := ⟨_, rfl⟩
  go_enter Try.func29, Try.ntmps29
  go_wp2_with (fail)
  refine (runs_is (HV.out.upb HB.out) hrb).mono ?_
  rintro e w1 ⟨rfl, b1⟩
  have HX1 := Lib.hid (HX.out.upb b1)
  have HZ1 := Lib.hid (HZ.out.upb b1)
  have HB1 := Lib.hid (HB.out.up b1)
  clear b1 HX HZ HB
  have hzw := HZ1.out.lt
  simp only [World.size_alloc] at HZ1 hzw
  have z0 := HZ1.out.cell (k := 0) rfl
  have z1 := HZ1.out.cell (k := 1) rfl
  have z2 := HZ1.out.cell (k := 2) rfl
  have z3 := HZ1.out.cell (k := 3) rfl
  have f0 := HZ1.out.frozen 0
  have f1 := HZ1.out.frozen 1
  have f2 := HZ1.out.frozen 2
  have f3 := HZ1.out.frozen 3
  have x0 := HX1.out.cell (k := 0) rfl
  have x1 := HX1.out.cell (k := 1) rfl
  have x2 := HX1.out.cell (k := 2) rfl
  have x3 := HX1.out.cell (k := 3) rfl
  have g2 := HX1.out.frozen 2
  cases rb with
  | false =>
    have hn := of_decide_eq_false hrb
    obtain rfl : e0 = 40 := by rw [← HE.out]; exact if_neg hn
    obtain rfl : r0 = d0 := by rw [← HR.out]; exact if_neg hn
    clear hrb hn
    go_wp2_with (fail)
    refine bodyPost_ret (dk_out rfl rfl rfl (HZ1.out.set4 (.slice none 0 0) (.slice none 0 0) (.int .i64 0) (.bool false))) rfl ?_
    exact ⟨_, rfl, IsD.zero, below_set4 HB1.out (by omega) _ _ _ _, sec_nil⟩
  | true =>
  have HRUN := Lib.hid (of_decide_eq_true hrb)
  clear hrb
  by_cases t1 : l < 0
  · have dt1 : decide (l < 0) = true := decide_eq_true t1
    obtain rfl : e0 = 1 := by rw [← HE.out]; unfold Dv.stE; rw [if_pos HRUN.out, if_neg (by omega)]
    obtain rfl : r0 = d0 := by rw [← HR.out]; unfold Dv.stp; rw [if_pos HRUN.out, if_neg (by omega)]
    clear t1
    go_wp2_with (fail)
    refine bodyPost_ret (dk_out rfl rfl rfl (HZ1.out.set4 (.slice none 0 0) (.slice none 0 0) (.int .i64 0) (.bool false))) rfl ?_
    exact ⟨_, rfl, IsD.zero, below_set4 HB1.out (by omega) _ _ _ _, sec_nil⟩
  have dt1 : decide (l < 0) = false := decide_eq_false t1
  by_cases t2 : 65536 < l
  · have dt2 : decide (65536 < l) = true := decide_eq_true t2
    obtain rfl : e0 = 1 := by rw [← HE.out]; unfold Dv.stE; rw [if_pos HRUN.out, if_neg (by omega)]
    obtain rfl : r0 = d0 := by rw [← HR.out]; unfold Dv.stp; rw [if_pos HRUN.out, if_neg (by omega)]
    clear t1 t2
    go_wp2_with (fail)
    refine bodyPost_ret (dk_out rfl rfl rfl (HZ1.out.set4 (.slice none 0 0) (.slice none 0 0) (.int .i64 0) (.bool false))) rfl ?_
    exact ⟨_, rfl, IsD.zero, below_set4 HB1.out (by omega) _ _ _ _, sec_nil⟩
  have dt2 : decide (65536 < l) = false := decide_eq_false t2
  obtain rfl : e0 = 0 := by rw [← HE.out]; unfold Dv.stE; rw [if_pos HRUN.out, if_pos (by omega)]
  obtain rfl : r0 = ⟨ss, ps, l, st⟩ := by rw [← HR.out]; unfold Dv.stp; rw [if_pos HRUN.out, if_pos (by omega)]
  clear t1 t2
  go_wp2_with (fail)
  have HZ2 := (HZ1.out.other (show w.heap.size + 1 ≠ w.heap.size by omega) 2 (.int .i64 l)).set4 (.slice A ss.length c) (.slice A2 ps.length c2) (.int .i64 l) (.bool st)
  refine bodyPost_ret (dk_out rfl rfl rfl HZ2) rfl ?_
  have hb := below_set4 (HB1.out.setCell (p := ⟨w.heap.size, 2, none⟩) (Nat.le_refl _) (.int .i64 l)) (show w.heap.size ≤ w.heap.size + 1 by omega) (.slice A ss.length c) (.slice A2 ps.length c2) (.int .i64 l) (.bool st)
  exact ⟨_, rfl, isD_mk (H1.out.upb hb) (H2.out.upb hb), hb, sec_same⟩

end
section
open Go.RowKit
set_option linter.unusedVariables false
set_option linter.unusedSimpArgs false
set_option maxRecDepth 20000

theorem zs_arr' (n : Nat) : madeCells #[.int .u8 0] n = ((List.replicate n (0 : UInt8)).map encB).toArray := by
  apply Array.ext
  · simp [madeCells]
  · intro i h1 h2
    simp [madeCells, Nat.mod_one, encB]
theorem zs_arr : madeCells #[.int .u8 0] 128 = (Dv.zs.map encB).toArray := zs_arr' 128
theorem make_zs : ∃ ZL : List Value, ZL = Dv.zs.map encB ∧ ∀ w : World, (Instr.makeSlice 35 (.int .i64 128) (.int .i64 128)).run Try.prog w = .ok (.slice (some ⟨w.heap.size, 0, none⟩) 128 128) (w.alloc (.cells ZL.toArray 5)) := by
  refine ⟨_, rfl, fun w => ?_⟩
  obtain ⟨i0, hi, hz0, hz1, hz2⟩ := info_parts info5
  have hb : (i0.bytes : Int) * ((128 : Nat) : Int) ≤ 281474976710656 := by rw [hz2]; omega
  have hr := run_make (P := Try.prog) w 35 5 i0 _ Try.underlying35 hi hz0 .i64 .i64 (128 : Nat) (128 : Nat) (by omega) (by omega) hb (by omega)
  simp only [Int.toNat_natCast] at hr
  have e : ((128 : Nat) : Int) = 128 := rfl
  rw [e] at hr
  rw [hr, hz1, ← zs_arr]
  rfl
theorem bytes_cells {W : World} {g : Nat} {bs : By} (h : Cells W g 5 (bs.map encB)) {n c : Nat} (hn : n = bs.length) (hc : n ≤ c) : IsBytes W (.slice (some ⟨g, 0, none⟩) n c) bs := by
  subst hn
  refine ⟨_, c, rfl, hc, fun _ => ⟨g, 0, rfl, h.lt, fun i hi => ?_⟩⟩
  rw [Nat.zero_add]
  exact h.cell (List.getElem?_eq_getElem hi)
theorem cell_new2 (w : World) (x y : Value) (t : TypeId) (j : Nat) (u : Value) (h : [x, y][j]? = some u) : (w.alloc (.cells #[x, y] t)).cell? ((⟨w.heap.size, 0, none⟩ : Addr).add j) = some u := by
  match j with
  | 0 => simp at h; subst h; simp [Addr.add]
  | 1 => simp at h; subst h; simp [Addr.add]
  | j + 2 => simp at h
theorem below_none {W w' : World} (h : W.grownBy w' none) : Below W.heap.size W w' := ⟨h.os, h.tape, h.output, h.size, fun b hb => h.block b hb (by simp)⟩

/-- one write more, onto a row that is cut to its length -/
theorem pushW_run {W : World} (ty : TypeId) {A : Option Addr} {ps : List Wr} {us : List Value} {p : Wr} {dv : Value} (hl : us.length = ps.length) (hr : RowAt W A (rowW ps us)) (hi : ∀ i (h : i < us.length) (h' : i < ps.length), IsBytes W us[i] ps[i].data)
    (hA : A = none → ps.length = 0) (hd : IsBytes W dv p.data) (hlen : ps.length ≤ 4096) :
    ∃ v' w', (Builtin.append_ #[23, 23] ty #[.slice A ps.length ps.length, .slice (some ⟨W.heap.size, 0, none⟩) 1 1]).run Try.prog (W.alloc (.cells #[.int .i64 p.at_, dv] 76)) = .ok v' w' ∧
      (IsWs w' v' (ps ++ [p]) ∧ Below W.heap.size W w' ∧ ∃ g cap, v' = .slice (some ⟨g, 0, none⟩) (ps.length + 1) cap) := by
  obtain ⟨i0, hi0, hz0, hz1, hz2⟩ := info_parts info76
  have hb := al1 W (.cells #[.int .i64 p.at_, dv] 76)
  have fin : ∀ v' w', w'.ownsRow (W.alloc (.cells #[.int .i64 p.at_, dv] 76)).heap.size 76 2 v' (ps.length + 1) (rowW ps us ++ [.int .i64 p.at_, dv]) → (W.alloc (.cells #[.int .i64 p.at_, dv] 76)).grownBy w' none →
      (IsWs w' v' (ps ++ [p]) ∧ Below W.heap.size W w' ∧ ∃ g cap, v' = .slice (some ⟨g, 0, none⟩) (ps.length + 1) cap) := fun v' w' h1 h2 => by
    have hb2 := hb.up (below_none h2)
    obtain ⟨g, cap, e, _, _⟩ := own_form h1 (by omega)
    obtain ⟨A', c', e', k1, k2, _⟩ := own_rowAt h1
    refine ⟨⟨A', c', us ++ [dv], by rw [e']; simp, by simpa using k1, by simp [hl], ?_, fun i q1 q2 => ?_⟩, hb2, g, cap, e⟩
    · rw [rowW_append hl]; exact k2
    · by_cases e : i < us.length
      · rw [List.getElem_append_left e, List.getElem_append_left (by omega)]
        exact (hi i e (by omega)).upb hb2
      · simp only [List.length_append, List.length_cons, List.length_nil] at q1
        have e2 : i = us.length := by omega
        subst e2
        have e3 : (ps ++ [p])[us.length]'q2 = p := by simp [hl]
        have e4 : (us ++ [dv])[us.length]'(by simp) = dv := by simp
        rw [e3, e4]
        exact hd.upb hb2
  have hone : ∀ u ∈ [Value.int .i64 p.at_, dv], u.oneCell' = true := by
    intro u hu
    simp at hu
    rcases hu with rfl | rfl
    · rfl
    · exact hd.one
  cases A with
  | none =>
    have h0 := hA rfl
    have hp : ps = [] := List.eq_nil_of_length_eq_zero h0
    subst hp
    obtain ⟨v', w', h1, h2, h3, _⟩ := run_append_own (P := Try.prog) _ (W.alloc (.cells #[.int .i64 p.at_, dv] 76)).heap.size 23 ty 76 i0 _ 2 32 Try.underlying23 hi0 hz0 hz1 hz2 rfl (by decide) (.slice none 0 0) 0 [] (World.ownsRow_nil _ _ 76 2) ⟨W.heap.size, 0, none⟩ 1 1 [.int .i64 p.at_, dv] rfl (cell_new2 W _ _ _) hone (by unfold maxLen; omega) (by omega) (Nat.le_refl _)
    refine ⟨v', w', h1, fin v' w' ?_ h3⟩
    have : rowW [] us = [] := by simp [rowW]
    rw [this]; exact h2
  | some b =>
    obtain ⟨v', w', h1, h2, h3⟩ := run_append_arg_grows (P := Try.prog) (W.alloc (.cells #[.int .i64 p.at_, dv] 76)) 23 ty 76 i0 _ 2 32 Try.underlying23 hi0 hz0 hz1 hz2 rfl (by decide) b ps.length ps.length (rowW ps us) (rowW_len hl) (rowAt_cells (hr.below hb)) ⟨W.heap.size, 0, none⟩ 1 1 [.int .i64 p.at_, dv] rfl (cell_new2 W _ _ _) (by omega) (by unfold maxLen; omega) (by omega)
    exact ⟨v', w', h1, fin v' w' h2 h3⟩

theorem clipN_any {A : Option Addr} {n c : Nat} {w : World} (hc : n ≤ c) (hA : A = none → n = 0) : Calls Try.prog 52 #[.slice A n c] w fun e w' => e = .returned (.slice A n n) ∧ w = w' := by
  cases A with
  | none =>
    obtain rfl := hA rfl
    go_enter Try.func52, Try.ntmps52
    go_wp2
    go_ret
    exact ⟨rfl, rfl⟩
  | some ad => exact clip_any hc (by simp)
/-- the row of an own record of writes -/
theorem OwnWs.row {W : World} {base : Nat} {v : Value} {ps : List Wr} (h : OwnWs W base v ps) : ∃ A c us, v = .slice A ps.length c ∧ ps.length ≤ c ∧ us.length = ps.length ∧ RowAt W A (rowW ps us) ∧ (∀ i (h : i < us.length) (h' : i < ps.length), IsBytes W us[i] ps[i].data) ∧ (A = none → ps.length = 0) := by
  obtain ⟨A, c, us, e, h1, h2, h3, h4⟩ := h.is
  exact ⟨A, c, us, e, h1, h2, h3, h4, fun hA => by
    subst hA
    have := nilW_of_none (w := W) (n := ps.length) (c := c) (ps := ps) (by rw [← e]; exact h.is)
    rw [this]; rfl⟩
theorem pad_splice' {b : By} (n : Nat) (h : b.length ≤ n) : splice ((List.replicate n (0 : UInt8)).map encB) 0 (b.map encB) = (b ++ List.replicate (n - b.length) 0).map encB := by
  unfold splice
  simp
theorem pad_splice {b : By} (h : b.length ≤ 128) : splice (Dv.zs.map encB) 0 (b.map encB) = (Dv.pad b).map encB := pad_splice' 128 h
end
end Go.Proofs.Ytkcnanclpkongaa
