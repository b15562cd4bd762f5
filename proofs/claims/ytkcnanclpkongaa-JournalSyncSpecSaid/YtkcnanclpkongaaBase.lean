/- General words for memory: slices that read as lists, kept over what is new. -/
import Derived.Test.YtkcnanclpkongaaProg
import Derived.WalkKit
import Derived.WalkSpells
import Derived.WalkLawsBesides
import Derived.Lib.Hide
import Derived.Deep.QuietTactic
import Derived.BigQuiet
import Derived.OpenShut
import Derived.RangeFuncBox
import Derived.Deep.WholeRow
import Derived.Deep.MidRow
import Derived.Laws.ResultCell
namespace Go.Proofs.Ytkcnanclpkongaa
open Go.RowKit
set_option linter.unusedVariables false

def RowAt (w : World) (A : Option Addr) (cs : List Value) : Prop :=
  cs ≠ [] → ∃ b off, A = some ⟨b, off, none⟩ ∧ b < w.heap.size ∧ ∀ i (h : i < cs.length), w.cell? ⟨b, off + i, none⟩ = some cs[i]

theorem RowAt.keep {w w' : World} {A : Option Addr} {cs : List Value} (h : RowAt w A cs) (hs : w.heap.size ≤ w'.heap.size)
    (hk : ∀ b, b < w.heap.size → w'.heap[b]? = w.heap[b]?) : RowAt w' A cs := fun hn => by
  obtain ⟨b, off, e, hb, hc⟩ := h hn
  exact ⟨b, off, e, by omega, fun i hi => (World.cell?_of_block (w := w) (hk b hb)).trans (hc i hi)⟩
theorem RowAt.below {w w' : World} {A : Option Addr} {cs : List Value} (h : RowAt w A cs) (hb : Below w.heap.size w w') : RowAt w' A cs :=
  h.keep hb.size hb.block
theorem RowAt.nil {w : World} {A : Option Addr} : RowAt w A [] := fun h => absurd rfl h
theorem RowAt.at_ {w : World} {A : Option Addr} {cs : List Value} (h : RowAt w A cs) {k : Nat} (hk : k < cs.length) :
    ∃ b off, A = some ⟨b, off, none⟩ ∧ b < w.heap.size ∧ w.cell? ⟨b, off + k, none⟩ = some cs[k] := by
  obtain ⟨b, off, e, hb, hc⟩ := h (by intro h0; subst h0; simp at hk)
  exact ⟨b, off, e, hb, hc k hk⟩
theorem cell_lt {w : World} {a : Addr} {v : Value} (h : w.cell? a = some v) : a.block < w.heap.size := by
  unfold World.cell? at h
  rcases Nat.lt_or_ge a.block w.heap.size with h1 | h1
  · exact h1
  · simp [Array.getElem?_eq_none h1] at h
theorem cell_al {w : World} {a : Addr} {v : Value} (h : w.cell? a = some v) (o : Obj) : (w.alloc o).cell? a = some v := (World.cell?_alloc_lt w o a (cell_lt h)).trans h

theorem bcell {W w1 : World} (hb : Below W.heap.size W w1) : (∀ b o, b < W.heap.size → w1.cell? ⟨b, o, none⟩ = W.cell? ⟨b, o, none⟩) ∧ (∀ b o, b < W.heap.size → w1.frozen? ⟨b, o, none⟩ = W.frozen? ⟨b, o, none⟩) :=
  ⟨fun b o h => hb.cell (p := ⟨b, o, none⟩) h, fun b o h => hb.frozen (p := ⟨b, o, none⟩) h⟩

theorem _root_.Go.RowKit.Below.up {a b c : World} (h : Below a.heap.size a b) (k : Below b.heap.size b c) : Below a.heap.size a c := h.trans (k.mono h.size)
theorem below_drewN {B : Nat} {a w : World} (h : Below B a w) (n : Nat) : Below B a (w.drewN n) := ⟨h.os, h.tape, h.output, h.size, h.block⟩
theorem ret_int {k : IntKind} {a b : Int} (h : a = b) : Ending.returned (.int k a) = .returned (.int k b) := by rw [h]
theorem ret_bool {a b : Bool} (h : a = b) : Ending.returned (.bool a) = .returned (.bool b) := by rw [h]
theorem quiet_left {P : Program} {f : FuncId} {args : Array Value} {w : World} {n : Nat} {v : Value}
    (h : Calls P f args (w.drewN n) fun e w' => e = .returned v ∧ w.drewN n = w') : Calls P f args (w.drewN n) fun e w'' => e = .returned v ∧ ∃ m, w'' = w.drewN m :=
  h.mono fun _ _ ⟨he, hm⟩ => ⟨he, n, hm.symm⟩

theorem own_form {W : World} {base : Nat} {e : TypeId} {size n : Nat} {v : Value} {xs : List Value} (h : W.ownsRow base e size v n xs) (hn : 0 < n) : ∃ g cap, v = .slice (some ⟨g, 0, none⟩) n cap ∧ base ≤ g ∧ g < W.heap.size := by
  rcases h.2 with ⟨_, h0⟩ | ⟨g, cap, cur, rfl, hb, hg, _⟩
  · omega
  · exact ⟨g, cap, rfl, hb, (Array.getElem?_eq_some_iff.1 hg).1⟩
theorem own_slice {W : World} {base : Nat} {e : TypeId} {size n : Nat} {v : Value} {xs : List Value} (h : W.ownsRow base e size v n xs) : ∃ A cap, v = .slice A n cap := by
  rcases h.2 with ⟨rfl, rfl⟩ | ⟨g, cap, cur, rfl, _⟩
  · exact ⟨_, _, rfl⟩
  · exact ⟨_, _, rfl⟩
theorem boxed_below {W W' : World} {B : Nat} {t : TypeId} {v : Value} (h : Boxed W B t v) (hb : Below W.heap.size W W') : Boxed W' B t v := (hb.block B h.lt).trans h
theorem row_below {W W' : World} {base : Nat} {e : TypeId} {size n : Nat} {v : Value} {xs : List Value} (h : W.ownsRow base e size v n xs) (hb : Below W.heap.size W W') : W'.ownsRow base e size v n xs := by
  obtain ⟨h1, h2⟩ := h
  refine ⟨h1, ?_⟩
  rcases h2 with h2 | ⟨g, cap, cur, hv, hg, hh, r⟩
  · exact .inl h2
  · exact .inr ⟨g, cap, cur, hv, hg, (hb.block g (Array.getElem?_eq_some_iff.1 hh).1).trans hh, r⟩
/-- a block of a type holds these cells -/
def Cells (W : World) (B : Nat) (t : TypeId) (cs : List Value) : Prop := W.heap[B]? = some (.cells cs.toArray t (0, 0))
theorem Cells.lt {W : World} {B : Nat} {t : TypeId} {cs : List Value} (h : Cells W B t cs) : B < W.heap.size := (Array.getElem?_eq_some_iff.1 h).1
theorem Cells.cell {W : World} {B : Nat} {t : TypeId} {cs : List Value} (h : Cells W B t cs) {k : Nat} {v : Value} (hk : cs[k]? = some v) : W.cell? ⟨B, k, none⟩ = some v := by
  rw [cell_of_row W B k cs.toArray t (0, 0) h]; simpa using hk
theorem Cells.frozen {W : World} {B : Nat} {t : TypeId} {cs : List Value} (h : Cells W B t cs) (k : Nat) : W.frozen? ⟨B, k, none⟩ = false := frozen_of_row W B k cs.toArray t h
theorem Cells.upb {W W' : World} {B : Nat} {t : TypeId} {cs : List Value} (h : Cells W B t cs) (hb : Below W.heap.size W W') : Cells W' B t cs := (hb.block B h.lt).trans h
theorem Cells.drewN {W : World} {B : Nat} {t : TypeId} {cs : List Value} (h : Cells W B t cs) (n : Nat) : Cells (W.drewN n) B t cs := h
theorem Cells.set {W : World} {B : Nat} {t : TypeId} {cs : List Value} (h : Cells W B t cs) {k : Nat} (v : Value) : Cells (W.setCell ⟨B, k, none⟩ v) B t (cs.set k v) := by
  have := heap_setCell_same W B k cs.toArray t v h
  unfold Cells; rw [this]; simp
theorem Cells.other {W : World} {B : Nat} {t : TypeId} {cs : List Value} (h : Cells W B t cs) {B' : Nat} (hne : B ≠ B') (k : Nat) (v : Value) : Cells (W.setCell ⟨B', k, none⟩ v) B t cs := (Below.heap_setCell W ⟨B', k, none⟩ v B hne).trans h
theorem Cells.new (W : World) (t : TypeId) (cs : List Value) : Cells (W.alloc (.cells cs.toArray t)) W.heap.size t cs := heap_alloc_new W _
theorem al1 (w : World) (o : Obj) : Below w.heap.size w (w.alloc o) := (Below.refl _ w).alloc (Nat.le_refl _) o

/-- bytes in memory -/
abbrev By := List UInt8
def encB (c : UInt8) : Value := .int .u8 (c.toNat : Int)
def IsBytes (w : World) (v : Value) (bs : By) : Prop := ∃ A c, v = .slice A bs.length c ∧ bs.length ≤ c ∧ RowAt w A (bs.map encB)
theorem IsBytes.upb {w w' : World} {v : Value} {xs : By} (h : IsBytes w v xs) (hb : Below w.heap.size w w') : IsBytes w' v xs := by
  obtain ⟨A, c, e, hc, hr⟩ := h
  exact ⟨A, c, e, hc, hr.below hb⟩
theorem IsBytes.drewN {w : World} {v : Value} {xs : By} (h : IsBytes w v xs) (n : Nat) : IsBytes (w.drewN n) v xs := h
theorem IsBytes.nil {w : World} : IsBytes w (.slice none 0 0) [] := ⟨none, 0, rfl, Nat.le_refl _, RowAt.nil⟩
theorem bytes_at {w : World} {A : Option Addr} {n c : Nat} {xs : By} (h : IsBytes w (.slice A n c) xs) {k : Nat} (hk : k < xs.length) :
    ∃ b off, A = some ⟨b, off, none⟩ ∧ b < w.heap.size ∧ w.cell? ⟨b, off + k, none⟩ = some (.int .u8 (xs[k].toNat : Int)) := by
  obtain ⟨A', c', e, _, hr⟩ := h
  injection e with e1 e2 e3
  subst e1
  obtain ⟨b, off, e, hb, hc⟩ := hr.at_ (k := k) (by simpa using hk)
  exact ⟨b, off, e, hb, by simpa [encB] using hc⟩
theorem conv_str {X : World} {A : Option Addr} {n c : Nat} {bs : By} (h : IsBytes X (.slice A n c) bs) : (convert 35 9 (.slice A n c)).run Try.prog X = .ok (.string ⟨bs.toArray⟩) X := by
  obtain ⟨A', c', e, _, hr⟩ := h
  injection e with e1 e2 e3
  subst e1 e2 e3
  cases A with
  | none =>
    have h0 : bs = [] := by
      cases bs with
      | nil => rfl
      | cons b r =>
        obtain ⟨b', off, e, _⟩ := hr.at_ (k := 0) (by simp)
        cases e
    subst h0
    show (convert 35 9 (.slice none 0 c)).run Try.prog X = _
    rw [run_convert_bytes_string X 35 9 5 none 0 c Try.underlying35 Try.underlying5 Try.underlying9]
    rfl
  | some a =>
    refine run_convert_bytes_back X 35 9 5 a c bs Try.underlying35 Try.underlying5 Try.underlying9 (fun j hj => ?_)
    obtain ⟨b', off, e, _, hc⟩ := hr.at_ (k := j) (by simpa using hj)
    injection e with e
    subst e
    have hadd : (⟨b', off, none⟩ : Addr).add j = ⟨b', off + j, none⟩ := by unfold Addr.add; split <;> simp_all
    rw [hadd]
    simpa [encB] using hc

/-- a slice of slices of bytes -/
def IsBs (w : World) (v : Value) (ss : List By) : Prop := ∃ A c vs, v = .slice A ss.length c ∧ ss.length ≤ c ∧ vs.length = ss.length ∧ RowAt w A vs ∧ ∀ i (h : i < vs.length) (h' : i < ss.length), IsBytes w vs[i] ss[i]
theorem IsBs.upb {w w' : World} {v : Value} {ss : List By} (h : IsBs w v ss) (hb : Below w.heap.size w w') : IsBs w' v ss := by
  obtain ⟨A, c, vs, e, hc, hl, hr, hi⟩ := h
  exact ⟨A, c, vs, e, hc, hl, hr.below hb, fun i h h' => (hi i h h').upb hb⟩
theorem IsBs.drewN {w : World} {v : Value} {ss : List By} (h : IsBs w v ss) (n : Nat) : IsBs (w.drewN n) v ss := h
theorem IsBs.nil {w : World} : IsBs w (.slice none 0 0) [] := ⟨none, 0, [], rfl, Nat.le_refl _, rfl, RowAt.nil, fun i h => by simp at h⟩
theorem bs_at {w : World} {A : Option Addr} {n c : Nat} {ss : List By} (h : IsBs w (.slice A n c) ss) {k : Nat} (hk : k < ss.length) :
    ∃ b off A' c', A = some ⟨b, off, none⟩ ∧ b < w.heap.size ∧ w.cell? ⟨b, off + k, none⟩ = some (.slice A' ss[k].length c') ∧ IsBytes w (.slice A' ss[k].length c') ss[k] := by
  obtain ⟨A1, c1, vs, e, _, hl, hr, hi⟩ := h
  injection e with e1 e2 e3
  subst e1
  have hk' : k < vs.length := by omega
  obtain ⟨b, off, e, hb, hc⟩ := hr.at_ (k := k) hk'
  have hb2 := hi k hk' hk
  obtain ⟨A', c', e', _⟩ := id hb2
  rw [e'] at hc hb2
  exact ⟨b, off, A', c', e, hb, hc, hb2⟩

/-- writes that are not synced -/
structure Wr where
  at_ : Int
  data : By
deriving DecidableEq
def rowW : List Wr → List Value → List Value
  | p :: ps, v :: vs => .int .i64 p.at_ :: v :: rowW ps vs
  | _, _ => []
theorem rowW_len : ∀ {ps : List Wr} {vs : List Value}, vs.length = ps.length → (rowW ps vs).length = ps.length * 2
  | [], _, _ => by simp [rowW]
  | p :: ps, [], h => by simp at h
  | p :: ps, v :: vs, h => by
    have := rowW_len (ps := ps) (vs := vs) (by simpa using h)
    simp only [rowW, List.length_cons, this]; omega
theorem rowW_at : ∀ {ps : List Wr} {vs : List Value} {k : Nat}, vs.length = ps.length → (hk : k < ps.length) → (hk' : k < vs.length) → (rowW ps vs)[k * 2]? = some (.int .i64 ps[k].at_) ∧ (rowW ps vs)[k * 2 + 1]? = some vs[k]
  | [], _, _, _, hk, _ => by simp at hk
  | p :: ps, [], _, h, _, _ => by simp at h
  | p :: ps, v :: vs, 0, h, _, _ => by simp [rowW]
  | p :: ps, v :: vs, k + 1, h, hk, hk' => by
    have := rowW_at (ps := ps) (vs := vs) (k := k) (by simpa using h) (by simpa using hk) (by simpa using hk')
    rw [show (k + 1) * 2 = k * 2 + 1 + 1 by omega]
    simpa [rowW] using this
theorem rowW_append : ∀ {ps qs : List Wr} {vs us : List Value}, vs.length = ps.length → rowW (ps ++ qs) (vs ++ us) = rowW ps vs ++ rowW qs us
  | [], _, vs, _, h => by
    have : vs = [] := List.eq_nil_of_length_eq_zero (by simpa using h)
    subst this; simp [rowW]
  | p :: ps, _, [], _, h => by simp at h
  | p :: ps, qs, v :: vs, us, h => by
    simp only [List.cons_append, rowW, rowW_append (ps := ps) (qs := qs) (vs := vs) (us := us) (by simpa using h)]
theorem rowW_take : ∀ {ps : List Wr} {vs : List Value} (k : Nat), rowW (ps.take k) (vs.take k) = (rowW ps vs).take (k * 2)
  | _, _, 0 => by simp [rowW]
  | [], _, k + 1 => by simp [rowW]
  | p :: ps, [], k + 1 => by simp [rowW]
  | p :: ps, v :: vs, k + 1 => by
    rw [show (k + 1) * 2 = k * 2 + 1 + 1 by omega]
    simp [rowW, rowW_take (ps := ps) (vs := vs) k]
def IsWs (w : World) (v : Value) (ps : List Wr) : Prop := ∃ A c vs, v = .slice A ps.length c ∧ ps.length ≤ c ∧ vs.length = ps.length ∧ RowAt w A (rowW ps vs) ∧ ∀ i (h : i < vs.length) (h' : i < ps.length), IsBytes w vs[i] ps[i].data
theorem IsWs.upb {w w' : World} {v : Value} {ps : List Wr} (h : IsWs w v ps) (hb : Below w.heap.size w w') : IsWs w' v ps := by
  obtain ⟨A, c, vs, e, hc, hl, hr, hi⟩ := h
  exact ⟨A, c, vs, e, hc, hl, hr.below hb, fun i h h' => (hi i h h').upb hb⟩
theorem IsWs.drewN {w : World} {v : Value} {ps : List Wr} (h : IsWs w v ps) (n : Nat) : IsWs (w.drewN n) v ps := h
theorem IsWs.nil {w : World} : IsWs w (.slice none 0 0) [] := ⟨none, 0, [], rfl, Nat.le_refl _, rfl, RowAt.nil, fun i h => by simp at h⟩
theorem ws_at {w : World} {A : Option Addr} {n c : Nat} {ps : List Wr} (h : IsWs w (.slice A n c) ps) {k : Nat} (hk : k < ps.length) :
    ∃ b off A' c', A = some ⟨b, off, none⟩ ∧ b < w.heap.size ∧ w.cell? ⟨b, off + k * 2, none⟩ = some (.int .i64 ps[k].at_) ∧ w.cell? ⟨b, off + k * 2 + 1, none⟩ = some (.slice A' ps[k].data.length c') ∧ IsBytes w (.slice A' ps[k].data.length c') ps[k].data := by
  obtain ⟨A1, c1, vs, e, _, hl, hr, hi⟩ := h
  injection e with e1 e2 e3
  subst e1
  have hk' : k < vs.length := by omega
  obtain ⟨h1, h2⟩ := rowW_at hl hk hk'
  have hn := rowW_len hl
  obtain ⟨b, off, e, hb, hc⟩ := hr.at_ (k := k * 2) (by omega)
  obtain ⟨b', off', e', _, hc'⟩ := hr.at_ (k := k * 2 + 1) (by omega)
  rw [e] at e'
  injection e' with e'
  injection e' with e1 e2
  subst e1 e2
  rw [← List.getElem?_eq_getElem (by omega), h1] at hc
  rw [← List.getElem?_eq_getElem (by omega), h2] at hc'
  have hb2 := hi k hk' hk
  obtain ⟨A', c', e', _⟩ := id hb2
  rw [e'] at hc' hb2
  exact ⟨b, off, A', c', e, hb, hc, hc', hb2⟩

/-- a disk -/
structure Dk where
  ss : List By
  ps : List Wr
  left : Int
  st : Bool
deriving DecidableEq
def IsD (w : World) (v : Value) (d : Dk) : Prop := ∃ sv pv, v = .agg #[sv, pv, .int .i64 d.left, .bool d.st] ∧ IsBs w sv d.ss ∧ IsWs w pv d.ps
theorem IsD.upb {w w' : World} {v : Value} {d : Dk} (h : IsD w v d) (hb : Below w.heap.size w w') : IsD w' v d := by
  obtain ⟨sv, pv, e, h1, h2⟩ := h
  exact ⟨sv, pv, e, h1.upb hb, h2.upb hb⟩
theorem IsD.open_ {w : World} {v : Value} {d : Dk} (h : IsD w v d) : ∃ A c A2 c2, v = .agg #[.slice A d.ss.length c, .slice A2 d.ps.length c2, .int .i64 d.left, .bool d.st] ∧ IsBs w (.slice A d.ss.length c) d.ss ∧ IsWs w (.slice A2 d.ps.length c2) d.ps := by
  obtain ⟨sv, pv, e, h1, h2⟩ := h
  obtain ⟨A, c, vs, rfl, h1'⟩ := id h1
  obtain ⟨A2, c2, vs2, rfl, h2'⟩ := id h2
  exact ⟨A, c, A2, c2, e, h1, h2⟩
def d0 : Dk := ⟨[], [], 0, false⟩
theorem IsD.zero {w : World} : IsD w (.agg #[.slice none 0 0, .slice none 0 0, .int .i64 0, .bool false]) d0 := ⟨_, _, rfl, IsBs.nil, IsWs.nil⟩

end Go.Proofs.Ytkcnanclpkongaa
