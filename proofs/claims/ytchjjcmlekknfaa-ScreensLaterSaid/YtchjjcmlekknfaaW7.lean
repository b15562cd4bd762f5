/- Words for blocks of many cells: the question, an array of 65 ints. -/
import Derived.Test.YtchjjcmlekknfaaW6
import Derived.Deep.WholeRow
import Derived.Deep.MidRow
import Derived.Laws.ResultCell
namespace Go.Proofs.Ytchjjcmlekknfaa
open Go.RowKit
set_option linter.unusedVariables false
set_option linter.unusedSimpArgs false

/-- only block B has turned -/
structure Turn (B : Nat) (W W' : World) : Prop where
  os : W'.os = W.os
  tape : W'.tape = W.tape
  output : W'.output = W.output
  size : W'.heap.size = W.heap.size
  block : ∀ b, b ≠ B → W'.heap[b]? = W.heap[b]?
theorem Turn.below {B base : Nat} {w W W' : World} (h : Turn B W W') (hb : Below base w W) (hB : base ≤ B) : Below base w W' :=
  ⟨h.os.trans hb.os, h.tape.trans hb.tape, h.output.trans hb.output, by rw [h.size]; exact hb.size, fun b hlt => (h.block b (by omega)).trans (hb.block b hlt)⟩
theorem turn_cell (W : World) (B o : Nat) (v : Value) : Turn B W (W.setCell ⟨B, o, none⟩ v) := ⟨rfl, rfl, rfl, by simp [World.setCell], fun b hb => Below.heap_setCell W ⟨B, o, none⟩ v b hb⟩
theorem turn_row (W : World) (B : Nat) (cs : Array Value) : Turn B W (W.setRow B cs) :=
  ⟨rfl, rfl, rfl, by simp, fun b hb => by simp only [World.setRow]; rw [Array.getElem?_modify, if_neg (fun e => hb e.symm)]⟩
theorem setRow_heap (W : World) (B : Nat) (t : TypeId) (old cs : Array Value) (hg : W.heap[B]? = some (.cells old t (0, 0))) : (W.setRow B cs).heap[B]? = some (.cells cs t (0, 0)) := by
  simp only [World.setRow]; rw [Array.getElem?_modify, if_pos rfl, hg]; rfl

/-- a block of a type holds these cells -/
def Cells (W : World) (B : Nat) (t : TypeId) (cs : List Value) : Prop := W.heap[B]? = some (.cells cs.toArray t (0, 0))
theorem Cells.lt {W : World} {B : Nat} {t : TypeId} {cs : List Value} (h : Cells W B t cs) : B < W.heap.size := (Array.getElem?_eq_some_iff.1 h).1
theorem Cells.cell {W : World} {B : Nat} {t : TypeId} {cs : List Value} (h : Cells W B t cs) {k : Nat} {v : Value} (hk : cs[k]? = some v) : W.cell? ⟨B, k, none⟩ = some v := by
  rw [cell_of_row W B k cs.toArray t (0, 0) h]; simpa using hk
theorem Cells.frozen {W : World} {B : Nat} {t : TypeId} {cs : List Value} (h : Cells W B t cs) (k : Nat) : W.frozen? ⟨B, k, none⟩ = false := frozen_of_row W B k cs.toArray t h
theorem Cells.upb {W W' : World} {B : Nat} {t : TypeId} {cs : List Value} (h : Cells W B t cs) (hb : Below W.heap.size W W') : Cells W' B t cs := (hb.block B h.lt).trans h
theorem Cells.turn {W W' : World} {B B' : Nat} {t : TypeId} {cs : List Value} (h : Cells W B t cs) (hb : Turn B' W W') (hne : B ≠ B') : Cells W' B t cs := (hb.block B hne).trans h
theorem Cells.drewN {W : World} {B : Nat} {t : TypeId} {cs : List Value} (h : Cells W B t cs) (n : Nat) : Cells (W.drewN n) B t cs := h
theorem Cells.set {W : World} {B : Nat} {t : TypeId} {cs : List Value} (h : Cells W B t cs) {k : Nat} (v : Value) : Cells (W.setCell ⟨B, k, none⟩ v) B t (cs.set k v) := by
  have := heap_setCell_same W B k cs.toArray t v h
  unfold Cells; rw [this]; simp
theorem Cells.new (W : World) (t : TypeId) (cs : List Value) : Cells (W.alloc (.cells cs.toArray t)) W.heap.size t cs := heap_alloc_new W _
theorem Cells.row {W : World} {B : Nat} {t : TypeId} {cs : List Value} (h : Cells W B t cs) (cs' : List Value) : Cells (W.setRow B cs'.toArray) B t cs' := setRow_heap W B t cs.toArray cs'.toArray h

theorem Cells.range {W : World} {B : Nat} {t : TypeId} {cs : List Value} (h : Cells W B t cs) : W.rangeAt B 0 cs := fun j v hj => by rw [Nat.zero_add]; exact h.cell hj
theorem wpList_loadW {W : World} {ops : Array Oper} {rest : List Oper} {o : Oper} {a : Act} {Q : Exit → Act → World → Prop} (hgd : o.guard = none) (ty : TypeId) (x : Operand) (ho : o.op = .load ty x)
    (B : Nat) (hx : a.eval x = .pointer (some ⟨B, 0, none⟩)) (cs : List Value) (d : TypeDesc) (hg : Cells W B ty cs)
    (hu : Try.prog.underlying ty = some d) (hd : d.isRow = true) (hi : (Try.prog.info? ty).map (·.size) = some cs.length)
    (h : wpList Try.prog ops Q rest (a.put o.dst (.agg cs.toArray)) W) : wpList Try.prog ops Q (o :: rest) a W :=
  wpList_load_mid hgd ty x ho B 0 hx cs d hg.range hu hd hi h
theorem wpList_storeW {W : World} {ops : Array Oper} {rest : List Oper} {o : Oper} {a : Act} {Q : Exit → Act → World → Prop} (hgd : o.guard = none) (ty : TypeId) (x y : Operand) (ho : o.op = .store ty x y)
    (B : Nat) (hx : a.eval x = .pointer (some ⟨B, 0, none⟩)) (old cs : List Value) (hy : a.eval y = .agg cs.toArray) (hg : Cells W B ty old)
    (hi : (Try.prog.info? ty).map (·.size) = some cs.length) (hold : old.length = cs.length) (h1 : ∀ v ∈ cs, v.oneCell' = true)
    (h : ∀ W', Cells W' B ty cs → Turn B W W' → wpList Try.prog ops Q rest (a.put o.dst undef) W') : wpList Try.prog ops Q (o :: rest) a W :=
  wpList_store_row hgd ty x y ho B cs.toArray hx hy ty old.toArray hg (by simpa using hi) (by simpa using hold) (by rw [List.all_toArray, List.all_eq_true]; exact h1)
    (h _ (Cells.row hg cs) (turn_row _ _ _))
theorem loadVar_W {W : World} {B : Nat} {ty : TypeId} {cs : List Value} {d : TypeDesc} (hg : Cells W B ty cs) (hu : Try.prog.underlying ty = some d) (hd : d.isRow = true) (hi : (Try.prog.info? ty).map (·.size) = some cs.length) :
    (loadVar ty ⟨B, 0, none⟩).run Try.prog W = .ok (.agg cs.toArray) W := run_loadVar_mid W B 0 ty cs d hg.range hu hd hi

/-- the cells of a question -/
def qC (A : Option Addr) (n c : Nat) (s : List Int) (m f : Int) : List Value := .slice A n c :: (s.map (Value.int .i64) ++ [.int .i64 m, .int .i64 f])
theorem qC_len {A : Option Addr} {n c : Nat} {s : List Int} {m f : Int} (h : s.length = 65) : (qC A n c s m f).length = 68 := by simp [qC, h]
theorem qC_one {A : Option Addr} {n c : Nat} {s : List Int} {m f : Int} : ∀ v ∈ qC A n c s m f, v.oneCell' = true := by
  intro v hv
  simp [qC] at hv
  rcases hv with rfl | ⟨x, _, rfl⟩ | rfl | rfl <;> rfl
theorem qC_0 {A : Option Addr} {n c : Nat} {s : List Int} {m f : Int} : (qC A n c s m f)[0]? = some (.slice A n c) := rfl
theorem qC_sum {A : Option Addr} {n c : Nat} {s : List Int} {m f : Int} (h : s.length = 65) {k : Nat} (hk : k < 65) : (qC A n c s m f)[1 + k]? = some (.int .i64 (Sc.at_ s k)) := by
  unfold qC
  rw [Nat.add_comm 1 k, List.getElem?_cons_succ, List.getElem?_append_left (by simp [h]; exact hk), List.getElem?_map, List.getElem?_eq_getElem (by omega), at_get (by omega)]
  rfl
theorem qC_most {A : Option Addr} {n c : Nat} {s : List Int} {m f : Int} (h : s.length = 65) : (qC A n c s m f)[66]? = some (.int .i64 m) := by
  unfold qC
  rw [List.getElem?_cons_succ, List.getElem?_append_right (by simp [h])]
  simp [h]
theorem qC_flip {A : Option Addr} {n c : Nat} {s : List Int} {m f : Int} (h : s.length = 65) : (qC A n c s m f)[67]? = some (.int .i64 f) := by
  unfold qC
  rw [List.getElem?_cons_succ, List.getElem?_append_right (by simp [h])]
  simp [h]
theorem qC_set {A : Option Addr} {n c : Nat} {s : List Int} {m f : Int} (h : s.length = 65) {k : Nat} (hk : k < 65) (v : Int) : (qC A n c s m f).set (1 + k) (.int .i64 v) = qC A n c (s.set k v) m f := by
  unfold qC
  rw [Nat.add_comm 1 k, List.set_cons_succ, List.set_append_left _ _ (by simp [h]; exact hk), List.map_set]
def zer : List Int := List.replicate 65 0
def qZ : List Value := qC none 0 0 zer 0 0
theorem zer_len : zer.length = 65 := List.length_replicate ..
theorem i45 : (Try.prog.info? 45).map (·.size) = some 68 := by kernel_rfl
theorem i43 : (Try.prog.info? 43).map (·.size) = some 65 := by kernel_rfl
theorem u45 : ∃ d, Try.prog.underlying 45 = some d ∧ d.isRow = true := ⟨_, Try.underlying45, rfl⟩
theorem u43 : ∃ d, Try.prog.underlying 43 = some d ∧ d.isRow = true := ⟨_, Try.underlying43, rfl⟩
theorem zero45 (w : World) : (zeroValue 45).run Try.prog w = .ok (.agg qZ.toArray) w := (zero_of_info (n := 68) (by kernel_rfl)).1 w
theorem zero43 (w : World) : (zeroValue 43).run Try.prog w = .ok (.agg (zer.map (Value.int .i64)).toArray) w := (zero_of_info (n := 65) (by kernel_rfl)).1 w
theorem built45 (A : Option Addr) (n c : Nat) (m f : Int) : Try.prog.built 45 [(0, .slice A n c), (2, .int .i64 m), (3, .int .i64 f)] = some (qC A n c zer m f).toArray := by rfl
theorem built45z : Try.prog.built 45 [] = some qZ.toArray := by rfl
end Go.Proofs.Ytchjjcmlekknfaa
