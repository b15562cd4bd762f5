/- Walks of formed and Check. -/
import Derived.Test.YtnnddmhimnekaaaWords
import Derived.Test.YtnnddmhimnekaaaPlain2
namespace Go.Proofs.Ytnnddmhimnekaaa
open Go.RowKit
set_option linter.unusedVariables false
set_option linter.unusedSimpArgs false

def FdPost (v : Cd.Vl) (w : World) (e : Ending) (w' : World) : Prop := e = .returned (.tuple #[.int .i64 (Cd.fd v : Nat), .bool (Cd.formed v)]) ∧ Below w.heap.size w w'
theorem FdPost.no {v : Cd.Vl} {w w' : World} (h : Cd.formed v = false) (hb : Below w.heap.size w w') : FdPost v w (.returned (.tuple #[.int .i64 0, .bool false])) w' := by
  refine ⟨?_, hb⟩
  rw [h]; simp [Cd.fd, h]
theorem FdPost.yes {v : Cd.Vl} {w w' : World} {d : Int} (h : Cd.formed v = true) (hd : d = (Cd.depth v : Nat)) (hb : Below w.heap.size w w') : FdPost v w (.returned (.tuple #[.int .i64 d, .bool true])) w' := by
  refine ⟨?_, hb⟩
  rw [h, hd]; simp [Cd.fd, h]
theorem str0 (s : ByteArray) : s.toList = [] ↔ s.size = 0 := by
  rw [ByteArray.toList_eq]
  constructor
  · intro h
    show s.data.size = 0
    rw [← Array.length_toList, h]; rfl
  · intro h
    apply List.eq_nil_of_length_eq_zero
    rw [Array.length_toList]; exact h
theorem blw2 (w : World) (o o' : Obj) : Below w.heap.size w ((w.alloc o).alloc o') := ((Below.refl _ _).alloc (Nat.le_refl _) _).alloc (by simp) _


set_option maxHeartbeats 4000000 in
theorem formed_no (k n : Int) (s : ByteArray) (l : List Cd.Vl) (A : Option Addr) (c : Nat) (w : World) (h : k < 1 ∨ 3 < k) :
    Calls Try.prog 28 #[.agg #[.int .i64 k, .int .i64 n, .string s, .slice A l.length c]] w (FdPost (.mk k n s l) w) := by
  have HF := Lib.hid (Cd.formed_bad (n := n) (s := s) (l := l) h)
  rcases h with h | h <;> by_cases hn : n = 0 <;> by_cases hs : s.toList = []
  all_goals
    first
      | (have hn1 : (n == 0) = true := by simp [hn])
      | (have hn1 : (n == 0) = false := by simp [hn])
    first
      | (have hs1 : s.toList.isEmpty = true := by simp [hs])
      | (have hs1 : s.toList.isEmpty = false := by simp [hs])
    clear hn
    go_enter Try.func28, Try.ntmps28
    go_wp2_with (fail)
    go_ret2
    exact FdPost.no HF.out (blw2 _ _ _)

theorem formed1_t {n : Int} {s : ByteArray} {l : List Cd.Vl} (hs : s.toList = []) (hl : l.length = 0) : Cd.formed (.mk 1 n s l) = true := by
  rw [Cd.formed_1, List.eq_nil_of_length_eq_zero hl]; simp [(str0 s).1 hs]
theorem formed1_f {n : Int} {s : ByteArray} {l : List Cd.Vl} (h : ¬ s.toList = [] ∨ ¬ l.length = 0) : Cd.formed (.mk 1 n s l) = false := by
  rw [Cd.formed_1]
  rcases h with h | h
  · rw [str0] at h; simp [h]
  · cases l with
    | nil => simp at h
    | cons a r => simp
theorem formed2_t {n : Int} {s : ByteArray} {l : List Cd.Vl} (hn : n = 0) (hl : l.length = 0) : Cd.formed (.mk 2 n s l) = true := by
  rw [Cd.formed_2, List.eq_nil_of_length_eq_zero hl]; simp [hn]
theorem formed2_f {n : Int} {s : ByteArray} {l : List Cd.Vl} (h : ¬ n = 0 ∨ ¬ l.length = 0) : Cd.formed (.mk 2 n s l) = false := by
  rw [Cd.formed_2]
  rcases h with h | h
  · simp [h]
  · cases l with
    | nil => simp at h
    | cons a r => simp
theorem formed3_f {n : Int} {s : ByteArray} {l : List Cd.Vl} (h : ¬ n = 0 ∨ ¬ s.toList = []) : Cd.formed (.mk 3 n s l) = false := by
  rw [Cd.formed_3]
  rcases h with h | h
  · simp [h]
  · rw [str0] at h; simp [h]

set_option maxHeartbeats 4000000 in
theorem formed_leaf1 (n : Int) (s : ByteArray) (l : List Cd.Vl) (A : Option Addr) (c : Nat) (w : World) :
    Calls Try.prog 28 #[.agg #[.int .i64 1, .int .i64 n, .string s, .slice A l.length c]] w (FdPost (.mk 1 n s l) w) := by
  have HD := Lib.hid (Cd.depth_0 n s l (show (1 : Int) ≠ 3 by omega))
  by_cases hn : n = 0 <;> by_cases hs : s.toList = [] <;> by_cases hl : l.length = 0
  all_goals
    first
      | have HF := Lib.hid (formed1_t (n := n) hs hl)
      | have HF := Lib.hid (formed1_f (n := n) (.inl hs : ¬ s.toList = [] ∨ ¬ l.length = 0))
      | have HF := Lib.hid (formed1_f (n := n) (.inr hl : ¬ s.toList = [] ∨ ¬ l.length = 0))
    first
      | (have hn1 : (n == 0) = true := by simp [hn])
      | (have hn1 : (n == 0) = false := by simp [hn])
    first
      | (have hs1 : s.toList.isEmpty = true := by simp [hs])
      | (have hs1 : s.toList.isEmpty = false := by simp [hs])
    first
      | (have hl1 : ((l.length : Int) == 0) = true := by simp [hl])
      | (have hl1 : ((l.length : Int) == 0) = false := by rw [beq_eq_false_iff_ne]; omega)
    clear hn hl
    go_enter Try.func28, Try.ntmps28
    go_wp2_with (fail)
    go_ret2
    first
      | exact FdPost.no HF.out (blw2 _ _ _)
      | exact FdPost.yes HF.out (by rw [HD.out]; rfl) (blw2 _ _ _)

set_option maxHeartbeats 4000000 in
theorem formed_leaf2 (n : Int) (s : ByteArray) (l : List Cd.Vl) (A : Option Addr) (c : Nat) (w : World) :
    Calls Try.prog 28 #[.agg #[.int .i64 2, .int .i64 n, .string s, .slice A l.length c]] w (FdPost (.mk 2 n s l) w) := by
  have HD := Lib.hid (Cd.depth_0 n s l (show (2 : Int) ≠ 3 by omega))
  by_cases hn : n = 0 <;> by_cases hs : s.toList = [] <;> by_cases hl : l.length = 0
  all_goals
    first
      | have HF := Lib.hid (formed2_t (s := s) hn hl)
      | have HF := Lib.hid (formed2_f (s := s) (.inl hn : ¬ n = 0 ∨ ¬ l.length = 0))
      | have HF := Lib.hid (formed2_f (s := s) (.inr hl : ¬ n = 0 ∨ ¬ l.length = 0))
    first
      | (have hn1 : (n == 0) = true := by simp [hn])
      | (have hn1 : (n == 0) = false := by simp [hn])
    first
      | (have hs1 : s.toList.isEmpty = true := by simp [hs])
      | (have hs1 : s.toList.isEmpty = false := by simp [hs])
    first
      | (have hl1 : ((l.length : Int) == 0) = true := by simp [hl])
      | (have hl1 : ((l.length : Int) == 0) = false := by rw [beq_eq_false_iff_ne]; omega)
    clear hn hl
    go_enter Try.func28, Try.ntmps28
    go_wp2_with (fail)
    go_ret2
    first
      | exact FdPost.no HF.out (blw2 _ _ _)
      | exact FdPost.yes HF.out (by rw [HD.out]; rfl) (blw2 _ _ _)

set_option maxHeartbeats 4000000 in
theorem formed_list0 (n : Int) (s : ByteArray) (l : List Cd.Vl) (A : Option Addr) (c : Nat) (w : World) (h : ¬ n = 0 ∨ ¬ s.toList = []) :
    Calls Try.prog 28 #[.agg #[.int .i64 3, .int .i64 n, .string s, .slice A l.length c]] w (FdPost (.mk 3 n s l) w) := by
  have HF := Lib.hid (formed3_f (l := l) h)
  by_cases hn : n = 0 <;> by_cases hs : s.toList = []
  · exact absurd hs (h.resolve_left (fun h => h hn))
  all_goals
    clear h
    first
      | (have hn1 : (n == 0) = true := by simp [hn])
      | (have hn1 : (n == 0) = false := by simp [hn])
    first
      | (have hs1 : s.toList.isEmpty = true := by simp [hs])
      | (have hs1 : s.toList.isEmpty = false := by simp [hs])
    clear hn
    go_enter Try.func28, Try.ntmps28
    go_wp2_with (fail)
    go_ret2
    exact FdPost.no HF.out (blw2 _ _ _)

end Go.Proofs.Ytnnddmhimnekaaa
