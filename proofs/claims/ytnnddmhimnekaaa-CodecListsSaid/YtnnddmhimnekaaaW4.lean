/- Walks of the writers of integers and texts. -/
import Derived.Test.YtnnddmhimnekaaaW3
import Derived.Deep.RegionHeld3
namespace Go.Proofs.Ytnnddmhimnekaaa
open Go.RowKit
set_option linter.unusedVariables false
set_option linter.unusedSimpArgs false

/-- block h holds a value's four cells -/
def Four (X : World) (h : Nat) (a b c d : Value) : Prop := X.heap[h]? = some (.cells #[a, b, c, d] 24 (0, 0))
theorem Four.new (W : World) (a b c d : Value) : Four (W.alloc (.cells #[a, b, c, d] 24)) W.heap.size a b c d := World.alloc_heap_new W _
theorem Four.lt {X : World} {h : Nat} {a b c d : Value} (k : Four X h a b c d) : h < X.heap.size := (Array.getElem?_eq_some_iff.1 k).1
theorem Four.alloc {X : World} {h : Nat} {a b c d : Value} (k : Four X h a b c d) (o : Obj) : Four (X.alloc o) h a b c d := (Below.heap_alloc X o h k.lt).trans k
theorem Four.drew {X : World} {h : Nat} {a b c d : Value} (k : Four X h a b c d) : Four X.drew h a b c d := k
theorem Four.drewN {X : World} {h : Nat} {a b c d : Value} (k : Four X h a b c d) (n : Nat) : Four (X.drewN n) h a b c d := k
theorem Four.under {X X' : World} {h : Nat} {a b c d : Value} (k : Four X h a b c d) (hb : Below X.heap.size X X') : Four X' h a b c d := (hb.block h k.lt).trans k
theorem Four.cat {X X' : World} {h : Nat} {a b c d : Value} {base : Nat} {v v' : Value} {bs bs0 : List UInt8} (k : Four X h a b c d) (hc : Cat X X' base v v' bs) (h0 : OwnBytes X base v bs0) : Four X' h a b c d := hc.keep h0 k (by decide)
theorem Four.c0 {X : World} {h : Nat} {a b c d : Value} (k : Four X h a b c d) : X.cell? ⟨h, 0, none⟩ = some a := by simp [World.cell?, show X.heap[h]? = _ from k]
theorem Four.c1 {X : World} {h : Nat} {a b c d : Value} (k : Four X h a b c d) : X.cell? ⟨h, 1, none⟩ = some b := by simp [World.cell?, show X.heap[h]? = _ from k]
theorem Four.c2 {X : World} {h : Nat} {a b c d : Value} (k : Four X h a b c d) : X.cell? ⟨h, 2, none⟩ = some c := by simp [World.cell?, show X.heap[h]? = _ from k]
theorem Four.c3 {X : World} {h : Nat} {a b c d : Value} (k : Four X h a b c d) : X.cell? ⟨h, 3, none⟩ = some d := by simp [World.cell?, show X.heap[h]? = _ from k]
theorem Four.f0 {X : World} {h : Nat} {a b c d : Value} (k : Four X h a b c d) (i : Nat) : X.frozen? ⟨h, i, none⟩ = false := by simp [World.frozen?, show X.heap[h]? = _ from k]
theorem four1 {X : World} {h : Nat} {a b c d : Value} (k : Four X h a b c d) : Hid (Four X h a b c d) ∧ X.cell? ⟨h, 1, none⟩ = some b := ⟨k, k.c1⟩
theorem four2 {X : World} {h : Nat} {a b c d : Value} (k : Four X h a b c d) : Hid (Four X h a b c d) ∧ X.cell? ⟨h, 2, none⟩ = some c := ⟨k, k.c2⟩
theorem four3 {X : World} {h : Nat} {a b c d : Value} (k : Four X h a b c d) : Hid (Four X h a b c d) ∧ X.cell? ⟨h, 3, none⟩ = some d := ⟨k, k.c3⟩

theorem lit_next (W : World) (o : Obj) (c : UInt8) (n : Int) (hn : (c.toNat : Int) = n) : IsBytes ((W.alloc o).alloc (.cells #[.int .u8 n] 5)) (.slice (some ⟨W.heap.size + 1, 0, none⟩) 1 1) [c] := by
  have := bytes_lit (W.alloc o) [c] 1 #[.int .u8 n] rfl (by rw [← hn]; rfl) (by simp)
  simpa using this
theorem bytes_drewN {w : World} {v : Value} {bs : List UInt8} (h : IsBytes w v bs) (n : Nat) : IsBytes (w.drewN n) v bs := h

set_option maxRecDepth 100000 in
set_option maxHeartbeats 2000000 in
theorem write1_any (b : Value) (bs : List UInt8) (k n : Int) (s : ByteArray) (A : Option Addr) (m c : Nat) (base : Nat) (W : World) (hO : OwnBytes W base b bs) (hb : base ≤ W.heap.size) (hl : bs.length ≤ 274877906944) (h1 : -9223372036854775808 ≤ n) (h2 : n ≤ 9223372036854775807) :
    Calls Try.prog 37 #[b, .agg #[.int .i64 k, .int .i64 n, .string s, .slice A m c]] W (NuPost W base b (bs ++ 1 :: Cd.digits (Cd.uns n))) := by
  have HO := Lib.hid hO
  obtain ⟨Ab, cb, rfl⟩ := ownB_slice hO
  clear hO
  have HU := Lib.hid (uns_lt h1 h2)
  have HF := Lib.hid (Four.new W (.int .i64 k) (.int .i64 n) (.string s) (.slice A m c))
  have hc1 := HF.out.c1
  go_enter Try.func37, Try.ntmps37
  go_wp2_with (fail)
  go_region_held3 (fun X => Hid (Four X W.heap.size (.int .i64 k) (.int .i64 n) (.string s) (.slice A m c)) ∧ X.cell? ⟨W.heap.size, 1, none⟩ = some (.int .i64 n))
    (first
      | exact four1 hKn.out
      | exact four1 (HF.out.alloc _).drew
      | exact four1 HF.out.drew)
    (first
      | (refine step_cat (by rfl) (.tmp 5) (.tmp 6) 27 _ (by rfl) (by rfl) (by rfl) (run_catB _ (ownB_drewN (ownB_alloc (ownB_alloc HO.out _) _) 1) (bytes_drewN (lit_next W _ 1 1 rfl) 1) (by simp; omega) (by simp; omega)) ?_
         intro v1 X1 hc1
         have HC1 := Lib.hid hc1
         have hKn := Lib.hid ((HF.out.alloc _).drew.cat hc1 (ownB_drewN (ownB_alloc (ownB_alloc HO.out _) _) 1))
         clear hc1)
      | (go_at_call 39
         (with_reducible refine (unsigned_any n _ h1 h2).mono ?_)
         rintro e w' ⟨rfl, rfl⟩)
      | (go_at_call 38
         refine (numeral_any v1 (bs ++ [1]) (Cd.uns n) base _ HC1.out.own HU.out ?_ ?_).mono ?_
         · exact Nat.le_trans (by simp; omega) HC1.out.grown.size
         · simp; omega
         rintro e X2 ⟨v2, rfl, hc2⟩
         have HC2 := Lib.hid hc2
         have hKn := Lib.hid (hKn.out.cat hc2 HC1.out.own)
         clear hc2))
  go_wp2_with (fail)
  go_ret
  refine ⟨_, rfl, ?_⟩
  have h := (HC1.out.after (below_drewN (((Below.refl _ W).alloc (Nat.le_refl _) _).alloc (by simp) _) 1)).trans HC2.out
  simpa using h

set_option maxRecDepth 100000 in
set_option maxHeartbeats 2000000 in
theorem write2_any (b : Value) (bs : List UInt8) (k n : Int) (s : ByteArray) (A : Option Addr) (m c : Nat) (base : Nat) (W : World) (hO : OwnBytes W base b bs) (hb : base ≤ W.heap.size) (hl : bs.length ≤ 274877906944) (hs : s.size ≤ 1000000) :
    Calls Try.prog 40 #[b, .agg #[.int .i64 k, .int .i64 n, .string s, .slice A m c]] W (NuPost W base b (bs ++ 2 :: (Cd.digits s.size ++ s.data.toList))) := by
  have HO := Lib.hid hO
  obtain ⟨Ab, cb, rfl⟩ := ownB_slice hO
  clear hO
  have HDL := Lib.hid (digits_len (u := s.size) (by omega))
  have HF := Lib.hid (Four.new W (.int .i64 k) (.int .i64 n) (.string s) (.slice A m c))
  have hc2 := HF.out.c2
  have hwu : IntKind.u64.wrap (s.size : Int) = (s.size : Int) := by rw [IntKind.wrap_u64]; omega
  go_enter Try.func40, Try.ntmps40
  go_wp2_with (fail)
  go_region_held3 (fun X => Hid (Four X W.heap.size (.int .i64 k) (.int .i64 n) (.string s) (.slice A m c)) ∧ X.cell? ⟨W.heap.size, 2, none⟩ = some (.string s))
    (first
      | exact four2 hKn.out
      | exact four2 (HF.out.alloc _).drew
      | exact four2 HF.out.drew)
    (first
      | (refine step_cat (by rfl) (.tmp 5) (.tmp 6) 27 _ (by rfl) (by rfl) (by rfl) (run_catB _ (ownB_drewN (ownB_alloc (ownB_alloc HO.out _) _) 1) (bytes_drewN (lit_next W _ 2 2 rfl) 1) (by simp; omega) (by simp; omega)) ?_
         intro v1 X1 hc1
         have HC1 := Lib.hid hc1
         have hKn := Lib.hid ((HF.out.alloc _).drew.cat hc1 (ownB_drewN (ownB_alloc (ownB_alloc HO.out _) _) 1))
         clear hc1)
      | (go_at_call 38
         refine (numeral_any v1 (bs ++ [2]) s.size base _ HC1.out.own (by omega) ?_ ?_).mono ?_
         · exact Nat.le_trans (by simp; omega) HC1.out.grown.size
         · simp; omega
         rintro e X2 ⟨v2, rfl, hc2⟩
         have HC2 := Lib.hid hc2
         have hKn := Lib.hid (hKn.out.cat hc2 HC1.out.own)
         clear hc2)
      | (refine step_cat (by rfl) (.tmp 12) (.tmp 14) 9 _ (by rfl) (by rfl) (by rfl) (run_catS _ HC2.out.own s ?_ ?_) ?_
         · have := HDL.out; simp; omega
         · exact Nat.le_trans (by simp; omega) (Nat.le_trans HC1.out.grown.size HC2.out.grown.size)
         intro v3 X3 hc3
         have HC3 := Lib.hid hc3
         have hKn := Lib.hid (hKn.out.cat hc3 HC2.out.own)
         clear hc3))
  clear hwu
  go_wp2_with (fail)
  go_ret
  refine ⟨_, rfl, ?_⟩
  have h := ((HC1.out.after (below_drewN (((Below.refl _ W).alloc (Nat.le_refl _) _).alloc (by simp) _) 1)).trans HC2.out).trans HC3.out
  simpa using h

end Go.Proofs.Ytnnddmhimnekaaa
