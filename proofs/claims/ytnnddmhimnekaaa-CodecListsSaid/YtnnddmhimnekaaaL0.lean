/- Words for the walks of the statements. -/
import Derived.Test.YtnnddmhimnekaaaW26
namespace Go.Proofs.Ytnnddmhimnekaaa
open Go.RowKit
set_option linter.unusedVariables false

theorem IsV.upb {P : Nat → Prop} {w w' : World} {v : Value} {x : Cd.Vl} (h : IsV P w v x) (hb : Below w.heap.size w w') : IsV P w' v x := h.under hb
theorem IsVs.upb {P : Nat → Prop} {w w' : World} {v : Value} {l : List Cd.Vl} (h : IsVs P w v l) (hb : Below w.heap.size w w') : IsVs P w' v l := h.under hb
theorem Four.upb {X X' : World} {h : Nat} {a b c d : Value} (k : Four X h a b c d) (hb : Below X.heap.size X X') : Four X' h a b c d := k.under hb
theorem Bts.upb {w w' : World} {v : Value} {bs : List UInt8} (h : Bts w v bs) (hb : Below w.heap.size w w') : Bts w' v bs := bts_under h hb
theorem _root_.Go.RowKit.Below.upb {a b c : World} (h : Below a.heap.size a b) (k : Below b.heap.size b c) : Below a.heap.size a c := h.up k
/-- bytes that came in -/
def Inn (w : World) (v : Value) (bs : List UInt8) : Prop := InB w.heap.size w v bs
theorem Inn.upb {w w' : World} {v : Value} {bs : List UInt8} (h : Inn w v bs) (hb : Below w.heap.size w w') : Inn w' v bs := InB.up (InB.keep h hb) hb.size
theorem Inn.conv {w : World} {v : Value} {bs : List UInt8} (h : Inn w v bs) : (convert 27 9 v).run Try.prog w = .ok (.string ⟨bs.toArray⟩) w := by
  obtain ⟨A, c, rfl, _⟩ := id h
  exact conv_str (InB.bytes h (Nat.le_refl _))
theorem Bts.conv {w : World} {v : Value} {bs : List UInt8} (h : Bts w v bs) : (convert 27 9 v).run Try.prog w = .ok (.string ⟨bs.toArray⟩) w := by
  obtain ⟨A, c, rfl, _⟩ := id h.bytes
  exact conv_str h.bytes
theorem Bts.slice {w : World} {v : Value} {bs : List UInt8} (h : Bts w v bs) : ∃ A c, v = .slice A bs.length c := by
  obtain ⟨base, h⟩ := h
  exact ownB_slice h
theorem blw2' (w : World) (o o' : Obj) : Below w.heap.size w ((w.alloc o).alloc o') := (blw1 w o).up (blw1 _ o')
theorem few_all1 {v : Cd.Vl} (hr : Cd.raw v) (h : [v].all Cd.fewB = true) : Cd.fits v ∧ Cd.depth v ≤ 1000 ∧ (Cd.enc v).length ≤ 137438953472 := by
  obtain ⟨h1, h2, h3⟩ := Cd.few_ok hr (by simpa using h)
  exact ⟨h1, h2, by omega⟩
end Go.Proofs.Ytnnddmhimnekaaa
