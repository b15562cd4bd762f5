/- Scripts of steps in memory (structs of a bool and two bytes), and what an argument of that type holds. -/
import Derived.Test.YtimpnpdhhhbmgaaOpen
namespace Go.Proofs.Ytimpnpdhhhbmgaa
open Go.ChangeShapes Go.WideShapes Go.RowKit Go.Deep
set_option linter.unusedVariables false
set_option linter.unusedSimpArgs false

structure Ac where
  s : Bool
  a : UInt8
  b : UInt8
instance : Inhabited Ac := ⟨⟨false, 0, 0⟩⟩
def rowA : List Ac → List Value
  | [] => []
  | p :: ps => .bool p.s :: .int .u8 (p.a.toNat : Int) :: .int .u8 (p.b.toNat : Int) :: rowA ps
theorem rowA_len : ∀ ps : List Ac, (rowA ps).length = ps.length * 3
  | [] => rfl
  | p :: ps => by simp only [rowA, List.length_cons, rowA_len ps]; omega
theorem rowA_at : ∀ {ps : List Ac} {k : Nat} (hk : k < ps.length), (rowA ps)[k * 3]? = some (.bool ps[k].s) ∧ (rowA ps)[k * 3 + 1]? = some (.int .u8 (ps[k].a.toNat : Int)) ∧ (rowA ps)[k * 3 + 2]? = some (.int .u8 (ps[k].b.toNat : Int))
  | [], _, hk => by simp at hk
  | p :: ps, 0, hk => by simp [rowA]
  | p :: ps, k + 1, hk => by
    have := rowA_at (ps := ps) (k := k) (by simpa using hk)
    rw [show (k + 1) * 3 = k * 3 + 1 + 1 + 1 by omega]
    simpa [rowA] using this
def IsActs (w : World) (v : Value) (ps : List Ac) : Prop := ∃ A c, v = .slice A ps.length c ∧ ps.length ≤ c ∧ RowAt w A (rowA ps)
theorem IsActs.upb {w w' : World} {v : Value} {xs : List Ac} (h : IsActs w v xs) (hb : Below w.heap.size w w') : IsActs w' v xs := by
  obtain ⟨A, c, e, hc, hr⟩ := h
  exact ⟨A, c, e, hc, hr.below hb⟩
theorem acts_at {w : World} {A : Option Addr} {n c : Nat} {ps : List Ac} (h : IsActs w (.slice A n c) ps) {k : Nat} (hk : k < ps.length) :
    ∃ b off, A = some ⟨b, off, none⟩ ∧ b < w.heap.size ∧ w.cell? ⟨b, off + k * 3, none⟩ = some (.bool ps[k].s) ∧ w.cell? ⟨b, off + k * 3 + 1, none⟩ = some (.int .u8 (ps[k].a.toNat : Int)) ∧ w.cell? ⟨b, off + k * 3 + 2, none⟩ = some (.int .u8 (ps[k].b.toNat : Int)) := by
  obtain ⟨A1, c1, e, _, hr⟩ := h
  injection e with e1 e2 e3
  subst e1
  obtain ⟨h1, h2, h3⟩ := rowA_at hk
  have hn := rowA_len ps
  obtain ⟨b, off, e, hb, hc⟩ := hr (by intro h0; rw [h0] at hn; simp at hn; omega)
  subst e
  refine ⟨b, off, rfl, hb, ?_, ?_, ?_⟩
  · rw [hc (k * 3) (by omega), ← List.getElem?_eq_getElem (by omega), h1]
  · rw [Nat.add_assoc, hc (k * 3 + 1) (by omega), ← List.getElem?_eq_getElem (by omega), h2]
  · rw [Nat.add_assoc, hc (k * 3 + 2) (by omega), ← List.getElem?_eq_getElem (by omega), h3]
theorem rowA_get {ps : List Ac} (i : Nat) (h : i < (rowA ps).length) : ∃ k, ∃ hk : k < ps.length, (i = k * 3 ∧ (rowA ps)[i] = .bool ps[k].s) ∨ (i = k * 3 + 1 ∧ (rowA ps)[i] = .int .u8 (ps[k].a.toNat : Int)) ∨ (i = k * 3 + 2 ∧ (rowA ps)[i] = .int .u8 (ps[k].b.toNat : Int)) := by
  have hn := rowA_len ps
  have hk : i / 3 < ps.length := by omega
  obtain ⟨h1, h2, h3⟩ := rowA_at hk
  refine ⟨i / 3, hk, ?_⟩
  have e : i % 3 = 0 ∨ i % 3 = 1 ∨ i % 3 = 2 := by omega
  rcases e with e | e | e
  · left
    have e2 : i / 3 * 3 = i := by omega
    rw [e2, List.getElem?_eq_getElem h] at h1
    exact ⟨e2.symm, Option.some.inj h1⟩
  · right; left
    have e2 : i / 3 * 3 + 1 = i := by omega
    rw [e2, List.getElem?_eq_getElem h] at h2
    exact ⟨e2.symm, Option.some.inj h2⟩
  · right; right
    have e2 : i / 3 * 3 + 2 = i := by omega
    rw [e2, List.getElem?_eq_getElem h] at h3
    exact ⟨e2.symm, Option.some.inj h3⟩

section
variable {H : Type} {enc : TypeId × Value → H} {w : World} {base : Nat} {spare : Nat → Bool} {held : Bool}
theorem enc_u8 {z : Int} (h : (Lit.int .u8 z).wf = true) : Value.int .u8 z = .int .u8 ((UInt8.ofNat z.toNat).toNat : Int) := by
  have h5 : IntKind.u8.min ≤ z ∧ z ≤ IntKind.u8.max := by simpa [Lit.wf] using h
  have h6 : IntKind.u8.min = 0 := by rfl
  have h7 : IntKind.u8.max = 255 := by rfl
  congr 1
  rw [UInt8.toNat_ofNat']
  omega
theorem open_act {n : Nat} {cs : List Value} {x : DataW H × List MemPlace} (h : DataW.trod enc Try.prog w base spare held n 46 cs = some x) : ∃ p : Ac, cs = [.bool p.s, .int .u8 (p.a.toNat : Int), .int .u8 (p.b.toNat : Int)] := by
  obtain ⟨xs, m, _, _, hl, hxl, hf⟩ := DataW.trod_struct Try.underlying46 h
  rw [show Try.prog.cellsOf 46 = 3 by kernel_rfl] at hl
  have hxl2 : xs.length = 3 := hxl
  match cs, hl with
  | [a, b, c], _ =>
    have h0 : DataW.trod enc Try.prog w base spare held m 4 (([a, b, c].drop 0).take (Try.prog.cellsOf 4)) = xs[0]? := hf 0 _ rfl
    have h1 : DataW.trod enc Try.prog w base spare held m 5 (([a, b, c].drop 1).take (Try.prog.cellsOf 5)) = xs[1]? := hf 1 _ rfl
    have h2 : DataW.trod enc Try.prog w base spare held m 5 (([a, b, c].drop 2).take (Try.prog.cellsOf 5)) = xs[2]? := hf 2 _ rfl
    rw [show Try.prog.cellsOf 4 = 1 by kernel_rfl] at h0
    rw [show Try.prog.cellsOf 5 = 1 by kernel_rfl] at h1 h2
    rw [List.getElem?_eq_getElem (by omega)] at h0 h1 h2
    obtain ⟨q, hq, _⟩ := DataW.trod_bool Try.underlying4 h0
    obtain ⟨p, hp, _, hpw⟩ := DataW.trod_int Try.underlying5 h1
    obtain ⟨r, hr, _, hrw⟩ := DataW.trod_int Try.underlying5 h2
    simp at hp hq hr
    exact ⟨⟨q, UInt8.ofNat p.toNat, UInt8.ofNat r.toNat⟩, by rw [hq, hp, hr, enc_u8 hpw, enc_u8 hrw]⟩
theorem open_isActs {fuel : Nat} {v : Value} {x : DataW H × List MemPlace} (h : DataW.trod enc Try.prog w base spare held fuel 43 [v] = some x) :
    ∃ l : List Ac, IsActs w v l := by
  rcases open_slice Try.underlying43 h with ⟨hcs, _⟩ | ⟨a, len, cap, m, n, D, Pp, hcs, _, hl, hm, hmm, _, hi⟩
  · simp at hcs
    subst hcs
    exact ⟨[], none, 0, rfl, Nat.le_refl _, RowAt.nil⟩
  · simp at hcs
    subst hcs
    unfold maxLen at hm
    rw [show Try.prog.cellsOf 46 = 3 by kernel_rfl] at hi
    have hlm : len ≤ m := by rw [hmm]; split <;> omega
    obtain ⟨f, hf⟩ := choose_lt (α := Ac) (n := len) (p := fun i q => w.cell? (a.add (i * 3)) = some (.bool q.s) ∧ w.cell? (a.add (i * 3 + 1)) = some (.int .u8 (q.a.toNat : Int)) ∧ w.cell? (a.add (i * 3 + 2)) = some (.int .u8 (q.b.toNat : Int))) (fun i hil => by
      obtain ⟨cs', hc, ht⟩ := hi i (by omega)
      obtain ⟨p, rfl⟩ := open_act ht
      obtain ⟨_, _, hat⟩ := World.cells?_some hc
      have c0 := hat 0 (by omega)
      have c1 := hat 1 (by omega)
      have c2 := hat 2 (by omega)
      rw [Go.Deep.add_add] at c0 c1 c2
      exact ⟨p, by simpa using c0, by simpa using c1, by simpa using c2⟩)
    have hlen : ((List.range len).map f).length = len := by simp
    refine ⟨(List.range len).map f, some a, cap, by rw [hlen], by rw [hlen]; omega, rowAt_of fun i h1 => ?_⟩
    obtain ⟨k, hk, h2⟩ := rowA_get i h1
    rw [hlen] at hk
    obtain ⟨e1, e2, e3⟩ := hf k hk
    rcases h2 with ⟨rfl, h2⟩ | ⟨rfl, h2⟩ | ⟨rfl, h2⟩
    · rw [h2, e1]; simp
    · rw [h2, e2]; simp
    · rw [h2, e3]; simp
end
end Go.Proofs.Ytimpnpdhhhbmgaa
