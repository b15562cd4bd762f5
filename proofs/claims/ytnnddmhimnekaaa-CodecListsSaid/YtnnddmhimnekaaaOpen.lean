/- What the arguments of the statements hold: bytes, values, slices of values. -/
import Derived.Test.YtnnddmhimnekaaaL0
import Derived.Deep.Slices
import Derived.ChangeSame
import Derived.ProofKit
namespace Go.Proofs.Ytnnddmhimnekaaa
open Go.ChangeShapes Go.WideShapes Go.RowKit Go.Deep
set_option linter.unusedVariables false
set_option linter.unusedSimpArgs false

section
variable {H : Type} {enc : TypeId × Value → H} {w : World} {base : Nat} {spare : Nat → Bool} {held : Bool}

theorem add_plain {b off : Nat} (i : Nat) : (⟨b, off, none⟩ : Addr).add i = ⟨b, off + i, none⟩ := by
  unfold Addr.add; split <;> simp_all
theorem rowP_of {a : Addr} {cs : List Value} (h : ∀ i (hi : i < cs.length), w.cell? (a.add i) = some cs[i]) : RowP Any w (some a) cs := fun hne => by
  have hpos : 0 < cs.length := List.length_pos_iff.2 hne
  have h0 := h 0 hpos
  obtain ⟨b, off, spot⟩ := a
  cases spot with
  | some k =>
    exfalso
    unfold World.cell? at h0
    simp [Addr.add] at h0
    split at h0 <;> simp at h0
  | none =>
    refine ⟨b, off, rfl, ?_, trivial, fun i hi => ?_⟩
    · have := cell_lt h0
      rwa [add_plain] at this
    · rw [← add_plain]; exact h i hi

theorem choose_pos {α : Type} {n : Nat} {p : Nat → α → Prop} (h : ∀ i, i < n → ∃ x, p i x) : ∃ l : List α, l.length = n ∧ ∀ i (hi : i < l.length), p i l[i] := by
  induction n with
  | zero => exact ⟨[], rfl, fun i hi => by simp at hi⟩
  | succ n ih =>
    obtain ⟨l, hl, hp⟩ := ih (fun i hi => h i (by omega))
    obtain ⟨x, hx⟩ := h n (by omega)
    refine ⟨l ++ [x], by simp [hl], fun i hi => ?_⟩
    by_cases hlt : i < l.length
    · rw [List.getElem_append_left hlt]; exact hp i hlt
    · have e : i = l.length := by simp at hi; omega
      subst e
      simpa [hl] using hx

theorem flatE_get (es : List E4) (i : Nat) (h : i < (es.flatMap encE).length) : ∃ k j, ∃ hk : k < es.length, j < 4 ∧ i = k * 4 + j ∧ (encE es[k])[j]? = some (es.flatMap encE)[i] := by
  have hl := flatE_len es
  have hk : i / 4 < es.length := by omega
  obtain ⟨h0, h1, h2, h3⟩ := flatE_at es (i / 4) hk
  have hget : (es.flatMap encE)[i]? = some (es.flatMap encE)[i] := List.getElem?_eq_getElem h
  refine ⟨i / 4, i % 4, hk, by omega, by omega, ?_⟩
  rw [← hget]
  have hm : i % 4 = 0 ∨ i % 4 = 1 ∨ i % 4 = 2 ∨ i % 4 = 3 := by omega
  have key : ∀ m, i = m → (es.flatMap encE)[i]? = (es.flatMap encE)[m]? := fun m h => by rw [h]
  rcases hm with e | e | e | e
  · rw [key (i / 4 * 4) (by omega), h0, e]; rfl
  · rw [key (i / 4 * 4 + 1) (by omega), h1, e]; rfl
  · rw [key (i / 4 * 4 + 2) (by omega), h2, e]; rfl
  · rw [key (i / 4 * 4 + 3) (by omega), h3, e]; rfl

/-- what a value that can be read holds -/
theorem open_both (fuel : Nat) : (∀ (cs : List Value) (x : DataW H × List MemPlace), DataW.trod enc Try.prog w base spare held fuel 24 cs = some x → ∃ (e : E4) (v : Cd.Vl), cs = encE e ∧ IsV Any w (agE e) v ∧ Cd.raw v) ∧
    (∀ (v : Value) (x : DataW H × List MemPlace), DataW.trod enc Try.prog w base spare held fuel 22 [v] = some x → ∃ l : List Cd.Vl, IsVs Any w v l ∧ (∀ y ∈ l, Cd.raw y) ∧ l.length ≤ 9223372036854775807) := by
  induction fuel with
  | zero => exact ⟨fun cs x h => by simp [DataW.trod] at h, fun v x h => by simp [DataW.trod] at h⟩
  | succ fuel ih =>
    constructor
    · intro cs x h
      obtain ⟨xs, m, hm, _, hl, hxl, hf⟩ := DataW.trod_struct Try.underlying24 h
      obtain rfl : fuel = m := by omega
      rw [show Try.prog.cellsOf 24 = 4 by kernel_rfl] at hl
      have hxl4 : xs.length = 4 := hxl
      match cs, hl with
      | [a, b, c, d], _ =>
        have h0 : DataW.trod enc Try.prog w base spare held fuel 3 (([a, b, c, d].drop 0).take (Try.prog.cellsOf 3)) = xs[0]? := hf 0 _ rfl
        have h1 : DataW.trod enc Try.prog w base spare held fuel 3 (([a, b, c, d].drop 1).take (Try.prog.cellsOf 3)) = xs[1]? := hf 1 _ rfl
        have h2 : DataW.trod enc Try.prog w base spare held fuel 9 (([a, b, c, d].drop 2).take (Try.prog.cellsOf 9)) = xs[2]? := hf 2 _ rfl
        have h3 : DataW.trod enc Try.prog w base spare held fuel 22 (([a, b, c, d].drop 3).take (Try.prog.cellsOf 22)) = xs[3]? := hf 3 _ rfl
        rw [show Try.prog.cellsOf 3 = 1 by kernel_rfl] at h0 h1
        rw [show Try.prog.cellsOf 9 = 1 by kernel_rfl] at h2
        rw [show Try.prog.cellsOf 22 = 1 by kernel_rfl] at h3
        rw [List.getElem?_eq_getElem (by omega)] at h0 h1 h2 h3
        obtain ⟨p, hp, _, wp⟩ := DataW.trod_int Try.underlying3 h0
        obtain ⟨q, hq, _, wq⟩ := DataW.trod_int Try.underlying3 h1
        obtain ⟨s, hs, _, ws⟩ := DataW.trod_string Try.underlying9 h2
        obtain ⟨l, hv, hr, hlen⟩ := ih.2 _ _ h3
        simp at hp hq hs
        subst hp hq hs
        unfold maxLen at ws
        refine ⟨(.int .i64 p, .int .i64 q, .string s, d), .mk p q s l, rfl, IsV.of hv, Cd.raw_mk.2 ⟨hlen, by omega, bounds_i64 wq, hr⟩⟩
    · intro v x h
      rcases DataW.trod_slice Try.underlying22 h with ⟨hcs, _⟩ | ⟨a, len, cap, elems, rest, n, hn, hcs, _, _, hl, hm, hel, hi, _⟩
      · simp at hcs
        subst hcs
        exact ⟨[], IsVs.nil, by simp, by simp⟩
      · obtain rfl : fuel = n := by omega
        simp at hcs
        subst hcs
        unfold maxLen at hm
        rw [show Try.prog.cellsOf 24 = 4 by kernel_rfl] at hi
        obtain ⟨ps, hps, hp⟩ := choose_pos (α := E4 × Cd.Vl) (n := len) (p := fun i q => (∀ j u, (encE q.1)[j]? = some u → w.cell? (a.add (i * 4 + j)) = some u) ∧ IsV Any w (agE q.1) q.2 ∧ Cd.raw q.2) (fun i hil => by
          have hb := hi i hil
          rw [List.getElem?_eq_getElem (by omega)] at hb
          obtain ⟨cs', hc, ht⟩ := Option.bind_eq_some_iff.1 hb
          obtain ⟨e, v, rfl, hv, hr⟩ := ih.1 _ _ ht
          obtain ⟨_, _, hat⟩ := World.cells?_some hc
          refine ⟨(e, v), fun j u hj => ?_, hv, hr⟩
          have hj4 : j < 4 := by
            rcases Nat.lt_or_ge j 4 with h | h
            · exact h
            · rw [List.getElem?_eq_none (by simpa [encE] using h)] at hj; cases hj
          have := hat j hj4
          rw [Go.Deep.add_add] at this
          rw [this, hj])
        have hl1 : (ps.map (·.1)).length = ps.length := by simp
        refine ⟨ps.map (·.2), ⟨some a, cap, ps.map (·.1), by simp [hps], by simp, rowP_of fun i h1 => ?_, fun i h1 h2 => ?_⟩, ?_, by simp [hps]; omega⟩
        · obtain ⟨k, j, hk, hj, rfl, hg⟩ := flatE_get _ i h1
          have hk' : k < ps.length := by simpa using hk
          refine (hp k hk').1 j _ ?_
          rw [← hg]; simp
        · have hk' : i < ps.length := by simpa using h1
          simpa using (hp i hk').2.1
        · intro y hy
          obtain ⟨q, hq, rfl⟩ := List.mem_map.1 hy
          obtain ⟨k, hk, rfl⟩ := List.getElem_of_mem hq
          exact (hp k hk).2.2

theorem open_isVs {fuel : Nat} {v : Value} {x : DataW H × List MemPlace} (h : DataW.trod enc Try.prog w base spare held fuel 22 [v] = some x) :
    ∃ l : List Cd.Vl, IsVs Any w v l ∧ (∀ y ∈ l, Cd.raw y) ∧ l.length ≤ 9223372036854775807 := (open_both fuel).2 v x h

theorem open_isV {fuel : Nat} {cs : Array Value} {x : DataW H × List MemPlace} (h : DataW.trod enc Try.prog w base spare held fuel 24 (Value.agg cs).cells.toList = some x) :
    ∃ v : Cd.Vl, IsV Any w (.agg cs) v ∧ Cd.raw v := by
  obtain ⟨e, v, he, hv, hr⟩ := (open_both fuel).1 _ x h
  refine ⟨v, ?_, hr⟩
  have e1 : (.agg cs : Value) = agE e := by
    unfold agE
    congr 1
    have h2 : cs.toList = encE e := he
    rw [← Array.toList_inj, h2]; rfl
  rw [e1]; exact hv

/-- bytes that came in -/
theorem open_isB {fuel : Nat} {v : Value} {x : DataW H × List MemPlace} (h : DataW.trod enc Try.prog w base spare held fuel 27 [v] = some x) :
    ∃ bs : List UInt8, Inn w v bs ∧ bs.length ≤ 9223372036854775807 := by
  rcases DataW.trod_slice Try.underlying27 h with ⟨hcs, _⟩ | ⟨a, len, cap, elems, rest, n, hn, hcs, _, _, hl, hm, hel, hi, _⟩
  · simp at hcs
    subst hcs
    exact ⟨[], ⟨none, 0, rfl, by simp, by omega, fun _ => rfl, fun h => absurd rfl h⟩, by simp⟩
  · simp at hcs
    subst hcs
    unfold maxLen at hm
    rw [show Try.prog.cellsOf 5 = 1 by kernel_rfl] at hi
    obtain ⟨bs, hbs, hp⟩ := choose_pos (α := UInt8) (n := len) (p := fun i c => w.cell? (a.add i) = some (encB c)) (fun i hil => by
      have hb := hi i hil
      rw [List.getElem?_eq_getElem (by omega)] at hb
      obtain ⟨cs', hc, ht⟩ := Option.bind_eq_some_iff.1 hb
      obtain ⟨p, hp, _, wp⟩ := DataW.trod_int Try.underlying5 ht
      subst hp
      obtain ⟨_, _, hat⟩ := World.cells?_some hc
      have c0 := hat 0 (by omega)
      rw [Go.Deep.add_add] at c0
      have hb2 : 0 ≤ p ∧ p < 256 := by
        have h5 : IntKind.u8.min ≤ p ∧ p ≤ IntKind.u8.max := by simpa [Lit.wf] using wp
        have h6 : IntKind.u8.min = 0 := by rfl
        have h7 : IntKind.u8.max = 255 := by rfl
        omega
      refine ⟨UInt8.ofNat p.toNat, ?_⟩
      have h3 : (UInt8.ofNat p.toNat).toNat = p.toNat := Cd.toNat_of _ (by omega)
      have h4 : encB (UInt8.ofNat p.toNat) = .int .u8 p := by unfold encB; rw [h3]; congr 1; omega
      rw [h4]
      simpa using c0)
    refine ⟨bs, ⟨some a, cap, by rw [hbs], by omega, by omega, (fun e => by cases e), fun hne => ?_⟩, by omega⟩
    obtain ⟨b, off, ea, hb, _, hc⟩ := rowP_of (w := w) (a := a) (cs := bs.map encB) (fun i hi => by
      have := hp i (by simpa using hi)
      simpa using this) (by simpa using hne)
    exact ⟨b, off, ea, hb, fun i hi => by
      have := hc i (by simpa using hi)
      simpa using this⟩

end
end Go.Proofs.Ytnnddmhimnekaaa
