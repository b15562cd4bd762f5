/- What the arguments of the statements hold: bytes, sectors, writes, disks. -/
import Derived.Test.YtkcnanclpkongaaBase
import Derived.Deep.Slices
import Derived.ChangeSame
import Derived.ProofKit
import Derived.Test.YtkcnanclpkongaaJC
namespace Go.Proofs.Ytkcnanclpkongaa
open Go.ChangeShapes Go.WideShapes Go.RowKit Go.Deep
set_option linter.unusedVariables false
set_option linter.unusedSimpArgs false

section
variable {H : Type} {enc : TypeId × Value → H} {w : World} {base : Nat} {spare : Nat → Bool} {held : Bool}
theorem add_plain {b off : Nat} (i : Nat) : (⟨b, off, none⟩ : Addr).add i = ⟨b, off + i, none⟩ := by
  unfold Addr.add; split <;> simp_all
theorem cell_lt' {a : Addr} {v : Value} (h : w.cell? a = some v) : a.block < w.heap.size := by
  unfold World.cell? at h
  rcases Nat.lt_or_ge a.block w.heap.size with h1 | h1
  · exact h1
  · simp [Array.getElem?_eq_none h1] at h
theorem rowAt_of {a : Addr} {cs : List Value} (h : ∀ i (hi : i < cs.length), w.cell? (a.add i) = some cs[i]) : RowAt w (some a) cs := fun hne => by
  have hpos : 0 < cs.length := List.length_pos_iff.2 hne
  have h0 := h 0 hpos
  obtain ⟨b, off, spot⟩ := a
  cases spot with
  | some k =>
    exfalso
    unfold World.cell? at h0
    simp [Addr.add] at h0
    split at h0 <;> simp at h0
  | none =>
    refine ⟨b, off, rfl, ?_, fun i hi => ?_⟩
    · have := cell_lt' h0
      rwa [add_plain] at this
    · rw [← add_plain]; exact h i hi
theorem enc_of {z : Int} (h : 0 ≤ z ∧ z ≤ 255) : encB (UInt8.ofNat z.toNat) = .int .u8 z := by
  unfold encB
  congr 1
  rw [UInt8.toNat_ofNat']
  omega
theorem open_isBytes {fuel : Nat} {v : Value} {x : DataW H × List MemPlace} (h : DataW.trod enc Try.prog w base spare held fuel 35 [v] = some x) :
    ∃ bs : By, IsBytes w v bs := by
  rcases open_ints Try.underlying35 Try.underlying5 (by kernel_rfl) h with ⟨hcs, _⟩ | ⟨x, l, c, zs, hcs, _, hl, hm, hz, _, hcell, hwz⟩
  · simp at hcs
    subst hcs
    exact ⟨[], IsBytes.nil⟩
  · simp at hcs
    subst hcs
    unfold maxLen at hm
    have hlz : l ≤ zs.length := by rw [hz]; split <;> omega
    have hlen : ((zs.take l).map fun z => UInt8.ofNat z.toNat).length = l := by simp; omega
    refine ⟨(zs.take l).map fun z => UInt8.ofNat z.toNat, some x, c, by rw [hlen], by rw [hlen]; omega, rowAt_of fun i hi => ?_⟩
    rw [List.length_map, hlen] at hi
    rw [hcell i (by omega)]
    have hzi : i < zs.length := by omega
    have wp := hwz zs[i] (List.getElem_mem hzi)
    have h5 : IntKind.u8.min ≤ zs[i] ∧ zs[i] ≤ IntKind.u8.max := by simpa [Lit.wf] using wp
    have h6 : IntKind.u8.min = 0 := by rfl
    have h7 : IntKind.u8.max = 255 := by rfl
    simp only [List.getElem_map, List.getElem_take]
    rw [enc_of (by omega)]
    simp [List.getD_eq_getElem?_getD, List.getElem?_eq_getElem hzi]
theorem open_isBs {fuel : Nat} {v : Value} {x : DataW H × List MemPlace} (h : DataW.trod enc Try.prog w base spare held fuel 22 [v] = some x) :
    ∃ l : List By, IsBs w v l ∧ l.length ≤ 9223372036854775807 := by
  rcases open_slice1 Try.underlying22 (by kernel_rfl) h with ⟨hcs, _⟩ | ⟨a, len, cap, m, n, V, D, Pp, hcs, _, hl, hm, hmm, _, hi⟩
  · simp at hcs
    subst hcs
    exact ⟨[], IsBs.nil, by simp⟩
  · simp at hcs
    subst hcs
    unfold maxLen at hm
    have hlm : len ≤ m := by rw [hmm]; split <;> omega
    obtain ⟨f, hf⟩ := choose_lt (α := By) (n := len) (p := fun i q => IsBytes w (V i) q) (fun i hil => open_isBytes (hi i (by omega)).2)
    have hlen : ((List.range len).map f).length = len := by simp
    have hlen2 : ((List.range len).map V).length = len := by simp
    refine ⟨(List.range len).map f, ⟨some a, cap, (List.range len).map V, by rw [hlen], by rw [hlen]; omega, by rw [hlen, hlen2], rowAt_of fun i h1 => ?_, fun i h1 h2 => ?_⟩, by omega⟩
    · rw [hlen2] at h1
      rw [(hi i (by omega)).1]; simp
    · rw [hlen] at h2
      simpa using hf i h2
theorem open_wr {n : Nat} {cs : List Value} {x : DataW H × List MemPlace} (h : DataW.trod enc Try.prog w base spare held n 76 cs = some x) : ∃ (p : Wr) (v : Value), cs = [.int .i64 p.at_, v] ∧ IsBytes w v p.data := by
  obtain ⟨xs, m, _, _, hl, hxl, hf⟩ := DataW.trod_struct Try.underlying76 h
  rw [show Try.prog.cellsOf 76 = 2 by kernel_rfl] at hl
  have hxl2 : xs.length = 2 := hxl
  match cs, hl with
  | [a, b], _ =>
    have h0 : DataW.trod enc Try.prog w base spare held m 3 (([a, b].drop 0).take (Try.prog.cellsOf 3)) = xs[0]? := hf 0 _ rfl
    have h1 : DataW.trod enc Try.prog w base spare held m 35 (([a, b].drop 1).take (Try.prog.cellsOf 35)) = xs[1]? := hf 1 _ rfl
    rw [show Try.prog.cellsOf 3 = 1 by kernel_rfl] at h0
    rw [show Try.prog.cellsOf 35 = 1 by kernel_rfl] at h1
    rw [List.getElem?_eq_getElem (by omega)] at h0 h1
    obtain ⟨p, hp, _, _⟩ := DataW.trod_int Try.underlying3 h0
    have h1' : DataW.trod enc Try.prog w base spare held m 35 [b] = some (xs[1]) := by simpa using h1
    obtain ⟨bs, hb⟩ := open_isBytes h1'
    simp at hp
    exact ⟨⟨p, bs⟩, b, by rw [hp], hb⟩
theorem rowW_get {ps : List Wr} {vs : List Value} (hl : vs.length = ps.length) (i : Nat) (h : i < (rowW ps vs).length) : ∃ k, ∃ hk : k < ps.length, ∃ hk' : k < vs.length, (i = k * 2 ∧ (rowW ps vs)[i] = .int .i64 ps[k].at_) ∨ (i = k * 2 + 1 ∧ (rowW ps vs)[i] = vs[k]) := by
  have hn := rowW_len hl
  have hk : i / 2 < ps.length := by omega
  obtain ⟨h1, h2⟩ := rowW_at hl hk (by omega)
  refine ⟨i / 2, hk, by omega, ?_⟩
  rcases Nat.mod_two_eq_zero_or_one i with e | e
  · left
    have e2 : i / 2 * 2 = i := by omega
    rw [e2, List.getElem?_eq_getElem h] at h1
    exact ⟨e2.symm, Option.some.inj h1⟩
  · right
    have e2 : i / 2 * 2 + 1 = i := by omega
    rw [e2, List.getElem?_eq_getElem h] at h2
    exact ⟨e2.symm, Option.some.inj h2⟩
instance : Inhabited (Wr × Value) := ⟨(⟨0, []⟩, .int .i64 0)⟩
theorem open_isWs {fuel : Nat} {v : Value} {x : DataW H × List MemPlace} (h : DataW.trod enc Try.prog w base spare held fuel 23 [v] = some x) :
    ∃ l : List Wr, IsWs w v l ∧ l.length ≤ 9223372036854775807 := by
  rcases open_slice Try.underlying23 h with ⟨hcs, _⟩ | ⟨a, len, cap, m, n, D, Pp, hcs, _, hl, hm, hmm, _, hi⟩
  · simp at hcs
    subst hcs
    exact ⟨[], IsWs.nil, by simp⟩
  · simp at hcs
    subst hcs
    unfold maxLen at hm
    rw [show Try.prog.cellsOf 76 = 2 by kernel_rfl] at hi
    have hlm : len ≤ m := by rw [hmm]; split <;> omega
    obtain ⟨f, hf⟩ := choose_lt (α := Wr × Value) (n := len) (p := fun i q => w.cell? (a.add (i * 2)) = some (.int .i64 q.1.at_) ∧ w.cell? (a.add (i * 2 + 1)) = some q.2 ∧ IsBytes w q.2 q.1.data) (fun i hil => by
      obtain ⟨cs', hc, ht⟩ := hi i (by omega)
      obtain ⟨p, u, rfl, hb⟩ := open_wr ht
      obtain ⟨_, _, hat⟩ := World.cells?_some hc
      have c0 := hat 0 (by omega)
      have c1 := hat 1 (by omega)
      rw [Go.Deep.add_add] at c0 c1
      exact ⟨(p, u), by simpa using c0, by simpa using c1, hb⟩)
    have hlen : ((List.range len).map fun i => (f i).1).length = len := by simp
    have hlen2 : ((List.range len).map fun i => (f i).2).length = len := by simp
    refine ⟨(List.range len).map fun i => (f i).1, ⟨some a, cap, (List.range len).map fun i => (f i).2, by rw [hlen], by rw [hlen]; omega, by rw [hlen, hlen2], rowAt_of fun i h1 => ?_, fun i h1 h2 => ?_⟩, by omega⟩
    · obtain ⟨k, hk, hk', h2⟩ := rowW_get (by rw [hlen, hlen2]) i h1
      rw [hlen] at hk
      obtain ⟨e1, e2, _⟩ := hf k hk
      rcases h2 with ⟨rfl, h2⟩ | ⟨rfl, h2⟩
      · rw [h2, e1]; simp
      · rw [h2, e2]; simp
    · rw [hlen] at h2
      simpa using (hf i h2).2.2
theorem open_diskV {fuel : Nat} {cs : Array Value} {x : DataW H × List MemPlace} (h : DataW.trod enc Try.prog w base spare held fuel 25 (Value.agg cs).cells.toList = some x) :
    ∃ d : Dk, IsD w (.agg cs) d ∧ d.ss.length ≤ 9223372036854775807 ∧ d.ps.length ≤ 9223372036854775807 := by
  have h' : DataW.trod enc Try.prog w base spare held fuel 25 cs.toList = some x := h
  obtain ⟨xs, m, _, _, hl, hxl, hf⟩ := DataW.trod_struct Try.underlying25 h'
  rw [show Try.prog.cellsOf 25 = 4 by kernel_rfl] at hl
  have hxl2 : xs.length = 4 := hxl
  obtain ⟨l⟩ := cs
  simp only at hl hf
  match l, hl with
  | [a, b, c, e], _ =>
    have h0 : DataW.trod enc Try.prog w base spare held m 22 (([a, b, c, e].drop 0).take (Try.prog.cellsOf 22)) = xs[0]? := hf 0 _ rfl
    have h1 : DataW.trod enc Try.prog w base spare held m 23 (([a, b, c, e].drop 1).take (Try.prog.cellsOf 23)) = xs[1]? := hf 1 _ rfl
    have h2 : DataW.trod enc Try.prog w base spare held m 3 (([a, b, c, e].drop 2).take (Try.prog.cellsOf 3)) = xs[2]? := hf 2 _ rfl
    have h3 : DataW.trod enc Try.prog w base spare held m 4 (([a, b, c, e].drop 3).take (Try.prog.cellsOf 4)) = xs[3]? := hf 3 _ rfl
    rw [show Try.prog.cellsOf 22 = 1 by kernel_rfl] at h0
    rw [show Try.prog.cellsOf 23 = 1 by kernel_rfl] at h1
    rw [show Try.prog.cellsOf 3 = 1 by kernel_rfl] at h2
    rw [show Try.prog.cellsOf 4 = 1 by kernel_rfl] at h3
    rw [List.getElem?_eq_getElem (by omega)] at h0 h1 h2 h3
    have h0' : DataW.trod enc Try.prog w base spare held m 22 [a] = some (xs[0]) := by simpa using h0
    have h1' : DataW.trod enc Try.prog w base spare held m 23 [b] = some (xs[1]) := by simpa using h1
    obtain ⟨ss, hss, hsl⟩ := open_isBs h0'
    obtain ⟨ps, hps, hpl⟩ := open_isWs h1'
    obtain ⟨p, hp, _, _⟩ := DataW.trod_int Try.underlying3 h2
    obtain ⟨q, hq, _⟩ := DataW.trod_bool Try.underlying4 h3
    simp at hp hq
    exact ⟨⟨ss, ps, p, q⟩, ⟨a, b, by rw [hp, hq], hss, hps⟩, hsl, hpl⟩
theorem open_journalV {fuel : Nat} {cs : Array Value} {x : DataW H × List MemPlace} (h : DataW.trod enc Try.prog w base spare held fuel 29 (Value.agg cs).cells.toList = some x) :
    ∃ j : Jl, IsJ w (.agg cs) j ∧ j.rs.length ≤ 9223372036854775807 := by
  have h' : DataW.trod enc Try.prog w base spare held fuel 29 cs.toList = some x := h
  obtain ⟨xs, m, _, _, hl, hxl, hf⟩ := DataW.trod_struct Try.underlying29 h'
  rw [show Try.prog.cellsOf 29 = 3 by kernel_rfl] at hl
  have hxl2 : xs.length = 3 := hxl
  obtain ⟨l⟩ := cs
  simp only at hl hf
  match l, hl with
  | [a, b, c], _ =>
    have h0 : DataW.trod enc Try.prog w base spare held m 22 (([a, b, c].drop 0).take (Try.prog.cellsOf 22)) = xs[0]? := hf 0 _ rfl
    have h1 : DataW.trod enc Try.prog w base spare held m 3 (([a, b, c].drop 1).take (Try.prog.cellsOf 3)) = xs[1]? := hf 1 _ rfl
    have h2 : DataW.trod enc Try.prog w base spare held m 3 (([a, b, c].drop 2).take (Try.prog.cellsOf 3)) = xs[2]? := hf 2 _ rfl
    rw [show Try.prog.cellsOf 22 = 1 by kernel_rfl] at h0
    rw [show Try.prog.cellsOf 3 = 1 by kernel_rfl] at h1 h2
    rw [List.getElem?_eq_getElem (by omega)] at h0 h1 h2
    have h0' : DataW.trod enc Try.prog w base spare held m 22 [a] = some (xs[0]) := by simpa using h0
    obtain ⟨rs, hrs, hrl⟩ := open_isBs h0'
    obtain ⟨p, hp, _, _⟩ := DataW.trod_int Try.underlying3 h1
    obtain ⟨q, hq, _, _⟩ := DataW.trod_int Try.underlying3 h2
    simp at hp hq
    exact ⟨⟨rs, p, q⟩, ⟨a, by rw [hp, hq], hrs⟩, hrl⟩
end
end Go.Proofs.Ytkcnanclpkongaa
