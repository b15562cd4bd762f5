/- Plain law of layer 4 for DiskHistory: what the disk holds, told by the last bytes. -/
import Derived.Test.YtimpnpdhhhbmgaaPlain5
namespace Go.Proofs.Ytimpnpdhhhbmgaa
set_option linter.unusedVariables false
set_option linter.unusedSimpArgs false
namespace Dv
def two (a b : UInt8) : By := [a] ++ List.replicate 63 0 ++ [b] ++ List.replicate 63 0
theorem dbl_two (c : UInt8) : dbl c = two c c := rfl
theorem two_len (a b : UInt8) : (two a b).length = 128 := by simp [two]
theorem torn_two (a b : UInt8) : torn (dbl a) (dbl b) = two a b := by
  unfold torn two dbl
  rfl
theorem pad_dbl (c : UInt8) : pad (dbl c) = dbl c := by
  unfold pad
  rw [dbl_two, two_len, Nat.sub_self]
  simp
def aw (p : Ac) : Wr := ⟨((p.a.toNat % 4 : Nat) : Int), dbl p.b⟩
def pw (l : List Ac) : List Wr := l.map aw
def fillB (F : List UInt8) (l : List Ac) : List UInt8 := l.foldl (fun F p => F.set (p.a.toNat % 4) p.b) F
theorem fillB_len (F : List UInt8) (l : List Ac) : (fillB F l).length = F.length := by
  unfold fillB
  induction l generalizing F with
  | nil => rfl
  | cons p r ih => rw [List.foldl_cons, ih, List.length_set]
theorem fillB_succ {l : List Ac} {k : Nat} (hk : k < l.length) (F : List UInt8) : fillB F (l.take (k + 1)) = (fillB F (l.take k)).set (l[k].a.toNat % 4) l[k].b := by
  unfold fillB
  rw [List.take_succ_eq_append_getElem hk, List.foldl_append]
  rfl
theorem put_dbl (F : List UInt8) (l : List Ac) : put (F.map dbl) (pw l) = (fillB F l).map dbl := by
  unfold put pw fillB
  induction l generalizing F with
  | nil => rfl
  | cons p r ih =>
    rw [List.map_cons, List.foldl_cons, List.foldl_cons, ← ih]
    congr 1
    show (F.map dbl).set (((p.a.toNat % 4 : Nat) : Int)).toNat (dbl p.b) = _
    rw [Int.toNat_natCast, List.map_set]
structure Hs (d : Dk) (L F : List UInt8) (wt : List Ac) (room : Nat) : Prop where
  run : Run d
  left : d.left = room
  ss : d.ss = F.map dbl
  fl : F.length = 4
  ps : d.ps = pw wt
  last : L = fillB F wt
/-- each sector reads as two halves -/
def Holds (d : Dk) (f s : List UInt8) : Prop := ∀ i : Nat, i < 4 → rdE d i = 0 ∧ rd d i = two (f.getD i 0) (s.getD i 0)
theorem Hs.sl {d : Dk} {L F : List UInt8} {wt : List Ac} {room : Nat} (h : Hs d L F wt room) : d.ss.length = 4 := by rw [h.ss, List.length_map, h.fl]
theorem Hs.has {d : Dk} {L F : List UInt8} {wt : List Ac} {room : Nat} (h : Hs d L F wt room) {i : Nat} (hi : i < 4) : Has d i := ⟨by omega, by rw [h.sl]; omega⟩
theorem pw_at (l : List Ac) : ∀ p ∈ pw l, 0 ≤ p.at_ := by
  intro p hp
  obtain ⟨q, _, rfl⟩ := List.mem_map.1 hp
  show (0 : Int) ≤ ((q.a.toNat % 4 : Nat) : Int)
  omega
theorem map_getD {F : List UInt8} {i : Nat} (hi : i < F.length) : (F.map dbl).getD i [] = two (F.getD i 0) (F.getD i 0) := by
  simp [List.getD, List.getElem?_map, List.getElem?_eq_getElem hi, dbl_two]
theorem Hs.holds {d : Dk} {L F : List UInt8} {wt : List Ac} {room : Nat} (h : Hs d L F wt room) : Holds d L L := by
  intro i hi
  have hc : Run d ∧ Has d i := ⟨h.run, h.has hi⟩
  refine ⟨by unfold rdE; rw [if_pos hc], ?_⟩
  unfold rd
  rw [if_pos hc, Int.toNat_natCast, ← put_get (by rw [h.sl]; exact hi) (by rw [h.ps]; exact pw_at wt), h.ss, h.ps, put_dbl, h.last]
  exact map_getD (by rw [fillB_len, h.fl]; exact hi)
theorem Hs.write {d : Dk} {L F : List UInt8} {wt : List Ac} {room : Nat} (h : Hs d L F wt room) (p : Ac) (hn : wt.length < 4096) :
    wrE d (aw p).at_ (dbl p.b) = 0 ∧ Hs (wr d (aw p).at_ (dbl p.b)) (L.set (p.a.toNat % 4) p.b) F (wt ++ [p]) room := by
  have ha : 0 ≤ (aw p).at_ ∧ (aw p).at_ < (d.ss.length : Int) := by
    rw [h.sl]
    show 0 ≤ ((p.a.toNat % 4 : Nat) : Int) ∧ ((p.a.toNat % 4 : Nat) : Int) < 4
    omega
  obtain ⟨h1, h2⟩ := wr_go h.run ha (b := dbl p.b) (by rw [dbl_two, two_len]; exact Nat.le_refl _) (by rw [h.ps, pw, List.length_map]; exact hn)
  refine ⟨h1, ⟨(wr_ok h1).2.2.2.2, ?_, ?_, h.fl, ?_, ?_⟩⟩
  · rw [h2]; exact h.left
  · rw [h2]; exact h.ss
  · rw [h2]
    show d.ps ++ [⟨_, pad (dbl p.b)⟩] = _
    rw [h.ps, pw, pw, List.map_append, pad_dbl]
    simp only [List.map_cons, List.map_nil, aw]
  · rw [h.last]
    unfold fillB
    rw [List.foldl_append]
    rfl
set_option maxRecDepth 20000 in
theorem zs_dbl : zs = dbl 0 := rfl
theorem run4 {l : Int} (h1 : -1 ≤ l) (h2 : l ≤ 65536) : Run ⟨List.replicate 4 zs, [], l, false⟩ :=
  ⟨⟨by simp, by simp, by simp, h1, h2, rfl, by simp [badS, zs]⟩, rfl⟩
theorem nw4 : nw 4 = ⟨List.replicate 4 zs, [], -1, false⟩ := by unfold nw; rw [if_pos (by decide)]; rfl
theorem Hs.start (room : Nat) (hr : room ≤ 65536) : nwE 4 = 0 ∧ stE (nw 4) room = 0 ∧ Hs (stp (nw 4) room) [0, 0, 0, 0] [0, 0, 0, 0] [] room := by
  have hr0 : Run (nw 4) := by rw [nw4]; exact run4 (by decide) (by decide)
  have hc : 0 ≤ (room : Int) ∧ (room : Int) ≤ 65536 := by omega
  have e1 : stp (nw 4) room = ⟨List.replicate 4 zs, [], room, false⟩ := by unfold stp; rw [if_pos hr0, if_pos hc, nw4]
  refine ⟨by decide, by unfold stE; rw [if_pos hr0, if_pos hc], ?_⟩
  rw [e1]
  exact ⟨run4 (by omega) (by omega), rfl, by rw [zs_dbl]; rfl, rfl, rfl, rfl⟩
theorem Hs.sync_ok {d : Dk} {L F : List UInt8} {wt : List Ac} {room : Nat} (h : Hs d L F wt room) (hs : wt.length ≤ room) (hn : wt.length ≤ 4096) :
    syE d = 0 ∧ Hs (sy d) L L [] (room - wt.length) := by
  have hst : ¬ Stops d := by
    unfold Stops
    rw [h.left, h.ps, pw, List.length_map]
    omega
  have h1 : sy d = ⟨put d.ss d.ps, [], if 0 ≤ d.left then d.left - d.ps.length else d.left, false⟩ := by unfold sy; rw [if_pos h.run, if_neg hst]
  have h2 : syE d = 0 := by unfold syE; rw [if_pos h.run, if_neg hst]
  have h3 : Run (sy d) := by
    rcases sy_run h.run with ⟨a, _⟩ | ⟨_, _, b, _⟩
    · omega
    · exact b
  refine ⟨h2, ⟨h3, ?_, ?_, ?_, ?_, rfl⟩⟩
  · rw [h1]
    show (if 0 ≤ d.left then d.left - d.ps.length else d.left) = _
    rw [h.left, h.ps, pw, List.length_map, if_pos (by omega)]
    omega
  · rw [h1]
    show put d.ss d.ps = _
    rw [h.ss, h.ps, put_dbl, h.last]
  · rw [h.last, fillB_len, h.fl]
  · rw [h1]; rfl
theorem holds_of {d : Dk} {f g : List UInt8} (hr : Run d) (hp : d.ps = []) (hl : d.ss.length = 4) (h : ∀ i : Nat, i < 4 → d.ss.getD i [] = two (f.getD i 0) (g.getD i 0)) : Holds d f g := by
  intro i hi
  have hc : Run d ∧ Has d i := ⟨hr, by omega, by rw [hl]; omega⟩
  refine ⟨by unfold rdE; rw [if_pos hc], ?_⟩
  unfold rd
  rw [if_pos hc, Int.toNat_natCast, hp]
  exact h i hi
/-- a restart before it stopped: what was synced -/
theorem Hs.restart {d : Dk} {L F : List UInt8} {wt : List Ac} {room : Nat} (h : Hs d L F wt room) : Holds (rs d) F F := by
  have hok := h.run.1
  refine holds_of ⟨⟨hok.n1, hok.n2, by simp [rs], by simp [rs], by simp [rs], rfl, hok.ss⟩, rfl⟩ rfl h.sl (fun i hi => ?_)
  show d.ss.getD i [] = _
  rw [h.ss]
  exact map_getD (by rw [h.fl]; exact hi)
theorem Hs.sync_stop {d : Dk} {L F : List UInt8} {wt : List Ac} {room : Nat} (h : Hs d L F wt room) (hs : room < wt.length) :
    syE d = 40 ∧ (sy d).st = true ∧ (sy d).ss = ((fillB F (wt.take room)).map dbl).set (wt[room].a.toNat % 4) (two wt[room].b ((fillB F (wt.take room)).getD (wt[room].a.toNat % 4) 0)) := by
  have hst : Stops d := by
    unfold Stops
    rw [h.left, h.ps, pw, List.length_map]
    omega
  have h1 : sy d = ⟨halfS d d.left.toNat, [], 0, true⟩ := by unfold sy; rw [if_pos h.run, if_pos hst]
  refine ⟨by unfold syE; rw [if_pos h.run, if_pos hst], by rw [h1], ?_⟩
  rw [h1]
  show halfS d d.left.toNat = _
  rw [h.left, Int.toNat_natCast]
  have e0 : d.ps[room]? = some (aw wt[room]) := by rw [h.ps, pw, List.getElem?_map, List.getElem?_eq_getElem hs]; rfl
  have e1 : put d.ss (d.ps.take room) = (fillB F (wt.take room)).map dbl := by rw [h.ss, h.ps, pw, ← List.map_take]; exact put_dbl F _
  have hlt : wt[room].a.toNat % 4 < (fillB F (wt.take room)).length := by rw [fillB_len, h.fl]; omega
  unfold halfS
  rw [e0]
  show (put d.ss (d.ps.take room)).set (((wt[room].a.toNat % 4 : Nat) : Int)).toNat (torn (dbl wt[room].b) ((put d.ss (d.ps.take room)).getD (((wt[room].a.toNat % 4 : Nat) : Int)).toNat [])) = _
  rw [e1, Int.toNat_natCast, map_getD hlt, ← dbl_two, torn_two]
theorem Hs.stop_holds {d : Dk} {L F : List UInt8} {wt : List Ac} {room : Nat} (h : Hs d L F wt room) (hs : room < wt.length) :
    Holds (rs (sy d)) (fillB F (wt.take (room + 1))) (fillB F (wt.take room)) := by
  have h3 := (h.sync_stop hs).2.2
  have hfl : (fillB F (wt.take room)).length = 4 := by rw [fillB_len, h.fl]
  have hlt : wt[room].a.toNat % 4 < 4 := by omega
  rw [fillB_succ hs]
  generalize fillB F (wt.take room) = S at *
  generalize wt[room].a.toNat % 4 = a at *
  generalize wt[room].b = b at *
  have hl : (sy d).ss.length = 4 := by rw [h3, List.length_set, List.length_map, hfl]
  have h128 : (sy d).ss.any badS = false := by
    rw [any_ss, h3]
    intro q hq
    rcases List.mem_or_eq_of_mem_set hq with hm | rfl
    · obtain ⟨c, _, rfl⟩ := List.mem_map.1 hm
      exact two_len c c
    · exact two_len _ _
  refine holds_of ⟨⟨by show 1 ≤ (sy d).ss.length; omega, by show (sy d).ss.length ≤ 4096; omega, by simp [rs], by simp [rs], by simp [rs], rfl, h128⟩, rfl⟩ rfl hl (fun i hi => ?_)
  show (sy d).ss.getD i [] = _
  rw [h3]
  by_cases e : a = i
  · subst e
    simp only [List.getD, List.getElem?_set_self (show a < (S.map dbl).length by rw [List.length_map, hfl]; exact hi), List.getElem?_set_self (show a < S.length by omega), Option.getD_some]
  · have := map_getD (F := S) (i := i) (by omega)
    simp only [List.getD] at this ⊢
    rw [List.getElem?_set_ne e, List.getElem?_set_ne e]
    exact this
end Dv
end Go.Proofs.Ytimpnpdhhhbmgaa
