/- Words for the statement CodecLists: a row of zeros beside a row of bytes. -/
import Derived.Test.YtnnddmhimnekaaaL4
import Derived.Deep.AppendLies
import Derived.Test.YtnnddmhimnekaaaW23
namespace Go.Proofs.Ytnnddmhimnekaaa
open Go.RowKit
set_option linter.unusedVariables false
set_option linter.unusedSimpArgs false

def z0 : E4 := (.int .i64 1, .int .i64 0, .string ByteArray.empty, .slice none 0 0)
/-- k zeros in a row of the call's own -/
def OwnZ (W : World) (base : Nat) (v : Value) (k : Nat) : Prop := W.ownsRow base 24 4 v k ((List.replicate k z0).flatMap encE)
theorem ownZ_none (w : World) (base : Nat) : OwnZ w base (.slice none 0 0) 0 := World.ownsRow_nil w base _ 4
theorem ownZ_under {w w' : World} {base : Nat} {v : Value} {k : Nat} (h : OwnZ w base v k) (hb : Below w.heap.size w w') : OwnZ w' base v k := row_below h hb
theorem OwnZ.slice {W : World} {base : Nat} {v : Value} {k : Nat} (h : OwnZ W base v k) : ∃ A c, v = .slice A k c := own_slice h
theorem OwnZ.vals {W : World} {base : Nat} {v : Value} {k : Nat} (h : OwnZ W base v k) : IsVs Any W v (List.replicate k (iV 0)) := by
  have h2 : OwnVs W base v (List.replicate k (iV 0)) := by
    refine ⟨List.replicate k z0, by simpa [OwnZ] using h, by simp, fun i h1 h2 => ?_⟩
    simp only [List.getElem_replicate]
    exact IsV.of IsVs.nil
  exact h2.vals.mono (fun _ _ _ => trivial)
theorem rows_apart {W : World} {base base' : Nat} {v z : Value} {bs : List UInt8} {k : Nat} (h : OwnBytes W base v bs) (h' : OwnZ W base' z k) : ∀ g, v.ownBlock = some g → z.ownBlock ≠ some g := by
  intro g hg hz
  rcases h.2 with ⟨rfl, _⟩ | ⟨g1, c1, cur1, rfl, _, e1, _⟩
  · simp [Value.ownBlock] at hg
  · rcases h'.2 with ⟨rfl, _⟩ | ⟨g2, c2, cur2, rfl, _, e2, _⟩
    · simp [Value.ownBlock] at hz
    · simp [Value.ownBlock] at hg hz
      subst hg hz
      rw [e1] at e2
      simp at e2
theorem OwnZ.cat {X X' : World} {base : Nat} {v v' z : Value} {bs bs' : List UInt8} {k : Nat} (h : OwnZ X base z k) (hc : Cat X X' base v v' bs') (h0 : OwnBytes X base v bs) : OwnZ X' base z k := by
  refine World.ownsRow.kept h hc.grown ?_
  cases ho : z.ownBlock with
  | none => exact .inl rfl
  | some g => exact .inr (fun e => rows_apart h0 h g e.symm ho)
theorem ownB_pushZ {X X' : World} {base : Nat} {v z : Value} {bs : List UInt8} {k : Nat} (h : OwnBytes X base v bs) (hz : OwnZ X base z k) (hg : X.grownBy X' z.ownBlock) : OwnBytes X' base v bs := by
  refine World.ownsRow.kept h hg ?_
  cases ho : v.ownBlock with
  | none => exact .inl rfl
  | some g => exact .inr (fun e => rows_apart h hz g ho e.symm)
theorem cell_newZ (w : World) (x y z t : Value) (j : Nat) (u : Value) (h : [x, y, z, t][j]? = some u) : (w.alloc (.cells #[x, y, z, t] 24)).cell? ((⟨w.heap.size, 0, none⟩ : Addr).add j) = some u := by
  match j with
  | 0 => simp at h; subst h; simp [Addr.add]
  | 1 => simp at h; subst h; simp [Addr.add]
  | 2 => simp at h; subst h; simp [Addr.add]
  | 3 => simp at h; subst h; simp [Addr.add]
  | j + 4 => simp at h
theorem wpList_pushZ {W : World} {ops : Array Oper} {rest : List Oper} {o : Oper} {a : Act} {Q : Exit → Act → World → Prop} (hgd : o.guard = none) (s x : Operand)
    (ho : o.op = .call { callee := .builtin .append, args := #[s, x], argTypes := #[22, 22] })
    (base : Nat) (v : Value) (k : Nat) (hs : a.eval s = v) (hown : OwnZ W base v k) (H : Nat) (hH : W.heap.size = H) (hx : a.eval x = .slice (some ⟨H, 0, none⟩) 1 1)
    (hlen : k ≤ 1000000) (hb : base ≤ W.heap.size)
    (h : ∀ v' w', OwnZ w' base v' (k + 1) → W.grownBy w' v.ownBlock → wpList Try.prog ops Q rest (a.put o.dst v') w') :
    wpList Try.prog ops Q (o :: rest) a (W.alloc (.cells #[.int .i64 1, .int .i64 0, .string ByteArray.empty, .slice none 0 0] 24)) := by
  subst hH
  obtain ⟨i0, hi, hz0, hz1, hz2⟩ := info_parts infoVal
  refine wpList_append_own_at _ hgd s x _ ho base 24 i0 _ 4 56 Try.underlying22 hi hz0 hz1 hz2 rfl (by decide) v k ((List.replicate k z0).flatMap encE) hs (World.ownsRow.alloc hown _)
    ⟨W.heap.size, 0, none⟩ 1 1 [.int .i64 1, .int .i64 0, .string ByteArray.empty, .slice none 0 0] hx rfl (cell_newZ W _ _ _ _) (by simp [Value.oneCell']) (by unfold maxLen; omega) (by omega) (by simp; omega) ?_
  intro v' w' h1 h2 _ h4
  refine h v' w' ?_ ?_
  · unfold OwnZ
    rw [List.replicate_succ', List.flatMap_append]
    simpa [encE, z0] using h1
  · exact (World.grownBy_alloc W _ v.ownBlock).trans h2

def lV (l : List Cd.Vl) : Cd.Vl := .mk 3 0 ByteArray.empty l
theorem lV_enc (l : List Cd.Vl) : Cd.enc (lV l) = (3 :: Cd.digits l.length) ++ Cd.encL l := by simp [lV, Cd.enc]
theorem lV_formed (l : List Cd.Vl) : Cd.formed (lV l) = l.all Cd.formed := by simp [lV, Cd.formed_3, Cd.formedL_all]
theorem lV_depth (l : List Cd.Vl) : Cd.depth (lV l) = Cd.depthL l + 1 := by simp [lV, Cd.depth_3]
theorem lV_bad {l : List Cd.Vl} {j : Nat} (hj : j < l.length) (h : Cd.check l[j] ≠ 0) : Cd.check (lV l) ≠ 0 := by
  intro hc
  unfold Cd.check at h hc
  rw [lV_formed, lV_depth] at hc
  have hd := Cd.depthL_le l j hj
  split at hc
  · rename_i hf
    have h1 : Cd.formed l[j] = true := List.all_eq_true.1 hf _ (List.getElem_mem hj)
    rw [if_pos h1] at h
    split at hc
    · cases hc
    · apply h; rw [if_neg (by omega)]
  · cases hc
theorem check0 {v : Cd.Vl} (h : Cd.check v = 0) : Cd.formed v = true := by
  unfold Cd.check at h
  split at h
  · assumption
  · cases h
theorem lV_ok {l : List Cd.Vl} (h : ∀ j (hj : j < l.length), Cd.check l[j] = 0) : Cd.check (lV l) = 0 ∨ Cd.check (lV l) = 2 := by
  have hf : Cd.formed (lV l) = true := by
    rw [lV_formed, List.all_eq_true]
    intro x hx
    obtain ⟨j, hj, rfl⟩ := List.getElem_of_mem hx
    exact check0 (h j hj)
  unfold Cd.check
  rw [if_pos hf]
  split
  · exact .inr rfl
  · exact .inl rfl
theorem depthL_max {l : List Cd.Vl} {d : Nat} (h : ∀ x ∈ l, Cd.depth x ≤ d) : Cd.depthL l ≤ d := by
  induction l with
  | nil => simp [Cd.depthL]
  | cons x r ih => rw [Cd.depthL]; have := h x (by simp); have := ih (fun y hy => h y (by simp [hy])); omega
theorem encL_max {l : List Cd.Vl} {d : Nat} (h : ∀ x ∈ l, (Cd.enc x).length ≤ d) : (Cd.encL l).length ≤ d * l.length := by
  induction l with
  | nil => simp [Cd.encL]
  | cons x r ih =>
    rw [Cd.encL, List.length_append, List.length_cons, Nat.mul_add]
    have := h x (by simp); have := ih (fun y hy => h y (by simp [hy])); omega
/-- few: what it means for a list -/
structure FewL (l : List Cd.Vl) : Prop where
  one : ∀ x ∈ l, Cd.fits x ∧ Cd.depth x ≤ 21 ∧ (Cd.enc x).length ≤ 42200
  len : l.length ≤ 20
theorem FewL.of {l : List Cd.Vl} (hr : ∀ x ∈ l, Cd.raw x) (h : l.all Cd.fewB = true) (hl : l.length ≤ 20) : FewL l := by
  refine ⟨fun x hx => ?_, hl⟩
  have hc : Cd.cnt 21 x ≤ 200 := by
    have := List.all_eq_true.1 h x hx
    simpa [Cd.fewB] using this
  obtain ⟨h1, h2, h3⟩ := Cd.few_all 21 x (hr x hx) hc
  exact ⟨h1, h2, by omega⟩
theorem FewL.lfits {l : List Cd.Vl} (h : FewL l) : Cd.fits (lV l) := Cd.fits_mk.2 ⟨by have := h.len; omega, by simp, by omega, fun x hx => (h.one x hx).1⟩
theorem FewL.ldepth {l : List Cd.Vl} (h : FewL l) : Cd.depth (lV l) ≤ 1000 := by
  rw [lV_depth]; have := depthL_max (d := 21) (fun x hx => (h.one x hx).2.1); omega
theorem FewL.elen {l : List Cd.Vl} (h : FewL l) : (Cd.encL l).length ≤ 844000 := by
  have := encL_max (d := 42200) (fun x hx => (h.one x hx).2.2); have := h.len; omega
theorem FewL.dlen {l : List Cd.Vl} (h : FewL l) : 1 ≤ (Cd.digits l.length).length ∧ (Cd.digits l.length).length ≤ 10 := ⟨digits_ge1 _, Cd.digits_len0 _ (by have := h.len; omega)⟩
theorem FewL.llen {l : List Cd.Vl} (h : FewL l) : (Cd.enc (lV l)).length ≤ 1000000 := by
  rw [lV_enc, List.length_append, List.length_cons]; have := h.elen; have := h.dlen; omega
theorem zeros_few {k : Nat} (h : k ≤ 20) : FewL (List.replicate k (iV 0)) := by
  refine ⟨fun x hx => ?_, by simpa using h⟩
  obtain ⟨_, rfl⟩ := List.mem_replicate.1 hx
  refine ⟨iV_fits (by omega) (by omega), by rw [iV_depth]; omega, ?_⟩
  rw [iV_enc, List.length_cons]
  have := Cd.digits_len0 (Cd.uns 0) (by decide)
  omega
theorem zeros_ck (k : Nat) : Cd.check (lV (List.replicate k (iV 0))) = 0 := by
  have hf : Cd.formed (lV (List.replicate k (iV 0))) = true := by
    rw [lV_formed, List.all_eq_true]
    intro x hx
    obtain ⟨_, rfl⟩ := List.mem_replicate.1 hx
    exact iV_formed 0
  have hd : Cd.depth (lV (List.replicate k (iV 0))) ≤ 16 := by
    rw [lV_depth]
    have := depthL_max (l := List.replicate k (iV 0)) (d := 0) (fun x hx => by
      obtain ⟨_, rfl⟩ := List.mem_replicate.1 hx
      rw [iV_depth]; exact Nat.le_refl _)
    omega
  unfold Cd.check
  rw [if_pos hf, if_neg (by omega)]
theorem zeros_encL (k : Nat) : (Cd.encL (List.replicate k (iV 0))).length = 2 * k := by
  induction k with
  | zero => simp [Cd.encL]
  | succ k ih =>
    rw [List.replicate_succ, Cd.encL, List.length_append, ih, iV_enc, show Cd.uns 0 = 0 from rfl, Cd.digits_a (by omega)]
    simp; omega
theorem zeros_size (k : Nat) : (encR (lV (List.replicate k (iV 0)))).length = 1 + (Cd.digits k).length + 2 * k := by
  rw [encR, if_pos (zeros_ck k), lV_enc, List.length_append, zeros_encL, List.length_cons, List.length_replicate]; omega

theorem slice_from {base : Nat} {w : World} {A : Option Addr} {m c pre : Nat} {bs : List UInt8} (h : InB base w (.slice A m c) bs) (hn : pre ≤ bs.length) :
    ∃ A', (∀ W : World, (Instr.slice 27 (.slice A m c) (some (.int .i64 (pre : Int))) none none).run Try.prog W = .ok (.slice A' (bs.length - pre) (c - pre)) W) ∧ InB base w (.slice A' (bs.length - pre) (c - pre)) (bs.drop pre) := by
  obtain ⟨A0, c0, e, i1, i2, i3, i4⟩ := h
  injection e with e1 e2 e3
  subst e1 e2 e3
  refine ⟨if c = pre then A else A.map (·.add (pre * 1)), fun W => ?_, ?_⟩
  · rw [run_slice_l W 27 A bs.length c (by kernel_rfl) .i64 (pre : Int) (by omega) (by omega)]
    have hs : (sizeOf (Try.prog.elem 27)).run Try.prog W = .ok 1 W := by kernel_rfl
    rw [hs]
    simp only [Result.andThen, sliced]
    rw [show ((pre : Int)).toNat = pre by omega]
  · have hl : (bs.drop pre).length = bs.length - pre := by simp
    refine ⟨_, c - pre, by rw [hl], by rw [hl]; omega, by omega, ?_, fun hne => ?_⟩
    · intro e
      cases A with
      | none => have := i3 rfl; omega
      | some a => split at e <;> simp at e
    · have hn0 : pre < bs.length := by
        rcases Nat.lt_or_ge pre bs.length with h0 | h0
        · exact h0
        · exfalso; apply hne; simp; omega
      obtain ⟨b, off, rfl, hb, hc⟩ := i4 (by intro h0; subst h0; simp at hn0)
      rw [if_neg (by omega)]
      refine ⟨b, off + pre, ?_, hb, fun i hi => ?_⟩
      · simp only [Option.map_some, Nat.mul_one]
        unfold Addr.add; split <;> simp_all
      · rw [List.getElem_drop, Nat.add_assoc]
        exact hc (pre + i) (by rw [hl] at hi; omega)

end Go.Proofs.Ytnnddmhimnekaaa
