/- Calls with plain results; calls in regions that draw. -/
import Derived.Test.YtimpnpdhhhbmgaaW24
import Derived.Test.YtimpnpdhhhbmgaaPlain2
namespace Go.Proofs.Ytimpnpdhhhbmgaa
open Go.RowKit
set_option linter.unusedVariables false
set_option linter.unusedSimpArgs false

theorem New_is {n : Int} {w : World} {e0 : Int} {r : Dk}  (he : Dv.nwE n = e0) (hr : Dv.nw n = r) :
    Calls Try.prog 12 #[.int .i64 n] w fun e w' => ∃ A c A2 c2, e = .returned (.tuple #[.agg #[.slice A r.ss.length c, .slice A2 r.ps.length c2, .int .i64 r.left, .bool r.st], .int .i64 e0]) ∧ IsD w' (.agg #[.slice A r.ss.length c, .slice A2 r.ps.length c2, .int .i64 r.left, .bool r.st]) r ∧ Below w.heap.size w w' := by
  subst he hr
  refine (New_any (n := n)).mono ?_
  rintro e w' ⟨x, rfl, hd, hb⟩
  obtain ⟨A, c, A2, c2, rfl, _⟩ := hd.open_
  exact ⟨A, c, A2, c2, rfl, hd, hb⟩
theorem refNew_is {n : Int} {w : World} {e0 : Int} {r : Dk}  (he : Dv.nwE n = e0) (hr : Dv.nw n = r) :
    Calls Try.prog 13 #[.int .i64 n] w fun e w' => ∃ A c A2 c2, e = .returned (.tuple #[.agg #[.slice A r.ss.length c, .slice A2 r.ps.length c2, .int .i64 r.left, .bool r.st], .int .i64 e0]) ∧ IsD w' (.agg #[.slice A r.ss.length c, .slice A2 r.ps.length c2, .int .i64 r.left, .bool r.st]) r ∧ Below w.heap.size w w' := by
  subst he hr
  refine (refNew_any (n := n)).mono ?_
  rintro e w' ⟨x, rfl, hd, hb⟩
  obtain ⟨A, c, A2, c2, rfl, _⟩ := hd.open_
  exact ⟨A, c, A2, c2, rfl, hd, hb⟩
theorem Write_is {d : Dk} {v u : Value} {b : By} {w : World} {e0 : Int} {r : Dk} (hv : IsD w v d) {a : Int} (hu : IsBytes w u b) (he : Dv.wrE d a b = e0) (hr : Dv.wr d a b = r) :
    Calls Try.prog 19 #[v, .int .i64 a, u] w fun e w' => ∃ A c A2 c2, e = .returned (.tuple #[.agg #[.slice A r.ss.length c, .slice A2 r.ps.length c2, .int .i64 r.left, .bool r.st], .int .i64 e0]) ∧ IsD w' (.agg #[.slice A r.ss.length c, .slice A2 r.ps.length c2, .int .i64 r.left, .bool r.st]) r ∧ Below w.heap.size w w' ∧ Sec w.heap.size v (.agg #[.slice A r.ss.length c, .slice A2 r.ps.length c2, .int .i64 r.left, .bool r.st]) := by
  subst he hr
  refine (Write_any hv a hu).mono ?_
  rintro e w' ⟨x, rfl, hd, hb⟩
  obtain ⟨A, c, A2, c2, rfl, _⟩ := hd.open_
  exact ⟨A, c, A2, c2, rfl, hd, hb⟩
theorem refWrite_is {d : Dk} {v u : Value} {b : By} {w : World} {e0 : Int} {r : Dk} (hv : IsD w v d) {a : Int} (hu : IsBytes w u b) (he : Dv.wrE d a b = e0) (hr : Dv.wr d a b = r) :
    Calls Try.prog 20 #[v, .int .i64 a, u] w fun e w' => ∃ A c A2 c2, e = .returned (.tuple #[.agg #[.slice A r.ss.length c, .slice A2 r.ps.length c2, .int .i64 r.left, .bool r.st], .int .i64 e0]) ∧ IsD w' (.agg #[.slice A r.ss.length c, .slice A2 r.ps.length c2, .int .i64 r.left, .bool r.st]) r ∧ Below w.heap.size w w' := by
  subst he hr
  refine (refWrite_any hv a hu).mono ?_
  rintro e w' ⟨x, rfl, hd, hb⟩
  obtain ⟨A, c, A2, c2, rfl, _⟩ := hd.open_
  exact ⟨A, c, A2, c2, rfl, hd, hb⟩
theorem Sync_is {d : Dk} {v : Value} {w : World} {e0 : Int} {r : Dk} (hv : IsD w v d) (he : Dv.syE d = e0) (hr : Dv.sy d = r) :
    Calls Try.prog 23 #[v] w fun e w' => ∃ A c A2 c2, e = .returned (.tuple #[.agg #[.slice A r.ss.length c, .slice A2 r.ps.length c2, .int .i64 r.left, .bool r.st], .int .i64 e0]) ∧ IsD w' (.agg #[.slice A r.ss.length c, .slice A2 r.ps.length c2, .int .i64 r.left, .bool r.st]) r ∧ Below w.heap.size w w' ∧ Sec w.heap.size v (.agg #[.slice A r.ss.length c, .slice A2 r.ps.length c2, .int .i64 r.left, .bool r.st]) := by
  subst he hr
  refine (Sync_any hv).mono ?_
  rintro e w' ⟨x, rfl, hd, hb⟩
  obtain ⟨A, c, A2, c2, rfl, _⟩ := hd.open_
  exact ⟨A, c, A2, c2, rfl, hd, hb⟩
theorem refSync_is {d : Dk} {v : Value} {w : World} {e0 : Int} {r : Dk} (hv : IsD w v d) (he : Dv.syE d = e0) (hr : Dv.sy d = r) :
    Calls Try.prog 24 #[v] w fun e w' => ∃ A c A2 c2, e = .returned (.tuple #[.agg #[.slice A r.ss.length c, .slice A2 r.ps.length c2, .int .i64 r.left, .bool r.st], .int .i64 e0]) ∧ IsD w' (.agg #[.slice A r.ss.length c, .slice A2 r.ps.length c2, .int .i64 r.left, .bool r.st]) r ∧ Below w.heap.size w w' := by
  subst he hr
  refine (refSync_any hv).mono ?_
  rintro e w' ⟨x, rfl, hd, hb⟩
  obtain ⟨A, c, A2, c2, rfl, _⟩ := hd.open_
  exact ⟨A, c, A2, c2, rfl, hd, hb⟩
theorem Stop_is {d : Dk} {v : Value} {w : World} {e0 : Int} {r : Dk} (hv : IsD w v d) {a : Int} (he : Dv.stE d a = e0) (hr : Dv.stp d a = r) :
    Calls Try.prog 25 #[v, .int .i64 a] w fun e w' => ∃ A c A2 c2, e = .returned (.tuple #[.agg #[.slice A r.ss.length c, .slice A2 r.ps.length c2, .int .i64 r.left, .bool r.st], .int .i64 e0]) ∧ IsD w' (.agg #[.slice A r.ss.length c, .slice A2 r.ps.length c2, .int .i64 r.left, .bool r.st]) r ∧ Below w.heap.size w w' ∧ Sec w.heap.size v (.agg #[.slice A r.ss.length c, .slice A2 r.ps.length c2, .int .i64 r.left, .bool r.st]) := by
  subst he hr
  refine (Stop_any hv a).mono ?_
  rintro e w' ⟨x, rfl, hd, hb⟩
  obtain ⟨A, c, A2, c2, rfl, _⟩ := hd.open_
  exact ⟨A, c, A2, c2, rfl, hd, hb⟩
theorem refStop_is {d : Dk} {v : Value} {w : World} {e0 : Int} {r : Dk} (hv : IsD w v d) {a : Int} (he : Dv.stE d a = e0) (hr : Dv.stp d a = r) :
    Calls Try.prog 26 #[v, .int .i64 a] w fun e w' => ∃ A c A2 c2, e = .returned (.tuple #[.agg #[.slice A r.ss.length c, .slice A2 r.ps.length c2, .int .i64 r.left, .bool r.st], .int .i64 e0]) ∧ IsD w' (.agg #[.slice A r.ss.length c, .slice A2 r.ps.length c2, .int .i64 r.left, .bool r.st]) r ∧ Below w.heap.size w w' := by
  subst he hr
  refine (refStop_any hv a).mono ?_
  rintro e w' ⟨x, rfl, hd, hb, _⟩
  obtain ⟨A, c, A2, c2, rfl, _⟩ := hd.open_
  exact ⟨A, c, A2, c2, rfl, hd, hb⟩
theorem Restart_is {d : Dk} {v : Value} {w : World} {r : Dk} (hv : IsD w v d) (hr : Dv.rs d = r) :
    Calls Try.prog 17 #[v] w fun e w' => ∃ A c A2 c2, e = .returned (.agg #[.slice A r.ss.length c, .slice A2 r.ps.length c2, .int .i64 r.left, .bool r.st]) ∧ IsD w' (.agg #[.slice A r.ss.length c, .slice A2 r.ps.length c2, .int .i64 r.left, .bool r.st]) r ∧ Below w.heap.size w w' ∧ Sec w.heap.size v (.agg #[.slice A r.ss.length c, .slice A2 r.ps.length c2, .int .i64 r.left, .bool r.st]) := by
  subst hr
  refine (Restart_any hv).mono ?_
  rintro e w' ⟨x, rfl, hd, hb⟩
  obtain ⟨A, c, A2, c2, rfl, _⟩ := hd.open_
  exact ⟨A, c, A2, c2, rfl, hd, hb⟩
theorem refRestart_is {d : Dk} {v : Value} {w : World} {r : Dk} (hv : IsD w v d) (hr : Dv.rs d = r) :
    Calls Try.prog 18 #[v] w fun e w' => ∃ A c A2 c2, e = .returned (.agg #[.slice A r.ss.length c, .slice A2 r.ps.length c2, .int .i64 r.left, .bool r.st]) ∧ IsD w' (.agg #[.slice A r.ss.length c, .slice A2 r.ps.length c2, .int .i64 r.left, .bool r.st]) r ∧ Below w.heap.size w w' := by
  subst hr
  refine (refRestart_any hv).mono ?_
  rintro e w' ⟨x, rfl, hd, hb, _⟩
  obtain ⟨A, c, A2, c2, rfl, _⟩ := hd.open_
  exact ⟨A, c, A2, c2, rfl, hd, hb⟩
theorem Read_is {d : Dk} {v : Value} {w : World} {a : Int} {e0 : Int} {r : By} (hv : IsD w v d) (he : Dv.rdE d a = e0) (hr : Dv.rd d a = r) :
    Calls Try.prog 21 #[v, .int .i64 a] w fun e w' => ∃ A c, e = .returned (.tuple #[.slice A r.length c, .int .i64 e0]) ∧ IsBytes w' (.slice A r.length c) r ∧ Below w.heap.size w w' := by
  subst he hr
  refine (Read_any hv a).mono ?_
  rintro e w' ⟨x, rfl, hd, hb⟩
  obtain ⟨A, c, rfl, _⟩ := id hd
  exact ⟨A, c, rfl, hd, hb⟩
theorem refRead_is {d : Dk} {v : Value} {w : World} {a : Int} {e0 : Int} {r : By} (hv : IsD w v d) (he : Dv.rdE d a = e0) (hr : Dv.rd d a = r) :
    Calls Try.prog 22 #[v, .int .i64 a] w fun e w' => ∃ A c, e = .returned (.tuple #[.slice A r.length c, .int .i64 e0]) ∧ IsBytes w' (.slice A r.length c) r ∧ Below w.heap.size w w' := by
  subst he hr
  refine (refRead_any hv a).mono ?_
  rintro e w' ⟨x, rfl, hd, hb⟩
  obtain ⟨A, c, rfl, _⟩ := id hd
  exact ⟨A, c, rfl, hd, hb⟩
theorem double_is {c : UInt8} {k : Int} {w : World} {r : By} (hk : (c.toNat : Int) = k) (hr : Dv.dbl c = r) :
    Calls Try.prog 27 #[.int .u8 k] w fun e w' => ∃ A c', e = .returned (.slice A r.length c') ∧ IsBytes w' (.slice A r.length c') r ∧ Below w.heap.size w w' := by
  subst hr hk
  refine (double_any).mono ?_
  rintro e w' ⟨x, rfl, hd, hb⟩
  obtain ⟨A, c, rfl, _⟩ := id hd
  exact ⟨A, c, rfl, hd, hb⟩
theorem Same_is {a b : Dk} {v u : Value} {w : World} {r : Bool} (hv : IsD w v a) (hu : IsD w u b) (hl : a.ss.length ≤ 9223372036854775807) (hlp : a.ps.length ≤ 9223372036854775807) (hr : decide (a = b) = r) :
    Calls Try.prog 14 #[v, u] w fun e w' => e = .returned (.bool r) ∧ Below w.heap.size w w' := by subst hr; exact Same_any hv hu hl hlp
/-- how far a world has come -/
structure Bl (w X : World) : Prop where
  b : Below w.heap.size w X
theorem Bl.upb {w X Y : World} (h : Bl w X) (hb : Below X.heap.size X Y) : Bl w Y := ⟨h.b.up hb⟩
theorem bytes_atq {w : World} {A : Option Addr} {n c : Nat} {xs : By} (h : IsBytes w (.slice A n c) xs) {k : Nat} {v : UInt8} (hk : xs[k]? = some v) :
    ∃ b off, A = some ⟨b, off, none⟩ ∧ b < w.heap.size ∧ w.cell? ⟨b, off + k, none⟩ = some (.int .u8 (v.toNat : Int)) := by
  obtain ⟨h1, rfl⟩ := List.getElem?_eq_some_iff.1 hk
  exact bytes_at h h1

theorem step_fn {P : Program} {X : World} {ops : Array Oper} {o : Oper} {a : Act} {K : Act → World → Prop} {Q : Exit → Act → World → Prop} {E : Prop} (hgd : o.guard = none) (fv : Operand) (xs : Array Operand) (ts : Array TypeId)
    (ho : o.op = .call { callee := .value fv, args := xs, argTypes := ts }) (g : FuncId) (lb : Array Value) (hf : a.eval fv = .func (.func g) #[] lb) (vals : Array Value) (hx : xs.map a.eval ++ lb = vals)
    (eg : ∀ args w, (callFunc g args).run P w = .ok (.enter g args) w) {R : Ending → World → Prop} (hc : Calls P g vals X R) (hR : ∀ e w', R e w' → ∃ v, e = .returned v ∧ K (a.put o.dst v) w') :
    if Region.wanted o (yielded ops a.tmps) = true then Oper.wp P o a X K Q else E := by
  have hw : Region.wanted o (yielded ops a.tmps) = true := by simp [Region.wanted, hgd]
  rw [if_pos hw]
  unfold Oper.wp execOp
  simp only [ho, resolve, hf]
  simp [go_sem, invoke, eg]
  rw [hx]
  refine hc.mono fun e w' h => ?_
  obtain ⟨v, rfl, hk⟩ := hR e w' h
  exact hk
section
variable {P : Program} {ops : Array Oper} {Q : Exit → Act → World → Prop} {md : Region.Mode} {S : World → Prop}
def wpAnyF (P : Program) (md : Region.Mode) (ops : Array Oper) (Q : Exit → Act → World → Prop) (S : World → Prop) (e : Nat) : Nat → Array Bool → Act → World → Prop
  | 0, listed, a, w => Region.ready md ops listed = [] ∧ Q .normal a w
  | fuel + 1, listed, a, w =>
    (Region.ready md ops listed = [] → Q .normal a w) ∧
    ∀ i ∈ Region.ready md ops listed, wpOp P ops Q i (fun a' w' => (i < e → S w') ∧ wpAnyF P md ops Q S e fuel (listed.setIfInBounds i true) a' w') a w
theorem wpAny_of_F {e : Nat} : ∀ (fuel : Nat) (listed : Array Bool) (a : Act) (w : World), wpAnyF P md ops Q S e fuel listed a w → wpAny P md ops Q fuel listed a w
  | 0, _, _, _, h => h
  | fuel + 1, _, _, _, h => ⟨h.1, fun i hi => wpOp_mono (fun a' w' h' => wpAny_of_F fuel _ a' w' h'.2) (h.2 i hi)⟩
theorem wpAnyF_first {i e : Nat} {oi : Oper} {v : Value} (hi : ops[i]? = some oi) (hsel : ∀ (j : Nat) (o : Oper) cs b, ops[j]? = some o → o.op ≠ .select cs b)
    (hQ : ∀ c a w, Q (.panic c) (a.put oi.dst v) w → Q (.panic c) a w) (hie : i < e) (hwait : ∀ j, e ≤ j → j < ops.size → Region.waitsFor md ops j i = true) :
    ∀ (fuel : Nat) (listed : Array Bool) (a : Act) (w : World),
      (∀ j oj, ops[j]? = some oj → j ≠ i → listed.getD j true = false → (∀ x ∈ oj.after, Region.binds md x = true → x.on ≠ i) → oi.apart ops oj = true) →
      i ∈ Region.ready md ops listed → YieldsIf P ops S oi v a → S w →
      wpAnyF P md ops Q S e fuel (listed.setIfInBounds i true) (a.put oi.dst v) w → wpAnyF P md ops Q S e (fuel + 1) listed a w := by
  intro fuel
  induction fuel with
  | zero =>
    intro listed a w _ hr hy hS H
    refine ⟨fun h => (by rw [h] at hr; cases hr), fun j hj => ?_⟩
    by_cases hji : j = i
    · subst hji; exact hy.wpOp hi hS ⟨fun _ => hS, H⟩
    · have := ready_mono hj hji
      rw [H.1] at this
      cases this
  | succ fuel ih =>
    intro listed a w hfree hr hy hS H
    refine ⟨fun h => (by rw [h] at hr; cases hr), fun j hj => ?_⟩
    by_cases hji : j = i
    · subst hji; exact hy.wpOp hi hS ⟨fun _ => hS, H⟩
    · have h1 := H.2 j (ready_mono hj hji)
      obtain ⟨hjun, oj, hoj, hall⟩ := mem_ready.1 hj
      have hnot : ∀ x ∈ oj.after, Region.binds md x = true → x.on ≠ i := fun x he hb heq => by
        have h1 := hall x he hb
        have h0 := (mem_ready.1 hr).1
        rw [heq] at h1
        rcases Nat.lt_or_ge i listed.size with h' | h'
        · simp [h'] at h0 h1; rw [h0] at h1; cases h1
        · simp [Array.getElem?_eq_none h'] at h1
      have hje : j < e := by
        refine Nat.lt_of_not_le (fun h => ?_)
        obtain ⟨o', ho', x, hx, hb, hon⟩ := Region.waitsFor_spec (hwait j h (Array.getElem?_eq_some_iff.1 hoj).1)
        have : o' = oj := Option.some.inj (ho'.symm.trans hoj)
        subst this
        exact hnot x hx hb hon
      have h2 := wpOp_putIf hoj (hfree j oj hoj hji hjun hnot) (fun cs b => hsel i oi cs b hi) (fun cs b => hsel j oj cs b hoj) hQ hy h1
      have hfree' : ∀ k ok, ops[k]? = some ok → k ≠ i → (listed.setIfInBounds j true).getD k true = false →
          (∀ x ∈ ok.after, Region.binds md x = true → x.on ≠ i) → oi.apart ops ok = true := fun k ok hk hki hun hno => by
        refine hfree k ok hk hki ?_ hno
        by_cases hjk : j = k
        · subst hjk; exact hjun
        · rw [getD_set_ne true hjk] at hun; exact hun
      refine wpOp_mono (fun a' w' h3 => ⟨fun _ => h3.2.1 hje, ih (listed.setIfInBounds j true) a' w' hfree' (ready_mono hr (Ne.symm hji)) h3.1 (h3.2.1 hje) ?_⟩) h2
      rw [Array.setIfInBounds_comm _ _ hji]
      exact h3.2.2
theorem wpAnyF_take {i e : Nat} {oi : Oper} {v : Value} {fuel : Nat} {listed : Array Bool} {a : Act} {w : World} (hi : ops[i]? = some oi)
    (hs : Region.noSelect ops = true) (hf : Region.free md ops listed i = true) (hr : (Region.ready md ops listed).contains i = true) (hie : decide (i < e) = true) (hw : ((List.range ops.size).all fun j => decide (j < e) || Region.waitsFor md ops j i) = true)
    (hQ : ∀ c a w, Q (.panic c) (a.put oi.dst v) w → Q (.panic c) a w) (hy : YieldsIf P ops S oi v a) (hS : S w)
    (h : wpAnyF P md ops Q S e fuel (listed.setIfInBounds i true) (a.put oi.dst v) w) : wpAnyF P md ops Q S e (fuel + 1) listed a w :=
  wpAnyF_first hi (Region.noSelect_spec hs) hQ (of_decide_eq_true hie) (fun j h1 h2 => by
    have := List.all_eq_true.1 hw j (List.mem_range.2 h2)
    rw [Bool.or_eq_true, decide_eq_true_eq] at this
    exact this.resolve_left (by omega)) fuel listed a w (Region.free_spec hi hf) (by simpa using hr) hy hS h
/-- the one operation that may come up, none of a test -/
theorem wpAnyF_one {i e : Nat} {o : Oper} {fuel : Nat} {listed : Array Bool} {a : Act} {w : World} (hr : Region.ready md ops listed = [i]) (ho : ops[i]? = some o)
    (h : ∀ K' : Act → World → Prop, Shut (∀ a w, (i < e → S w) → ((i < e → S w) → wpAnyF P md ops Q S e fuel (listed.setIfInBounds i true) a w) → K' a w) → if Region.wanted o (yielded ops a.tmps) = true then Oper.wp P o a w K' Q else K' (a.put o.dst undef) w) :
    wpAnyF P md ops Q S e (fuel + 1) listed a w := by
  refine ⟨fun h0 => (by rw [h0] at hr; cases hr), fun j hj => ?_⟩
  rw [hr] at hj
  obtain rfl : j = i := by simpa using hj
  exact wpOp_step ho (fun K' hK => h K' (fun a w hS hW => hK a w ⟨hS, hW hS⟩))
theorem wpAnyF_done {e : Nat} {listed : Array Bool} {a : Act} {w : World} (hr : Region.ready md ops listed = []) (h : Q .normal a w) :
    ∀ fuel, wpAnyF P md ops Q S e fuel listed a w
  | 0 => ⟨hr, h⟩
  | _ + 1 => ⟨fun _ => h, by rw [hr]; simp⟩
theorem wp_region_F {id : Nat} {a : Act} {w : World} (e : Nat) (S : World → Prop) (hm : P.follows .mixedOrders = true)
    (h : wpAnyF P .any ops Q S e ops.size (Array.replicate ops.size false) a w.drew) : (Code.region id ops true).wp P Q a w :=
  wp_region_any hm (wpAny_of_F _ _ _ _ h)
end

end Go.Proofs.Ytimpnpdhhhbmgaa
