/- append(s, make([]byte, k)...) onto bytes of the call's own; walk of Sector. Walk of the reference's good. Walk of the reference's good. Walks of bytes.Equal and of good. -/
import Derived.Test.YtkcnanclpkongaaJA
import Derived.Lib.AppendZerosOnto
import Derived.Test.YtkcnanclpkongaaJPA
namespace Go.Proofs.Ytkcnanclpkongaa
section
open Go.RowKit
set_option linter.unusedVariables false
set_option linter.unusedSimpArgs false

theorem zeroB (k : Nat) : (Builtin.zeroCells #[.int .u8 0] k).toList = (List.replicate k (0 : UInt8)).map encB := by
  have h := zs_arr' k
  unfold madeCells at h
  apply List.ext_getElem
  · simp [Builtin.zeroCells]
  · intro i h1 h2
    simp [Builtin.zeroCells, encB]
    rw [Nat.mod_one]
    rfl
theorem run_append_room_zeros {W : World} (ty : TypeId) {g sLen sCap k : Nat} {cur : Array Value} (hg : W.heap[g]? = some (.cells cur 5 (0, 0))) (hk : k ≤ 1000000) (hroom : sLen + k ≤ sCap) (hfit : sLen + k ≤ cur.size) :
    (Builtin.append_ #[35, 3] ty #[.slice (some ⟨g, 0, none⟩) sLen sCap, .int .i64 k]).run Try.prog W =
      .ok (.slice (some ⟨g, 0, none⟩) (sLen + k) sCap) (W.setRow g (cur.toList.take sLen ++ (List.replicate k (0 : UInt8)).map encB ++ cur.toList.drop (sLen + k)).toArray) := by
  obtain ⟨i0, hi, hz0, hz1, hz2⟩ := info_parts info5
  have hw : IntKind.i64.wrap (k : Int) = k := by rw [IntKind.wrap_i64]; omega
  have hneg : ¬ ((k : Int) < 0) := by omega
  have h48i : ¬ (281474976710656 < (k : Int) * (i0.bytes : Int)) := by rw [hz2]; omega
  have hst := run_storeCells_at Try.prog g sLen 5 ((List.replicate k (0 : UInt8)).map encB) 0 cur W hg (by simpa using hfit) (by intro u hu; simp only [List.mem_map] at hu; obtain ⟨y, _, rfl⟩ := hu; rfl)
  simp only [Nat.add_zero, List.length_map, List.length_replicate] at hst
  have hcl : (Value.int .u8 0).cells = #[Value.int .u8 0] := rfl
  by_cases hk0 : k = 0
  · subst hk0
    have hw0 : IntKind.i64.wrap 0 = 0 := rfl
    have hst0 : (storeCells ⟨g, sLen, none⟩ []).run Try.prog W = .ok () (W.setRow g (cur.toList.take sLen ++ [] ++ cur.toList.drop (sLen + 0)).toArray) := hst
    simp [Builtin.append_, run_underlying Try.underlying35, run_underlying Try.underlying3, sizeOf, typeInfo, zeroValue, hi, hz0, hz1, hz2, asInt, asIntOf, hw0, hroom, Addr.add_lit, hst0]
    intro h; omega
  · have hns : ¬ (k * i0.size = 0) := Nat.mul_ne_zero hk0 (by omega)
    have h48k : ¬ (281474976710656 < (k : Int)) := by omega
    rw [← zeroB] at hst ⊢
    simp [Builtin.append_, run_underlying Try.underlying35, run_underlying Try.underlying3, sizeOf, typeInfo, zeroValue, hi, hz0, hz1, hz2, asInt, asIntOf, hw, hroom, hneg, hns, hk0, h48k, Addr.add_lit, hcl, hst]

theorem appZ_run {W : World} {base : Nat} (ty : TypeId) {v : Value} {bs : By} {k : Nat} (hown : OwnBytes W base v bs) (h0 : 0 < bs.length) (hlen : bs.length + k ≤ 1000000) (hb : base ≤ W.heap.size) :
    ∃ v' w', (Builtin.append_ #[35, 3] ty #[v, .int .i64 k]).run Try.prog W = .ok v' w' ∧ OwnBytes w' base v' (bs ++ List.replicate k 0) ∧ W.grownBy w' v.ownBlock ∧ (v'.ownBlock = v.ownBlock ∨ v'.ownBlock = some W.heap.size) := by
  obtain ⟨i0, hi, hz0, hz1, hz2⟩ := info_parts info5
  have hxl : ((bs ++ List.replicate k 0).map encB).length = (bs.length + k) * 1 := by simp
  have hxl2 : (bs ++ List.replicate k (0 : UInt8)).length = bs.length + k := by simp
  rcases id hown.2 with ⟨rfl, hz⟩ | ⟨g, cap, cur, rfl, hbg, hg, hnc, hcm, hcs, htake⟩
  · omega
  · rw [Nat.mul_one] at hcs htake
    by_cases hroom : bs.length + k ≤ cap
    · have hr := run_append_room_zeros (W := W) ty hg (k := k) (by omega) hroom (by omega)
      refine ⟨_, _, hr, ?_, ⟨rfl, rfl, rfl, by simp, fun q _ hq => setRow_other W g q _ (fun e => hq (by simp [Value.ownBlock, e]))⟩, Or.inl rfl⟩
      unfold OwnBytes
      rw [hxl2]
      refine ⟨hxl, .inr ⟨g, cap, _, rfl, hbg, setRow_heap W g cur _ 5 _ hg, hroom, hcm, ?_, ?_⟩⟩
      · simp only [List.size_toArray, List.length_append, List.length_take, List.length_drop, Array.length_toList, List.length_map, List.length_replicate]
        omega
      · rw [htake, List.map_append]
        show (((bs.map encB ++ (List.replicate k 0).map encB) ++ cur.toList.drop (bs.length + k)).take ((bs.length + k) * 1)) = _
        rw [List.take_left' (by simp)]
    · have hk : 0 < k := by omega
      have holds : ∀ j u, (bs.map encB)[j]? = some u → W.cell? ((⟨g, 0, none⟩ : Addr).add j) = some u := World.ownsRow.cells hown (g := g) rfl
      have hf := run_firstCells_some (P := Try.prog) W.drew i0.size bs.length ⟨g, 0, none⟩ bs.length cap (bs.map encB) (by rw [hz1]; simp) (by simpa using holds)
      have hr := Lib.run_append_grow_zeros (P := Try.prog) W 35 3 ty 5 i0 _ .i64 .i64 Try.underlying35 Try.underlying3 hi hz0 (some ⟨g, 0, none⟩) bs.length cap (bs.map encB) hf k hk (by omega) (by omega) (by omega) (by rw [hz2]; omega) (growslice_fits (by omega) (by rw [hz2]; omega))
      have hge := grownCap_ge W (bs.length + k) cap 5
      have hcm2 : grownCap W (bs.length + k) cap 5 ≤ maxLen := grownCap_le_maxLen W (bs.length + k) cap 5 (by unfold maxLen; omega)
      refine ⟨_, _, hr, ?_, ⟨rfl, rfl, rfl, by simp, fun q hq _ => heap_alloc_old W.drew _ hq⟩, Or.inr rfl⟩
      unfold OwnBytes
      rw [hxl2]
      refine ⟨hxl, .inr ⟨W.heap.size, _, _, rfl, hb, heap_alloc_new W.drew _, hge, hcm2, ?_, ?_⟩⟩
      · simp only [Array.size_append, List.size_toArray, size_zeroCells, List.length_map]
        show bs.length + k * 1 + (grownCap W (bs.length + k) cap 5 - (bs.length + k)) * 1 = _
        omega
      · simp only [Array.toList_append]
        rw [show (Value.int .u8 0).cells = #[Value.int .u8 0] from rfl, zeroB, List.map_append]
        rw [List.take_left' (by simp)]

theorem app_own {W W' : World} {base : Nat} {v : Value} {bs : By} {w : World} (h : OwnBytes W base v bs) (hb : Below base w W) (hg : W.grownBy W' v.ownBlock) (hbs : base ≤ W.heap.size) : Below base w W' := hb.grown hg hbs (fun k hk => (World.ownsRow.lt h k hk).1)
theorem wpList_app' {ops : Array Oper} {rest : List Oper} {o : Oper} {a : Act} {Q : Exit → Act → World → Prop} {X : World} {R : Value → World → Prop} (hgd : o.guard = none) (s x : Operand) (T T' : TypeId) (v y : Value) (ho : o.op = .call { callee := .builtin .append, args := #[s, x], argTypes := #[T, T'] })
    (hs : a.eval s = v) (hx : a.eval x = y) (hr : ∃ v' X', (Builtin.append_ #[T, T'] o.type #[v, y]).run Try.prog X = .ok v' X' ∧ R v' X')
    (h : ∀ v' X', R v' X' → wpList Try.prog ops Q rest (a.put o.dst v') X') : wpList Try.prog ops Q (o :: rest) a X :=
  wpList_plain hgd fun K hK => by
    obtain ⟨v', X', h1, h2⟩ := hr
    unfold Oper.wp execOp
    simp only [ho, resolve, invoke, builtin, Sem.run_bind, Sem.run_pure, Result.andThen_ok, List.map_toArray, List.map_cons, List.map_nil, hs, hx, h1]
    exact hK _ _ (h v' X' h2)
theorem ownB_base {W : World} {b b' : Nat} {v : Value} {bs : By} (h : OwnBytes W b v bs) (hb : b' ≤ b) : OwnBytes W b' v bs := by
  refine ⟨h.1, ?_⟩
  rcases h.2 with h2 | ⟨g, cap, cur, hv, hg, r⟩
  · exact .inl h2
  · exact .inr ⟨g, cap, cur, hv, by omega, r⟩
theorem own_apart {W W' : World} {b : Nat} {u v : Value} {x y : By} (h : OwnBytes W b u x) (h2 : OwnBytes W' W.heap.size v y) (hx : x ≠ []) : u.ownBlock ≠ v.ownBlock := by
  rcases h.2 with ⟨rfl, h0⟩ | ⟨g, cap, cur, rfl, hg, hh, _⟩
  · exact absurd (List.eq_nil_of_length_eq_zero h0) hx
  · intro e
    have h3 := World.ownsRow.lt h2 g (by rw [← e]; rfl)
    have := (Array.getElem?_eq_some_iff.1 hh).1
    omega
set_option maxHeartbeats 4000000 in
set_option maxRecDepth 100000 in
theorem Sector_0 {g k : Nat} {v : Value} {p : By} {w : World} (hv : IsBytes w v p) (hl : p.length ≤ 112) (hg : g < 18446744073709551616) (hk : k ≤ 65535) :
    Calls Try.prog 47 #[.int .u64 g, .int .i64 k, .bool false, .bool false, v] w fun e w' => ∃ u, e = .returned u ∧ IsBytes w' u (Jn.sec g k (UInt8.ofNat 0) p) ∧ Below w.heap.size w w' := by
  have HV := Lib.hid hv
  obtain ⟨Ap, cp, rfl, hcp, _⟩ := id hv
  clear hv
  have hkk : (k : Int) ≤ 65535 := by omega
  have hp2 : (p.length : Int) ≤ 112 := by omega
  go_enter Try.func47, Try.ntmps47
  go_wp2_with (fail)
  refine (numeral_any (n := k) (m := 2) (by omega) (by omega)).mono ?_
  rintro e w1 ⟨u1, rfl, ho, hb⟩
  have HO1 := Lib.hid ho
  have HB1 := Lib.hid hb
  clear ho hb
  have HY := Lib.hid (show IsBytes (w1.alloc (.cells #[.int .u8 0, .int .u8 (p.length : Int)] 5)) (.slice (some ⟨w1.heap.size, 0, none⟩) 2 2) [(UInt8.ofNat 0), UInt8.ofNat p.length] from
    bytes_cells (bs := [(UInt8.ofNat 0), UInt8.ofNat p.length]) (by
      have h := Cells.new w1 5 [.int .u8 0, .int .u8 (p.length : Int)]
      have e : ([(UInt8.ofNat 0), UInt8.ofNat p.length] : By).map encB = [.int .u8 0, .int .u8 (p.length : Int)] := by
        simp only [List.map_cons, List.map_nil, encB, UInt8.toNat_ofNat']
        congr 2
        congr 1
        omega
      rw [e]
      exact h) rfl (Nat.le_refl _))
  have HL1 := Lib.hid (Jn.nml_len 2 k)
  go_upto_region 7 with (at_builtin; go_must (refine wpList_app rfl (.tmp 22) (.tmp 27) 35 _ _ rfl rfl rfl (appB_run (base := w.heap.size) _ (HO1.out.below (al1 w1 _)) HY.out (by rw [HL1.out]; simp) (by have := HB1.out.size; simp; omega)) ?_); rintro v2 w2 ⟨ho2, hg2, -⟩; have HO2 := Lib.hid ho2; have HB2 := Lib.hid (app_own (HO1.out.below (al1 w1 _)) (HB1.out.up (al1 w1 _)) hg2 (by have := HB1.out.size; simp; omega)); clear ho2 hg2)
  clear HY HO1 HB1
  have HL2 := Lib.hid (show (Jn.nml k 2 ++ [(UInt8.ofNat 0), UInt8.ofNat p.length]).length = 4 by rw [List.length_append, HL1.out]; rfl)
  have hb2 := HB2.out.size
  go_upto_region 8 with (at_builtin; go_must (refine wpList_app rfl (.tmp 29) (.tmp 30) 35 _ _ rfl rfl rfl (appB_run (base := w.heap.size) _ HO2.out (HV.out.upb HB2.out) (by rw [HL2.out]; omega) hb2) ?_); rintro v3 w3 ⟨ho3, hg3, -⟩; have HO3 := Lib.hid ho3; have HB3 := Lib.hid (app_own HO2.out HB2.out hg3 hb2); clear ho3 hg3)
  clear HO2 HB2 hb2
  have HL3 := Lib.hid (show ((Jn.nml k 2 ++ [(UInt8.ofNat 0), UInt8.ofNat p.length]) ++ p).length = 4 + p.length by rw [List.length_append, HL2.out])
  have hb3 := HB3.out.size
  have hsub : (112 : Int) - (p.length : Int) = ((112 - p.length : Nat) : Int) := by omega
  go_upto_region 9 with (at_builtin; go_must (refine wpList_app' rfl (.tmp 32) (.tmp 35) 35 3 _ _ rfl rfl rfl (appZ_run (base := w.heap.size) (k := 112 - p.length) _ HO3.out (by rw [HL3.out]; omega) (by rw [HL3.out]; omega) hb3) ?_); rintro v4 w4 ⟨ho4, hg4, -⟩; have HO4 := Lib.hid ho4; have HB4 := Lib.hid (app_own HO3.out HB3.out hg4 hb3); clear ho4 hg4)
  clear HO3 HB3 hb3 hsub
  have HBO := Lib.hid (show (Jn.nml k 2 ++ [(UInt8.ofNat 0), UInt8.ofNat p.length]) ++ p ++ List.replicate (112 - p.length) 0 = Jn.body k (UInt8.ofNat 0) p by
    unfold Jn.body; simp only [List.append_assoc])
  rw [HBO.out] at HO4
  clear HBO
  have HBL := Lib.hid (Jn.body_len (k := k) (kind := (UInt8.ofNat 0)) hl)
  obtain ⟨bo, hbo⟩ : ∃ b, Jn.body k (UInt8.ofNat 0) p = b := ⟨_, rfl⟩
  rw [hbo] at HO4 HBL
  have HBO := Lib.hid hbo
  clear hbo
  obtain ⟨cr, hcr⟩ : ∃ c, Jn.crc bo = c := ⟨_, rfl⟩
  have hcl : cr < 4294967296 := by rw [← hcr]; exact Jn.crc_lt _
  have HCR := Lib.hid hcr
  clear hcr
  go_wp2_with (fail)
  refine (numeral_any (n := g) (m := 4) (by omega) hg).mono ?_
  rintro e w5 ⟨u5, rfl, ho, hb⟩
  have HO5 := Lib.hid (ownB_base ho HB4.out.size)
  have HN4 := Lib.hid (own_apart HO4.out ho (by intro h; have := HBL.out; rw [h] at this; cases this))
  have HB5 := Lib.hid (HB4.out.up hb)
  replace HO4 := Lib.hid (HO4.out.below hb)
  clear ho hb HB4
  go_wp2_with (fail)
  refine (checksum_any (bs := bo) HO4.out.bytes (by rw [HBL.out]; omega)).mono ?_
  rintro e w6 ⟨rfl, rfl⟩
  rw [HCR.out]
  go_wp2_with (fail)
  refine (numeral_any (n := cr) (m := 4) (by omega) (by omega)).mono ?_
  rintro e w6 ⟨u6, rfl, ho, hb⟩
  have HO6 := Lib.hid (ownB_base ho HB5.out.size)
  have HB6 := Lib.hid (HB5.out.up hb)
  replace HO4 := Lib.hid (HO4.out.below hb)
  have HN5 := Lib.hid (show u5.ownBlock ≠ u6.ownBlock from own_apart HO5.out ho (by intro h; have := Jn.nml_len 4 g; rw [h] at this; cases this))
  replace HO5 := Lib.hid (HO5.out.below hb)
  clear ho hb HB5
  have hb6 := HB6.out.size
  go_upto_region 10 with (at_builtin; go_must (refine wpList_app rfl (.tmp 38) (.tmp 42) 35 _ _ rfl rfl rfl (appB_run (base := w.heap.size) _ HO5.out HO6.out.bytes (by rw [Jn.nml_len, Jn.nml_len]; omega) hb6) ?_); rintro v7 w7 ⟨ho7, hg7, -⟩; have HO7 := Lib.hid ho7; have HG7 := Lib.hid hg7; clear ho7 hg7)
  have HB7 := Lib.hid (app_own HO5.out HB6.out HG7.out hb6)
  replace HO4 := Lib.hid (World.ownsRow.kept HO4.out HG7.out (.inr HN4.out))
  clear HO5 HO6 HB6 HG7 HN4 HN5 hb6
  have hb7 := HB7.out.size
  have HL7 := Lib.hid (show (Jn.nml g 4 ++ Jn.nml cr 4).length = 8 by rw [List.length_append, Jn.nml_len, Jn.nml_len])
  go_wp2_with (at_builtin; go_must (refine wpList_app rfl (.tmp 44) (.tmp 45) 35 _ _ rfl rfl rfl (appB_run (base := w.heap.size) _ HO7.out (show OwnBytes w7 w.heap.size v4 bo from HO4.out).bytes (by rw [HL7.out, HBL.out]; omega) hb7) ?_); rintro v8 w8 ⟨ho8, hg8, -⟩; have HO8 := Lib.hid ho8; have HB8 := Lib.hid (app_own HO7.out HB7.out hg8 hb7); clear ho8 hg8)
  clear HO7 HB7 hb7 HO4
  refine (numeral_any (n := g) (m := 4) (by omega) hg).mono ?_
  rintro e w9 ⟨u9, rfl, ho, hb⟩
  have HO9 := Lib.hid (ownB_base ho HB8.out.size)
  have HB9 := Lib.hid (HB8.out.up hb)
  replace HO8 := Lib.hid (HO8.out.below hb)
  clear ho hb HB8
  have hb9 := HB9.out.size
  have HL8 := Lib.hid (show (Jn.nml g 4 ++ Jn.nml cr 4 ++ bo).length = 124 by rw [List.length_append, HL7.out, HBL.out])
  go_wp2_with (at_builtin; go_must (refine wpList_app rfl (.tmp 46) (.tmp 48) 35 _ _ rfl rfl rfl (appB_run (base := w.heap.size) _ HO8.out HO9.out.bytes (by rw [HL8.out, Jn.nml_len]; omega) hb9) ?_); rintro v10 w10 ⟨ho10, hg10, -⟩; have HO10 := Lib.hid ho10; have HB10 := Lib.hid (app_own HO8.out HB9.out hg10 hb9); clear ho10 hg10)
  go_ret
  refine ⟨_, rfl, ?_, HB10.out⟩
  have h := HO10.out.bytes
  rw [← HCR.out, ← HBO.out, List.append_assoc, List.append_assoc] at h
  exact h
set_option maxHeartbeats 4000000 in
set_option maxRecDepth 100000 in
theorem Sector_1 {g k : Nat} {v : Value} {p : By} {w : World} (hv : IsBytes w v p) (hl : p.length ≤ 112) (hg : g < 18446744073709551616) (hk : k ≤ 65535) :
    Calls Try.prog 47 #[.int .u64 g, .int .i64 k, .bool true, .bool false, v] w fun e w' => ∃ u, e = .returned u ∧ IsBytes w' u (Jn.sec g k (UInt8.ofNat 1) p) ∧ Below w.heap.size w w' := by
  have HV := Lib.hid hv
  obtain ⟨Ap, cp, rfl, hcp, _⟩ := id hv
  clear hv
  have hkk : (k : Int) ≤ 65535 := by omega
  have hp2 : (p.length : Int) ≤ 112 := by omega
  go_enter Try.func47, Try.ntmps47
  go_wp2_with (fail)
  refine (numeral_any (n := k) (m := 2) (by omega) (by omega)).mono ?_
  rintro e w1 ⟨u1, rfl, ho, hb⟩
  have HO1 := Lib.hid ho
  have HB1 := Lib.hid hb
  clear ho hb
  have HY := Lib.hid (show IsBytes (w1.alloc (.cells #[.int .u8 1, .int .u8 (p.length : Int)] 5)) (.slice (some ⟨w1.heap.size, 0, none⟩) 2 2) [(UInt8.ofNat 1), UInt8.ofNat p.length] from
    bytes_cells (bs := [(UInt8.ofNat 1), UInt8.ofNat p.length]) (by
      have h := Cells.new w1 5 [.int .u8 1, .int .u8 (p.length : Int)]
      have e : ([(UInt8.ofNat 1), UInt8.ofNat p.length] : By).map encB = [.int .u8 1, .int .u8 (p.length : Int)] := by
        simp only [List.map_cons, List.map_nil, encB, UInt8.toNat_ofNat']
        congr 2
        congr 1
        omega
      rw [e]
      exact h) rfl (Nat.le_refl _))
  have HL1 := Lib.hid (Jn.nml_len 2 k)
  go_upto_region 7 with (at_builtin; go_must (refine wpList_app rfl (.tmp 22) (.tmp 27) 35 _ _ rfl rfl rfl (appB_run (base := w.heap.size) _ (HO1.out.below (al1 w1 _)) HY.out (by rw [HL1.out]; simp) (by have := HB1.out.size; simp; omega)) ?_); rintro v2 w2 ⟨ho2, hg2, -⟩; have HO2 := Lib.hid ho2; have HB2 := Lib.hid (app_own (HO1.out.below (al1 w1 _)) (HB1.out.up (al1 w1 _)) hg2 (by have := HB1.out.size; simp; omega)); clear ho2 hg2)
  clear HY HO1 HB1
  have HL2 := Lib.hid (show (Jn.nml k 2 ++ [(UInt8.ofNat 1), UInt8.ofNat p.length]).length = 4 by rw [List.length_append, HL1.out]; rfl)
  have hb2 := HB2.out.size
  go_upto_region 8 with (at_builtin; go_must (refine wpList_app rfl (.tmp 29) (.tmp 30) 35 _ _ rfl rfl rfl (appB_run (base := w.heap.size) _ HO2.out (HV.out.upb HB2.out) (by rw [HL2.out]; omega) hb2) ?_); rintro v3 w3 ⟨ho3, hg3, -⟩; have HO3 := Lib.hid ho3; have HB3 := Lib.hid (app_own HO2.out HB2.out hg3 hb2); clear ho3 hg3)
  clear HO2 HB2 hb2
  have HL3 := Lib.hid (show ((Jn.nml k 2 ++ [(UInt8.ofNat 1), UInt8.ofNat p.length]) ++ p).length = 4 + p.length by rw [List.length_append, HL2.out])
  have hb3 := HB3.out.size
  have hsub : (112 : Int) - (p.length : Int) = ((112 - p.length : Nat) : Int) := by omega
  go_upto_region 9 with (at_builtin; go_must (refine wpList_app' rfl (.tmp 32) (.tmp 35) 35 3 _ _ rfl rfl rfl (appZ_run (base := w.heap.size) (k := 112 - p.length) _ HO3.out (by rw [HL3.out]; omega) (by rw [HL3.out]; omega) hb3) ?_); rintro v4 w4 ⟨ho4, hg4, -⟩; have HO4 := Lib.hid ho4; have HB4 := Lib.hid (app_own HO3.out HB3.out hg4 hb3); clear ho4 hg4)
  clear HO3 HB3 hb3 hsub
  have HBO := Lib.hid (show (Jn.nml k 2 ++ [(UInt8.ofNat 1), UInt8.ofNat p.length]) ++ p ++ List.replicate (112 - p.length) 0 = Jn.body k (UInt8.ofNat 1) p by
    unfold Jn.body; simp only [List.append_assoc])
  rw [HBO.out] at HO4
  clear HBO
  have HBL := Lib.hid (Jn.body_len (k := k) (kind := (UInt8.ofNat 1)) hl)
  obtain ⟨bo, hbo⟩ : ∃ b, Jn.body k (UInt8.ofNat 1) p = b := ⟨_, rfl⟩
  rw [hbo] at HO4 HBL
  have HBO := Lib.hid hbo
  clear hbo
  obtain ⟨cr, hcr⟩ : ∃ c, Jn.crc bo = c := ⟨_, rfl⟩
  have hcl : cr < 4294967296 := by rw [← hcr]; exact Jn.crc_lt _
  have HCR := Lib.hid hcr
  clear hcr
  go_wp2_with (fail)
  refine (numeral_any (n := g) (m := 4) (by omega) hg).mono ?_
  rintro e w5 ⟨u5, rfl, ho, hb⟩
  have HO5 := Lib.hid (ownB_base ho HB4.out.size)
  have HN4 := Lib.hid (own_apart HO4.out ho (by intro h; have := HBL.out; rw [h] at this; cases this))
  have HB5 := Lib.hid (HB4.out.up hb)
  replace HO4 := Lib.hid (HO4.out.below hb)
  clear ho hb HB4
  go_wp2_with (fail)
  refine (checksum_any (bs := bo) HO4.out.bytes (by rw [HBL.out]; omega)).mono ?_
  rintro e w6 ⟨rfl, rfl⟩
  rw [HCR.out]
  go_wp2_with (fail)
  refine (numeral_any (n := cr) (m := 4) (by omega) (by omega)).mono ?_
  rintro e w6 ⟨u6, rfl, ho, hb⟩
  have HO6 := Lib.hid (ownB_base ho HB5.out.size)
  have HB6 := Lib.hid (HB5.out.up hb)
  replace HO4 := Lib.hid (HO4.out.below hb)
  have HN5 := Lib.hid (show u5.ownBlock ≠ u6.ownBlock from own_apart HO5.out ho (by intro h; have := Jn.nml_len 4 g; rw [h] at this; cases this))
  replace HO5 := Lib.hid (HO5.out.below hb)
  clear ho hb HB5
  have hb6 := HB6.out.size
  go_upto_region 10 with (at_builtin; go_must (refine wpList_app rfl (.tmp 38) (.tmp 42) 35 _ _ rfl rfl rfl (appB_run (base := w.heap.size) _ HO5.out HO6.out.bytes (by rw [Jn.nml_len, Jn.nml_len]; omega) hb6) ?_); rintro v7 w7 ⟨ho7, hg7, -⟩; have HO7 := Lib.hid ho7; have HG7 := Lib.hid hg7; clear ho7 hg7)
  have HB7 := Lib.hid (app_own HO5.out HB6.out HG7.out hb6)
  replace HO4 := Lib.hid (World.ownsRow.kept HO4.out HG7.out (.inr HN4.out))
  clear HO5 HO6 HB6 HG7 HN4 HN5 hb6
  have hb7 := HB7.out.size
  have HL7 := Lib.hid (show (Jn.nml g 4 ++ Jn.nml cr 4).length = 8 by rw [List.length_append, Jn.nml_len, Jn.nml_len])
  go_wp2_with (at_builtin; go_must (refine wpList_app rfl (.tmp 44) (.tmp 45) 35 _ _ rfl rfl rfl (appB_run (base := w.heap.size) _ HO7.out (show OwnBytes w7 w.heap.size v4 bo from HO4.out).bytes (by rw [HL7.out, HBL.out]; omega) hb7) ?_); rintro v8 w8 ⟨ho8, hg8, -⟩; have HO8 := Lib.hid ho8; have HB8 := Lib.hid (app_own HO7.out HB7.out hg8 hb7); clear ho8 hg8)
  clear HO7 HB7 hb7 HO4
  refine (numeral_any (n := g) (m := 4) (by omega) hg).mono ?_
  rintro e w9 ⟨u9, rfl, ho, hb⟩
  have HO9 := Lib.hid (ownB_base ho HB8.out.size)
  have HB9 := Lib.hid (HB8.out.up hb)
  replace HO8 := Lib.hid (HO8.out.below hb)
  clear ho hb HB8
  have hb9 := HB9.out.size
  have HL8 := Lib.hid (show (Jn.nml g 4 ++ Jn.nml cr 4 ++ bo).length = 124 by rw [List.length_append, HL7.out, HBL.out])
  go_wp2_with (at_builtin; go_must (refine wpList_app rfl (.tmp 46) (.tmp 48) 35 _ _ rfl rfl rfl (appB_run (base := w.heap.size) _ HO8.out HO9.out.bytes (by rw [HL8.out, Jn.nml_len]; omega) hb9) ?_); rintro v10 w10 ⟨ho10, hg10, -⟩; have HO10 := Lib.hid ho10; have HB10 := Lib.hid (app_own HO8.out HB9.out hg10 hb9); clear ho10 hg10)
  go_ret
  refine ⟨_, rfl, ?_, HB10.out⟩
  have h := HO10.out.bytes
  rw [← HCR.out, ← HBO.out, List.append_assoc, List.append_assoc] at h
  exact h
set_option maxHeartbeats 4000000 in
set_option maxRecDepth 100000 in
theorem Sector_2 {g k : Nat} {v : Value} {p : By} {w : World} (hv : IsBytes w v p) (hl : p.length ≤ 112) (hg : g < 18446744073709551616) (hk : k ≤ 65535) :
    Calls Try.prog 47 #[.int .u64 g, .int .i64 k, .bool false, .bool true, v] w fun e w' => ∃ u, e = .returned u ∧ IsBytes w' u (Jn.sec g k (UInt8.ofNat 2) p) ∧ Below w.heap.size w w' := by
  have HV := Lib.hid hv
  obtain ⟨Ap, cp, rfl, hcp, _⟩ := id hv
  clear hv
  have hkk : (k : Int) ≤ 65535 := by omega
  have hp2 : (p.length : Int) ≤ 112 := by omega
  go_enter Try.func47, Try.ntmps47
  go_wp2_with (fail)
  refine (numeral_any (n := k) (m := 2) (by omega) (by omega)).mono ?_
  rintro e w1 ⟨u1, rfl, ho, hb⟩
  have HO1 := Lib.hid ho
  have HB1 := Lib.hid hb
  clear ho hb
  have HY := Lib.hid (show IsBytes (w1.alloc (.cells #[.int .u8 2, .int .u8 (p.length : Int)] 5)) (.slice (some ⟨w1.heap.size, 0, none⟩) 2 2) [(UInt8.ofNat 2), UInt8.ofNat p.length] from
    bytes_cells (bs := [(UInt8.ofNat 2), UInt8.ofNat p.length]) (by
      have h := Cells.new w1 5 [.int .u8 2, .int .u8 (p.length : Int)]
      have e : ([(UInt8.ofNat 2), UInt8.ofNat p.length] : By).map encB = [.int .u8 2, .int .u8 (p.length : Int)] := by
        simp only [List.map_cons, List.map_nil, encB, UInt8.toNat_ofNat']
        congr 2
        congr 1
        omega
      rw [e]
      exact h) rfl (Nat.le_refl _))
  have HL1 := Lib.hid (Jn.nml_len 2 k)
  go_upto_region 7 with (at_builtin; go_must (refine wpList_app rfl (.tmp 22) (.tmp 27) 35 _ _ rfl rfl rfl (appB_run (base := w.heap.size) _ (HO1.out.below (al1 w1 _)) HY.out (by rw [HL1.out]; simp) (by have := HB1.out.size; simp; omega)) ?_); rintro v2 w2 ⟨ho2, hg2, -⟩; have HO2 := Lib.hid ho2; have HB2 := Lib.hid (app_own (HO1.out.below (al1 w1 _)) (HB1.out.up (al1 w1 _)) hg2 (by have := HB1.out.size; simp; omega)); clear ho2 hg2)
  clear HY HO1 HB1
  have HL2 := Lib.hid (show (Jn.nml k 2 ++ [(UInt8.ofNat 2), UInt8.ofNat p.length]).length = 4 by rw [List.length_append, HL1.out]; rfl)
  have hb2 := HB2.out.size
  go_upto_region 8 with (at_builtin; go_must (refine wpList_app rfl (.tmp 29) (.tmp 30) 35 _ _ rfl rfl rfl (appB_run (base := w.heap.size) _ HO2.out (HV.out.upb HB2.out) (by rw [HL2.out]; omega) hb2) ?_); rintro v3 w3 ⟨ho3, hg3, -⟩; have HO3 := Lib.hid ho3; have HB3 := Lib.hid (app_own HO2.out HB2.out hg3 hb2); clear ho3 hg3)
  clear HO2 HB2 hb2
  have HL3 := Lib.hid (show ((Jn.nml k 2 ++ [(UInt8.ofNat 2), UInt8.ofNat p.length]) ++ p).length = 4 + p.length by rw [List.length_append, HL2.out])
  have hb3 := HB3.out.size
  have hsub : (112 : Int) - (p.length : Int) = ((112 - p.length : Nat) : Int) := by omega
  go_upto_region 9 with (at_builtin; go_must (refine wpList_app' rfl (.tmp 32) (.tmp 35) 35 3 _ _ rfl rfl rfl (appZ_run (base := w.heap.size) (k := 112 - p.length) _ HO3.out (by rw [HL3.out]; omega) (by rw [HL3.out]; omega) hb3) ?_); rintro v4 w4 ⟨ho4, hg4, -⟩; have HO4 := Lib.hid ho4; have HB4 := Lib.hid (app_own HO3.out HB3.out hg4 hb3); clear ho4 hg4)
  clear HO3 HB3 hb3 hsub
  have HBO := Lib.hid (show (Jn.nml k 2 ++ [(UInt8.ofNat 2), UInt8.ofNat p.length]) ++ p ++ List.replicate (112 - p.length) 0 = Jn.body k (UInt8.ofNat 2) p by
    unfold Jn.body; simp only [List.append_assoc])
  rw [HBO.out] at HO4
  clear HBO
  have HBL := Lib.hid (Jn.body_len (k := k) (kind := (UInt8.ofNat 2)) hl)
  obtain ⟨bo, hbo⟩ : ∃ b, Jn.body k (UInt8.ofNat 2) p = b := ⟨_, rfl⟩
  rw [hbo] at HO4 HBL
  have HBO := Lib.hid hbo
  clear hbo
  obtain ⟨cr, hcr⟩ : ∃ c, Jn.crc bo = c := ⟨_, rfl⟩
  have hcl : cr < 4294967296 := by rw [← hcr]; exact Jn.crc_lt _
  have HCR := Lib.hid hcr
  clear hcr
  go_wp2_with (fail)
  refine (numeral_any (n := g) (m := 4) (by omega) hg).mono ?_
  rintro e w5 ⟨u5, rfl, ho, hb⟩
  have HO5 := Lib.hid (ownB_base ho HB4.out.size)
  have HN4 := Lib.hid (own_apart HO4.out ho (by intro h; have := HBL.out; rw [h] at this; cases this))
  have HB5 := Lib.hid (HB4.out.up hb)
  replace HO4 := Lib.hid (HO4.out.below hb)
  clear ho hb HB4
  go_wp2_with (fail)
  refine (checksum_any (bs := bo) HO4.out.bytes (by rw [HBL.out]; omega)).mono ?_
  rintro e w6 ⟨rfl, rfl⟩
  rw [HCR.out]
  go_wp2_with (fail)
  refine (numeral_any (n := cr) (m := 4) (by omega) (by omega)).mono ?_
  rintro e w6 ⟨u6, rfl, ho, hb⟩
  have HO6 := Lib.hid (ownB_base ho HB5.out.size)
  have HB6 := Lib.hid (HB5.out.up hb)
  replace HO4 := Lib.hid (HO4.out.below hb)
  have HN5 := Lib.hid (show u5.ownBlock ≠ u6.ownBlock from own_apart HO5.out ho (by intro h; have := Jn.nml_len 4 g; rw [h] at this; cases this))
  replace HO5 := Lib.hid (HO5.out.below hb)
  clear ho hb HB5
  have hb6 := HB6.out.size
  go_upto_region 10 with (at_builtin; go_must (refine wpList_app rfl (.tmp 38) (.tmp 42) 35 _ _ rfl rfl rfl (appB_run (base := w.heap.size) _ HO5.out HO6.out.bytes (by rw [Jn.nml_len, Jn.nml_len]; omega) hb6) ?_); rintro v7 w7 ⟨ho7, hg7, -⟩; have HO7 := Lib.hid ho7; have HG7 := Lib.hid hg7; clear ho7 hg7)
  have HB7 := Lib.hid (app_own HO5.out HB6.out HG7.out hb6)
  replace HO4 := Lib.hid (World.ownsRow.kept HO4.out HG7.out (.inr HN4.out))
  clear HO5 HO6 HB6 HG7 HN4 HN5 hb6
  have hb7 := HB7.out.size
  have HL7 := Lib.hid (show (Jn.nml g 4 ++ Jn.nml cr 4).length = 8 by rw [List.length_append, Jn.nml_len, Jn.nml_len])
  go_wp2_with (at_builtin; go_must (refine wpList_app rfl (.tmp 44) (.tmp 45) 35 _ _ rfl rfl rfl (appB_run (base := w.heap.size) _ HO7.out (show OwnBytes w7 w.heap.size v4 bo from HO4.out).bytes (by rw [HL7.out, HBL.out]; omega) hb7) ?_); rintro v8 w8 ⟨ho8, hg8, -⟩; have HO8 := Lib.hid ho8; have HB8 := Lib.hid (app_own HO7.out HB7.out hg8 hb7); clear ho8 hg8)
  clear HO7 HB7 hb7 HO4
  refine (numeral_any (n := g) (m := 4) (by omega) hg).mono ?_
  rintro e w9 ⟨u9, rfl, ho, hb⟩
  have HO9 := Lib.hid (ownB_base ho HB8.out.size)
  have HB9 := Lib.hid (HB8.out.up hb)
  replace HO8 := Lib.hid (HO8.out.below hb)
  clear ho hb HB8
  have hb9 := HB9.out.size
  have HL8 := Lib.hid (show (Jn.nml g 4 ++ Jn.nml cr 4 ++ bo).length = 124 by rw [List.length_append, HL7.out, HBL.out])
  go_wp2_with (at_builtin; go_must (refine wpList_app rfl (.tmp 46) (.tmp 48) 35 _ _ rfl rfl rfl (appB_run (base := w.heap.size) _ HO8.out HO9.out.bytes (by rw [HL8.out, Jn.nml_len]; omega) hb9) ?_); rintro v10 w10 ⟨ho10, hg10, -⟩; have HO10 := Lib.hid ho10; have HB10 := Lib.hid (app_own HO8.out HB9.out hg10 hb9); clear ho10 hg10)
  go_ret
  refine ⟨_, rfl, ?_, HB10.out⟩
  have h := HO10.out.bytes
  rw [← HCR.out, ← HBO.out, List.append_assoc, List.append_assoc] at h
  exact h
set_option maxHeartbeats 4000000 in
set_option maxRecDepth 100000 in
theorem Sector_3 {g k : Nat} {v : Value} {p : By} {w : World} (hv : IsBytes w v p) (hl : p.length ≤ 112) (hg : g < 18446744073709551616) (hk : k ≤ 65535) :
    Calls Try.prog 47 #[.int .u64 g, .int .i64 k, .bool true, .bool true, v] w fun e w' => ∃ u, e = .returned u ∧ IsBytes w' u (Jn.sec g k (UInt8.ofNat 3) p) ∧ Below w.heap.size w w' := by
  have HV := Lib.hid hv
  obtain ⟨Ap, cp, rfl, hcp, _⟩ := id hv
  clear hv
  have hkk : (k : Int) ≤ 65535 := by omega
  have hp2 : (p.length : Int) ≤ 112 := by omega
  go_enter Try.func47, Try.ntmps47
  go_wp2_with (fail)
  refine (numeral_any (n := k) (m := 2) (by omega) (by omega)).mono ?_
  rintro e w1 ⟨u1, rfl, ho, hb⟩
  have HO1 := Lib.hid ho
  have HB1 := Lib.hid hb
  clear ho hb
  have HY := Lib.hid (show IsBytes (w1.alloc (.cells #[.int .u8 3, .int .u8 (p.length : Int)] 5)) (.slice (some ⟨w1.heap.size, 0, none⟩) 2 2) [(UInt8.ofNat 3), UInt8.ofNat p.length] from
    bytes_cells (bs := [(UInt8.ofNat 3), UInt8.ofNat p.length]) (by
      have h := Cells.new w1 5 [.int .u8 3, .int .u8 (p.length : Int)]
      have e : ([(UInt8.ofNat 3), UInt8.ofNat p.length] : By).map encB = [.int .u8 3, .int .u8 (p.length : Int)] := by
        simp only [List.map_cons, List.map_nil, encB, UInt8.toNat_ofNat']
        congr 2
        congr 1
        omega
      rw [e]
      exact h) rfl (Nat.le_refl _))
  have HL1 := Lib.hid (Jn.nml_len 2 k)
  go_upto_region 7 with (at_builtin; go_must (refine wpList_app rfl (.tmp 22) (.tmp 27) 35 _ _ rfl rfl rfl (appB_run (base := w.heap.size) _ (HO1.out.below (al1 w1 _)) HY.out (by rw [HL1.out]; simp) (by have := HB1.out.size; simp; omega)) ?_); rintro v2 w2 ⟨ho2, hg2, -⟩; have HO2 := Lib.hid ho2; have HB2 := Lib.hid (app_own (HO1.out.below (al1 w1 _)) (HB1.out.up (al1 w1 _)) hg2 (by have := HB1.out.size; simp; omega)); clear ho2 hg2)
  clear HY HO1 HB1
  have HL2 := Lib.hid (show (Jn.nml k 2 ++ [(UInt8.ofNat 3), UInt8.ofNat p.length]).length = 4 by rw [List.length_append, HL1.out]; rfl)
  have hb2 := HB2.out.size
  go_upto_region 8 with (at_builtin; go_must (refine wpList_app rfl (.tmp 29) (.tmp 30) 35 _ _ rfl rfl rfl (appB_run (base := w.heap.size) _ HO2.out (HV.out.upb HB2.out) (by rw [HL2.out]; omega) hb2) ?_); rintro v3 w3 ⟨ho3, hg3, -⟩; have HO3 := Lib.hid ho3; have HB3 := Lib.hid (app_own HO2.out HB2.out hg3 hb2); clear ho3 hg3)
  clear HO2 HB2 hb2
  have HL3 := Lib.hid (show ((Jn.nml k 2 ++ [(UInt8.ofNat 3), UInt8.ofNat p.length]) ++ p).length = 4 + p.length by rw [List.length_append, HL2.out])
  have hb3 := HB3.out.size
  have hsub : (112 : Int) - (p.length : Int) = ((112 - p.length : Nat) : Int) := by omega
  go_upto_region 9 with (at_builtin; go_must (refine wpList_app' rfl (.tmp 32) (.tmp 35) 35 3 _ _ rfl rfl rfl (appZ_run (base := w.heap.size) (k := 112 - p.length) _ HO3.out (by rw [HL3.out]; omega) (by rw [HL3.out]; omega) hb3) ?_); rintro v4 w4 ⟨ho4, hg4, -⟩; have HO4 := Lib.hid ho4; have HB4 := Lib.hid (app_own HO3.out HB3.out hg4 hb3); clear ho4 hg4)
  clear HO3 HB3 hb3 hsub
  have HBO := Lib.hid (show (Jn.nml k 2 ++ [(UInt8.ofNat 3), UInt8.ofNat p.length]) ++ p ++ List.replicate (112 - p.length) 0 = Jn.body k (UInt8.ofNat 3) p by
    unfold Jn.body; simp only [List.append_assoc])
  rw [HBO.out] at HO4
  clear HBO
  have HBL := Lib.hid (Jn.body_len (k := k) (kind := (UInt8.ofNat 3)) hl)
  obtain ⟨bo, hbo⟩ : ∃ b, Jn.body k (UInt8.ofNat 3) p = b := ⟨_, rfl⟩
  rw [hbo] at HO4 HBL
  have HBO := Lib.hid hbo
  clear hbo
  obtain ⟨cr, hcr⟩ : ∃ c, Jn.crc bo = c := ⟨_, rfl⟩
  have hcl : cr < 4294967296 := by rw [← hcr]; exact Jn.crc_lt _
  have HCR := Lib.hid hcr
  clear hcr
  go_wp2_with (fail)
  refine (numeral_any (n := g) (m := 4) (by omega) hg).mono ?_
  rintro e w5 ⟨u5, rfl, ho, hb⟩
  have HO5 := Lib.hid (ownB_base ho HB4.out.size)
  have HN4 := Lib.hid (own_apart HO4.out ho (by intro h; have := HBL.out; rw [h] at this; cases this))
  have HB5 := Lib.hid (HB4.out.up hb)
  replace HO4 := Lib.hid (HO4.out.below hb)
  clear ho hb HB4
  go_wp2_with (fail)
  refine (checksum_any (bs := bo) HO4.out.bytes (by rw [HBL.out]; omega)).mono ?_
  rintro e w6 ⟨rfl, rfl⟩
  rw [HCR.out]
  go_wp2_with (fail)
  refine (numeral_any (n := cr) (m := 4) (by omega) (by omega)).mono ?_
  rintro e w6 ⟨u6, rfl, ho, hb⟩
  have HO6 := Lib.hid (ownB_base ho HB5.out.size)
  have HB6 := Lib.hid (HB5.out.up hb)
  replace HO4 := Lib.hid (HO4.out.below hb)
  have HN5 := Lib.hid (show u5.ownBlock ≠ u6.ownBlock from own_apart HO5.out ho (by intro h; have := Jn.nml_len 4 g; rw [h] at this; cases this))
  replace HO5 := Lib.hid (HO5.out.below hb)
  clear ho hb HB5
  have hb6 := HB6.out.size
  go_upto_region 10 with (at_builtin; go_must (refine wpList_app rfl (.tmp 38) (.tmp 42) 35 _ _ rfl rfl rfl (appB_run (base := w.heap.size) _ HO5.out HO6.out.bytes (by rw [Jn.nml_len, Jn.nml_len]; omega) hb6) ?_); rintro v7 w7 ⟨ho7, hg7, -⟩; have HO7 := Lib.hid ho7; have HG7 := Lib.hid hg7; clear ho7 hg7)
  have HB7 := Lib.hid (app_own HO5.out HB6.out HG7.out hb6)
  replace HO4 := Lib.hid (World.ownsRow.kept HO4.out HG7.out (.inr HN4.out))
  clear HO5 HO6 HB6 HG7 HN4 HN5 hb6
  have hb7 := HB7.out.size
  have HL7 := Lib.hid (show (Jn.nml g 4 ++ Jn.nml cr 4).length = 8 by rw [List.length_append, Jn.nml_len, Jn.nml_len])
  go_wp2_with (at_builtin; go_must (refine wpList_app rfl (.tmp 44) (.tmp 45) 35 _ _ rfl rfl rfl (appB_run (base := w.heap.size) _ HO7.out (show OwnBytes w7 w.heap.size v4 bo from HO4.out).bytes (by rw [HL7.out, HBL.out]; omega) hb7) ?_); rintro v8 w8 ⟨ho8, hg8, -⟩; have HO8 := Lib.hid ho8; have HB8 := Lib.hid (app_own HO7.out HB7.out hg8 hb7); clear ho8 hg8)
  clear HO7 HB7 hb7 HO4
  refine (numeral_any (n := g) (m := 4) (by omega) hg).mono ?_
  rintro e w9 ⟨u9, rfl, ho, hb⟩
  have HO9 := Lib.hid (ownB_base ho HB8.out.size)
  have HB9 := Lib.hid (HB8.out.up hb)
  replace HO8 := Lib.hid (HO8.out.below hb)
  clear ho hb HB8
  have hb9 := HB9.out.size
  have HL8 := Lib.hid (show (Jn.nml g 4 ++ Jn.nml cr 4 ++ bo).length = 124 by rw [List.length_append, HL7.out, HBL.out])
  go_wp2_with (at_builtin; go_must (refine wpList_app rfl (.tmp 46) (.tmp 48) 35 _ _ rfl rfl rfl (appB_run (base := w.heap.size) _ HO8.out HO9.out.bytes (by rw [HL8.out, Jn.nml_len]; omega) hb9) ?_); rintro v10 w10 ⟨ho10, hg10, -⟩; have HO10 := Lib.hid ho10; have HB10 := Lib.hid (app_own HO8.out HB9.out hg10 hb9); clear ho10 hg10)
  go_ret
  refine ⟨_, rfl, ?_, HB10.out⟩
  have h := HO10.out.bytes
  rw [← HCR.out, ← HBO.out, List.append_assoc, List.append_assoc] at h
  exact h
theorem Sector_any {g k : Nat} {bg en : Bool} {v : Value} {p : By} {w : World} (hv : IsBytes w v p) (hl : p.length ≤ 112) (hg : g < 18446744073709551616) (hk : k ≤ 65535) :
    Calls Try.prog 47 #[.int .u64 g, .int .i64 k, .bool bg, .bool en, v] w fun e w' => ∃ u, e = .returned u ∧ IsBytes w' u (Jn.sec g k (UInt8.ofNat ((if bg then 1 else 0) + (if en then 2 else 0))) p) ∧ Below w.heap.size w w' := by
  cases bg <;> cases en
  · exact Sector_0 hv hl hg hk
  · exact Sector_2 hv hl hg hk
  · exact Sector_1 hv hl hg hk
  · exact Sector_3 hv hl hg hk
end
section
open Go.RowKit
set_option linter.unusedVariables false
set_option linter.unusedSimpArgs false

theorem bytes_sub {W : World} {b off n0 c0 : Nat} {s : By} (h : IsBytes W (.slice (some ⟨b, off, none⟩) n0 c0) s) {i j n c : Nat} (hij : i ≤ j) (hj : j ≤ s.length) (hn : n = j - i) (hc : n ≤ c) : IsBytes W (.slice (some ⟨b, off + i, none⟩) n c) ((s.take j).drop i) := by
  subst hn
  obtain ⟨A, c', e, _, hr⟩ := h
  injection e with e1 e2 e3
  have hl : ((s.take j).drop i).length = j - i := by rw [List.length_drop, List.length_take]; omega
  refine ⟨some ⟨b, off + i, none⟩, c, by rw [hl], by rw [hl]; exact hc, fun hne => ?_⟩
  have hs : s.map encB ≠ [] := by
    intro h0
    have : s = [] := by simpa using h0
    subst this
    simp at hne
  obtain ⟨b', off', e4, hb, hcc⟩ := hr hs
  rw [← e1] at e4
  injection e4 with e4
  injection e4 with e5 e6
  subst e5 e6
  refine ⟨b, off + i, rfl, hb, fun q hq => ?_⟩
  rw [List.length_map, hl] at hq
  rw [Nat.add_assoc, hcc (i + q) (by rw [List.length_map]; omega)]
  simp
theorem bytes_pre {W : World} {b off n0 c0 : Nat} {s : By} (h : IsBytes W (.slice (some ⟨b, off, none⟩) n0 c0) s) {j n c : Nat} (hj : j ≤ s.length) (hn : n = j) (hc : n ≤ c) : IsBytes W (.slice (some ⟨b, off, none⟩) n c) (s.take j) := by
  have := bytes_sub h (i := 0) (j := j) (n := n) (c := c) (by omega) hj (by omega) hc
  simpa using this
theorem number_is {v : Value} {bs : By} {w : World} {m : Nat} (hv : IsBytes w v bs) (hl : bs.length ≤ 4) (hm : Jn.num bs = m) : Calls Try.prog 63 #[v] w fun e w' => e = .returned (.int .u64 m) ∧ w = w' := by subst hm; exact number_any hv hl
theorem get_is {v : Value} {bs : By} {w : World} {m : Nat} (hv : IsBytes w v bs) (hl : bs.length ≤ 4) (hm : Jn.num bs = m) : Calls Try.prog 41 #[v] w fun e w' => e = .returned (.int .u64 m) ∧ w = w' := by subst hm; exact get_any hv hl
theorem checksum_is {v : Value} {bs : By} {w : World} {m : Nat} (hv : IsBytes w v bs) (hl : bs.length ≤ 1000) (hm : Jn.crc bs = m) : Calls Try.prog 67 #[v] w fun e w' => e = .returned (.int .u32 m) ∧ w = w' := by subst hm; exact checksum_any hv hl
theorem number_q {v : Value} {bs : By} {w : World} {m n : Nat} (hv : IsBytes w v bs) (hl : bs.length ≤ 4) (hm : Jn.num bs = m) : Calls Try.prog 63 #[v] (w.drewN n) fun e w'' => e = .returned (.int .u64 m) ∧ ∃ m', w'' = w.drewN m' := (number_is (hv.drewN n) hl hm).mono fun _ _ ⟨he, hw⟩ => ⟨he, n, hw.symm⟩
theorem get_q {v : Value} {bs : By} {w : World} {m n : Nat} (hv : IsBytes w v bs) (hl : bs.length ≤ 4) (hm : Jn.num bs = m) : Calls Try.prog 41 #[v] (w.drewN n) fun e w'' => e = .returned (.int .u64 m) ∧ ∃ m', w'' = w.drewN m' := (get_is (hv.drewN n) hl hm).mono fun _ _ ⟨he, hw⟩ => ⟨he, n, hw.symm⟩
theorem checksum_q {v : Value} {bs : By} {w : World} {m n : Nat} (hv : IsBytes w v bs) (hl : bs.length ≤ 1000) (hm : Jn.crc bs = m) : Calls Try.prog 67 #[v] (w.drewN n) fun e w'' => e = .returned (.int .u32 m) ∧ ∃ m', w'' = w.drewN m' := (checksum_is (hv.drewN n) hl hm).mono fun _ _ ⟨he, hw⟩ => ⟨he, n, hw.symm⟩
theorem gd_no {s : By} {k : Nat} (h : ¬ Jn.Gd s k) : Jn.gd s k = false := decide_eq_false h
theorem at_bytes {W : World} {b off n c : Nat} {s : By} (h : IsBytes W (.slice (some ⟨b, off, none⟩) n c) s) {k : Nat} (hk : k < s.length) : W.cell? ⟨b, off + k, none⟩ = some (.int .u8 ((s.getD k 0).toNat : Int)) := by
  obtain ⟨b', off', e, hb, hc⟩ := bytes_at h hk
  injection e with e
  injection e with e1 e2
  subst e1 e2
  rw [hc]
  simp [List.getD, List.getElem?_eq_getElem hk]
/-- what a sector of 128 bytes answers in memory -/
structure Sc (W : World) (b off c : Nat) (s : By) : Prop where
  is : IsBytes W (.slice (some ⟨b, off, none⟩) 128 c) s
  len : s.length = 128
  cap : 128 ≤ c
theorem sc_of {w : World} {v : Value} {s : By} (hv : IsBytes w v s) (hs : s.length = 128) : ∃ b off c, v = .slice (some ⟨b, off, none⟩) 128 c ∧ b < w.heap.size ∧ Sc w b off c s := by
  obtain ⟨A, c, rfl, hc, hr⟩ := id hv
  obtain ⟨b, off, rfl, hb, _⟩ := hr (by intro h; have := congrArg List.length h; simp [hs] at this)
  rw [hs] at hv hc ⊢
  exact ⟨b, off, c, rfl, hb, hv, hs, hc⟩
theorem Sc.n1 {W : World} {b off c : Nat} {s : By} (h : Sc W b off c s) : IsBytes W (.slice (some ⟨b, off, none⟩) 4 c) (s.take 4) := bytes_pre h.is (by rw [h.len]; omega) rfl (by have := h.cap; omega)
theorem Sc.n2 {W : World} {b off c : Nat} {s : By} (h : Sc W b off c s) : IsBytes W (.slice (some ⟨b, off + 124, none⟩) 4 (c - 124)) (s.drop 124) := by
  have := bytes_sub h.is (i := 124) (j := 128) (n := 4) (c := c - 124) (by omega) (by rw [h.len]; omega) rfl (by have := h.cap; omega)
  rwa [List.take_of_length_le (by rw [h.len]; omega)] at this
theorem Sc.n3 {W : World} {b off c : Nat} {s : By} (h : Sc W b off c s) : IsBytes W (.slice (some ⟨b, off + 4, none⟩) 4 (c - 4)) ((s.take 8).drop 4) := bytes_sub h.is (by omega) (by rw [h.len]; omega) rfl (by have := h.cap; omega)
theorem Sc.n4 {W : World} {b off c : Nat} {s : By} (h : Sc W b off c s) : IsBytes W (.slice (some ⟨b, off + 8, none⟩) 116 (c - 8)) (Jn.bd s) := bytes_sub h.is (by omega) (by rw [h.len]; omega) rfl (by have := h.cap; omega)
theorem Sc.n5 {W : World} {b off c : Nat} {s : By} (h : Sc W b off c s) : IsBytes W (.slice (some ⟨b, off + 8, none⟩) 2 (c - 8)) ((s.take 10).drop 8) := bytes_sub h.is (by omega) (by rw [h.len]; omega) rfl (by have := h.cap; omega)
theorem Sc.c10 {W : World} {b off c : Nat} {s : By} (h : Sc W b off c s) {q : Nat} (hq : (Jn.kd s).toNat = q) : W.cell? ⟨b, off + 10, none⟩ = some (.int .u8 (q : Int)) := by subst hq; exact at_bytes h.is (by rw [h.len]; omega)
theorem Sc.c11 {W : World} {b off c : Nat} {s : By} (h : Sc W b off c s) {q : Nat} (hq : Jn.ln s = q) : W.cell? ⟨b, off + 11, none⟩ = some (.int .u8 (q : Int)) := by subst hq; exact at_bytes h.is (by rw [h.len]; omega)
theorem num_lt4 {b : By} (h : b.length = 4) : Jn.num b < 4294967296 := by have := Jn.num_lt 4 b h; simpa using this
theorem Sc.num_lt {W : World} {b off c : Nat} {s : By} (h : Sc W b off c s) : Jn.gen s < 4294967296 ∧ Jn.gnT s < 4294967296 ∧ Jn.crF s < 4294967296 ∧ Jn.nmF s < 65536 := by
  have hl := h.len
  refine ⟨num_lt4 (by rw [List.length_take]; omega), num_lt4 (by rw [List.length_drop]; omega), num_lt4 (by rw [List.length_drop, List.length_take]; omega), ?_⟩
  have := Jn.num_lt 2 ((s.take 10).drop 8) (by rw [List.length_drop, List.length_take]; omega)
  simpa [Jn.nmF] using this
theorem kd_le {q : UInt8} {n m : Nat} (h : q.toNat = n) (hm : m < 256) : q ≤ UInt8.ofNat m ↔ n ≤ m := by
  rw [UInt8.le_iff_toNat_le, h, UInt8.toNat_ofNat', Nat.mod_eq_of_lt hm]
theorem zs0_get {s : By} (hs : s.length = 128) (hl : Jn.ln s ≤ 112) : Jn.zs0 s = List.replicate (112 - Jn.ln s) 0 ↔ ∀ i, 12 + Jn.ln s ≤ i → i < 124 → s.getD i 0 = 0 := by
  have hlen : (Jn.zs0 s).length = 112 - Jn.ln s := by unfold Jn.zs0; rw [List.length_drop, List.length_take]; omega
  constructor
  · intro h i h1 h2
    have e : (Jn.zs0 s).getD (i - (12 + Jn.ln s)) 0 = s.getD i 0 := by
      unfold Jn.zs0
      rw [Jn.getD_drop, Jn.getD_take (by omega)]
      congr 1
      omega
    rw [← e, h]
    simp [List.getD]
    rw [List.getElem?_replicate]
    split <;> rfl
  · intro h
    refine List.ext_getElem (by rw [hlen, List.length_replicate]) (fun i h1 h2 => ?_)
    have := h (12 + Jn.ln s + i) (by omega) (by rw [hlen] at h1; omega)
    rw [List.getElem_replicate]
    have e : (Jn.zs0 s).getD i 0 = s.getD (12 + Jn.ln s + i) 0 := by
      unfold Jn.zs0
      rw [Jn.getD_drop, Jn.getD_take (by rw [hlen] at h1; omega)]
    rw [this] at e
    simpa [List.getD, List.getElem?_eq_getElem h1] using e
end
section
open Go.RowKit
set_option linter.unusedVariables false
set_option linter.unusedSimpArgs false

theorem gd_parts {s : By} {k : Nat} (hs : s.length = 128) : (Jn.gd s k = true) ↔ ((Jn.kd s).toNat ≤ 3 ∧ Jn.ln s ≤ 112 ∧ ¬ ((Jn.kd s).toNat < 2 ∧ Jn.ln s ≠ 112) ∧ ¬ ((Jn.kd s).toNat % 2 = 0 ∧ Jn.ln s = 0)) ∧ Jn.gen s ≠ 0 ∧ Jn.gen s = Jn.gnT s ∧ Jn.crF s = Jn.crc (Jn.bd s) ∧ Jn.nmF s = k ∧ ∀ i, 12 + Jn.ln s ≤ i → i < 124 → s.getD i 0 = 0 := by
  have e1 : Jn.kd s ≤ 3 ↔ (Jn.kd s).toNat ≤ 3 := UInt8.le_iff_toNat_le
  have e2 : Jn.kd s < 2 ↔ (Jn.kd s).toNat < 2 := UInt8.lt_iff_toNat_lt
  have e3 : Jn.kd s % 2 = 0 ↔ (Jn.kd s).toNat % 2 = 0 := by
    rw [← UInt8.toNat_inj, UInt8.toNat_mod]
    rfl
  unfold Jn.gd
  rw [decide_eq_true_eq]
  constructor
  · rintro ⟨⟨h1, h2, h3, h4⟩, h5, h6, h7, h8, h9⟩
    refine ⟨⟨e1.1 h1, h2, fun h => h3 ⟨e2.2 h.1, h.2⟩, fun h => h4 ⟨e3.2 h.1, h.2⟩⟩, h5, h6, h7, h8, (zs0_get hs h2).1 h9⟩
  · rintro ⟨⟨h1, h2, h3, h4⟩, h5, h6, h7, h8, h9⟩
    refine ⟨⟨e1.2 h1, h2, fun h => h3 ⟨e2.1 h.1, h.2⟩, fun h => h4 ⟨e3.1 h.1, h.2⟩⟩, h5, h6, h7, h8, (zs0_get hs h2).2 h9⟩

set_option maxHeartbeats 16000000 in
set_option maxRecDepth 100000 in
theorem refgood_any {s : By} {k : Nat} {v : Value} {w : World} (hv : IsBytes w v s) (hs : s.length = 128) (hk : k ≤ 65535) :
    Calls Try.prog 72 #[v, .int .i64 k] w fun e w' => e = .returned (.bool (Jn.gd s k)) ∧ ∃ n, w' = w.drewN n := by
  obtain ⟨b, off, c, rfl, hb, hS⟩ := sc_of hv hs
  have HS := Lib.hid hS
  have hc128 := hS.cap
  obtain ⟨a, ha⟩ : ∃ x, Jn.gen s = x := ⟨_, rfl⟩
  obtain ⟨t, ht⟩ : ∃ x, Jn.gnT s = x := ⟨_, rfl⟩
  obtain ⟨cf, hcf⟩ : ∃ x, Jn.crF s = x := ⟨_, rfl⟩
  obtain ⟨cd, hcd⟩ : ∃ x, Jn.crc (Jn.bd s) = x := ⟨_, rfl⟩
  obtain ⟨nf, hnf⟩ : ∃ x, Jn.nmF s = x := ⟨_, rfl⟩
  obtain ⟨q, hq⟩ : ∃ x, (Jn.kd s).toNat = x := ⟨_, rfl⟩
  obtain ⟨l, hl⟩ : ∃ x, Jn.ln s = x := ⟨_, rfl⟩
  have hcq := hS.c10 hq
  have hcl := hS.c11 hl
  have hal := hS.num_lt
  rw [ha, ht, hcf, hnf] at hal
  obtain ⟨ha2, ht2, hcf2, hnf2⟩ := hal
  have hcd2 : cd < 4294967296 := by rw [← hcd]; exact Jn.crc_lt _
  have hq2 : q < 256 := by rw [← hq]; exact (Jn.kd s).toNat_lt
  have hl2 : l < 256 := by rw [← hl]; exact (s.getD 11 0).toNat_lt
  have M1 := Lib.hid (show Jn.num (s.take 4) = a from ha)
  have M2 := Lib.hid (show Jn.num (s.drop 124) = t from ht)
  have M3 := Lib.hid (show Jn.num ((s.take 8).drop 4) = cf from hcf)
  have M4 := Lib.hid hcd
  have M5 := Lib.hid (show Jn.num ((s.take 10).drop 8) = nf from hnf)
  have L1 := Lib.hid (show (s.take 4).length ≤ 4 by rw [List.length_take]; omega)
  have L2 := Lib.hid (show (s.drop 124).length ≤ 4 by rw [List.length_drop]; omega)
  have L3 := Lib.hid (show ((s.take 8).drop 4).length ≤ 4 by rw [List.length_drop, List.length_take]; omega)
  have L4 := Lib.hid (show (Jn.bd s).length ≤ 1000 by rw [Jn.bd_len hs]; omega)
  have L5 := Lib.hid (show ((s.take 10).drop 8).length ≤ 4 by rw [List.length_drop, List.length_take]; omega)
  have hcast : IntKind.u32.wrap (cf : Int) = cf := by rw [IntKind.wrap_u32']; omega
  have hcm : (cf : Int) % 4294967296 = cf := by omega
  have hkk : (k : Int) ≤ 65535 := by omega
  have HC := Lib.hid (show (Jn.gd s k = true) ↔ (q ≤ 3 ∧ l ≤ 112 ∧ ¬ (q < 2 ∧ l ≠ 112) ∧ ¬ (q % 2 = 0 ∧ l = 0)) ∧ a ≠ 0 ∧ a = t ∧ cf = cd ∧ nf = k ∧ ∀ i, 12 + l ≤ i → i < 124 → s.getD i 0 = 0 from by
    subst ha ht hcf hcd hnf hq hl
    exact gd_parts hs)
  obtain ⟨r, hr⟩ : ∃ r, Jn.gd s k = r := ⟨_, rfl⟩
  rw [hr] at HC
  rw [hr]
  have HNO := Lib.hid (show ¬ ((q ≤ 3 ∧ l ≤ 112 ∧ ¬ (q < 2 ∧ l ≠ 112) ∧ ¬ (q % 2 = 0 ∧ l = 0)) ∧ a ≠ 0 ∧ a = t ∧ cf = cd ∧ nf = k ∧ ∀ i, 12 + l ≤ i → i < 124 → s.getD i 0 = 0) → r = false from fun h => by
    cases r with
    | false => rfl
    | true => exact absurd (HC.out.1 rfl) h)
  clear hr ha ht hcf hcd hnf hq hl hS hv
  go_enter Try.func72, Try.ntmps72
  go_wp2_with (fail)
  by_cases h_t1 : a = 0
  case pos =>
    have t1 : ((a : Int) == 0) = true := by first | (rw [beq_iff_eq]; omega) | (rw [bne_iff_ne]; omega) | (rw [decide_eq_true_eq]; omega)
    obtain rfl : r = false := HNO.out (by rintro ⟨_, h, _⟩; exact h h_t1)
    clear HC HNO
    go_quiet ((first | (go_at_call 63; first | with_reducible exact (number_q HS.out.n1 L1.out M1.out) | with_reducible exact (number_q HS.out.n2 L2.out M2.out) | with_reducible exact (number_q HS.out.n3 L3.out M3.out) | with_reducible exact (number_q HS.out.n5 L5.out M5.out)) | (go_at_call 67; with_reducible exact (checksum_q HS.out.n4 L4.out M4.out))))
    go_wp2_with (fail)
    go_ret
    exact ⟨rfl, _, rfl⟩
  case neg =>
  have t1 : ((a : Int) == 0) = false := by first | (rw [beq_eq_false_iff_ne]; omega) | (rw [bne_eq_false_iff_eq]; omega) | (rw [decide_eq_false_iff_not]; omega)
  by_cases h_t2 : a ≠ t
  case pos =>
    have t2 : ((a : Int) != (t : Int)) = true := by first | (rw [beq_iff_eq]; omega) | (rw [bne_iff_ne]; omega) | (rw [decide_eq_true_eq]; omega)
    obtain rfl : r = false := HNO.out (by rintro ⟨_, _, h, _⟩; exact h_t2 h)
    clear HC HNO
    go_quiet ((first | (go_at_call 63; first | with_reducible exact (number_q HS.out.n1 L1.out M1.out) | with_reducible exact (number_q HS.out.n2 L2.out M2.out) | with_reducible exact (number_q HS.out.n3 L3.out M3.out) | with_reducible exact (number_q HS.out.n5 L5.out M5.out)) | (go_at_call 67; with_reducible exact (checksum_q HS.out.n4 L4.out M4.out))))
    go_wp2_with (fail)
    go_ret
    exact ⟨rfl, _, rfl⟩
  case neg =>
  have t2 : ((a : Int) != (t : Int)) = false := by first | (rw [beq_eq_false_iff_ne]; omega) | (rw [bne_eq_false_iff_eq]; omega) | (rw [decide_eq_false_iff_not]; omega)
  by_cases h_t3 : cf ≠ cd
  case pos =>
    have t3 : ((cf : Int) != (cd : Int)) = true := by first | (rw [beq_iff_eq]; omega) | (rw [bne_iff_ne]; omega) | (rw [decide_eq_true_eq]; omega)
    obtain rfl : r = false := HNO.out (by rintro ⟨_, _, _, h, _⟩; exact h_t3 h)
    clear HC HNO
    go_quiet ((first | (go_at_call 63; first | with_reducible exact (number_q HS.out.n1 L1.out M1.out) | with_reducible exact (number_q HS.out.n2 L2.out M2.out) | with_reducible exact (number_q HS.out.n3 L3.out M3.out) | with_reducible exact (number_q HS.out.n5 L5.out M5.out)) | (go_at_call 67; with_reducible exact (checksum_q HS.out.n4 L4.out M4.out))))
    go_wp2_with (fail)
    go_ret
    exact ⟨rfl, _, rfl⟩
  case neg =>
  have t3 : ((cf : Int) != (cd : Int)) = false := by first | (rw [beq_eq_false_iff_ne]; omega) | (rw [bne_eq_false_iff_eq]; omega) | (rw [decide_eq_false_iff_not]; omega)
  by_cases h_t4 : nf ≠ k
  case pos =>
    have t4 : ((nf : Int) != (k : Int)) = true := by first | (rw [beq_iff_eq]; omega) | (rw [bne_iff_ne]; omega) | (rw [decide_eq_true_eq]; omega)
    obtain rfl : r = false := HNO.out (by rintro ⟨_, _, _, _, h, _⟩; exact h_t4 h)
    clear HC HNO
    go_quiet ((first | (go_at_call 63; first | with_reducible exact (number_q HS.out.n1 L1.out M1.out) | with_reducible exact (number_q HS.out.n2 L2.out M2.out) | with_reducible exact (number_q HS.out.n3 L3.out M3.out) | with_reducible exact (number_q HS.out.n5 L5.out M5.out)) | (go_at_call 67; with_reducible exact (checksum_q HS.out.n4 L4.out M4.out))))
    go_wp2_with (fail)
    go_ret
    exact ⟨rfl, _, rfl⟩
  case neg =>
  have t4 : ((nf : Int) != (k : Int)) = false := by first | (rw [beq_eq_false_iff_ne]; omega) | (rw [bne_eq_false_iff_eq]; omega) | (rw [decide_eq_false_iff_not]; omega)
  by_cases h_t5 : 3 < q
  case pos =>
    have t5 : (decide (3 < (q : Int))) = true := by first | (rw [beq_iff_eq]; omega) | (rw [bne_iff_ne]; omega) | (rw [decide_eq_true_eq]; omega)
    obtain rfl : r = false := HNO.out (by rintro ⟨⟨h, _⟩, _⟩; omega)
    clear HC HNO
    go_quiet ((first | (go_at_call 63; first | with_reducible exact (number_q HS.out.n1 L1.out M1.out) | with_reducible exact (number_q HS.out.n2 L2.out M2.out) | with_reducible exact (number_q HS.out.n3 L3.out M3.out) | with_reducible exact (number_q HS.out.n5 L5.out M5.out)) | (go_at_call 67; with_reducible exact (checksum_q HS.out.n4 L4.out M4.out))))
    go_wp2_with (fail)
    go_ret
    exact ⟨rfl, _, rfl⟩
  case neg =>
  have t5 : (decide (3 < (q : Int))) = false := by first | (rw [beq_eq_false_iff_ne]; omega) | (rw [bne_eq_false_iff_eq]; omega) | (rw [decide_eq_false_iff_not]; omega)
  by_cases h_t6 : 112 < l
  case pos =>
    have t6 : (decide (112 < (l : Int))) = true := by first | (rw [beq_iff_eq]; omega) | (rw [bne_iff_ne]; omega) | (rw [decide_eq_true_eq]; omega)
    obtain rfl : r = false := HNO.out (by rintro ⟨⟨_, h, _⟩, _⟩; omega)
    clear HC HNO
    go_quiet ((first | (go_at_call 63; first | with_reducible exact (number_q HS.out.n1 L1.out M1.out) | with_reducible exact (number_q HS.out.n2 L2.out M2.out) | with_reducible exact (number_q HS.out.n3 L3.out M3.out) | with_reducible exact (number_q HS.out.n5 L5.out M5.out)) | (go_at_call 67; with_reducible exact (checksum_q HS.out.n4 L4.out M4.out))))
    go_wp2_with (fail)
    go_ret
    exact ⟨rfl, _, rfl⟩
  case neg =>
  have t6 : (decide (112 < (l : Int))) = false := by first | (rw [beq_eq_false_iff_ne]; omega) | (rw [bne_eq_false_iff_eq]; omega) | (rw [decide_eq_false_iff_not]; omega)
  have hq4 : q = 0 ∨ q = 1 ∨ q = 2 ∨ q = 3 := by omega
  rcases hq4 with rfl | rfl | rfl | rfl
  ·
    by_cases h7 : l = 112
    case neg =>
      have t7 : ((l : Int) != 112) = true := by rw [bne_iff_ne]; omega
      obtain rfl : r = false := HNO.out (by rintro ⟨⟨_, _, h, _⟩, _⟩; exact h ⟨by omega, h7⟩)
      clear HC HNO
      go_quiet ((first | (go_at_call 63; first | with_reducible exact (number_q HS.out.n1 L1.out M1.out) | with_reducible exact (number_q HS.out.n2 L2.out M2.out) | with_reducible exact (number_q HS.out.n3 L3.out M3.out) | with_reducible exact (number_q HS.out.n5 L5.out M5.out)) | (go_at_call 67; with_reducible exact (checksum_q HS.out.n4 L4.out M4.out))))
      go_wp2_with (fail)
      go_ret
      exact ⟨rfl, _, rfl⟩
    case pos =>
      subst h7
      have HZ := Lib.hid (show r = true ↔ ∀ i, 12 + 112 ≤ i → i < 124 → s.getD i 0 = 0 from ⟨fun h => (HC.out.1 h).2.2.2.2.2, fun h => HC.out.2 ⟨⟨by omega, by omega, by omega, by omega⟩, by omega, by omega, by omega, by omega, h⟩⟩)
      clear HNO HC
      go_quiet ((first | (go_at_call 63; first | with_reducible exact (number_q HS.out.n1 L1.out M1.out) | with_reducible exact (number_q HS.out.n2 L2.out M2.out) | with_reducible exact (number_q HS.out.n3 L3.out M3.out) | with_reducible exact (number_q HS.out.n5 L5.out M5.out)) | (go_at_call 67; with_reducible exact (checksum_q HS.out.n4 L4.out M4.out))))
      go_wp2_with (fail)
      go_loop [6] (fun s6 => ∃ j : Nat, s6 = .int .i64 j ∧ 12 + 112 ≤ j ∧ j ≤ 124 ∧ Hid (∀ x, 12 + 112 ≤ x → x < j → s.getD x 0 = 0)) (fun s6 => 124 - (intOf s6).toNat)
      case atStart => exact ⟨12 + 112, by go_num, Nat.le_refl _, by omega, Lib.hid (fun x h1 h2 => by omega)⟩
      case round =>
        obtain ⟨j, rfl, hj1, hj2, HA⟩ := hrel
        by_cases hlt : j < 124
        case pos =>
          have hd : decide ((j : Int) < 124) = true := decide_eq_true (by omega)
          have hcj := at_bytes (HS.out.is.drewN nq) (k := j) (by rw [HS.out.len]; omega)
          obtain ⟨y, hy⟩ : ∃ y, (s.getD j 0).toNat = y := ⟨_, rfl⟩
          rw [hy] at hcj
          have HY := Lib.hid hy
          clear hy
          by_cases hy0 : y = 0
          case pos =>
            subst hy0
            go_wp2_with (fail)
            go_round
            case rel => exact ⟨j + 1, by go_num, by omega, by omega, Lib.hid (fun x h1 h2 => by
              by_cases e : x = j
              · subst e; exact UInt8.toNat_inj.1 HY.out
              · exact HA.out x h1 (by omega))⟩
            case measure => simp [intOf]; omega
          case neg =>
            have hyt : ((y : Int) != 0) = true := by rw [bne_iff_ne]; omega
            obtain rfl : r = false := by
              cases r with
              | false => rfl
              | true => exact absurd (by have := HY.out; rw [HZ.out.1 rfl j hj1 hlt] at this; exact this.symm) hy0
            clear HZ
            go_wp2_with (fail)
            go_ret
            exact ⟨rfl, _, rfl⟩
        case neg =>
          obtain rfl : j = 124 := by omega
          obtain rfl : r = true := HZ.out.2 HA.out
          clear HZ
          go_wp2_with (fail)
          go_ret
          exact ⟨rfl, _, rfl⟩
  ·
    by_cases h7 : l = 112
    case neg =>
      have t7 : ((l : Int) != 112) = true := by rw [bne_iff_ne]; omega
      obtain rfl : r = false := HNO.out (by rintro ⟨⟨_, _, h, _⟩, _⟩; exact h ⟨by omega, h7⟩)
      clear HC HNO
      go_quiet ((first | (go_at_call 63; first | with_reducible exact (number_q HS.out.n1 L1.out M1.out) | with_reducible exact (number_q HS.out.n2 L2.out M2.out) | with_reducible exact (number_q HS.out.n3 L3.out M3.out) | with_reducible exact (number_q HS.out.n5 L5.out M5.out)) | (go_at_call 67; with_reducible exact (checksum_q HS.out.n4 L4.out M4.out))))
      go_wp2_with (fail)
      go_ret
      exact ⟨rfl, _, rfl⟩
    case pos =>
      subst h7
      have HZ := Lib.hid (show r = true ↔ ∀ i, 12 + 112 ≤ i → i < 124 → s.getD i 0 = 0 from ⟨fun h => (HC.out.1 h).2.2.2.2.2, fun h => HC.out.2 ⟨⟨by omega, by omega, by omega, by omega⟩, by omega, by omega, by omega, by omega, h⟩⟩)
      clear HNO HC
      go_quiet ((first | (go_at_call 63; first | with_reducible exact (number_q HS.out.n1 L1.out M1.out) | with_reducible exact (number_q HS.out.n2 L2.out M2.out) | with_reducible exact (number_q HS.out.n3 L3.out M3.out) | with_reducible exact (number_q HS.out.n5 L5.out M5.out)) | (go_at_call 67; with_reducible exact (checksum_q HS.out.n4 L4.out M4.out))))
      go_wp2_with (fail)
      go_loop [6] (fun s6 => ∃ j : Nat, s6 = .int .i64 j ∧ 12 + 112 ≤ j ∧ j ≤ 124 ∧ Hid (∀ x, 12 + 112 ≤ x → x < j → s.getD x 0 = 0)) (fun s6 => 124 - (intOf s6).toNat)
      case atStart => exact ⟨12 + 112, by go_num, Nat.le_refl _, by omega, Lib.hid (fun x h1 h2 => by omega)⟩
      case round =>
        obtain ⟨j, rfl, hj1, hj2, HA⟩ := hrel
        by_cases hlt : j < 124
        case pos =>
          have hd : decide ((j : Int) < 124) = true := decide_eq_true (by omega)
          have hcj := at_bytes (HS.out.is.drewN nq) (k := j) (by rw [HS.out.len]; omega)
          obtain ⟨y, hy⟩ : ∃ y, (s.getD j 0).toNat = y := ⟨_, rfl⟩
          rw [hy] at hcj
          have HY := Lib.hid hy
          clear hy
          by_cases hy0 : y = 0
          case pos =>
            subst hy0
            go_wp2_with (fail)
            go_round
            case rel => exact ⟨j + 1, by go_num, by omega, by omega, Lib.hid (fun x h1 h2 => by
              by_cases e : x = j
              · subst e; exact UInt8.toNat_inj.1 HY.out
              · exact HA.out x h1 (by omega))⟩
            case measure => simp [intOf]; omega
          case neg =>
            have hyt : ((y : Int) != 0) = true := by rw [bne_iff_ne]; omega
            obtain rfl : r = false := by
              cases r with
              | false => rfl
              | true => exact absurd (by have := HY.out; rw [HZ.out.1 rfl j hj1 hlt] at this; exact this.symm) hy0
            clear HZ
            go_wp2_with (fail)
            go_ret
            exact ⟨rfl, _, rfl⟩
        case neg =>
          obtain rfl : j = 124 := by omega
          obtain rfl : r = true := HZ.out.2 HA.out
          clear HZ
          go_wp2_with (fail)
          go_ret
          exact ⟨rfl, _, rfl⟩
  ·
    by_cases h8 : l = 0
    case pos =>
      subst h8
      obtain rfl : r = false := HNO.out (by rintro ⟨⟨_, _, _, h⟩, _⟩; exact h ⟨rfl, rfl⟩)
      clear HC HNO
      go_quiet ((first | (go_at_call 63; first | with_reducible exact (number_q HS.out.n1 L1.out M1.out) | with_reducible exact (number_q HS.out.n2 L2.out M2.out) | with_reducible exact (number_q HS.out.n3 L3.out M3.out) | with_reducible exact (number_q HS.out.n5 L5.out M5.out)) | (go_at_call 67; with_reducible exact (checksum_q HS.out.n4 L4.out M4.out))))
      go_wp2_with (fail)
      go_ret
      exact ⟨rfl, _, rfl⟩
    case neg =>
      have t8 : ((l : Int) == 0) = false := by rw [beq_eq_false_iff_ne]; omega
      have HZ := Lib.hid (show r = true ↔ ∀ i, 12 + l ≤ i → i < 124 → s.getD i 0 = 0 from ⟨fun h => (HC.out.1 h).2.2.2.2.2, fun h => HC.out.2 ⟨⟨by omega, by omega, by omega, by omega⟩, by omega, by omega, by omega, by omega, h⟩⟩)
      clear HNO HC
      go_quiet ((first | (go_at_call 63; first | with_reducible exact (number_q HS.out.n1 L1.out M1.out) | with_reducible exact (number_q HS.out.n2 L2.out M2.out) | with_reducible exact (number_q HS.out.n3 L3.out M3.out) | with_reducible exact (number_q HS.out.n5 L5.out M5.out)) | (go_at_call 67; with_reducible exact (checksum_q HS.out.n4 L4.out M4.out))))
      go_wp2_with (fail)
      go_loop [6] (fun s6 => ∃ j : Nat, s6 = .int .i64 j ∧ 12 + l ≤ j ∧ j ≤ 124 ∧ Hid (∀ x, 12 + l ≤ x → x < j → s.getD x 0 = 0)) (fun s6 => 124 - (intOf s6).toNat)
      case atStart => exact ⟨12 + l, by go_num, Nat.le_refl _, by omega, Lib.hid (fun x h1 h2 => by omega)⟩
      case round =>
        obtain ⟨j, rfl, hj1, hj2, HA⟩ := hrel
        by_cases hlt : j < 124
        case pos =>
          have hd : decide ((j : Int) < 124) = true := decide_eq_true (by omega)
          have hcj := at_bytes (HS.out.is.drewN nq) (k := j) (by rw [HS.out.len]; omega)
          obtain ⟨y, hy⟩ : ∃ y, (s.getD j 0).toNat = y := ⟨_, rfl⟩
          rw [hy] at hcj
          have HY := Lib.hid hy
          clear hy
          by_cases hy0 : y = 0
          case pos =>
            subst hy0
            go_wp2_with (fail)
            go_round
            case rel => exact ⟨j + 1, by go_num, by omega, by omega, Lib.hid (fun x h1 h2 => by
              by_cases e : x = j
              · subst e; exact UInt8.toNat_inj.1 HY.out
              · exact HA.out x h1 (by omega))⟩
            case measure => simp [intOf]; omega
          case neg =>
            have hyt : ((y : Int) != 0) = true := by rw [bne_iff_ne]; omega
            obtain rfl : r = false := by
              cases r with
              | false => rfl
              | true => exact absurd (by have := HY.out; rw [HZ.out.1 rfl j hj1 hlt] at this; exact this.symm) hy0
            clear HZ
            go_wp2_with (fail)
            go_ret
            exact ⟨rfl, _, rfl⟩
        case neg =>
          obtain rfl : j = 124 := by omega
          obtain rfl : r = true := HZ.out.2 HA.out
          clear HZ
          go_wp2_with (fail)
          go_ret
          exact ⟨rfl, _, rfl⟩
  ·
    have HZ := Lib.hid (show r = true ↔ ∀ i, 12 + l ≤ i → i < 124 → s.getD i 0 = 0 from ⟨fun h => (HC.out.1 h).2.2.2.2.2, fun h => HC.out.2 ⟨⟨by omega, by omega, by omega, by omega⟩, by omega, by omega, by omega, by omega, h⟩⟩)
    clear HNO HC
    go_quiet ((first | (go_at_call 63; first | with_reducible exact (number_q HS.out.n1 L1.out M1.out) | with_reducible exact (number_q HS.out.n2 L2.out M2.out) | with_reducible exact (number_q HS.out.n3 L3.out M3.out) | with_reducible exact (number_q HS.out.n5 L5.out M5.out)) | (go_at_call 67; with_reducible exact (checksum_q HS.out.n4 L4.out M4.out))))
    go_wp2_with (fail)
    go_loop [6] (fun s6 => ∃ j : Nat, s6 = .int .i64 j ∧ 12 + l ≤ j ∧ j ≤ 124 ∧ Hid (∀ x, 12 + l ≤ x → x < j → s.getD x 0 = 0)) (fun s6 => 124 - (intOf s6).toNat)
    case atStart => exact ⟨12 + l, by go_num, Nat.le_refl _, by omega, Lib.hid (fun x h1 h2 => by omega)⟩
    case round =>
      obtain ⟨j, rfl, hj1, hj2, HA⟩ := hrel
      by_cases hlt : j < 124
      case pos =>
        have hd : decide ((j : Int) < 124) = true := decide_eq_true (by omega)
        have hcj := at_bytes (HS.out.is.drewN nq) (k := j) (by rw [HS.out.len]; omega)
        obtain ⟨y, hy⟩ : ∃ y, (s.getD j 0).toNat = y := ⟨_, rfl⟩
        rw [hy] at hcj
        have HY := Lib.hid hy
        clear hy
        by_cases hy0 : y = 0
        case pos =>
          subst hy0
          go_wp2_with (fail)
          go_round
          case rel => exact ⟨j + 1, by go_num, by omega, by omega, Lib.hid (fun x h1 h2 => by
            by_cases e : x = j
            · subst e; exact UInt8.toNat_inj.1 HY.out
            · exact HA.out x h1 (by omega))⟩
          case measure => simp [intOf]; omega
        case neg =>
          have hyt : ((y : Int) != 0) = true := by rw [bne_iff_ne]; omega
          obtain rfl : r = false := by
            cases r with
            | false => rfl
            | true => exact absurd (by have := HY.out; rw [HZ.out.1 rfl j hj1 hlt] at this; exact this.symm) hy0
          clear HZ
          go_wp2_with (fail)
          go_ret
          exact ⟨rfl, _, rfl⟩
      case neg =>
        obtain rfl : j = 124 := by omega
        obtain rfl : r = true := HZ.out.2 HA.out
        clear HZ
        go_wp2_with (fail)
        go_ret
        exact ⟨rfl, _, rfl⟩
end
section
open Go.RowKit
set_option linter.unusedVariables false
set_option linter.unusedSimpArgs false

theorem toA_eq (a b : By) : decide ((⟨a.toArray⟩ : ByteArray) = ⟨b.toArray⟩) = decide (a = b) := by
  by_cases h : a = b
  · rw [h]; simp
  · rw [toA_ne h]; exact (decide_eq_false h).symm
set_option maxHeartbeats 1000000 in
set_option maxRecDepth 20000 in
theorem Equal_any {u v : Value} {a b : By} {w : World} (hu : IsBytes w u a) (hv : IsBytes w v b) :
    Calls Try.prog 43 #[u, v] w fun e w' => e = .returned (.bool (a == b)) ∧ w = w' := by
  obtain ⟨A, c, rfl, _⟩ := id hu
  obtain ⟨A2, c2, rfl, _⟩ := id hv
  have h1 := conv_str hu
  have h2 := conv_str hv
  clear hu hv
  go_enter Try.func43, Try.ntmps43
  go_wp2_with (fail)
  go_ret
  exact ⟨rfl, rfl⟩

theorem encode_is {g k : Nat} {kind : UInt8} {v : Value} {p : By} {w : World} {q : Int} (hq : (kind.toNat : Int) = q) (hv : IsBytes w v p) (hl : p.length ≤ 112) (hg : g < 18446744073709551616) (hk : k ≤ 65535) :
    Calls Try.prog 44 #[.int .u64 g, .int .i64 k, .int .u8 q, v] w fun e w' => ∃ A c, e = .returned (.slice A 128 c) ∧ IsBytes w' (.slice A 128 c) (Jn.sec g k kind p) ∧ Below w.heap.size w w' := by subst hq; exact encode_any hv hl hg hk
theorem Equal_is {u v : Value} {a b : By} {w : World} {r : Bool} (hu : IsBytes w u a) (hv : IsBytes w v b) (hr : (a == b) = r) :
    Calls Try.prog 43 #[u, v] w fun e w' => e = .returned (.bool r) ∧ w = w' := by subst hr; exact Equal_any hu hv
theorem gd_form {s : By} {k : Nat} (hs : s.length = 128) (hk : k < 65536) : (Jn.gd s k = true) ↔ ((Jn.kd s).toNat ≤ 3 ∧ Jn.ln s ≤ 112 ∧ ¬ ((Jn.kd s).toNat < 2 ∧ Jn.ln s ≠ 112) ∧ ¬ ((Jn.kd s).toNat % 2 = 0 ∧ Jn.ln s = 0)) ∧ Jn.gen s ≠ 0 ∧ s = Jn.sec (Jn.gen s) k (Jn.kd s) (Jn.pc s) := by
  have e1 : Jn.kd s ≤ 3 ↔ (Jn.kd s).toNat ≤ 3 := UInt8.le_iff_toNat_le
  have e2 : Jn.kd s < 2 ↔ (Jn.kd s).toNat < 2 := UInt8.lt_iff_toNat_lt
  have e3 : Jn.kd s % 2 = 0 ↔ (Jn.kd s).toNat % 2 = 0 := by
    rw [← UInt8.toNat_inj, UInt8.toNat_mod]
    rfl
  unfold Jn.gd
  rw [decide_eq_true_eq, Jn.gd_iff hs hk]
  constructor
  · rintro ⟨⟨h1, h2, h3, h4⟩, h5, h6⟩
    exact ⟨⟨e1.1 h1, h2, fun h => h3 ⟨e2.2 h.1, h.2⟩, fun h => h4 ⟨e3.2 h.1, h.2⟩⟩, by omega, h6⟩
  · rintro ⟨⟨h1, h2, h3, h4⟩, h5, h6⟩
    exact ⟨⟨e1.2 h1, h2, fun h => h3 ⟨e2.1 h.1, h.2⟩, fun h => h4 ⟨e3.1 h.1, h.2⟩⟩, by omega, h6⟩

set_option maxHeartbeats 16000000 in
set_option maxRecDepth 100000 in
theorem good_any {s : By} {k : Nat} {v : Value} {w : World} (hv : IsBytes w v s) (hs : s.length = 128) (hk : k ≤ 65535) :
    Calls Try.prog 61 #[v, .int .i64 k] w fun e w' => e = .returned (.bool (Jn.gd s k)) ∧ Below w.heap.size w w' := by
  obtain ⟨b, off, c, rfl, hb, hS⟩ := sc_of hv hs
  have HS := Lib.hid hS
  have hc128 := hS.cap
  obtain ⟨a, ha⟩ : ∃ x, Jn.gen s = x := ⟨_, rfl⟩
  obtain ⟨q, hq⟩ : ∃ x, (Jn.kd s).toNat = x := ⟨_, rfl⟩
  obtain ⟨l, hl⟩ : ∃ x, Jn.ln s = x := ⟨_, rfl⟩
  obtain ⟨pc, hpc⟩ : ∃ x, Jn.pc s = x := ⟨_, rfl⟩
  have hcq := hS.c10 hq
  have hcl := hS.c11 hl
  have ha2 : a < 4294967296 := by rw [← ha]; exact Jn.gen_lt hs
  have hq2 : q < 256 := by rw [← hq]; exact (Jn.kd s).toNat_lt
  have hl2 : l < 256 := by rw [← hl]; exact (s.getD 11 0).toNat_lt
  have M1 := Lib.hid (show Jn.num (s.take 4) = a from ha)
  have L1 := Lib.hid (show (s.take 4).length ≤ 4 by rw [List.length_take]; omega)
  have hkk : (k : Int) ≤ 65535 := by omega
  have HKD := Lib.hid hq
  have HC := Lib.hid (show (Jn.gd s k = true) ↔ (q ≤ 3 ∧ l ≤ 112 ∧ ¬ (q < 2 ∧ l ≠ 112) ∧ ¬ (q % 2 = 0 ∧ l = 0)) ∧ a ≠ 0 ∧ s = Jn.sec a k (Jn.kd s) pc from by
    subst ha hq hl hpc
    exact gd_form hs (by omega))
  have HPC := Lib.hid (show l ≤ 112 → IsBytes w (.slice (some ⟨b, off + 12, none⟩) l (c - 12)) pc ∧ pc.length = l from fun h => by
    subst hl hpc
    exact ⟨bytes_sub hS.is (i := 12) (j := 12 + Jn.ln s) (by omega) (by rw [hs]; omega) (by omega) (by have := hS.cap; omega), Jn.pc_len hs h⟩)
  obtain ⟨r, hr⟩ : ∃ r, Jn.gd s k = r := ⟨_, rfl⟩
  rw [hr] at HC
  rw [hr]
  have HNO := Lib.hid (show ¬ ((q ≤ 3 ∧ l ≤ 112 ∧ ¬ (q < 2 ∧ l ≠ 112) ∧ ¬ (q % 2 = 0 ∧ l = 0)) ∧ a ≠ 0 ∧ s = Jn.sec a k (Jn.kd s) pc) → r = false from fun h => by
    cases r with
    | false => rfl
    | true => exact absurd (HC.out.1 rfl) h)
  obtain ⟨kd, hkd⟩ : ∃ x, Jn.kd s = x := ⟨_, rfl⟩
  rw [hkd] at HC HNO HKD
  clear hr ha hq hl hpc hS hv hkd
  go_enter Try.func61, Try.ntmps61
  go_upto_region 2 with (fail)
  by_cases h6 : 112 < l
  case pos =>
    have t6 : decide (112 < (l : Int)) = true := decide_eq_true (by omega)
    obtain rfl : r = false := HNO.out (by rintro ⟨⟨_, h, _⟩, _⟩; omega)
    clear HC HNO HPC HKD
    go_wp2_with (fail)
    go_ret
    exact ⟨rfl, Below.refl _ _⟩
  case neg =>
  have t6 : decide (112 < (l : Int)) = false := decide_eq_false (by omega)
  have HP := Lib.hid (HPC.out (by omega))
  clear HPC
  have HPC := Lib.hid True.intro
  by_cases h5 : 3 < q
  case pos =>
    have t5 : decide (3 < (q : Int)) = true := decide_eq_true (by omega)
    obtain rfl : r = false := HNO.out (by rintro ⟨⟨h, _⟩, _⟩; omega)
    clear HC HNO HPC HKD
    go_wp2_with (fail)
    go_ret
    exact ⟨rfl, Below.refl _ _⟩
  case neg =>
  have t5 : decide (3 < (q : Int)) = false := decide_eq_false (by omega)
  have hq4 : q = 0 ∨ q = 1 ∨ q = 2 ∨ q = 3 := by omega
  rcases hq4 with rfl | rfl | rfl | rfl
  ·
    by_cases h7 : l = 112
    case neg =>
      have t7 : decide (l < 112) = true := decide_eq_true (by omega)
      have t7' : decide ((l : Int) < 112) = true := decide_eq_true (by omega)
      obtain rfl : r = false := HNO.out (by rintro ⟨⟨_, _, h, _⟩, _⟩; exact h ⟨by omega, h7⟩)
      clear HC HNO HPC HKD
      have a2 : bits .and .u8 0 2 = 0 := by first | rfl | decide
      have a1 : bits .and .u8 0 1 = 0 := by first | rfl | decide
      go_wp2_with (fail)
      go_ret
      exact ⟨rfl, Below.refl _ _⟩
    case pos =>
    subst h7
    have a2 : bits .and .u8 0 2 = 0 := by first | rfl | decide
    have a1 : bits .and .u8 0 1 = 0 := by first | rfl | decide
    have HZ := Lib.hid (show r = true ↔ a ≠ 0 ∧ s = Jn.sec a k kd pc from ⟨fun h => (HC.out.1 h).2, fun h => HC.out.2 ⟨⟨by omega, by omega, by omega, by omega⟩, h⟩⟩)
    clear HNO HC HPC
    go_wp2_with (fail)
    refine (get_is HS.out.n1 L1.out M1.out).mono ?_
    rintro e wx ⟨rfl, rfl⟩
    go_wp2_with (fail)
    by_cases ha0 : a = 0
    case pos =>
      subst ha0
      obtain rfl : r = false := by
        cases r with
        | false => rfl
        | true => exact absurd rfl (HZ.out.1 rfl).1
      go_quiet (fail)
      go_wp2_with (fail)
      go_ret
      exact ⟨rfl, below_drewN (Below.refl _ _) _⟩
    case neg =>
      have ha1 : decide (0 < a) = true := decide_eq_true (by omega)
      have ha3 : decide ((0 : Int) < (a : Int)) = true := decide_eq_true (by omega)
      have HSd := Lib.hid (show Below w.heap.size w w.drew from below_drewN (Below.refl _ _) 1)
      refine wp_region_noPanic ?_
      refine wp_region_U 16 (fun X => Below w.heap.size w X) (by kernel_rfl) ?_
      refine wpAnyU_takeD (i := 0) (v := .int .u64 a) 44 rfl rfl (by kernel_rfl) (by kernel_rfl) (by kernel_rfl) (by kernel_rfl) (by kernel_rfl) (by kernel_rfl) (fun _ _ _ h => h) (.inl ⟨by simp [Region.wanted, yielded, Act.put], fun X hX => ?_⟩) HSd.out ?_
      · go_simp
      refine wpAnyU_takeD (i := 1) (v := .bool true) 45 rfl rfl (by kernel_rfl) (by kernel_rfl) (by kernel_rfl) (by kernel_rfl) (by kernel_rfl) (by kernel_rfl) (fun _ _ _ h => h) (.inl ⟨by simp [Region.wanted, yielded, Act.put], fun X hX => ?_⟩) HSd.out ?_
      · go_simp
      refine wpAnyU_takeD (i := 2) (v := .bool true) 46 rfl rfl (by kernel_rfl) (by kernel_rfl) (by kernel_rfl) (by kernel_rfl) (by kernel_rfl) (by kernel_rfl) (fun _ _ _ h => h) (.inl ⟨by simp [Region.wanted, yielded, Act.put], fun X hX => ?_⟩) HSd.out ?_
      · go_simp
      refine wpAnyU_takeD (i := 3) (v := .slice (some ⟨b, off, none⟩) 128 c) 47 rfl rfl (by kernel_rfl) (by kernel_rfl) (by kernel_rfl) (by kernel_rfl) (by kernel_rfl) (by kernel_rfl) (fun _ _ _ h => h) (.inl ⟨by simp [Region.wanted, yielded, Act.put], fun X hX => ?_⟩) HSd.out ?_
      · go_simp
      refine wpAnyU_takeD (i := 4) (v := .int .u64 a) 48 rfl rfl (by kernel_rfl) (by kernel_rfl) (by kernel_rfl) (by kernel_rfl) (by kernel_rfl) (by kernel_rfl) (fun _ _ _ h => h) (.inl ⟨by simp [Region.wanted, yielded, Act.put], fun X hX => ?_⟩) HSd.out ?_
      · go_simp
      refine wpAnyU_takeD (i := 5) (v := .int .i64 k) 49 rfl rfl (by kernel_rfl) (by kernel_rfl) (by kernel_rfl) (by kernel_rfl) (by kernel_rfl) (by kernel_rfl) (fun _ _ _ h => h) (.inl ⟨by simp [Region.wanted, yielded, Act.put], fun X hX => ?_⟩) HSd.out ?_
      · go_simp
      refine wpAnyU_takeD (i := 6) (v := .slice (some ⟨b, off, none⟩) 128 c) 50 rfl rfl (by kernel_rfl) (by kernel_rfl) (by kernel_rfl) (by kernel_rfl) (by kernel_rfl) (by kernel_rfl) (fun _ _ _ h => h) (.inl ⟨by simp [Region.wanted, yielded, Act.put], fun X hX => ?_⟩) HSd.out ?_
      · go_simp
      refine wpAnyU_takeD (i := 7) (v := .pointer (some ⟨b, off + 10, none⟩)) 51 rfl rfl (by kernel_rfl) (by kernel_rfl) (by kernel_rfl) (by kernel_rfl) (by kernel_rfl) (by kernel_rfl) (fun _ _ _ h => h) (.inl ⟨by simp [Region.wanted, yielded, Act.put], fun X hX => ?_⟩) HSd.out ?_
      · go_simp
      refine wpAnyU_takeD (i := 8) (v := .int .u8 0) 52 rfl rfl (by kernel_rfl) (by kernel_rfl) (by kernel_rfl) (by kernel_rfl) (by kernel_rfl) (by kernel_rfl) (fun _ _ _ h => h) (.inl ⟨by simp [Region.wanted, yielded, Act.put], fun X hX => ?_⟩) HSd.out ?_
      · have z := (HS.out.is.upb hX); have z2 := ((bcell hX).1 b (off + 10) hb).trans hcq; go_simp
      refine wpAnyU_takeD (i := 9) (v := .slice (some ⟨b, off, none⟩) 128 c) 53 rfl rfl (by kernel_rfl) (by kernel_rfl) (by kernel_rfl) (by kernel_rfl) (by kernel_rfl) (by kernel_rfl) (fun _ _ _ h => h) (.inl ⟨by simp [Region.wanted, yielded, Act.put], fun X hX => ?_⟩) HSd.out ?_
      · go_simp
      refine wpAnyU_takeD (i := 10) (v := .int .i64 112) 54 rfl rfl (by kernel_rfl) (by kernel_rfl) (by kernel_rfl) (by kernel_rfl) (by kernel_rfl) (by kernel_rfl) (fun _ _ _ h => h) (.inl ⟨by simp [Region.wanted, yielded, Act.put], fun X hX => ?_⟩) HSd.out ?_
      · go_simp
      refine wpAnyU_takeD (i := 11) (v := .int .i64 124) 55 rfl rfl (by kernel_rfl) (by kernel_rfl) (by kernel_rfl) (by kernel_rfl) (by kernel_rfl) (by kernel_rfl) (fun _ _ _ h => h) (.inl ⟨by simp [Region.wanted, yielded, Act.put], fun X hX => ?_⟩) HSd.out ?_
      · go_simp; rfl
      refine wpAnyU_takeD (i := 12) (v := .slice (some ⟨b, off + 12, none⟩) 112 (c - 12)) 56 rfl rfl (by kernel_rfl) (by kernel_rfl) (by kernel_rfl) (by kernel_rfl) (by kernel_rfl) (by kernel_rfl) (fun _ _ _ h => h) (.inl ⟨by simp [Region.wanted, yielded, Act.put], fun X hX => ?_⟩) HSd.out ?_
      · go_simp; rw [if_pos (by omega), if_neg (by omega)]
      have HEQ := Lib.hid (show (s == Jn.sec a k kd pc) = r from by
        cases r with
        | true => rw [beq_iff_eq]; exact (HZ.out.1 rfl).2
        | false => rw [beq_eq_false_iff_ne]; exact fun h => absurd (HZ.out.2 ⟨ha0, h⟩) (by decide))
      refine wpAnyU_call (i := 13) 57 (by kernel_rfl) rfl rfl (by simp [Region.wanted, yielded, Act.put]) (.func 44) #[.tmp 48, .tmp 49, .tmp 52, .tmp 56] _ rfl 44 #[] rfl #[.int .u64 a, .int .i64 k, .int .u8 0, .slice (some ⟨b, off + 12, none⟩) 112 (c - 12)] (by simp [Act.eval, Act.put]) (enters_of Try.func44 (by kernel_rfl) rfl) (encode_is (kind := kd) (q := 0) (by have := HKD.out; omega) (HP.out.1.upb HSd.out) (by have := HP.out.2; omega) (by omega) hk) ?_
      rintro e wy ⟨A9, c9, rfl, hy, hb9⟩
      have HB1 := Lib.hid (HSd.out.up hb9)
      have HY := Lib.hid hy
      refine ⟨_, rfl, HB1.out, ?_⟩
      clear hb9 hy
      refine wpAnyU_call (i := 14) 58 (by kernel_rfl) rfl rfl (by simp [Region.wanted, yielded, Act.put]) (.func 43) #[.tmp 47, .tmp 57] _ rfl 43 #[] rfl #[.slice (some ⟨b, off, none⟩) 128 c, .slice A9 128 c9] (by simp [Act.eval, Act.put]) (enters_of Try.func43 (by kernel_rfl) rfl) (Equal_is (HS.out.is.upb HB1.out) HY.out HEQ.out) ?_
      rintro e wv ⟨rfl, rfl⟩
      refine ⟨_, rfl, HB1.out, ?_⟩
      refine wpAnyU_yield (i := 15) (v := .bool r) 59 (by kernel_rfl) rfl rfl (.inl ⟨by simp [Region.wanted, yielded, Act.put], fun X hX => ?_⟩) HB1.out ?_
      · go_simp
      refine wpAnyU_yield (i := 16) (v := .bool r) 4 (by kernel_rfl) rfl rfl (.inl ⟨by simp [Region.wanted, yielded, Act.put], fun X hX => ?_⟩) HB1.out ?_
      · go_simp
      refine wpAnyU_done (by kernel_rfl) (NoPanic.normal ?_) _
      go_wp2_with (fail)
      go_ret
      refine ⟨?_, HB1.out⟩
      go_simp
  ·
    by_cases h7 : l = 112
    case neg =>
      have t7 : decide (l < 112) = true := decide_eq_true (by omega)
      have t7' : decide ((l : Int) < 112) = true := decide_eq_true (by omega)
      obtain rfl : r = false := HNO.out (by rintro ⟨⟨_, _, h, _⟩, _⟩; exact h ⟨by omega, h7⟩)
      clear HC HNO HPC HKD
      have a2 : bits .and .u8 1 2 = 0 := by first | rfl | decide
      have a1 : bits .and .u8 1 1 = 1 := by first | rfl | decide
      go_wp2_with (fail)
      go_ret
      exact ⟨rfl, Below.refl _ _⟩
    case pos =>
    subst h7
    have a2 : bits .and .u8 1 2 = 0 := by first | rfl | decide
    have a1 : bits .and .u8 1 1 = 1 := by first | rfl | decide
    have HZ := Lib.hid (show r = true ↔ a ≠ 0 ∧ s = Jn.sec a k kd pc from ⟨fun h => (HC.out.1 h).2, fun h => HC.out.2 ⟨⟨by omega, by omega, by omega, by omega⟩, h⟩⟩)
    clear HNO HC HPC
    go_wp2_with (fail)
    refine (get_is HS.out.n1 L1.out M1.out).mono ?_
    rintro e wx ⟨rfl, rfl⟩
    go_wp2_with (fail)
    by_cases ha0 : a = 0
    case pos =>
      subst ha0
      obtain rfl : r = false := by
        cases r with
        | false => rfl
        | true => exact absurd rfl (HZ.out.1 rfl).1
      go_quiet (fail)
      go_wp2_with (fail)
      go_ret
      exact ⟨rfl, below_drewN (Below.refl _ _) _⟩
    case neg =>
      have ha1 : decide (0 < a) = true := decide_eq_true (by omega)
      have ha3 : decide ((0 : Int) < (a : Int)) = true := decide_eq_true (by omega)
      have HSd := Lib.hid (show Below w.heap.size w w.drew from below_drewN (Below.refl _ _) 1)
      refine wp_region_noPanic ?_
      refine wp_region_U 16 (fun X => Below w.heap.size w X) (by kernel_rfl) ?_
      refine wpAnyU_takeD (i := 0) (v := .int .u64 a) 44 rfl rfl (by kernel_rfl) (by kernel_rfl) (by kernel_rfl) (by kernel_rfl) (by kernel_rfl) (by kernel_rfl) (fun _ _ _ h => h) (.inl ⟨by simp [Region.wanted, yielded, Act.put], fun X hX => ?_⟩) HSd.out ?_
      · go_simp
      refine wpAnyU_takeD (i := 1) (v := .bool true) 45 rfl rfl (by kernel_rfl) (by kernel_rfl) (by kernel_rfl) (by kernel_rfl) (by kernel_rfl) (by kernel_rfl) (fun _ _ _ h => h) (.inl ⟨by simp [Region.wanted, yielded, Act.put], fun X hX => ?_⟩) HSd.out ?_
      · go_simp
      refine wpAnyU_takeD (i := 2) (v := .bool true) 46 rfl rfl (by kernel_rfl) (by kernel_rfl) (by kernel_rfl) (by kernel_rfl) (by kernel_rfl) (by kernel_rfl) (fun _ _ _ h => h) (.inl ⟨by simp [Region.wanted, yielded, Act.put], fun X hX => ?_⟩) HSd.out ?_
      · go_simp
      refine wpAnyU_takeD (i := 3) (v := .slice (some ⟨b, off, none⟩) 128 c) 47 rfl rfl (by kernel_rfl) (by kernel_rfl) (by kernel_rfl) (by kernel_rfl) (by kernel_rfl) (by kernel_rfl) (fun _ _ _ h => h) (.inl ⟨by simp [Region.wanted, yielded, Act.put], fun X hX => ?_⟩) HSd.out ?_
      · go_simp
      refine wpAnyU_takeD (i := 4) (v := .int .u64 a) 48 rfl rfl (by kernel_rfl) (by kernel_rfl) (by kernel_rfl) (by kernel_rfl) (by kernel_rfl) (by kernel_rfl) (fun _ _ _ h => h) (.inl ⟨by simp [Region.wanted, yielded, Act.put], fun X hX => ?_⟩) HSd.out ?_
      · go_simp
      refine wpAnyU_takeD (i := 5) (v := .int .i64 k) 49 rfl rfl (by kernel_rfl) (by kernel_rfl) (by kernel_rfl) (by kernel_rfl) (by kernel_rfl) (by kernel_rfl) (fun _ _ _ h => h) (.inl ⟨by simp [Region.wanted, yielded, Act.put], fun X hX => ?_⟩) HSd.out ?_
      · go_simp
      refine wpAnyU_takeD (i := 6) (v := .slice (some ⟨b, off, none⟩) 128 c) 50 rfl rfl (by kernel_rfl) (by kernel_rfl) (by kernel_rfl) (by kernel_rfl) (by kernel_rfl) (by kernel_rfl) (fun _ _ _ h => h) (.inl ⟨by simp [Region.wanted, yielded, Act.put], fun X hX => ?_⟩) HSd.out ?_
      · go_simp
      refine wpAnyU_takeD (i := 7) (v := .pointer (some ⟨b, off + 10, none⟩)) 51 rfl rfl (by kernel_rfl) (by kernel_rfl) (by kernel_rfl) (by kernel_rfl) (by kernel_rfl) (by kernel_rfl) (fun _ _ _ h => h) (.inl ⟨by simp [Region.wanted, yielded, Act.put], fun X hX => ?_⟩) HSd.out ?_
      · go_simp
      refine wpAnyU_takeD (i := 8) (v := .int .u8 1) 52 rfl rfl (by kernel_rfl) (by kernel_rfl) (by kernel_rfl) (by kernel_rfl) (by kernel_rfl) (by kernel_rfl) (fun _ _ _ h => h) (.inl ⟨by simp [Region.wanted, yielded, Act.put], fun X hX => ?_⟩) HSd.out ?_
      · have z := (HS.out.is.upb hX); have z2 := ((bcell hX).1 b (off + 10) hb).trans hcq; go_simp
      refine wpAnyU_takeD (i := 9) (v := .slice (some ⟨b, off, none⟩) 128 c) 53 rfl rfl (by kernel_rfl) (by kernel_rfl) (by kernel_rfl) (by kernel_rfl) (by kernel_rfl) (by kernel_rfl) (fun _ _ _ h => h) (.inl ⟨by simp [Region.wanted, yielded, Act.put], fun X hX => ?_⟩) HSd.out ?_
      · go_simp
      refine wpAnyU_takeD (i := 10) (v := .int .i64 112) 54 rfl rfl (by kernel_rfl) (by kernel_rfl) (by kernel_rfl) (by kernel_rfl) (by kernel_rfl) (by kernel_rfl) (fun _ _ _ h => h) (.inl ⟨by simp [Region.wanted, yielded, Act.put], fun X hX => ?_⟩) HSd.out ?_
      · go_simp
      refine wpAnyU_takeD (i := 11) (v := .int .i64 124) 55 rfl rfl (by kernel_rfl) (by kernel_rfl) (by kernel_rfl) (by kernel_rfl) (by kernel_rfl) (by kernel_rfl) (fun _ _ _ h => h) (.inl ⟨by simp [Region.wanted, yielded, Act.put], fun X hX => ?_⟩) HSd.out ?_
      · go_simp; rfl
      refine wpAnyU_takeD (i := 12) (v := .slice (some ⟨b, off + 12, none⟩) 112 (c - 12)) 56 rfl rfl (by kernel_rfl) (by kernel_rfl) (by kernel_rfl) (by kernel_rfl) (by kernel_rfl) (by kernel_rfl) (fun _ _ _ h => h) (.inl ⟨by simp [Region.wanted, yielded, Act.put], fun X hX => ?_⟩) HSd.out ?_
      · go_simp; rw [if_pos (by omega), if_neg (by omega)]
      have HEQ := Lib.hid (show (s == Jn.sec a k kd pc) = r from by
        cases r with
        | true => rw [beq_iff_eq]; exact (HZ.out.1 rfl).2
        | false => rw [beq_eq_false_iff_ne]; exact fun h => absurd (HZ.out.2 ⟨ha0, h⟩) (by decide))
      refine wpAnyU_call (i := 13) 57 (by kernel_rfl) rfl rfl (by simp [Region.wanted, yielded, Act.put]) (.func 44) #[.tmp 48, .tmp 49, .tmp 52, .tmp 56] _ rfl 44 #[] rfl #[.int .u64 a, .int .i64 k, .int .u8 1, .slice (some ⟨b, off + 12, none⟩) 112 (c - 12)] (by simp [Act.eval, Act.put]) (enters_of Try.func44 (by kernel_rfl) rfl) (encode_is (kind := kd) (q := 1) (by have := HKD.out; omega) (HP.out.1.upb HSd.out) (by have := HP.out.2; omega) (by omega) hk) ?_
      rintro e wy ⟨A9, c9, rfl, hy, hb9⟩
      have HB1 := Lib.hid (HSd.out.up hb9)
      have HY := Lib.hid hy
      refine ⟨_, rfl, HB1.out, ?_⟩
      clear hb9 hy
      refine wpAnyU_call (i := 14) 58 (by kernel_rfl) rfl rfl (by simp [Region.wanted, yielded, Act.put]) (.func 43) #[.tmp 47, .tmp 57] _ rfl 43 #[] rfl #[.slice (some ⟨b, off, none⟩) 128 c, .slice A9 128 c9] (by simp [Act.eval, Act.put]) (enters_of Try.func43 (by kernel_rfl) rfl) (Equal_is (HS.out.is.upb HB1.out) HY.out HEQ.out) ?_
      rintro e wv ⟨rfl, rfl⟩
      refine ⟨_, rfl, HB1.out, ?_⟩
      refine wpAnyU_yield (i := 15) (v := .bool r) 59 (by kernel_rfl) rfl rfl (.inl ⟨by simp [Region.wanted, yielded, Act.put], fun X hX => ?_⟩) HB1.out ?_
      · go_simp
      refine wpAnyU_yield (i := 16) (v := .bool r) 4 (by kernel_rfl) rfl rfl (.inl ⟨by simp [Region.wanted, yielded, Act.put], fun X hX => ?_⟩) HB1.out ?_
      · go_simp
      refine wpAnyU_done (by kernel_rfl) (NoPanic.normal ?_) _
      go_wp2_with (fail)
      go_ret
      refine ⟨?_, HB1.out⟩
      go_simp
  ·
    by_cases h8 : l = 0
    case pos =>
      subst h8
      obtain rfl : r = false := HNO.out (by rintro ⟨⟨_, _, _, h⟩, _⟩; exact h ⟨rfl, rfl⟩)
      clear HC HNO HPC HKD
      have a2 : bits .and .u8 2 2 = 2 := by first | rfl | decide
      have a1 : bits .and .u8 2 1 = 0 := by first | rfl | decide
      go_wp2_with (fail)
      go_ret
      exact ⟨rfl, Below.refl _ _⟩
    case neg =>
    have t8 : ((l : Int) == 0) = false := by rw [beq_eq_false_iff_ne]; omega
    have a2 : bits .and .u8 2 2 = 2 := by first | rfl | decide
    have a1 : bits .and .u8 2 1 = 0 := by first | rfl | decide
    have HZ := Lib.hid (show r = true ↔ a ≠ 0 ∧ s = Jn.sec a k kd pc from ⟨fun h => (HC.out.1 h).2, fun h => HC.out.2 ⟨⟨by omega, by omega, by omega, by omega⟩, h⟩⟩)
    clear HNO HC HPC
    go_wp2_with (fail)
    refine (get_is HS.out.n1 L1.out M1.out).mono ?_
    rintro e wx ⟨rfl, rfl⟩
    go_wp2_with (fail)
    by_cases ha0 : a = 0
    case pos =>
      subst ha0
      obtain rfl : r = false := by
        cases r with
        | false => rfl
        | true => exact absurd rfl (HZ.out.1 rfl).1
      go_quiet (fail)
      go_wp2_with (fail)
      go_ret
      exact ⟨rfl, below_drewN (Below.refl _ _) _⟩
    case neg =>
      have ha1 : decide (0 < a) = true := decide_eq_true (by omega)
      have ha3 : decide ((0 : Int) < (a : Int)) = true := decide_eq_true (by omega)
      have HSd := Lib.hid (show Below w.heap.size w w.drew from below_drewN (Below.refl _ _) 1)
      refine wp_region_noPanic ?_
      refine wp_region_U 16 (fun X => Below w.heap.size w X) (by kernel_rfl) ?_
      refine wpAnyU_takeD (i := 0) (v := .int .u64 a) 44 rfl rfl (by kernel_rfl) (by kernel_rfl) (by kernel_rfl) (by kernel_rfl) (by kernel_rfl) (by kernel_rfl) (fun _ _ _ h => h) (.inl ⟨by simp [Region.wanted, yielded, Act.put], fun X hX => ?_⟩) HSd.out ?_
      · go_simp
      refine wpAnyU_takeD (i := 1) (v := .bool true) 45 rfl rfl (by kernel_rfl) (by kernel_rfl) (by kernel_rfl) (by kernel_rfl) (by kernel_rfl) (by kernel_rfl) (fun _ _ _ h => h) (.inl ⟨by simp [Region.wanted, yielded, Act.put], fun X hX => ?_⟩) HSd.out ?_
      · go_simp
      refine wpAnyU_takeD (i := 2) (v := .bool true) 46 rfl rfl (by kernel_rfl) (by kernel_rfl) (by kernel_rfl) (by kernel_rfl) (by kernel_rfl) (by kernel_rfl) (fun _ _ _ h => h) (.inl ⟨by simp [Region.wanted, yielded, Act.put], fun X hX => ?_⟩) HSd.out ?_
      · go_simp
      refine wpAnyU_takeD (i := 3) (v := .slice (some ⟨b, off, none⟩) 128 c) 47 rfl rfl (by kernel_rfl) (by kernel_rfl) (by kernel_rfl) (by kernel_rfl) (by kernel_rfl) (by kernel_rfl) (fun _ _ _ h => h) (.inl ⟨by simp [Region.wanted, yielded, Act.put], fun X hX => ?_⟩) HSd.out ?_
      · go_simp
      refine wpAnyU_takeD (i := 4) (v := .int .u64 a) 48 rfl rfl (by kernel_rfl) (by kernel_rfl) (by kernel_rfl) (by kernel_rfl) (by kernel_rfl) (by kernel_rfl) (fun _ _ _ h => h) (.inl ⟨by simp [Region.wanted, yielded, Act.put], fun X hX => ?_⟩) HSd.out ?_
      · go_simp
      refine wpAnyU_takeD (i := 5) (v := .int .i64 k) 49 rfl rfl (by kernel_rfl) (by kernel_rfl) (by kernel_rfl) (by kernel_rfl) (by kernel_rfl) (by kernel_rfl) (fun _ _ _ h => h) (.inl ⟨by simp [Region.wanted, yielded, Act.put], fun X hX => ?_⟩) HSd.out ?_
      · go_simp
      refine wpAnyU_takeD (i := 6) (v := .slice (some ⟨b, off, none⟩) 128 c) 50 rfl rfl (by kernel_rfl) (by kernel_rfl) (by kernel_rfl) (by kernel_rfl) (by kernel_rfl) (by kernel_rfl) (fun _ _ _ h => h) (.inl ⟨by simp [Region.wanted, yielded, Act.put], fun X hX => ?_⟩) HSd.out ?_
      · go_simp
      refine wpAnyU_takeD (i := 7) (v := .pointer (some ⟨b, off + 10, none⟩)) 51 rfl rfl (by kernel_rfl) (by kernel_rfl) (by kernel_rfl) (by kernel_rfl) (by kernel_rfl) (by kernel_rfl) (fun _ _ _ h => h) (.inl ⟨by simp [Region.wanted, yielded, Act.put], fun X hX => ?_⟩) HSd.out ?_
      · go_simp
      refine wpAnyU_takeD (i := 8) (v := .int .u8 2) 52 rfl rfl (by kernel_rfl) (by kernel_rfl) (by kernel_rfl) (by kernel_rfl) (by kernel_rfl) (by kernel_rfl) (fun _ _ _ h => h) (.inl ⟨by simp [Region.wanted, yielded, Act.put], fun X hX => ?_⟩) HSd.out ?_
      · have z := (HS.out.is.upb hX); have z2 := ((bcell hX).1 b (off + 10) hb).trans hcq; go_simp
      refine wpAnyU_takeD (i := 9) (v := .slice (some ⟨b, off, none⟩) 128 c) 53 rfl rfl (by kernel_rfl) (by kernel_rfl) (by kernel_rfl) (by kernel_rfl) (by kernel_rfl) (by kernel_rfl) (fun _ _ _ h => h) (.inl ⟨by simp [Region.wanted, yielded, Act.put], fun X hX => ?_⟩) HSd.out ?_
      · go_simp
      refine wpAnyU_takeD (i := 10) (v := .int .i64 l) 54 rfl rfl (by kernel_rfl) (by kernel_rfl) (by kernel_rfl) (by kernel_rfl) (by kernel_rfl) (by kernel_rfl) (fun _ _ _ h => h) (.inl ⟨by simp [Region.wanted, yielded, Act.put], fun X hX => ?_⟩) HSd.out ?_
      · go_simp
      refine wpAnyU_takeD (i := 11) (v := .int .i64 (l + 12)) 55 rfl rfl (by kernel_rfl) (by kernel_rfl) (by kernel_rfl) (by kernel_rfl) (by kernel_rfl) (by kernel_rfl) (fun _ _ _ h => h) (.inl ⟨by simp [Region.wanted, yielded, Act.put], fun X hX => ?_⟩) HSd.out ?_
      · go_simp; rw [IntWalk.i64_in _ (by omega)]; omega
      refine wpAnyU_takeD (i := 12) (v := .slice (some ⟨b, off + 12, none⟩) l (c - 12)) 56 rfl rfl (by kernel_rfl) (by kernel_rfl) (by kernel_rfl) (by kernel_rfl) (by kernel_rfl) (by kernel_rfl) (fun _ _ _ h => h) (.inl ⟨by simp [Region.wanted, yielded, Act.put], fun X hX => ?_⟩) HSd.out ?_
      · go_simp; rw [if_pos ⟨by omega, by omega⟩, if_pos (by omega), if_neg (by omega), show ((l : Int) + 12).toNat - 12 = l by omega]
      have HEQ := Lib.hid (show (s == Jn.sec a k kd pc) = r from by
        cases r with
        | true => rw [beq_iff_eq]; exact (HZ.out.1 rfl).2
        | false => rw [beq_eq_false_iff_ne]; exact fun h => absurd (HZ.out.2 ⟨ha0, h⟩) (by decide))
      refine wpAnyU_call (i := 13) 57 (by kernel_rfl) rfl rfl (by simp [Region.wanted, yielded, Act.put]) (.func 44) #[.tmp 48, .tmp 49, .tmp 52, .tmp 56] _ rfl 44 #[] rfl #[.int .u64 a, .int .i64 k, .int .u8 2, .slice (some ⟨b, off + 12, none⟩) l (c - 12)] (by simp [Act.eval, Act.put]) (enters_of Try.func44 (by kernel_rfl) rfl) (encode_is (kind := kd) (q := 2) (by have := HKD.out; omega) (HP.out.1.upb HSd.out) (by have := HP.out.2; omega) (by omega) hk) ?_
      rintro e wy ⟨A9, c9, rfl, hy, hb9⟩
      have HB1 := Lib.hid (HSd.out.up hb9)
      have HY := Lib.hid hy
      refine ⟨_, rfl, HB1.out, ?_⟩
      clear hb9 hy
      refine wpAnyU_call (i := 14) 58 (by kernel_rfl) rfl rfl (by simp [Region.wanted, yielded, Act.put]) (.func 43) #[.tmp 47, .tmp 57] _ rfl 43 #[] rfl #[.slice (some ⟨b, off, none⟩) 128 c, .slice A9 128 c9] (by simp [Act.eval, Act.put]) (enters_of Try.func43 (by kernel_rfl) rfl) (Equal_is (HS.out.is.upb HB1.out) HY.out HEQ.out) ?_
      rintro e wv ⟨rfl, rfl⟩
      refine ⟨_, rfl, HB1.out, ?_⟩
      refine wpAnyU_yield (i := 15) (v := .bool r) 59 (by kernel_rfl) rfl rfl (.inl ⟨by simp [Region.wanted, yielded, Act.put], fun X hX => ?_⟩) HB1.out ?_
      · go_simp
      refine wpAnyU_yield (i := 16) (v := .bool r) 4 (by kernel_rfl) rfl rfl (.inl ⟨by simp [Region.wanted, yielded, Act.put], fun X hX => ?_⟩) HB1.out ?_
      · go_simp
      refine wpAnyU_done (by kernel_rfl) (NoPanic.normal ?_) _
      go_wp2_with (fail)
      go_ret
      refine ⟨?_, HB1.out⟩
      go_simp
  ·
    have a2 : bits .and .u8 3 2 = 2 := by first | rfl | decide
    have a1 : bits .and .u8 3 1 = 1 := by first | rfl | decide
    have HZ := Lib.hid (show r = true ↔ a ≠ 0 ∧ s = Jn.sec a k kd pc from ⟨fun h => (HC.out.1 h).2, fun h => HC.out.2 ⟨⟨by omega, by omega, by omega, by omega⟩, h⟩⟩)
    clear HNO HC HPC
    go_wp2_with (fail)
    refine (get_is HS.out.n1 L1.out M1.out).mono ?_
    rintro e wx ⟨rfl, rfl⟩
    go_wp2_with (fail)
    by_cases ha0 : a = 0
    case pos =>
      subst ha0
      obtain rfl : r = false := by
        cases r with
        | false => rfl
        | true => exact absurd rfl (HZ.out.1 rfl).1
      go_quiet (fail)
      go_wp2_with (fail)
      go_ret
      exact ⟨rfl, below_drewN (Below.refl _ _) _⟩
    case neg =>
      have ha1 : decide (0 < a) = true := decide_eq_true (by omega)
      have ha3 : decide ((0 : Int) < (a : Int)) = true := decide_eq_true (by omega)
      have HSd := Lib.hid (show Below w.heap.size w w.drew from below_drewN (Below.refl _ _) 1)
      refine wp_region_noPanic ?_
      refine wp_region_U 16 (fun X => Below w.heap.size w X) (by kernel_rfl) ?_
      refine wpAnyU_takeD (i := 0) (v := .int .u64 a) 44 rfl rfl (by kernel_rfl) (by kernel_rfl) (by kernel_rfl) (by kernel_rfl) (by kernel_rfl) (by kernel_rfl) (fun _ _ _ h => h) (.inl ⟨by simp [Region.wanted, yielded, Act.put], fun X hX => ?_⟩) HSd.out ?_
      · go_simp
      refine wpAnyU_takeD (i := 1) (v := .bool true) 45 rfl rfl (by kernel_rfl) (by kernel_rfl) (by kernel_rfl) (by kernel_rfl) (by kernel_rfl) (by kernel_rfl) (fun _ _ _ h => h) (.inl ⟨by simp [Region.wanted, yielded, Act.put], fun X hX => ?_⟩) HSd.out ?_
      · go_simp
      refine wpAnyU_takeD (i := 2) (v := .bool true) 46 rfl rfl (by kernel_rfl) (by kernel_rfl) (by kernel_rfl) (by kernel_rfl) (by kernel_rfl) (by kernel_rfl) (fun _ _ _ h => h) (.inl ⟨by simp [Region.wanted, yielded, Act.put], fun X hX => ?_⟩) HSd.out ?_
      · go_simp
      refine wpAnyU_takeD (i := 3) (v := .slice (some ⟨b, off, none⟩) 128 c) 47 rfl rfl (by kernel_rfl) (by kernel_rfl) (by kernel_rfl) (by kernel_rfl) (by kernel_rfl) (by kernel_rfl) (fun _ _ _ h => h) (.inl ⟨by simp [Region.wanted, yielded, Act.put], fun X hX => ?_⟩) HSd.out ?_
      · go_simp
      refine wpAnyU_takeD (i := 4) (v := .int .u64 a) 48 rfl rfl (by kernel_rfl) (by kernel_rfl) (by kernel_rfl) (by kernel_rfl) (by kernel_rfl) (by kernel_rfl) (fun _ _ _ h => h) (.inl ⟨by simp [Region.wanted, yielded, Act.put], fun X hX => ?_⟩) HSd.out ?_
      · go_simp
      refine wpAnyU_takeD (i := 5) (v := .int .i64 k) 49 rfl rfl (by kernel_rfl) (by kernel_rfl) (by kernel_rfl) (by kernel_rfl) (by kernel_rfl) (by kernel_rfl) (fun _ _ _ h => h) (.inl ⟨by simp [Region.wanted, yielded, Act.put], fun X hX => ?_⟩) HSd.out ?_
      · go_simp
      refine wpAnyU_takeD (i := 6) (v := .slice (some ⟨b, off, none⟩) 128 c) 50 rfl rfl (by kernel_rfl) (by kernel_rfl) (by kernel_rfl) (by kernel_rfl) (by kernel_rfl) (by kernel_rfl) (fun _ _ _ h => h) (.inl ⟨by simp [Region.wanted, yielded, Act.put], fun X hX => ?_⟩) HSd.out ?_
      · go_simp
      refine wpAnyU_takeD (i := 7) (v := .pointer (some ⟨b, off + 10, none⟩)) 51 rfl rfl (by kernel_rfl) (by kernel_rfl) (by kernel_rfl) (by kernel_rfl) (by kernel_rfl) (by kernel_rfl) (fun _ _ _ h => h) (.inl ⟨by simp [Region.wanted, yielded, Act.put], fun X hX => ?_⟩) HSd.out ?_
      · go_simp
      refine wpAnyU_takeD (i := 8) (v := .int .u8 3) 52 rfl rfl (by kernel_rfl) (by kernel_rfl) (by kernel_rfl) (by kernel_rfl) (by kernel_rfl) (by kernel_rfl) (fun _ _ _ h => h) (.inl ⟨by simp [Region.wanted, yielded, Act.put], fun X hX => ?_⟩) HSd.out ?_
      · have z := (HS.out.is.upb hX); have z2 := ((bcell hX).1 b (off + 10) hb).trans hcq; go_simp
      refine wpAnyU_takeD (i := 9) (v := .slice (some ⟨b, off, none⟩) 128 c) 53 rfl rfl (by kernel_rfl) (by kernel_rfl) (by kernel_rfl) (by kernel_rfl) (by kernel_rfl) (by kernel_rfl) (fun _ _ _ h => h) (.inl ⟨by simp [Region.wanted, yielded, Act.put], fun X hX => ?_⟩) HSd.out ?_
      · go_simp
      refine wpAnyU_takeD (i := 10) (v := .int .i64 l) 54 rfl rfl (by kernel_rfl) (by kernel_rfl) (by kernel_rfl) (by kernel_rfl) (by kernel_rfl) (by kernel_rfl) (fun _ _ _ h => h) (.inl ⟨by simp [Region.wanted, yielded, Act.put], fun X hX => ?_⟩) HSd.out ?_
      · go_simp
      refine wpAnyU_takeD (i := 11) (v := .int .i64 (l + 12)) 55 rfl rfl (by kernel_rfl) (by kernel_rfl) (by kernel_rfl) (by kernel_rfl) (by kernel_rfl) (by kernel_rfl) (fun _ _ _ h => h) (.inl ⟨by simp [Region.wanted, yielded, Act.put], fun X hX => ?_⟩) HSd.out ?_
      · go_simp; rw [IntWalk.i64_in _ (by omega)]; omega
      refine wpAnyU_takeD (i := 12) (v := .slice (some ⟨b, off + 12, none⟩) l (c - 12)) 56 rfl rfl (by kernel_rfl) (by kernel_rfl) (by kernel_rfl) (by kernel_rfl) (by kernel_rfl) (by kernel_rfl) (fun _ _ _ h => h) (.inl ⟨by simp [Region.wanted, yielded, Act.put], fun X hX => ?_⟩) HSd.out ?_
      · go_simp; rw [if_pos ⟨by omega, by omega⟩, if_pos (by omega), if_neg (by omega), show ((l : Int) + 12).toNat - 12 = l by omega]
      have HEQ := Lib.hid (show (s == Jn.sec a k kd pc) = r from by
        cases r with
        | true => rw [beq_iff_eq]; exact (HZ.out.1 rfl).2
        | false => rw [beq_eq_false_iff_ne]; exact fun h => absurd (HZ.out.2 ⟨ha0, h⟩) (by decide))
      refine wpAnyU_call (i := 13) 57 (by kernel_rfl) rfl rfl (by simp [Region.wanted, yielded, Act.put]) (.func 44) #[.tmp 48, .tmp 49, .tmp 52, .tmp 56] _ rfl 44 #[] rfl #[.int .u64 a, .int .i64 k, .int .u8 3, .slice (some ⟨b, off + 12, none⟩) l (c - 12)] (by simp [Act.eval, Act.put]) (enters_of Try.func44 (by kernel_rfl) rfl) (encode_is (kind := kd) (q := 3) (by have := HKD.out; omega) (HP.out.1.upb HSd.out) (by have := HP.out.2; omega) (by omega) hk) ?_
      rintro e wy ⟨A9, c9, rfl, hy, hb9⟩
      have HB1 := Lib.hid (HSd.out.up hb9)
      have HY := Lib.hid hy
      refine ⟨_, rfl, HB1.out, ?_⟩
      clear hb9 hy
      refine wpAnyU_call (i := 14) 58 (by kernel_rfl) rfl rfl (by simp [Region.wanted, yielded, Act.put]) (.func 43) #[.tmp 47, .tmp 57] _ rfl 43 #[] rfl #[.slice (some ⟨b, off, none⟩) 128 c, .slice A9 128 c9] (by simp [Act.eval, Act.put]) (enters_of Try.func43 (by kernel_rfl) rfl) (Equal_is (HS.out.is.upb HB1.out) HY.out HEQ.out) ?_
      rintro e wv ⟨rfl, rfl⟩
      refine ⟨_, rfl, HB1.out, ?_⟩
      refine wpAnyU_yield (i := 15) (v := .bool r) 59 (by kernel_rfl) rfl rfl (.inl ⟨by simp [Region.wanted, yielded, Act.put], fun X hX => ?_⟩) HB1.out ?_
      · go_simp
      refine wpAnyU_yield (i := 16) (v := .bool r) 4 (by kernel_rfl) rfl rfl (.inl ⟨by simp [Region.wanted, yielded, Act.put], fun X hX => ?_⟩) HB1.out ?_
      · go_simp
      refine wpAnyU_done (by kernel_rfl) (NoPanic.normal ?_) _
      go_wp2_with (fail)
      go_ret
      refine ⟨?_, HB1.out⟩
      go_simp
end
end Go.Proofs.Ytkcnanclpkongaa
