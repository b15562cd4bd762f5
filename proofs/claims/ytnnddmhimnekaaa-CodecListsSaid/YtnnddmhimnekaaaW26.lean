/- Walk of sane: the chapter's examples hold. -/
import Derived.Test.YtnnddmhimnekaaaW25
import Derived.Test.YtnnddmhimnekaaaW20
import Derived.Test.YtnnddmhimnekaaaW7
import Derived.Laws.IdiomStrings
namespace Go.Proofs.Ytnnddmhimnekaaa
open Go.RowKit
set_option linter.unusedVariables false
set_option linter.unusedSimpArgs false

/-- a literal of values -/
theorem vs_lit {P : Nat → Prop} (w : World) (es : List E4) (l : List Cd.Vl) (n : Nat) (cs : Array Value) (hn : n = l.length) (hc : cs = (es.flatMap encE).toArray) (hl : es.length = l.length)
    (h : ∀ i (h : i < es.length) (h' : i < l.length), IsV P w (agE es[i]) l[i]) : IsVs Any (w.alloc (.cells cs 24)) (.slice (some ⟨w.heap.size, 0, none⟩) n n) l := by
  subst hn hc
  refine ⟨_, _, es, rfl, hl, fun hne => ⟨_, _, rfl, by simp, trivial, fun i hi => ?_⟩, fun i h1 h2 => ((h i h1 h2).under (blw1 w _)).mono (fun _ _ _ => trivial)⟩
  have := cell_of_row (w.alloc (.cells (es.flatMap encE).toArray 24)) w.heap.size i (es.flatMap encE).toArray 24 (0, 0) (heap_alloc_new w _)
  rw [Nat.zero_add, this]
  simp [hi]
theorem vs_one {P : Nat → Prop} (w : World) (a b c d : Value) (x : Cd.Vl) (h : IsV P w (.agg #[a, b, c, d]) x) : IsVs Any (w.alloc (.cells #[a, b, c, d] 24)) (.slice (some ⟨w.heap.size, 0, none⟩) 1 1) [x] :=
  vs_lit w [(a, b, c, d)] [x] 1 _ rfl rfl rfl (fun i h1 h2 => by
    match i, h1 with
    | 0, _ => exact h)
theorem vs_two {P : Nat → Prop} (w : World) (a b c d a' b' c' d' : Value) (x y : Cd.Vl) (h : IsV P w (.agg #[a, b, c, d]) x) (k : IsV P w (.agg #[a', b', c', d']) y) : IsVs Any (w.alloc (.cells #[a, b, c, d, a', b', c', d'] 24)) (.slice (some ⟨w.heap.size, 0, none⟩) 2 2) [x, y] :=
  vs_lit w [(a, b, c, d), (a', b', c', d')] [x, y] 2 _ rfl rfl rfl (fun i h1 h2 => by
    match i, h1 with
    | 0, _ => exact h
    | 1, _ => exact k)

/-- a string's bytes, converted -/
def bytesOf (w : World) (s : ByteArray) : World := w.drew.alloc (.cells (bytesRow s (grownCap w s.size 0 5)) 5 ((bytesRow s (grownCap w s.size 0 5)).size, (bytesRow s (grownCap w s.size 0 5)).size + 1))
theorem run_bytesOf (w : World) (s : ByteArray) : (convert 9 27 (.string s)).run Try.prog w = .ok (.slice (some ⟨w.heap.size, 0, none⟩) s.size (grownCap w s.size 0 5)) (bytesOf w s) :=
  run_bytes_of_string w 9 27 5 s Try.underlying9 Try.underlying27 Try.underlying5
theorem bytesOf_below (w : World) (s : ByteArray) : Below w.heap.size w (bytesOf w s) := (below_drew (Below.refl _ w)).alloc (by simp) _
theorem bytesOf_size (w : World) (s : ByteArray) : (bytesOf w s).heap.size = w.heap.size + 1 := by unfold bytesOf; simp
theorem bytesOf_in (w : World) (s : ByteArray) (n : Nat) (hs : s.size ≤ 1000) (hn : n = s.size) : InB (bytesOf w s).heap.size (bytesOf w s) (.slice (some ⟨w.heap.size, 0, none⟩) n (grownCap w s.size 0 5)) s.data.toList := by
  have hl : s.data.toList.length = s.size := by simp
  have h1 := grownCap_ge w s.size 0 5
  have h2 := grownCap_le_maxLen w s.size 0 5 (by unfold maxLen; omega)
  unfold maxLen at h2
  subst hn
  refine ⟨_, _, by rw [hl], by omega, by omega, (fun e => by cases e), fun _ => ⟨w.heap.size, 0, rfl, by rw [bytesOf_size]; omega, fun i hi => ?_⟩⟩
  have := cell_of_row (bytesOf w s) w.heap.size i (bytesRow s (grownCap w s.size 0 5)) 5 _ (heap_alloc_new w.drew _)
  rw [Nat.zero_add, this]
  unfold bytesRow
  rw [Array.getElem?_append_left (by simp; omega)]
  have h3 : i < s.data.size := by simpa using hi
  simp only [encB, Array.getElem?_map, Array.getElem?_eq_getElem h3]
  simp

def sA : Cd.Vl := .mk 1 (-3) ByteArray.empty []
def sB : Cd.Vl := .mk 3 0 ByteArray.empty [.mk 1 100 ByteArray.empty [], .mk 2 0 ⟨#[97, 98]⟩ []]
theorem sA_enc : Cd.enc sA = [1, 5] := by simp [sA, Cd.enc, Cd.uns, Cd.digits_a]
theorem sB_enc : Cd.enc sB = [3, 2, 1, 200, 1, 2, 2, 97, 98] := by
  have h1 : Cd.digits 200 = [200, 1] := by rw [Cd.digits_b (by omega), Cd.digits_a (by omega)]; rfl
  have h2 : Cd.digits (ByteArray.size ⟨#[97, 98]⟩) = [2] := by rw [show ByteArray.size ⟨#[97, 98]⟩ = 2 from rfl, Cd.digits_a (by omega)]; rfl
  simp [sB, Cd.enc, Cd.encL, Cd.uns, h1, h2, Cd.digits_a]
theorem sA_fits : Cd.fits sA := by simp [sA, Cd.fits_mk]
theorem sB_fits : Cd.fits sB := by
  refine Cd.fits_mk.2 ⟨by decide, by decide, by decide, fun x hx => ?_⟩
  simp at hx
  rcases hx with rfl | rfl
  · simp [Cd.fits_mk]
  · exact Cd.fits_mk.2 ⟨by decide, by decide, by decide, by simp⟩
theorem sA_ck : Cd.check sA = 0 ∧ Cd.depth sA = 0 := by simp [sA, Cd.check, Cd.formed_1, Cd.depth_0]
theorem sB_formed : Cd.formed sB = true := by simp [sB, Cd.formed_3, Cd.formedL, Cd.formed_1, Cd.formed_2]
theorem sB_depth : Cd.depth sB = 1 := by simp [sB, Cd.depth_3, Cd.depthL, Cd.depth_0]
theorem sB_ck : Cd.check sB = 0 := by simp [Cd.check, sB_formed, sB_depth]
theorem sB_encR : ((encR sB).length : Nat) = 9 := by rw [encR, if_pos sB_ck, sB_enc]; rfl
theorem sB_dec : decR [3, 2, 1, 200, 1, 2, 2, 97, 98] = (sB, 0) := by
  have h := Cd.valD_enc sB 16 [] sB_formed (by rw [sB_depth]; omega) sB_fits
  rw [sB_enc] at h
  exact decR_yes h
theorem bad_dec0 : (decR []).2 = 10 := by rfl
theorem bad_dec1 : (decR [1, 128, 0]).2 = 10 := by decide +kernel
theorem bad_dec2 : (decR [1, 5, 0]).2 = 10 := by decide +kernel
theorem bad_dec3 : (decR [2, 3, 97]).2 = 10 := by decide +kernel

theorem bts_under {w w' : World} {v : Value} {bs : List UInt8} (h : Bts w v bs) (hb : Below w.heap.size w w') : Bts w' v bs := by
  obtain ⟨base, h⟩ := h
  exact ⟨base, ownB_under h hb⟩
theorem bad_str {X : World} {b : Nat} (h : X.heap[b]? = some (.cells #[.string ⟨#[]⟩, .string ⟨#[1, 128, 0]⟩, .string ⟨#[1, 5, 0]⟩, .string ⟨#[2, 3, 97]⟩] 9 (0, 0))) (j : Nat) (hj : j < 4) :
    ∃ s : ByteArray, X.cell? ⟨b, j, none⟩ = some (.string s) ∧ Hid ((decR s.data.toList).2 = 10) ∧ s.size ≤ 1000 := by
  match j, hj with
  | 0, _ => exact ⟨⟨#[]⟩, by simp [World.cell?, h], bad_dec0, by decide⟩
  | 1, _ => exact ⟨⟨#[1, 128, 0]⟩, by simp [World.cell?, h], bad_dec1, by decide⟩
  | 2, _ => exact ⟨⟨#[1, 5, 0]⟩, by simp [World.cell?, h], bad_dec2, by decide⟩
  | 3, _ => exact ⟨⟨#[2, 3, 97]⟩, by simp [World.cell?, h], bad_dec3, by decide⟩
/-- Encode, where it goes well -/
theorem Encode_is (v : Cd.Vl) (x : Value) (P : Nat → Prop) (w : World) (bs : List UInt8) (hf : Cd.fits v) (hd : Cd.depth v ≤ 1000) (hc : Cd.check v = 0) (he : Cd.enc v = bs) (hv : IsV P w x v) (hl : bs.length ≤ 137438953472) :
    Calls Try.prog 12 #[x] w fun e w' => ∃ A c, e = .returned (.tuple #[.slice A bs.length c, .int .i64 0]) ∧ Bts w' (.slice A bs.length c) bs ∧ Below w.heap.size w w' := by
  subst he
  refine (Encode_yes v x P w hf hd hv hc hl).mono ?_
  rintro e w' ⟨b, rfl, ⟨base, hb⟩, hB⟩
  obtain ⟨A, c, rfl⟩ := ownB_slice hb
  exact ⟨A, c, rfl, ⟨base, hb⟩, hB⟩

set_option maxHeartbeats 4000000 in
set_option maxRecDepth 100000 in
theorem sane_any (w : World) : Calls Try.prog 10 #[] w fun e w' => e = .returned (.bool true) ∧ Below w.heap.size w w' := by
  go_enter Try.func10, Try.ntmps10
  go_wp2_with (fail)
  refine (Int_any _ _).mono ?_
  rintro e w1 ⟨rfl, b1⟩
  have B1 := Lib.hid b1
  clear b1
  go_wp2_with (fail)
  refine (Encode_is sA _ Any _ [1, 5] sA_fits (by rw [sA_ck.2]; omega) sA_ck.1 sA_enc (IsV.of IsVs.nil) (by decide)).mono ?_
  rintro e w2 ⟨A2, c2, rfl, bt2, b2⟩
  have BT2 := Lib.hid bt2
  have B2 := Lib.hid (B1.out.up b2)
  clear bt2 b2
  go_wp2_with (fail)
  refine (Int_any _ _).mono ?_
  rintro e w3 ⟨rfl, b3⟩
  replace BT2 := Lib.hid (bts_under BT2.out b3)
  have B3 := Lib.hid (B2.out.up b3)
  clear b3 B2 B1
  go_wp2_with (fail)
  refine (Text_any _ _).mono ?_
  rintro e w4 ⟨rfl, b4⟩
  replace BT2 := Lib.hid (bts_under BT2.out b4)
  have B4 := Lib.hid (B3.out.up b4)
  clear b4 B3
  go_wp2_with (fail)
  have HL := Lib.hid (vs_two (P := Any) w4 (.int .i64 1) (.int .i64 100) (.string ByteArray.empty) (.slice none 0 0) (.int .i64 2) (.int .i64 0) (.string ⟨#[97, 98]⟩) (.slice none 0 0) (.mk 1 100 ByteArray.empty []) (.mk 2 0 ⟨#[97, 98]⟩ []) (IsV.of IsVs.nil) (IsV.of IsVs.nil))
  refine (List_any _ 2 2 _).mono ?_
  rintro e w5 ⟨rfl, b5⟩
  have HV5 := Lib.hid (show IsV Any w5 (.agg #[.int .i64 3, .int .i64 0, .string ByteArray.empty, .slice (some ⟨w4.heap.size, 0, none⟩) 2 2]) sB from IsV.of (HL.out.under b5))
  replace BT2 := Lib.hid (bts_under BT2.out ((blw1 w4 _).up b5))
  have B5 := Lib.hid (B4.out.up ((blw1 w4 _).up b5))
  clear b5 B4 HL
  go_wp2_with (fail)
  have F5 := Lib.hid (Four.new w5 (.int .i64 3) (.int .i64 0) (.string ByteArray.empty) (.slice (some ⟨w4.heap.size, 0, none⟩) 2 2))
  refine (Encode_is sB _ Any _ [3, 2, 1, 200, 1, 2, 2, 97, 98] sB_fits (by rw [sB_depth]; omega) sB_ck sB_enc (HV5.out.under (blw1 w5 _)) (by decide)).mono ?_
  rintro e w6 ⟨A6, c6, rfl, bt6, b6⟩
  replace BT2 := Lib.hid (bts_under BT2.out ((blw1 w5 _).up b6))
  have BT6 := Lib.hid bt6
  have F6 := Lib.hid (F5.out.under b6)
  replace HV5 := Lib.hid (HV5.out.under ((blw1 w5 _).up b6))
  have B6 := Lib.hid (B5.out.up ((blw1 w5 _).up b6))
  clear bt6 b6 B5 F5
  go_wp2_with (fail)
  refine (Decode_any _ [3, 2, 1, 200, 1, 2, 2, 97, 98] _ BT6.out.inB (by decide)).mono ?_
  rintro e w7 ⟨x7, rfl, hv7, b7⟩
  rw [sB_dec] at hv7 ⊢
  have HV7 := Lib.hid hv7
  obtain ⟨A7, c7, rfl, _⟩ := hv7.opens
  replace BT2 := Lib.hid (bts_under BT2.out b7)
  replace BT6 := Lib.hid (bts_under BT6.out b7)
  replace F6 := Lib.hid (F6.out.under b7)
  replace HV5 := Lib.hid (HV5.out.under b7)
  have B7 := Lib.hid (B6.out.up b7)
  have F7 := Lib.hid (Four.new w7 (.int .i64 sB.kind) (.int .i64 sB.num) (.string sB.str) (.slice A7 sB.elems.length c7))
  have BW := Lib.hid (blw1 w7 (.cells #[.int .i64 sB.kind, .int .i64 sB.num, .string sB.str, .slice A7 sB.elems.length c7] 24))
  clear hv7 b7 B6
  have q0 := (F6.out.alloc (.cells #[.int .i64 sB.kind, .int .i64 sB.num, .string sB.str, .slice A7 sB.elems.length c7] 24)).c0
  have q1 := (F6.out.alloc (.cells #[.int .i64 sB.kind, .int .i64 sB.num, .string sB.str, .slice A7 sB.elems.length c7] 24)).c1
  have q2 := (F6.out.alloc (.cells #[.int .i64 sB.kind, .int .i64 sB.num, .string sB.str, .slice A7 sB.elems.length c7] 24)).c2
  have q3 := (F6.out.alloc (.cells #[.int .i64 sB.kind, .int .i64 sB.num, .string sB.str, .slice A7 sB.elems.length c7] 24)).c3
  go_wp2_with (fail)
  generalize hX8 : w7.alloc (.cells #[.int .i64 sB.kind, .int .i64 sB.num, .string sB.str, .slice A7 sB.elems.length c7] 24) = X8 at *
  replace BT2 := Lib.hid (bts_under BT2.out BW.out)
  replace BT6 := Lib.hid (bts_under BT6.out BW.out)
  replace F6 := Lib.hid (F6.out.under BW.out)
  replace HV5 := Lib.hid (HV5.out.under BW.out)
  replace HV7 := Lib.hid (HV7.out.under BW.out)
  have B8 := Lib.hid (B7.out.up BW.out)
  clear hX8 BW B7
  refine (Size_any sB _ Any _ sB_fits (by rw [sB_depth]; omega) HV5.out (by rw [sB_enc]; decide)).mono ?_
  rintro e w9 ⟨rfl, b9⟩
  rw [sB_encR, sB_ck]
  replace BT2 := Lib.hid (bts_under BT2.out b9)
  replace BT6 := Lib.hid (bts_under BT6.out b9)
  replace F6 := Lib.hid (F6.out.under b9)
  replace F7 := Lib.hid (F7.out.under b9)
  replace HV5 := Lib.hid (HV5.out.under b9)
  replace HV7 := Lib.hid (HV7.out.under b9)
  have B9 := Lib.hid (B8.out.up b9)
  clear b9 B8 q0 q1 q2 q3
  have q0 := F6.out.c0
  have q1 := F6.out.c1
  have q2 := F6.out.c2
  have q3 := F6.out.c3
  have m0 := F7.out.c0
  have m1 := F7.out.c1
  have m2 := F7.out.c2
  have m3 := F7.out.c3
  have hcv2 : (convert 27 9 (.slice A2 2 c2)).run Try.prog w9 = .ok (.string ⟨#[1, 5]⟩) w9 := conv_str BT2.out.bytes
  have hcv6 : (convert 27 9 (.slice A6 9 c6)).run Try.prog w9 = .ok (.string ⟨#[3, 2, 1, 200, 1, 2, 2, 97, 98]⟩) w9 := conv_str BT6.out.bytes
  go_wp2_with (fail)
  have HSM := Lib.hid (Same_any sB sB_fits sB _ _ _ _ _ sB_fits HV5.out HV7.out)
  rw [Cd.same_refl] at HSM
  refine HSM.out.mono ?_
  rintro e w10 ⟨rfl, b10⟩
  have B10 := Lib.hid (B9.out.up b10)
  clear b10 B9 hcv2 hcv6 q0 q1 q2 q3 m0 m1 m2 m3 HSM BT2 BT6 F6 F7 HV5 HV7
  go_wp2_with (fail)
  refine (Text_any _ _).mono ?_
  rintro e w11 ⟨rfl, b11⟩
  have B11 := Lib.hid (B10.out.up b11)
  clear b11 B10
  go_wp2_with (fail)
  refine (List_any _ _ _ _).mono ?_
  rintro e w12 ⟨rfl, b12⟩
  have B12 := Lib.hid (B11.out.up b12)
  clear b12 B11
  go_wp2_with (fail)
  have HSM := Lib.hid (Same_any (.mk 2 0 ⟨#[]⟩ []) (by simp [Cd.fits_mk, ByteArray.size]) (.mk 3 0 ByteArray.empty []) (.agg #[.int .i64 2, .int .i64 0, .string ⟨#[]⟩, .slice none 0 0]) (.agg #[.int .i64 3, .int .i64 0, .string ByteArray.empty, .slice none 0 0]) Any Any w12 (by simp [Cd.fits_mk]) (IsV.of IsVs.nil) (IsV.of IsVs.nil))
  rw [show Cd.same (.mk 2 0 ⟨#[]⟩ []) (.mk 3 0 ByteArray.empty []) = false by simp [Cd.same]] at HSM
  refine HSM.out.mono ?_
  rintro e w13 ⟨rfl, b13⟩
  have B13 := Lib.hid (B12.out.up b13)
  have HB := Lib.hid (show (w13.alloc (.cells #[.string ⟨#[]⟩, .string ⟨#[1, 128, 0]⟩, .string ⟨#[1, 5, 0]⟩, .string ⟨#[2, 3, 97]⟩] 9)).heap[w13.heap.size]? = some (.cells #[.string ⟨#[]⟩, .string ⟨#[1, 128, 0]⟩, .string ⟨#[1, 5, 0]⟩, .string ⟨#[2, 3, 97]⟩] 9 (0, 0)) from heap_alloc_new w13 _)
  have B14 := Lib.hid (B13.out.up (blw1 w13 (.cells #[.string ⟨#[]⟩, .string ⟨#[1, 128, 0]⟩, .string ⟨#[1, 5, 0]⟩, .string ⟨#[2, 3, 97]⟩] 9)))
  clear b13 B12 HSM B13
  go_wp2_with (fail)
  go_loopw [79] (fun i wr => ∃ j : Nat, j ≤ 4 ∧ i = .int .i64 j ∧ Hid (Below w.heap.size w wr) ∧ Hid (wr.heap[w13.heap.size]? = some (.cells #[.string ⟨#[]⟩, .string ⟨#[1, 128, 0]⟩, .string ⟨#[1, 5, 0]⟩, .string ⟨#[2, 3, 97]⟩] 9 (0, 0)))) (fun i _ => 4 - (intOf i).toNat)
  case atStart => exact ⟨0, by omega, rfl, B14, HB⟩
  case round =>
    obtain ⟨j, hj, rfl, BR, HR⟩ := hrel
    clear HB B14
    by_cases hlt : j < 4
    · obtain ⟨s, hs, HD, hsz⟩ := bad_str HR.out j hlt
      have hcv := run_bytesOf wr s
      go_wp2_with (fail)
      refine (Decode_any _ s.data.toList _ (bytesOf_in wr s s.size hsz rfl) (by simp; omega)).mono ?_
      rintro e w15 ⟨x15, rfl, hv15, b15⟩
      rw [HD.out]
      obtain ⟨A15, c15, rfl, _⟩ := hv15.opens
      generalize (decR s.data.toList).1 = z at *
      have D15 := Lib.hid (((bytesOf_below wr s).up b15).up (blw1 w15 (.cells #[.int .i64 z.kind, .int .i64 z.num, .string z.str, .slice A15 z.elems.length c15] 24)))
      have hb13 : w13.heap.size < wr.heap.size := (Array.getElem?_eq_some_iff.1 HR.out).1
      have HR2 := Lib.hid ((D15.out.block _ hb13).trans HR.out)
      have BR2 := Lib.hid (BR.out.up D15.out)
      clear b15 hv15 hcv hs HR BR
      go_wp2_with (fail)
      go_roundw
      case rel => exact ⟨j + 1, by omega, by go_num, BR2, HR2⟩
      case measure => first | omega | (simp [intOf]; done) | (simp [intOf]; omega)
    · clear HR
      go_wp2_with (fail)
      refine (Check_any (.mk 0 0 ⟨#[]⟩ []) _ Any _ (by simp [Cd.fits_mk, ByteArray.size]) (by rw [Cd.depth_0 _ _ _ (by omega)]; omega) (IsV.of IsVs.nil)).mono ?_
      rintro e w16 ⟨rfl, b16⟩
      rw [show Cd.check (.mk 0 0 ⟨#[]⟩ []) = 1 by rw [Cd.check, Cd.formed_bad (by omega)]; rfl]
      have B16 := Lib.hid (BR.out.up b16)
      clear b16 BR
      go_wp2_with (fail)
      go_ret
      exact ⟨rfl, B16.out⟩

end Go.Proofs.Ytnnddmhimnekaaa
