/- Plain mathematics of layer 5: checksums, numbers as bytes. No program in sight. Plain mathematics of layer 5: sectors of a journal. No program in sight. Plain mathematics of layer 5: the records that lie on sectors. No program in sight. -/
import Derived.Test.YtkcnanclpkongaaBase
namespace Go.Proofs.Ytkcnanclpkongaa
section
set_option linter.unusedVariables false
set_option linter.unusedSimpArgs false
namespace Jn
def step (n : Nat) : Nat := if n % 2 = 1 then n / 2 ^^^ 3988292384 else n / 2
def steps : Nat → Nat → Nat
  | 0, n => n
  | k + 1, n => steps k (step n)
def crcB (n : Nat) (c : UInt8) : Nat := steps 8 (n ^^^ c.toNat)
def crcL (n : Nat) (b : By) : Nat := b.foldl crcB n
def crc (b : By) : Nat := crcL 4294967295 b ^^^ 4294967295
theorem steps_succ (k n : Nat) : steps (k + 1) n = step (steps k n) := by
  induction k generalizing n with
  | zero => rfl
  | succ k ih => exact ih (step n)
theorem crcL_snoc (n : Nat) (b : By) (c : UInt8) : crcL n (b ++ [c]) = crcB (crcL n b) c := by
  unfold crcL; rw [List.foldl_append]; rfl
theorem crcL_append (n : Nat) (a b : By) : crcL n (a ++ b) = crcL (crcL n a) b := by
  unfold crcL; rw [List.foldl_append]
theorem crcL_take {b : By} {k : Nat} (hk : k < b.length) (n : Nat) : crcL n (b.take (k + 1)) = crcB (crcL n (b.take k)) b[k] := by
  rw [List.take_succ_eq_append_getElem hk, crcL_snoc]
theorem xor_lt32 {a b : Nat} (ha : a < 4294967296) (hb : b < 4294967296) : a ^^^ b < 4294967296 := Nat.xor_lt_two_pow (n := 32) ha hb
theorem step_lt {n : Nat} (h : n < 4294967296) : step n < 4294967296 := by
  unfold step
  split
  · exact xor_lt32 (by omega) (by omega)
  · omega
theorem steps_lt (k : Nat) : ∀ {n : Nat}, n < 4294967296 → steps k n < 4294967296 := by
  induction k with
  | zero => intro n h; exact h
  | succ k ih => intro n h; exact ih (step_lt h)
theorem crcB_lt {n : Nat} (h : n < 4294967296) (c : UInt8) : crcB n c < 4294967296 := steps_lt 8 (xor_lt32 h (by have := c.toNat_lt; omega))
theorem crcL_lt (b : By) : ∀ {n : Nat}, n < 4294967296 → crcL n b < 4294967296 := by
  induction b with
  | nil => intro n h; exact h
  | cons c b ih => intro n h; exact ih (crcB_lt h c)
theorem crc_lt (b : By) : crc b < 4294967296 := xor_lt32 (crcL_lt b (by omega)) (by omega)
theorem step_inj {a b : Nat} (ha : a < 4294967296) (hb : b < 4294967296) (h : step a = step b) : a = b := by
  have key : ∀ x y : Nat, x < 4294967296 → y < 4294967296 → x / 2 ^^^ 3988292384 ≠ y / 2 := by
    intro x y hx hy he
    have h1 : (x / 2).testBit 31 = false := Nat.testBit_lt_two_pow (by omega)
    have h2 : (y / 2).testBit 31 = false := Nat.testBit_lt_two_pow (by omega)
    have h3 : (x / 2 ^^^ 3988292384).testBit 31 = true := by
      rw [Nat.testBit_xor, h1]; decide
    rw [he, h2] at h3
    cases h3
  unfold step at h
  split at h
  · split at h
    · have : a / 2 = b / 2 := by
        have := congrArg (· ^^^ 3988292384) h
        simpa [Nat.xor_assoc] using this
      omega
    · exact absurd h (key _ _ ha hb)
  · split at h
    · exact absurd h.symm (key _ _ hb ha)
    · omega
theorem steps_inj (k : Nat) : ∀ {a b : Nat}, a < 4294967296 → b < 4294967296 → steps k a = steps k b → a = b := by
  induction k with
  | zero => intro a b _ _ h; exact h
  | succ k ih => intro a b ha hb h; exact step_inj ha hb (ih (step_lt ha) (step_lt hb) h)
theorem xor_right_inj {a b c : Nat} (h : a ^^^ c = b ^^^ c) : a = b := by
  have := congrArg (· ^^^ c) h
  simpa [Nat.xor_assoc] using this
theorem crcB_inj {a b : Nat} (ha : a < 4294967296) (hb : b < 4294967296) (c : UInt8) (h : crcB a c = crcB b c) : a = b :=
  xor_right_inj (steps_inj 8 (xor_lt32 ha (by have := c.toNat_lt; omega)) (xor_lt32 hb (by have := c.toNat_lt; omega)) h)
theorem crcL_inj (l : By) : ∀ {a b : Nat}, a < 4294967296 → b < 4294967296 → crcL a l = crcL b l → a = b := by
  induction l with
  | nil => intro a b _ _ h; exact h
  | cons c l ih => intro a b ha hb h; exact crcB_inj ha hb c (ih (crcB_lt ha c) (crcB_lt hb c) h)
/-- one byte changed: another checksum -/
theorem crc_change (p s : By) {c c' : UInt8} (h : crc (p ++ c :: s) = crc (p ++ c' :: s)) : c = c' := by
  have h1 := xor_right_inj h
  rw [crcL_append, crcL_append] at h1
  have hp := crcL_lt p (n := 4294967295) (by omega)
  have h2 : crcB (crcL 4294967295 p) c = crcB (crcL 4294967295 p) c' := crcL_inj s (crcB_lt hp c) (crcB_lt hp c') h1
  have h3 := steps_inj 8 (xor_lt32 hp (by have := c.toNat_lt; omega)) (xor_lt32 hp (by have := c'.toNat_lt; omega)) h2
  rw [Nat.xor_comm, Nat.xor_comm _ c'.toNat] at h3
  exact UInt8.toNat_inj.1 (xor_right_inj h3)

/-- the number of some bytes -/
def num (b : By) : Nat := b.foldl (fun n c => 256 * n + c.toNat) 0
theorem num_snoc (b : By) (c : UInt8) : num (b ++ [c]) = 256 * num b + c.toNat := by unfold num; rw [List.foldl_append]; rfl
theorem num_take {b : By} {k : Nat} (hk : k < b.length) : num (b.take (k + 1)) = 256 * num (b.take k) + b[k].toNat := by
  rw [List.take_succ_eq_append_getElem hk, num_snoc]
theorem num_lt : ∀ (m : Nat) (b : By), b.length = m → num b < 256 ^ m := by
  intro m
  induction m with
  | zero => intro b h; rw [List.eq_nil_of_length_eq_zero h]; decide
  | succ m ih =>
    intro b h
    have hb : b ≠ [] := by intro h0; rw [h0] at h; simp at h
    rw [← List.dropLast_concat_getLast hb, num_snoc]
    have := ih b.dropLast (by rw [List.length_dropLast, h]; rfl)
    have hc := (b.getLast hb).toNat_lt
    rw [Nat.pow_succ]
    omega
/-- the bytes of a number, so many of them -/
def nml : Nat → Nat → By
  | _, 0 => []
  | n, m + 1 => nml (n / 256) m ++ [UInt8.ofNat n]
theorem nml_len : ∀ (m n : Nat), (nml n m).length = m
  | 0, _ => rfl
  | m + 1, n => by simp [nml, nml_len m]
theorem num_nml : ∀ (m n : Nat), n < 256 ^ m → num (nml n m) = n
  | 0, n, h => by simp at h; subst h; rfl
  | m + 1, n, h => by
    rw [Nat.pow_succ] at h
    unfold nml
    rw [num_snoc, num_nml m (n / 256) (by omega), UInt8.toNat_ofNat']
    omega
theorem nml_num : ∀ (m : Nat) (b : By), b.length = m → nml (num b) m = b
  | 0, b, h => by rw [List.eq_nil_of_length_eq_zero h]; rfl
  | m + 1, b, h => by
    have hb : b ≠ [] := by intro h0; rw [h0] at h; simp at h
    have h2 := nml_num m b.dropLast (by rw [List.length_dropLast, h]; rfl)
    have hc := (b.getLast hb).toNat_lt
    have e := List.dropLast_concat_getLast hb
    have e2 : num b = 256 * num b.dropLast + (b.getLast hb).toNat := by rw [← num_snoc, e]
    unfold nml
    rw [e2, show (256 * num b.dropLast + (b.getLast hb).toNat) / 256 = num b.dropLast by omega, h2]
    have e3 : UInt8.ofNat (256 * num b.dropLast + (b.getLast hb).toNat) = b.getLast hb := by
      apply UInt8.toNat_inj.1
      rw [UInt8.toNat_ofNat']
      omega
    rw [e3, e]
theorem num_inj {a b : By} (hl : a.length = b.length) (h : num a = num b) : a = b := by
  rw [← nml_num b.length a hl, h, nml_num _ b rfl]
theorem nml_cons : ∀ (m n : Nat), nml n (m + 1) = UInt8.ofNat (n / 256 ^ m) :: nml n m
  | 0, n => by simp [nml]
  | m + 1, n => by
    have := nml_cons m (n / 256)
    rw [show nml n (m + 1 + 1) = nml (n / 256) (m + 1) ++ [UInt8.ofNat n] from rfl, this]
    rw [show nml n (m + 1) = nml (n / 256) m ++ [UInt8.ofNat n] from rfl, Nat.div_div_eq_div_mul, Nat.pow_succ, Nat.mul_comm 256]
    rfl
end Jn
end
section
set_option linter.unusedVariables false
set_option linter.unusedSimpArgs false
namespace Jn
def body (k : Nat) (kind : UInt8) (p : By) : By := nml k 2 ++ ([kind, UInt8.ofNat p.length] ++ (p ++ List.replicate (112 - p.length) 0))
def sec (g k : Nat) (kind : UInt8) (p : By) : By := nml g 4 ++ (nml (crc (body k kind p)) 4 ++ (body k kind p ++ nml g 4))
def gen (s : By) : Nat := num (s.take 4)
def gnT (s : By) : Nat := num (s.drop 124)
def crF (s : By) : Nat := num ((s.take 8).drop 4)
def bd (s : By) : By := (s.take 124).drop 8
def nmF (s : By) : Nat := num ((s.take 10).drop 8)
def kd (s : By) : UInt8 := s.getD 10 0
def ln (s : By) : Nat := (s.getD 11 0).toNat
def pc (s : By) : By := (s.take (12 + ln s)).drop 12
def zs0 (s : By) : By := (s.take 124).drop (12 + ln s)
theorem body_len {k : Nat} {kind : UInt8} {p : By} (h : p.length ≤ 112) : (body k kind p).length = 116 := by
  unfold body
  simp only [List.length_append, nml_len, List.length_cons, List.length_nil, List.length_replicate]
  omega
theorem sec_len {g k : Nat} {kind : UInt8} {p : By} (h : p.length ≤ 112) : (sec g k kind p).length = 128 := by
  unfold sec
  simp only [List.length_append, nml_len, body_len h]
theorem sec_take4 (g k : Nat) (kind : UInt8) (p : By) : (sec g k kind p).take 4 = nml g 4 := List.take_left' (nml_len 4 g)
theorem sec_gen {g : Nat} (hg : g < 4294967296) (k : Nat) (kind : UInt8) (p : By) : gen (sec g k kind p) = g := by
  unfold gen; rw [sec_take4]; exact num_nml 4 g (by simpa using hg)
theorem sec_drop4 (g k : Nat) (kind : UInt8) (p : By) : (sec g k kind p).drop 4 = nml (crc (body k kind p)) 4 ++ (body k kind p ++ nml g 4) := List.drop_left' (nml_len 4 g)
theorem sec_crF (g k : Nat) (kind : UInt8) (p : By) : crF (sec g k kind p) = crc (body k kind p) := by
  unfold crF
  rw [List.drop_take, sec_drop4, List.take_left' (nml_len 4 _)]
  exact num_nml 4 _ (by have := crc_lt (body k kind p); omega)
theorem sec_drop8 (g k : Nat) (kind : UInt8) (p : By) : (sec g k kind p).drop 8 = body k kind p ++ nml g 4 := by
  rw [show 8 = 4 + 4 from rfl, ← List.drop_drop, sec_drop4, List.drop_left' (nml_len 4 _)]
theorem sec_bd {p : By} (h : p.length ≤ 112) (g k : Nat) (kind : UInt8) : bd (sec g k kind p) = body k kind p := by
  unfold bd
  rw [List.drop_take, sec_drop8, List.take_left' (body_len h)]
theorem sec_gnT {g : Nat} (hg : g < 4294967296) {p : By} (h : p.length ≤ 112) (k : Nat) (kind : UInt8) : gnT (sec g k kind p) = g := by
  unfold gnT
  rw [show 124 = 8 + 116 from rfl, ← List.drop_drop, sec_drop8, List.drop_left' (body_len h)]
  exact num_nml 4 g (by simpa using hg)
theorem bd_drop (s : By) (i : Nat) : (bd s).drop i = (s.take 124).drop (8 + i) := by unfold bd; rw [List.drop_drop]
theorem nmF_bd (s : By) : nmF s = num ((bd s).take 2) := by
  unfold nmF bd
  rw [List.drop_take, List.drop_take, List.take_take]
  rfl
theorem getD_take {s : By} {n i : Nat} (h : i < n) : (s.take n).getD i 0 = s.getD i 0 := by
  simp only [List.getD, List.getElem?_take, h, if_true]
theorem getD_drop (s : By) (n i : Nat) : (s.drop n).getD i 0 = s.getD (n + i) 0 := by
  simp only [List.getD, List.getElem?_drop]
theorem kd_bd (s : By) : kd s = (bd s).getD 2 0 := by
  unfold kd bd
  rw [getD_drop, getD_take (by omega)]
theorem ln_bd (s : By) : ln s = ((bd s).getD 3 0).toNat := by
  unfold ln bd
  rw [getD_drop, getD_take (by omega)]
theorem two_of {l : By} (h : l.length = 2) : ∃ a b, l = [a, b] := by
  match l, h with
  | [a, b], _ => exact ⟨a, b, rfl⟩
theorem body_kd (k : Nat) (kind : UInt8) (p : By) : (body k kind p).getD 2 0 = kind := by
  unfold body
  obtain ⟨a, b, e⟩ := two_of (nml_len 2 k)
  rw [e]
  rfl
theorem body_ln (k : Nat) (kind : UInt8) (p : By) : (body k kind p).getD 3 0 = UInt8.ofNat p.length := by
  unfold body
  obtain ⟨a, b, e⟩ := two_of (nml_len 2 k)
  rw [e]
  rfl
theorem sec_kd {p : By} (h : p.length ≤ 112) (g k : Nat) (kind : UInt8) : kd (sec g k kind p) = kind := by
  rw [kd_bd, sec_bd h, body_kd]
theorem sec_ln {p : By} (h : p.length ≤ 112) (g k : Nat) (kind : UInt8) : ln (sec g k kind p) = p.length := by
  rw [ln_bd, sec_bd h, body_ln, UInt8.toNat_ofNat']
  omega
theorem sec_nmF {k : Nat} (hk : k < 65536) {p : By} (h : p.length ≤ 112) (g : Nat) (kind : UInt8) : nmF (sec g k kind p) = k := by
  rw [nmF_bd, sec_bd h]
  unfold body
  rw [List.take_left' (nml_len 2 k)]
  exact num_nml 2 k (by simpa using hk)
theorem body_drop4 (k : Nat) (kind : UInt8) (p : By) : (body k kind p).drop 4 = p ++ List.replicate (112 - p.length) 0 := by
  unfold body
  rw [show 4 = 2 + 2 from rfl, ← List.drop_drop, List.drop_left' (nml_len 2 k)]
  rfl
theorem pc_bd {s : By} (h : ln s ≤ 112) : pc s = ((bd s).drop 4).take (ln s) := by
  unfold pc
  rw [bd_drop, List.drop_take, List.drop_take, List.take_take]
  congr 1
  omega
theorem zs0_bd {s : By} : zs0 s = (bd s).drop (4 + ln s) := by
  unfold zs0
  rw [bd_drop]
  congr 1
  omega
theorem sec_pc {p : By} (h : p.length ≤ 112) (g k : Nat) (kind : UInt8) : pc (sec g k kind p) = p := by
  rw [pc_bd (by rw [sec_ln h]; exact h), sec_bd h, body_drop4, sec_ln h, List.take_left]
theorem sec_zs0 {p : By} (h : p.length ≤ 112) (g k : Nat) (kind : UInt8) : zs0 (sec g k kind p) = List.replicate (112 - p.length) 0 := by
  rw [zs0_bd, sec_bd h, sec_ln h, ← List.drop_drop, body_drop4, List.drop_left]

/-- the form of kind and length -/
structure Form (s : By) : Prop where
  k3 : kd s ≤ 3
  l1 : ln s ≤ 112
  l2 : ¬ (kd s < 2 ∧ ln s ≠ 112)
  l3 : ¬ (kd s % 2 = 0 ∧ ln s = 0)
instance (s : By) : Decidable (Form s) := decidable_of_iff (kd s ≤ 3 ∧ ln s ≤ 112 ∧ ¬ (kd s < 2 ∧ ln s ≠ 112) ∧ ¬ (kd s % 2 = 0 ∧ ln s = 0)) ⟨fun ⟨a, b, c, d⟩ => ⟨a, b, c, d⟩, fun ⟨a, b, c, d⟩ => ⟨a, b, c, d⟩⟩
/-- a good sector of a number -/
structure Gd (s : By) (k : Nat) : Prop where
  form : Form s
  g0 : gen s ≠ 0
  gt : gen s = gnT s
  cr : crF s = crc (bd s)
  nk : nmF s = k
  zz : zs0 s = List.replicate (112 - ln s) 0
instance (s : By) (k : Nat) : Decidable (Gd s k) := decidable_of_iff (Form s ∧ gen s ≠ 0 ∧ gen s = gnT s ∧ crF s = crc (bd s) ∧ nmF s = k ∧ zs0 s = List.replicate (112 - ln s) 0) ⟨fun ⟨a, b, c, d, e, f⟩ => ⟨a, b, c, d, e, f⟩, fun ⟨a, b, c, d, e, f⟩ => ⟨a, b, c, d, e, f⟩⟩
def gd (s : By) (k : Nat) : Bool := decide (Gd s k)
theorem pc_len {s : By} (hs : s.length = 128) (h : ln s ≤ 112) : (pc s).length = ln s := by
  unfold pc; rw [List.length_drop, List.length_take]; omega
theorem gen_lt {s : By} (hs : s.length = 128) : gen s < 4294967296 := by
  have := num_lt 4 (s.take 4) (by rw [List.length_take]; omega)
  simpa [gen] using this
theorem bd_len {s : By} (hs : s.length = 128) : (bd s).length = 116 := by unfold bd; rw [List.length_drop, List.length_take]; omega
theorem bd_eq {s : By} (hs : s.length = 128) (h : ln s ≤ 112) (hz : zs0 s = List.replicate (112 - ln s) 0) : bd s = body (nmF s) (kd s) (pc s) := by
  have hb := bd_len hs
  have e1 : bd s = (bd s).take 2 ++ (bd s).drop 2 := (List.take_append_drop 2 _).symm
  have e2 : (bd s).drop 2 = (bd s).getD 2 0 :: (bd s).getD 3 0 :: (bd s).drop 4 := by
    rw [List.drop_eq_getElem_cons (by omega), List.drop_eq_getElem_cons (by omega)]
    simp [List.getD, List.getElem?_eq_getElem (show 2 < (bd s).length by omega), List.getElem?_eq_getElem (show 3 < (bd s).length by omega)]
  have e3 : (bd s).drop 4 = pc s ++ zs0 s := by
    rw [pc_bd h, zs0_bd, ← List.drop_drop]
    exact (List.take_append_drop _ _).symm
  rw [e1, e2, e3, ← kd_bd, hz]
  unfold body
  have e4 : nml (nmF s) 2 = (bd s).take 2 := by rw [nmF_bd]; exact nml_num 2 _ (by rw [List.length_take]; omega)
  have e5 : (bd s).getD 3 0 = UInt8.ofNat (pc s).length := by
    rw [pc_len hs h, ln_bd]; simp
  rw [e4, e5, pc_len hs h]
  rfl
/-- the program's test -/
theorem gd_iff {s : By} (hs : s.length = 128) {k : Nat} (hk : k < 65536) : Gd s k ↔ Form s ∧ 0 < gen s ∧ s = sec (gen s) k (kd s) (pc s) := by
  constructor
  · rintro ⟨hf, g0, gt, cr, nk, zz⟩
    refine ⟨hf, by omega, ?_⟩
    have hb := bd_eq hs hf.l1 zz
    rw [nk] at hb
    have e1 : s = s.take 4 ++ ((s.take 8).drop 4 ++ (bd s ++ s.drop 124)) := by
      have a1 : s.drop 8 = bd s ++ s.drop 124 := by
        unfold bd
        rw [List.drop_take]
        have := (List.take_append_drop 116 (s.drop 8)).symm
        rwa [List.drop_drop] at this
      have a2 : s.drop 4 = (s.take 8).drop 4 ++ s.drop 8 := by
        rw [List.drop_take]
        have := (List.take_append_drop 4 (s.drop 4)).symm
        rwa [List.drop_drop] at this
      rw [← a1, ← a2]
      exact (List.take_append_drop 4 s).symm
    have e2 : s.take 4 = nml (gen s) 4 := (nml_num 4 _ (by rw [List.length_take]; omega)).symm
    have e3 : (s.take 8).drop 4 = nml (crc (bd s)) 4 := by rw [← cr]; exact (nml_num 4 _ (by rw [List.length_drop, List.length_take]; omega)).symm
    have e4 : s.drop 124 = nml (gen s) 4 := by rw [gt]; exact (nml_num 4 _ (by rw [List.length_drop]; omega)).symm
    have e5 : sec (gen s) k (kd s) (pc s) = nml (gen s) 4 ++ (nml (crc (bd s)) 4 ++ (bd s ++ nml (gen s) 4)) := by unfold sec; rw [← hb]
    have e6 : s.take 4 ++ ((s.take 8).drop 4 ++ (bd s ++ s.drop 124)) = nml (gen s) 4 ++ (nml (crc (bd s)) 4 ++ (bd s ++ nml (gen s) 4)) := congr (congrArg _ e2) (congr (congrArg _ e3) (congrArg _ e4))
    exact (e1.trans e6).trans e5.symm
  · rintro ⟨hf, g0, h⟩
    have hp : (pc s).length ≤ 112 := by rw [pc_len hs hf.l1]; exact hf.l1
    have hg := gen_lt hs
    have hb : bd s = body k (kd s) (pc s) := by rw [← sec_bd hp (gen s) k (kd s), ← h]
    refine ⟨hf, by omega, ?_, ?_, ?_, ?_⟩
    · conv => rhs; rw [h]
      exact (sec_gnT hg hp k (kd s)).symm
    · conv => lhs; rw [h]
      rw [sec_crF, hb]
    · conv => lhs; rw [h]
      exact sec_nmF hk hp _ _
    · conv => lhs; rw [h]
      rw [sec_zs0 hp, pc_len hs hf.l1]
theorem form_sec {g k : Nat} {kind : UInt8} {p : By} (h : p.length ≤ 112) (h3 : kind ≤ 3) (h2 : ¬ (kind < 2 ∧ p.length ≠ 112)) (h0 : ¬ (kind % 2 = 0 ∧ p.length = 0)) : Form (sec g k kind p) := by
  refine ⟨?_, ?_, ?_, ?_⟩
  · rw [sec_kd h]; exact h3
  · rw [sec_ln h]; exact h
  · rw [sec_kd h, sec_ln h]; exact h2
  · rw [sec_kd h, sec_ln h]; exact h0
theorem gd_sec {g k : Nat} {kind : UInt8} {p : By} (hg0 : 0 < g) (hg : g < 4294967296) (hk : k < 65536) (h : p.length ≤ 112) (h3 : kind ≤ 3) (h2 : ¬ (kind < 2 ∧ p.length ≠ 112)) (h0 : ¬ (kind % 2 = 0 ∧ p.length = 0)) : Gd (sec g k kind p) k := by
  refine ⟨form_sec h h3 h2 h0, ?_, ?_, ?_, ?_, ?_⟩
  · rw [sec_gen hg]; omega
  · rw [sec_gen hg, sec_gnT hg h]
  · rw [sec_crF, sec_bd h]
  · exact sec_nmF hk h _ _
  · rw [sec_zs0 h, sec_ln h]
end Jn
end
section
set_option linter.unusedVariables false
set_option linter.unusedSimpArgs false
namespace Jn
/-- a sector that goes on with a record that begins at a -/
def Goes (l : List By) (a n : Nat) (s : By) : Prop := Gd s (a + n) ∧ (kd s % 2 = 1 ↔ n = 0) ∧ gen s = gen (l.getD a [])
instance (l : List By) (a n : Nat) (s : By) : Decidable (Goes l a n s) := by unfold Goes; infer_instance
def rec1 (l : List By) (a : Nat) : Nat → Nat → By → Option (By × Nat)
  | 0, _, _ => none
  | f + 1, n, out => match l[a + n]? with
    | none => none
    | some s => if Goes l a n s then (if 2 ≤ kd s then some (out ++ pc s, n + 1) else rec1 l a f (n + 1) (out ++ pc s)) else none
/-- the record that begins at a -/
def recA (l : List By) (a : Nat) : Option (By × Nat) := rec1 l a (l.length - a) 0 []
def recs (l : List By) : Nat → Nat → Nat → List By
  | 0, _, _ => []
  | f + 1, a, last => match recA l a with
    | none => []
    | some (b, m) => if gen (l.getD a []) < last then [] else b :: recs l f (a + m) (gen (l.getD a []))
def Records (l : List By) : List By := recs l (l.length + 1) 0 0
theorem rec1_step {l : List By} {a n : Nat} (h : a + n < l.length) (out : By) :
    rec1 l a (l.length - a - n) n out = if Goes l a n l[a + n] then (if 2 ≤ kd l[a + n] then some (out ++ pc l[a + n], n + 1) else rec1 l a (l.length - a - (n + 1)) (n + 1) (out ++ pc l[a + n])) else none := by
  obtain ⟨f, hf⟩ : ∃ f, l.length - a - n = f + 1 := ⟨l.length - a - n - 1, by omega⟩
  have hf2 : l.length - a - (n + 1) = f := by omega
  rw [hf, hf2]
  show (match l[a + n]? with | none => none | some s => _) = _
  rw [List.getElem?_eq_getElem h]
theorem rec1_over {l : List By} {a n : Nat} (h : l.length ≤ a + n) (out : By) : rec1 l a (l.length - a - n) n out = none := by
  rw [show l.length - a - n = 0 by omega]; rfl
theorem rec1_bound {l : List By} {a : Nat} : ∀ (f n : Nat) (out : By) {b : By} {m : Nat}, rec1 l a f n out = some (b, m) → n < m ∧ a + m ≤ l.length
  | 0, _, _, _, _, h => by cases h
  | f + 1, n, out, b, m, h => by
    unfold rec1 at h
    split at h
    · cases h
    · rename_i s hs
      have hl := (List.getElem?_eq_some_iff.1 hs).1
      split at h
      · split at h
        · injection h with h
          injection h with h1 h2
          omega
        · have := rec1_bound f (n + 1) _ h
          omega
      · cases h
theorem recA_bound {l : List By} {a : Nat} {b : By} {m : Nat} (h : recA l a = some (b, m)) : 0 < m ∧ a + m ≤ l.length := rec1_bound _ _ _ h
theorem recs_none {l : List By} {f a last : Nat} (h : recA l a = none) : recs l f a last = [] := by
  cases f with
  | zero => rfl
  | succ f => unfold recs; rw [h]
theorem recs_less {l : List By} {f a last : Nat} (h : gen (l.getD a []) < last) : recs l f a last = [] := by
  cases f with
  | zero => rfl
  | succ f =>
    unfold recs
    cases hr : recA l a with
    | none => rfl
    | some x => obtain ⟨b, m⟩ := x; exact if_pos h
theorem recs_some {l : List By} {f a last : Nat} {b : By} {m : Nat} (h : recA l a = some (b, m)) (hg : ¬ gen (l.getD a []) < last) : recs l (f + 1) a last = b :: recs l f (a + m) (gen (l.getD a [])) := by
  show (match recA l a with | none => [] | some (b, m) => _) = _
  rw [h]
  exact if_neg hg
/-- a record that is told step by step -/
theorem recA_at {l : List By} {a n : Nat} (h : a + n < l.length) (out : By) (hr : rec1 l a (l.length - a - n) n out = recA l a) (hg : Goes l a n l[a + n]) (he : ¬ 2 ≤ kd l[a + n]) : rec1 l a (l.length - a - (n + 1)) (n + 1) (out ++ pc l[a + n]) = recA l a := by
  rw [← hr, rec1_step h, if_pos hg, if_neg he]
theorem recA_stop {l : List By} {a n : Nat} (h : a + n < l.length) {out : By} (hr : rec1 l a (l.length - a - n) n out = recA l a) (hg : ¬ Goes l a n l[a + n]) : recA l a = none := by
  rw [← hr, rec1_step h, if_neg hg]
theorem recA_end {l : List By} {a n : Nat} (h : a + n < l.length) {out : By} (hr : rec1 l a (l.length - a - n) n out = recA l a) (hg : Goes l a n l[a + n]) (he : 2 ≤ kd l[a + n]) : recA l a = some (out ++ pc l[a + n], n + 1) := by
  rw [← hr, rec1_step h, if_pos hg, if_pos he]
theorem recA_over {l : List By} {a n : Nat} (h : l.length ≤ a + n) {out : By} (hr : rec1 l a (l.length - a - n) n out = recA l a) : recA l a = none := by
  rw [← hr, rec1_over h]
end Jn
end
end Go.Proofs.Ytkcnanclpkongaa
