/- The register of CRC-32 as a word of 32 bits: one shr1, its linearity, that it loses nothing; bytes through it. Plain facts, no program. No condition beyond what each theorem states. -/
import Derived.Laws.BitsLemmas
import Derived.RowKit
namespace Go.Proofs.Ytmceiepphhlncaa.CrcA
open Go.RowKit

abbrev Reg := BitVec 32
def poly : Reg := 3988292384#32
/-- One shift of the register. -/
def shr1 (c : Reg) : Reg := (c >>> (1 : Nat)) ^^^ (if c.getLsbD 0 = true then poly else 0#32)
def shrs : Nat → Reg → Reg
  | 0, c => c
  | n + 1, c => shrs n (shr1 c)
theorem shrs_add (m n : Nat) (c : Reg) : shrs (m + n) c = shrs n (shrs m c) := by
  induction m generalizing c with
  | zero => rw [Nat.zero_add]; rfl
  | succ m ih => rw [Nat.succ_add]; exact ih (shr1 c)
theorem shrs_succ (n : Nat) (c : Reg) : shrs (n + 1) c = shr1 (shrs n c) := by rw [shrs_add]; rfl
theorem ite_xor (p q : Bool) : (if (p ^^ q) = true then poly else 0#32) = (if p = true then poly else 0#32) ^^^ (if q = true then poly else 0#32) := by
  cases p <;> cases q <;> decide
theorem shr1_xor (a b : Reg) : shr1 (a ^^^ b) = shr1 a ^^^ shr1 b := by
  unfold shr1
  rw [BitVec.ushiftRight_xor_distrib, BitVec.getLsbD_xor, ite_xor]
  ac_rfl
theorem shr1_zero : shr1 0#32 = 0#32 := by decide
theorem shrs_xor (n : Nat) (a b : Reg) : shrs n (a ^^^ b) = shrs n a ^^^ shrs n b := by
  induction n generalizing a b with
  | zero => rfl
  | succ n ih => simp only [shrs]; rw [shr1_xor, ih]
theorem shrs_zero (n : Nat) : shrs n 0#32 = 0#32 := by
  induction n with
  | zero => rfl
  | succ n ih => simp only [shrs]; rw [shr1_zero, ih]
/-- A shr1 loses nothing. -/
theorem shr1_eq_zero (c : Reg) (h : shr1 c = 0#32) : c = 0#32 := by
  unfold shr1 at h
  by_cases hb : c.getLsbD 0 = true
  · rw [if_pos hb] at h
    have h31 := congrArg (fun x : Reg => x.getLsbD 31) h
    simp only [BitVec.getLsbD_xor, BitVec.getLsbD_ushiftRight] at h31
    have e : c.getLsbD (1 + 31) = false := BitVec.getLsbD_of_ge _ _ (by decide)
    rw [e] at h31
    exact absurd h31 (by decide)
  · rw [if_neg hb, BitVec.xor_zero] at h
    apply BitVec.eq_of_getLsbD_eq
    intro i hi
    rcases Nat.eq_zero_or_pos i with rfl | hp
    · rw [BitVec.getLsbD_zero]; simpa using hb
    · obtain ⟨i, rfl⟩ : ∃ m, i = m + 1 := ⟨i - 1, by omega⟩
      have hi' := congrArg (fun x : Reg => x.getLsbD i) h
      simp only [BitVec.getLsbD_ushiftRight, BitVec.getLsbD_zero] at hi' ⊢
      rwa [Nat.add_comm] at hi'
theorem shrs_eq_zero (n : Nat) : ∀ c : Reg, shrs n c = 0#32 → c = 0#32 := by
  induction n with
  | zero => exact fun c h => h
  | succ n ih => exact fun c h => shr1_eq_zero c (ih _ h)
theorem xor_eq_zero (a b : Reg) : a ^^^ b = 0#32 ↔ a = b := by
  constructor
  · intro h
    have : a ^^^ b ^^^ b = 0#32 ^^^ b := by rw [h]
    rwa [BitVec.xor_assoc, BitVec.xor_self, BitVec.xor_zero, BitVec.zero_xor] at this
  · rintro rfl; exact BitVec.xor_self
theorem shrs_inj (n : Nat) (a b : Reg) (h : shrs n a = shrs n b) : a = b := by
  rw [← xor_eq_zero] at h ⊢
  rw [← shrs_xor] at h
  exact shrs_eq_zero n _ h
/-- A byte goes through the register. -/
def byte (c : Reg) (x : Int) : Reg := shrs 8 (c ^^^ BitVec.ofInt 32 x)
def run (c : Reg) (l : List Int) : Reg := l.foldl byte c
theorem run_nil (c : Reg) : run c [] = c := rfl
theorem run_cons (c : Reg) (x : Int) (l : List Int) : run c (x :: l) = run (byte c x) l := rfl
theorem run_append (c : Reg) (x y : List Int) : run c (x ++ y) = run (run c x) y := by simp [run]
/-- The sum of bytes, begun with a sum. -/
def more (s : Reg) (l : List Int) : Reg := ~~~ run (~~~ s) l

/-! What the printed numbers are. -/
theorem wrap_u32 (n : Int) : IntKind.u32.wrap n = n % 4294967296 := IntKind.wrap_u32 n
theorem bits_xor_u32 (x y : Int) : bits .xor .u32 x y = ((BitVec.ofInt 32 x ^^^ BitVec.ofInt 32 y : Reg).toNat : Int) := by
  have h : bits .xor .u32 x y = IntKind.u32.wrap ((BitVec.ofInt 32 x ^^^ BitVec.ofInt 32 y : Reg).toNat : Int) := rfl
  rw [h, wrap_u32]
  have := (BitVec.ofInt 32 x ^^^ BitVec.ofInt 32 y : Reg).isLt
  omega
theorem bits_and_u32 (x y : Int) : bits .and .u32 x y = ((BitVec.ofInt 32 x &&& BitVec.ofInt 32 y : Reg).toNat : Int) := by
  have h : bits .and .u32 x y = IntKind.u32.wrap ((BitVec.ofInt 32 x &&& BitVec.ofInt 32 y : Reg).toNat : Int) := rfl
  rw [h, wrap_u32]
  have := (BitVec.ofInt 32 x &&& BitVec.ofInt 32 y : Reg).isLt
  omega
/-- The number that a word is. -/
def enc (c : Reg) : Int := (c.toNat : Int)
theorem enc_range (c : Reg) : 0 ≤ enc c ∧ enc c < 4294967296 := by
  have := c.isLt
  unfold enc
  omega
theorem ofInt_enc (c : Reg) : BitVec.ofInt 32 (enc c) = c := by
  unfold enc
  rw [BitVec.ofInt_natCast, BitVec.ofNat_toNat, BitVec.setWidth_eq]
theorem enc_ofInt (x : Int) (h0 : 0 ≤ x) (h1 : x < 4294967296) : enc (BitVec.ofInt 32 x) = x := by
  unfold enc
  rw [BitVec.toNat_ofInt]
  omega
theorem enc_inj {a b : Reg} (h : enc a = enc b) : a = b := by rw [← ofInt_enc a, ← ofInt_enc b, h]
theorem xor_enc (a b : Reg) : bits .xor .u32 (enc a) (enc b) = enc (a ^^^ b) := by rw [bits_xor_u32, ofInt_enc, ofInt_enc]; rfl
theorem xor_ones (x : Int) : bits .xor .u32 4294967295 x = enc (~~~ BitVec.ofInt 32 x) := by
  rw [bits_xor_u32, show BitVec.ofInt 32 4294967295 = BitVec.allOnes 32 by decide, BitVec.allOnes_xor]; rfl
theorem half_enc (c : Reg) : enc c / (2 : Int) = enc (c >>> (1 : Nat)) := by
  unfold enc
  rw [BitVec.toNat_ushiftRight, Nat.shiftRight_eq_div_pow]
  omega
theorem low_enc (c : Reg) : bits .and .u32 (enc c) 1 = if c.getLsbD 0 = true then 1 else 0 := by
  rw [bits_and_u32, ofInt_enc]
  have h : c &&& BitVec.ofInt 32 1 = if c.getLsbD 0 = true then 1#32 else 0#32 := by
    apply BitVec.eq_of_getLsbD_eq
    intro i hi
    rw [BitVec.getLsbD_and]
    rcases Nat.eq_zero_or_pos i with rfl | hp
    · by_cases hb : c.getLsbD 0 = true
      · rw [if_pos hb, hb]; decide
      · have hb' : c.getLsbD 0 = false := by simpa using hb
        rw [if_neg hb, hb', Bool.false_and, BitVec.getLsbD_zero]
    · have e1 : (BitVec.ofInt 32 1 : Reg).getLsbD i = false := by
        rw [show (BitVec.ofInt 32 1 : Reg) = 1#32 from rfl, BitVec.getLsbD_one]
        simp; omega
      rw [e1, Bool.and_false]
      by_cases hb : c.getLsbD 0 = true
      · rw [if_pos hb, BitVec.getLsbD_one]; simp; omega
      · rw [if_neg hb, BitVec.getLsbD_zero]
  rw [h]
  by_cases hb : c.getLsbD 0 = true
  · rw [if_pos hb, if_pos hb]; rfl
  · rw [if_neg hb, if_neg hb]; rfl
theorem mod_enc (c : Reg) : enc c % 2 = if c.getLsbD 0 = true then 1 else 0 := by
  unfold enc
  have h : c.getLsbD 0 = decide (c.toNat % 2 = 1) := by
    rw [BitVec.getLsbD, Nat.testBit_zero]
  rw [h]
  by_cases hb : c.toNat % 2 = 1
  · rw [if_pos (by simpa using hb)]; omega
  · rw [if_neg (by simpa using hb)]; omega
/-- One shift, as crc has it. -/
theorem shr1_enc (c : Reg) : bits .xor .u32 (enc c / 2) (bits .and .u32 3988292384 ((-(bits .and .u32 (enc c) 1)) % 4294967296)) = enc (shr1 c) := by
  have h : bits .and .u32 3988292384 ((-(bits .and .u32 (enc c) 1)) % 4294967296) = enc (if c.getLsbD 0 = true then poly else 0#32) := by
    rw [low_enc]
    by_cases hb : c.getLsbD 0 = true
    · rw [if_pos hb, if_pos hb]; decide
    · rw [if_neg hb, if_neg hb]; decide
  rw [h, half_enc, xor_enc]
  rfl
theorem byte_enc (c : Reg) (x : Int) (h0 : 0 ≤ x) (h1 : x < 256) : bits .xor .u32 (enc c) (x % 4294967296) = enc (c ^^^ BitVec.ofInt 32 x) := by
  rw [← xor_enc, enc_ofInt x h0 (by omega), show x % 4294967296 = x by omega]
theorem not_enc (x : Int) : (4294967295 - x) % 4294967296 = enc (~~~ BitVec.ofInt 32 x) := by
  unfold enc
  rw [BitVec.toNat_not, BitVec.toNat_ofInt]
  omega

end Go.Proofs.Ytmceiepphhlncaa.CrcA
