/- A number of four bytes through the register; which bytes behind a length make a frame. Condition: bytes. -/
import Derived.Test.YtmceiepphhlncaaFrA
import Derived.Test.YtmceiepphhlncaaCrcBit
namespace Go.Proofs.Ytmceiepphhlncaa.Fr
open Go.RowKit Go.Proofs.Ytmceiepphhlncaa.Q Go.Proofs.YtmceiepphhlncaaW.PrintWords Go.Proofs.YtmceiepphhlncaaW.PrintLast
open Go.Proofs.Ytmceiepphhlncaa.CrcA Go.Proofs.Ytmceiepphhlncaa.CrcB

theorem nat_xor_add (x q j : Nat) (h : x < 2 ^ j) : x ^^^ (2 ^ j * q) = 2 ^ j * q + x := by
  apply Nat.eq_of_testBit_eq
  intro i
  rw [Nat.testBit_xor, Nat.testBit_two_pow_mul_add q h i, Nat.testBit_two_pow_mul]
  by_cases hi : i < j
  · rw [if_pos hi]
    simp [show ¬ j ≤ i by omega]
  · rw [if_neg hi]
    have : x.testBit i = false := Nat.testBit_lt_two_pow (Nat.lt_of_lt_of_le h (Nat.pow_le_pow_right (by decide) (by omega)))
    simp [this, show j ≤ i by omega]
theorem join32 (a q j : Nat) (ha : a < 2 ^ j) (h : 2 ^ j * q + a < 4294967296) : BitVec.ofNat 32 (2 ^ j * q + a) = BitVec.ofNat 32 a ^^^ (BitVec.ofNat 32 q <<< j) := by
  apply BitVec.eq_of_toNat_eq
  have hp : 0 < 2 ^ j := Nat.pow_pos (by decide)
  have hq : q ≤ 2 ^ j * q := Nat.le_mul_of_pos_left q hp
  rw [BitVec.toNat_xor, BitVec.toNat_shiftLeft, BitVec.toNat_ofNat, BitVec.toNat_ofNat, BitVec.toNat_ofNat, Nat.shiftLeft_eq, Nat.mod_eq_of_lt (a := q) (by omega), Nat.mul_comm q, Nat.mod_eq_of_lt (a := 2 ^ j * q) (by omega), Nat.mod_eq_of_lt (a := a) (by omega), nat_xor_add a q j ha, Nat.mod_eq_of_lt (by omega)]
theorem shr1_shl (z : Reg) (h : z.toNat < 2147483648) : shr1 (z <<< (1 : Nat)) = z := by
  unfold shr1
  have h1 : (z <<< (1 : Nat)).getLsbD 0 = false := by simp
  rw [h1, if_neg (by decide), BitVec.xor_zero]
  apply BitVec.eq_of_toNat_eq
  rw [BitVec.toNat_ushiftRight, BitVec.toNat_shiftLeft, Nat.shiftLeft_eq, Nat.shiftRight_eq_div_pow]
  omega
theorem shl_down (y : Reg) : ∀ m : Nat, y.toNat * 2 ^ m < 4294967296 → shrs m (y <<< m) = y
  | 0, _ => by simp [shrs]
  | m + 1, h => by
    have hp : y.toNat * 2 ^ (m + 1) = y.toNat * 2 ^ m * 2 := by rw [Nat.pow_succ, Nat.mul_assoc]
    have e : (y <<< (m + 1) : Reg) = (y <<< m) <<< (1 : Nat) := by rw [BitVec.shiftLeft_add]
    have h2 : (y <<< m : Reg).toNat < 2147483648 := by
      rw [BitVec.toNat_shiftLeft, Nat.shiftLeft_eq]
      refine Nat.lt_of_le_of_lt (Nat.mod_le _ _) ?_
      omega
    rw [e, show m + 1 = 1 + m by omega, shrs_add]
    show shrs m (shr1 _) = y
    rw [shr1_shl _ h2]
    exact shl_down y m (by omega)
theorem down (y : Nat) (hy : y < 256) (m n : Nat) (hm : m ≤ 24) (hmn : m ≤ n) : shrs n (BitVec.ofNat 32 y <<< m) = shrs (n - m) (BitVec.ofNat 32 y) := by
  have e : n = m + (n - m) := by omega
  have h : (BitVec.ofNat 32 y).toNat = y := by rw [BitVec.toNat_ofNat]; omega
  have h2 : (BitVec.ofNat 32 y).toNat * 2 ^ m < 4294967296 := by
    rw [h]
    have : (2 : Nat) ^ m ≤ 2 ^ 24 := Nat.pow_le_pow_right (by decide) hm
    calc y * 2 ^ m ≤ 255 * 2 ^ 24 := Nat.mul_le_mul (by omega) this
      _ < 4294967296 := by decide
  conv => lhs; rw [e]
  rw [shrs_add, shl_down _ m h2]
theorem four_down (a b c d : Nat) (ha : a < 256) (hb : b < 256) (hc : c < 256) (hd : d < 256) :
    run 0#32 [(a : Int), b, c, d] = shrs 32 (BitVec.ofNat 32 (a + 256 * b + 65536 * c + 16777216 * d)) := by
  have e : BitVec.ofNat 32 (a + 256 * b + 65536 * c + 16777216 * d) = BitVec.ofNat 32 a ^^^ (BitVec.ofNat 32 b <<< 8) ^^^ (BitVec.ofNat 32 c <<< 16) ^^^ (BitVec.ofNat 32 d <<< 24) := by
    have e1 := join32 a b 8 (by omega) (by omega)
    have e2 := join32 (2 ^ 8 * b + a) c 16 (by omega) (by omega)
    have e3 := join32 (2 ^ 16 * c + (2 ^ 8 * b + a)) d 24 (by omega) (by omega)
    rw [e2, e1] at e3
    rw [← e3]
    congr 1
    omega
  have o : ∀ n : Nat, BitVec.ofInt 32 (n : Int) = BitVec.ofNat 32 n := fun n => BitVec.ofInt_natCast 32 n
  rw [e, shrs_xor, shrs_xor, shrs_xor, down b hb 8 32 (by omega) (by omega), down c hc 16 32 (by omega) (by omega), down d hd 24 32 (by omega) (by omega)]
  show byte (byte (byte (byte 0#32 a) b) c) d = _
  unfold byte
  rw [o, o, o, o, BitVec.zero_xor]
  simp only [shrs_xor, ← shrs_add, Nat.reduceAdd, Nat.reduceSub]
theorem run_four {s : List Int} (hs : Byt s) (h : s.length = 4) (c : Reg) : run c s = shrs 32 (c ^^^ BitVec.ofInt 32 (num4 s)) := by
  obtain ⟨a, b, e, d, rfl⟩ : ∃ a b e d, s = [a, b, e, d] := by
    rcases s with _ | ⟨a, _ | ⟨b, _ | ⟨e, _ | ⟨d, _ | ⟨q, t⟩⟩⟩⟩⟩ <;> simp at h
    exact ⟨a, b, e, d, rfl⟩
  have ha := hs a (by simp)
  have hb := hs b (by simp)
  have he := hs e (by simp)
  have hd := hs d (by simp)
  obtain ⟨a, rfl⟩ := Int.eq_ofNat_of_zero_le ha.1
  obtain ⟨b, rfl⟩ := Int.eq_ofNat_of_zero_le hb.1
  obtain ⟨e, rfl⟩ := Int.eq_ofNat_of_zero_le he.1
  obtain ⟨d, rfl⟩ := Int.eq_ofNat_of_zero_le hd.1
  have h1 := run_split [(a : Int), b, e, d] 0#32 c
  rw [BitVec.zero_xor] at h1
  have e4 : num4 [(a : Int), b, e, d] = ((a + 256 * b + 65536 * e + 16777216 * d : Nat) : Int) := by
    show (a : Int) + 256 * b + 65536 * e + 16777216 * d = _
    omega
  rw [h1, four_down a b e d (by omega) (by omega) (by omega) (by omega), e4, BitVec.ofInt_natCast, shrs_xor]
  simp only [List.length_cons, List.length_nil]
  rw [BitVec.xor_comm]
/-- The sum fits just where the register comes to one word. -/
theorem fits_iff {x s : List Int} (hs : Byt s) (h : s.length = 4) : num4 s = csum x ↔ run (~~~ 0#32) (x ++ s) = shrs 32 (~~~ 0#32) := by
  have hr := num4_range hs
  rw [run_append, run_four hs h]
  have e : num4 s = csum x ↔ BitVec.ofInt 32 (num4 s) = ~~~ run (~~~ 0#32) x := by
    unfold csum more
    constructor
    · intro h
      rw [h, ofInt_enc, BitVec.not_zero]
    · intro h
      rw [← enc_ofInt (num4 s) hr.1 hr.2, h, BitVec.not_zero]
  rw [e]
  generalize run (~~~ 0#32) x = c
  generalize BitVec.ofInt 32 (num4 s) = v
  constructor
  · rintro rfl
    congr 1
    ext i hi
    simp only [BitVec.getElem_xor, BitVec.getElem_not, BitVec.getElem_zero]
    cases c[i] <;> rfl
  · intro h
    have h1 := shrs_inj 32 _ _ h
    have h2 : c ^^^ (c ^^^ v) = c ^^^ ~~~ 0#32 := by rw [h1]
    rw [← BitVec.xor_assoc, BitVec.xor_self, BitVec.zero_xor] at h2
    rw [h2]
    ext i hi
    simp only [BitVec.getElem_xor, BitVec.getElem_not, BitVec.getElem_zero]
    cases c[i] <;> rfl
end Go.Proofs.Ytmceiepphhlncaa.Fr
