/- Numbers by sevens of bits, told plainly: what Var and ReadVar answer, and how the one is read by the other. Condition: what is read are bytes; what is told is from 0 to 2 to the 64th less 1. -/
import Derived.Test.YtnkmoigimkieeaaQ3
import Derived.Test.YtnkmoigimkieeaaQ12
import Derived.Test.YtnkmoigimkieeaaNumRd
namespace Go.Proofs.Ytnkmoigimkieeaa.NumSev
open Go.RowKit Go.Proofs.Ytnkmoigimkieeaa.Q Go.Proofs.YtnkmoigimkieeaaW.PrintWords Go.Proofs.YtnkmoigimkieeaaW.PrintLast
open Go.Proofs.Ytnkmoigimkieeaa.NumA Go.Proofs.Ytnkmoigimkieeaa.NumFix

/-- What the first i sevens come to. -/
def sv (l : List Int) : Nat → Int
  | 0 => 0
  | i + 1 => sv l i + (rd l i % 128) * 128 ^ i
def rvR (l : List Int) : Nat → Nat → Int × Int × Int
  | 0, _ => (0, 0, 5)
  | d + 1, i => if l.length ≤ i then (0, 0, 4) else if i = 9 ∧ rd l i > 1 then (0, 0, 5) else if rd l i < 128 then (if rd l i = 0 ∧ 0 < i then (0, 0, 5) else (sv l (i + 1), ((i + 1 : Nat) : Int), 0)) else rvR l d (i + 1)
def varL : Nat → Int → List Int
  | 0, _ => []
  | d + 1, v => if 128 ≤ v then (v % 128 + 128) :: varL d (v / 128) else [v]
theorem p128_pos (n : Nat) : (0 : Int) < 128 ^ n := Int.pow_pos (by decide)
theorem sv_range (l : List Int) : ∀ i, 0 ≤ sv l i ∧ sv l i < 128 ^ i
  | 0 => by simp [sv]
  | i + 1 => by
    have ih := sv_range l i
    have hp := p128_pos i
    simp only [sv]
    rw [Int.pow_succ]
    have c0 : 0 ≤ rd l i % 128 := by omega
    have c1 : rd l i % 128 ≤ 127 := by omega
    generalize rd l i % 128 = c at *
    generalize (128 : Int) ^ i = P at *
    have h1 : 0 ≤ c * P := Int.mul_nonneg c0 (by omega)
    have h2 : c * P ≤ 127 * P := Int.mul_le_mul_of_nonneg_right c1 (by omega)
    omega
theorem ten {i : Nat} (h : i ≤ 9) : i = 0 ∨ i = 1 ∨ i = 2 ∨ i = 3 ∨ i = 4 ∨ i = 5 ∨ i = 6 ∨ i = 7 ∨ i = 8 ∨ i = 9 := by omega
theorem shl7 (x : Int) (i : Nat) (hi : i ≤ 9) : shl .u64 x (7 * (i : Int)) = (x * 128 ^ i) % 18446744073709551616 := by
  unfold shl
  rw [wrap_u64]
  rcases ten hi with rfl | rfl | rfl | rfl | rfl | rfl | rfl | rfl | rfl | rfl <;> rfl
theorem wrap7 (i : Nat) (hi : i ≤ 9) : IntKind.u64.wrap (7 * IntKind.u64.wrap (i : Int)) = 7 * (i : Int) := by
  simp only [wrap_u64]
  omega
theorem p128_le (i : Nat) (hi : i ≤ 9) : (128 : Int) ^ i ≤ 9223372036854775808 := by
  rcases ten hi with rfl | rfl | rfl | rfl | rfl | rfl | rfl | rfl | rfl | rfl <;> decide
theorem p128_lt (i : Nat) (hi : i ≤ 8) : (128 : Int) ^ i * 128 ≤ 9223372036854775808 := by
  have := p128_le (i + 1) (by omega)
  rwa [Int.pow_succ] at this
theorem p128_two (i : Nat) (hi : i ≤ 9) : (128 : Int) ^ i = 2 ^ (7 * i) := by
  rcases ten hi with rfl | rfl | rfl | rfl | rfl | rfl | rfl | rfl | rfl | rfl <;> decide
/-- The weight of a digit, not wrapped. -/
theorem digit_fits (c : Int) (i : Nat) (hi : i ≤ 9) (c0 : 0 ≤ c) (c1 : c < 128) (h9 : i = 9 → c ≤ 1) : 0 ≤ c * 128 ^ i ∧ c * 128 ^ i + 128 ^ i ≤ 18446744073709551616 := by
  have hp := p128_pos i
  refine ⟨Int.mul_nonneg c0 (by omega), ?_⟩
  rcases Nat.lt_or_ge i 9 with h | h
  · have hl := p128_lt i (by omega)
    generalize (128 : Int) ^ i = P at *
    have h2 : c * P ≤ 127 * P := Int.mul_le_mul_of_nonneg_right (by omega) (by omega)
    omega
  · obtain rfl : i = 9 := by omega
    have hl := p128_le 9 (by omega)
    have c2 := h9 rfl
    generalize (128 : Int) ^ 9 = P at *
    have h2 : c * P ≤ 1 * P := Int.mul_le_mul_of_nonneg_right c2 (by omega)
    omega
theorem or_comm_u64 (x y : Int) : bits .or .u64 x y = bits .or .u64 y x := by
  simp only [bits]
  rw [BitVec.or_comm]
/-- One round of ReadVar's number. -/
theorem or_digit (l : List Int) (hl : Byt l) (i : Nat) (hi : i ≤ 9) (h9 : i = 9 → rd l i ≤ 1) :
    bits .or .u64 (sv l i) (shl .u64 (IntKind.u64.wrap (bits .and .u8 (rd l i) 127)) (IntKind.u64.wrap (7 * (IntKind.u64.wrap (i : Int))))) = sv l (i + 1) := by
  have hr := rd_byt hl i
  have hm : bits .and .u8 (rd l i) 127 = rd l i % 128 := bits_mask .u8 8 (by decide) wraps_u8 7 (by decide) _ hr.1 hr.2
  have hs := sv_range l i
  have c0 : 0 ≤ rd l i % 128 := by omega
  have c1 : rd l i % 128 < 128 := by omega
  have hf := digit_fits (rd l i % 128) i hi c0 c1 (fun h => by have := h9 h; omega)
  have hp := p128_pos i
  rw [hm, wrap_u64, wrap7 i hi, shl7 _ i hi]
  simp only [sv]
  rw [show rd l i % 128 % 18446744073709551616 = rd l i % 128 by omega]
  rw [Int.emod_eq_of_lt hf.1 (by omega), or_comm_u64]
  have hb := bits_join .u64 64 (by decide) (fun n a b => by rw [wrap_u64]; omega) (7 * i) (rd l i % 128 * 128 ^ i) (sv l i) hf.1 (by rw [← p128_two i hi]; exact Int.mul_emod_left _ _) (by omega) hs.1 (by rw [← p128_two i hi]; exact hs.2) (by omega)
  rw [hb]
  omega
theorem readVar_l0 (l : List Int) (hl : Byt l) (hb : l.length ≤ 140737488355328) : ∀ (d k i : Nat), i + d = 10 → 2 * d < k →
    num_ReadVar.l0 k l (sv l i) i = some (rvR l d i)
  | 0, k, i, h, hk => by
    obtain ⟨k, rfl⟩ : ∃ m, k = m + 1 := ⟨k - 1, by omega⟩
    simp only [num_ReadVar.l0, rvR]
    rw [if_neg (by omega)]
  | d + 1, k, i, h, hk => by
    obtain ⟨k, rfl⟩ : ∃ m, k = m + 2 := ⟨k - 2, by omega⟩
    have hr := rd_byt hl i
    simp only [num_ReadVar.l0, rvR]
    rw [if_pos (show (i : Int) < 10 by omega)]
    by_cases h1 : l.length ≤ i
    · rw [if_pos h1, if_pos (show (i : Int) ≥ l.length by omega)]
    · rw [if_neg h1, if_neg (show ¬ (i : Int) ≥ l.length by omega), if_pos (show 0 ≤ (i : Int) by omega), if_pos (show (i : Int) < l.length by omega)]
      have hj : ∀ b, (b = true ↔ i = 9 ∧ rd l i > 1) → num_ReadVar.j1 (k + 1) l (sv l i) i (rd l i) i b = some (if i = 9 ∧ rd l i > 1 then (0, 0, 5) else if rd l i < 128 then (if rd l i = 0 ∧ 0 < i then (0, 0, 5) else (sv l (i + 1), ((i + 1 : Nat) : Int), 0)) else rvR l d (i + 1)) := by
        intro b hbb
        simp only [num_ReadVar.j1]
        by_cases h2 : i = 9 ∧ rd l i > 1
        · rw [if_pos h2, if_pos (hbb.2 h2)]
        · have e2 : wrap64 ((i : Int) + 1) = ((i + 1 : Nat) : Int) := by unfold wrap64; omega
          rw [if_neg h2, if_neg (fun x => h2 (hbb.1 x)), or_digit l hl i (by omega) (fun x => by omega), e2, wrap7 i (by omega), if_pos (show 0 ≤ 7 * (i : Int) by omega)]
          by_cases h3 : rd l i < 128
          · rw [if_pos h3, if_pos h3]
            by_cases h4 : rd l i = 0
            · rw [if_pos h4]
              by_cases h5 : 0 < i
              · rw [if_pos (show (i : Int) > 0 by omega), if_pos ⟨h4, h5⟩]
              · rw [if_neg (show ¬ (i : Int) > 0 by omega), if_neg (fun x => h5 x.2)]
            · rw [if_neg h4, if_neg (fun x => h4 x.1)]
          · rw [if_neg h3, if_neg h3]
            exact readVar_l0 l hl hb d k (i + 1) (by omega) (by omega)
      by_cases h9 : i = 9
      · rw [if_pos (show (i : Int) = 9 by omega)]
        exact hj _ (by rw [decide_eq_true_eq]; exact ⟨fun x => ⟨h9, x⟩, fun x => x.2⟩)
      · rw [if_neg (show ¬ (i : Int) = 9 by omega)]
        exact hj _ ⟨fun x => absurd x (by decide), fun x => absurd x.1 h9⟩
theorem readVar_of (l : List Int) (hl : Byt l) (hb : l.length ≤ 140737488355328) (k : Nat) (hk : 30 ≤ k) : num_ReadVar.f k l = some (rvR l 10 0) := by
  unfold num_ReadVar.f
  exact readVar_l0 l hl hb 10 k 0 (by omega) (by omega)
theorem or128 (v : Int) : bits .or .u8 (v % 256) 128 = v % 128 + 128 := by
  have h : v % 256 = v % 128 ∨ v % 256 = v % 128 + 128 := by omega
  have r0 : 0 ≤ v % 128 := by omega
  have r1 : v % 128 < 128 := by omega
  generalize v % 128 = r at *
  rcases h with h | h <;> rw [h]
  · have := bits_join .u8 8 (by decide) wraps_u8 7 128 r (by decide) (by decide) (by decide) r0 (by omega) (by omega)
    have e : bits .or .u8 r 128 = bits .or .u8 128 r := by
      simp only [bits]
      rw [BitVec.or_comm]
    rw [e, this]
    omega
  · have h1 := bits_join .u8 8 (by decide) wraps_u8 7 128 r (by decide) (by decide) (by decide) r0 (by omega) (by omega)
    rw [show r + 128 = 128 + r by omega, ← h1]
    have e : ∀ x y : BitVec 8, (x ||| y) ||| x = x ||| y := by intro x y; rw [BitVec.or_comm (x ||| y) x, ← BitVec.or_assoc, BitVec.or_self]
    have hx : ∀ x y : Int, bits .or .u8 x y = ((BitVec.ofInt 8 x ||| BitVec.ofInt 8 y : BitVec 8).toNat : Int) := by
      intro x y
      have h : bits .or .u8 x y = IntKind.u8.wrap ((BitVec.ofInt 8 x ||| BitVec.ofInt 8 y : BitVec 8).toNat : Int) := rfl
      rw [h, wrap_u8]
      have := (BitVec.ofInt 8 x ||| BitVec.ofInt 8 y : BitVec 8).isLt
      omega
    rw [hx, hx]
    have ht : BitVec.ofInt 8 (((BitVec.ofInt 8 128 ||| BitVec.ofInt 8 r : BitVec 8).toNat : Int)) = (BitVec.ofInt 8 128 ||| BitVec.ofInt 8 r) := by rw [BitVec.ofInt_natCast, BitVec.ofNat_toNat, BitVec.setWidth_eq]
    rw [ht, e]
theorem div_lt_pow (v : Int) (d : Nat) (hv : v < 128 ^ (d + 1)) : v / 128 < 128 ^ d := by
  rw [Int.pow_succ] at hv
  exact Int.ediv_lt_of_lt_mul (by decide) hv
theorem var_l0 : ∀ (d k : Nat) (v : Int) (acc : List Int), 0 ≤ v → v < 128 ^ (d + 1) → d + 1 < k → acc.length + d < 140737488355328 →
    num_Var.l0 k v acc = some (acc ++ varL (d + 1) v)
  | 0, k, v, acc, v0, hv, hk, ha => by
    obtain ⟨k, rfl⟩ : ∃ m, k = m + 1 := ⟨k - 1, by omega⟩
    simp only [num_Var.l0, varL]
    rw [if_neg (show ¬ v ≥ 128 by omega), if_neg (show ¬ 128 ≤ v by omega), if_pos (by omega), show v % 256 = v by omega]
  | d + 1, k, v, acc, v0, hv, hk, ha => by
    obtain ⟨k, rfl⟩ : ∃ m, k = m + 1 := ⟨k - 1, by omega⟩
    have hd := div_lt_pow v (d + 1) hv
    rw [varL]
    simp only [num_Var.l0]
    by_cases h : 128 ≤ v
    · rw [if_pos (show v ≥ 128 from h), if_pos h, if_pos (by omega), or128 v, var_l0 d k (v / 128) _ (by omega) hd (by omega) (by rw [List.length_append]; simp; omega)]
      simp
    · rw [if_neg (show ¬ v ≥ 128 from h), if_neg h, if_pos (by omega), show v % 256 = v by omega]
theorem pow10 : (18446744073709551616 : Int) ≤ 128 ^ 10 := by decide
theorem var_of (v : Int) (v0 : 0 ≤ v) (v1 : v < 18446744073709551616) (k : Nat) (hk : 12 ≤ k) : num_Var.f k v = some (varL 10 v) := by
  unfold num_Var.f
  have := pow10
  rw [var_l0 9 k v [] v0 (by omega) (by omega) (by simp)]
  rfl
theorem varL_byt : ∀ (d : Nat) (v : Int), 0 ≤ v → Byt (varL d v)
  | 0, _, _ => fun x m => by simp [varL] at m
  | d + 1, v, v0 => fun x m => by
    simp only [varL] at m
    by_cases h : 128 ≤ v
    · rw [if_pos h] at m
      rcases List.mem_cons.1 m with rfl | m
      · omega
      · exact varL_byt d (v / 128) (by omega) x m
    · rw [if_neg h, List.mem_singleton] at m
      omega
theorem varL_length : ∀ (d : Nat) (v : Int), (varL d v).length ≤ d
  | 0, _ => by simp [varL]
  | d + 1, v => by
    simp only [varL]
    by_cases h : 128 ≤ v
    · rw [if_pos h]
      have := varL_length d (v / 128)
      simp; omega
    · rw [if_neg h]; simp

end Go.Proofs.Ytnkmoigimkieeaa.NumSev
