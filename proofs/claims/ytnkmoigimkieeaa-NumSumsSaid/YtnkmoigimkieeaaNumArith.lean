/- What Add, Sub and Mul answer, told plainly: the sum, the difference, the product, or a refusal where it is not below 2 to the 64th. Condition: both numbers are from 0 to 2 to the 64th less 1. -/
import Derived.Test.YtnkmoigimkieeaaQ22
import Derived.Test.YtnkmoigimkieeaaQ23
import Derived.Test.YtnkmoigimkieeaaQ24
import Derived.Test.YtnkmoigimkieeaaNumA
namespace Go.Proofs.Ytnkmoigimkieeaa.NumArith
open Go.RowKit Go.Proofs.Ytnkmoigimkieeaa.Q Go.Proofs.YtnkmoigimkieeaaW.PrintWords Go.Proofs.YtnkmoigimkieeaaW.PrintLast
open Go.Proofs.Ytnkmoigimkieeaa.NumA

def two64 : Int := 18446744073709551616
theorem add_of (a b : Int) (a0 : 0 ≤ a) (a1 : a < 18446744073709551616) (b0 : 0 ≤ b) (b1 : b < 18446744073709551616) :
    num_Add.f a b = some (if a + b < 18446744073709551616 then (a + b, 0) else (0, 3)) := by
  unfold num_Add.f
  simp only [wrap_u64]
  by_cases h : a + b < 18446744073709551616
  · rw [if_pos h, if_pos (by omega)]
    congr 2
    omega
  · rw [if_neg h, if_neg (by omega)]
theorem sub_of (a b : Int) (a0 : 0 ≤ a) (a1 : a < 18446744073709551616) (b0 : 0 ≤ b) (b1 : b < 18446744073709551616) :
    num_Sub.f a b = some (if b ≤ a then (a - b, 0) else (0, 3)) := by
  unfold num_Sub.f
  simp only [wrap_u64]
  by_cases h : a < b
  · rw [if_pos h, if_neg (by omega)]
  · rw [if_neg h, if_pos (by omega)]
    congr 2
    omega
theorem mul_core (a b : Int) (a0 : 0 ≤ a) (a1 : a < 18446744073709551616) (b0 : 0 < b) :
    (Int.tdiv ((a * b) % 18446744073709551616) b % 18446744073709551616 = a) ↔ a * b < 18446744073709551616 := by
  have hp : 0 ≤ a * b := Int.mul_nonneg a0 (by omega)
  have hw : 0 ≤ (a * b) % 18446744073709551616 := by omega
  rw [Int.tdiv_eq_ediv_of_nonneg hw]
  constructor
  · intro h
    have h1 : ((a * b) % 18446744073709551616) / b * b ≤ (a * b) % 18446744073709551616 := Int.ediv_mul_le _ (by omega)
    have h2 : 0 ≤ ((a * b) % 18446744073709551616) / b := Int.ediv_nonneg hw (by omega)
    have h3 : ((a * b) % 18446744073709551616) / b ≤ (a * b) % 18446744073709551616 := Int.ediv_le_self _ hw
    have h4 : ((a * b) % 18446744073709551616) / b = a := by omega
    rw [h4] at h1
    omega
  · intro h
    rw [Int.emod_eq_of_lt hp h, Int.mul_ediv_cancel _ (by omega)]
    omega
theorem mul_of (a b : Int) (a0 : 0 ≤ a) (a1 : a < 18446744073709551616) (b0 : 0 ≤ b) (b1 : b < 18446744073709551616) (k : Nat) :
    num_Mul.f (k + 1) a b = some (if a * b < 18446744073709551616 then (a * b, 0) else (0, 3)) := by
  unfold num_Mul.f
  simp only [num_Mul.j0, wrap_u64]
  by_cases ha : a = 0
  · subst ha; simp
  · rw [if_neg ha]
    by_cases hb : b = 0
    · subst hb; simp
    · have e : (b == 0) = false := beq_eq_false_iff_ne.mpr hb
      rw [e, if_neg (by decide), if_neg hb]
      have hc := mul_core a b a0 a1 (by omega)
      have hp : 0 ≤ a * b := Int.mul_nonneg a0 b0
      by_cases h : a * b < 18446744073709551616
      · rw [if_pos (hc.2 h), if_pos h, Int.emod_eq_of_lt hp h]
      · rw [if_neg (fun x => h (hc.1 x)), if_neg h]

end Go.Proofs.Ytnkmoigimkieeaa.NumArith
