/- What Fixed answers, told plainly. Condition: the number is from 0 to 2 to the 64th less 1. -/
import Derived.Test.YtnkmoigimkieeaaQ1
import Derived.Test.YtnkmoigimkieeaaNumBytes
namespace Go.Proofs.Ytnkmoigimkieeaa.NumFix
open Go.RowKit Go.Proofs.Ytnkmoigimkieeaa.Q Go.Proofs.YtnkmoigimkieeaaW.PrintWords Go.Proofs.YtnkmoigimkieeaaW.PrintLast
open Go.Proofs.Ytnkmoigimkieeaa.NumA

theorem shr8 (v : Int) (i : Nat) (hi : i ≤ 8) : shr .u64 v (8 * (i : Int)) = v / 256 ^ i := by
  have h : i = 0 ∨ i = 1 ∨ i = 2 ∨ i = 3 ∨ i = 4 ∨ i = 5 ∨ i = 6 ∨ i = 7 ∨ i = 8 := by omega
  unfold shr
  rcases h with rfl | rfl | rfl | rfl | rfl | rfl | rfl | rfl | rfl <;> rfl
theorem wrap8 (i : Nat) (hi : i ≤ 8) : IntKind.u64.wrap (8 * IntKind.u64.wrap (i : Int)) = 8 * (i : Int) := by
  simp only [wrap_u64]
  omega
theorem set_zeros (d : Nat) (x : Int) (l : List Int) : (List.replicate (d + 1) 0 ++ l).set d x = List.replicate d 0 ++ x :: l := by
  rw [List.replicate_succ', List.append_assoc, List.set_append_right _ _ (by simp)]
  simp
theorem fixed_l0 (v : Int) (w : Nat) (hw : w ≤ 8) : ∀ (d k i : Nat), i + d = w → d < k →
    num_Fixed.l0 k v w (List.replicate d 0 ++ fixL v i) w i = some (fixL v w, 0)
  | 0, k, i, h, hk => by
    obtain ⟨k, rfl⟩ : ∃ m, k = m + 1 := ⟨k - 1, by omega⟩
    obtain rfl : i = w := by omega
    simp only [num_Fixed.l0]
    rw [if_neg (by omega)]
    simp
  | d + 1, k, i, h, hk => by
    obtain ⟨k, rfl⟩ : ∃ m, k = m + 1 := ⟨k - 1, by omega⟩
    simp only [num_Fixed.l0]
    have e1 : wrap64 ((wrap64 ((w : Int) - 1)) - (i : Int)) = (d : Int) := by unfold wrap64; omega
    have e2 : wrap64 ((i : Int) + 1) = ((i + 1 : Nat) : Int) := by unfold wrap64; omega
    rw [if_pos (by omega), wrap8 i (by omega), if_pos (by omega), e1, if_pos (by omega), if_pos (by rw [List.length_append, List.length_replicate, fixL_length]; omega), shr8 v i (by omega), e2, Int.toNat_natCast, set_zeros]
    exact fixed_l0 v w hw d k (i + 1) (by omega) (by omega)
/-- What Fixed answers. -/
def fixR (v w : Int) : List Int × Int := if 1 ≤ w ∧ w ≤ 8 then (if v < 256 ^ w.toNat then (fixL v w.toNat, 0) else ([], 3)) else ([], 2)
theorem lt_iff_div (v : Int) (n : Nat) : ¬ v < 256 ^ n ↔ 1 ≤ v / 256 ^ n := by
  have hp := pow256_pos n
  rw [Int.le_ediv_iff_mul_le hp]
  omega
theorem fixed_of (v w : Int) (v0 : 0 ≤ v) (v1 : v < 18446744073709551616) (k : Nat) (hk : 12 ≤ k) : num_Fixed.f k v w = some (fixR v w) := by
  obtain ⟨k, rfl⟩ : ∃ m, k = m + 2 := ⟨k - 2, by omega⟩
  unfold num_Fixed.f fixR
  by_cases h1 : w < 1
  · rw [if_pos h1, if_neg (by omega)]
    simp only [num_Fixed.j0]
    simp
  · rw [if_neg h1]
    by_cases h2 : w > 8
    · rw [if_neg (by omega), decide_eq_true h2]
      simp only [num_Fixed.j0]
      simp
    · obtain ⟨n, rfl⟩ := Int.eq_ofNat_of_zero_le (show 0 ≤ w by omega)
      have hn : n ≤ 8 := by omega
      have e0 := fixed_l0 v n hn n k 0 (by omega) (by omega)
      simp only [fixL, List.append_nil] at e0
      have e1 : ((0 : Nat) : Int) = 0 := rfl
      rw [e1] at e0
      have hj : ∀ b, num_Fixed.j1 (k + 1) v (n : Int) b = if b = true then some ([], 3) else some (fixL v n, 0) := by
        intro b
        simp only [num_Fixed.j1]
        rw [if_pos (show (0 : Int) ≤ n by omega), if_pos (show ((n : Int)).toNat ≤ 281474976710656 by omega), Int.toNat_natCast, e0]
      rw [if_pos (by omega), decide_eq_false h2, Int.toNat_natCast]
      simp only [num_Fixed.j0]
      rw [if_neg (by decide), hj, hj]
      by_cases h8 : (n : Int) < 8
      · rw [if_pos h8, wrap8 n (by omega), if_pos (by omega), shr8 v n (by omega)]
        have hd : 0 ≤ v / 256 ^ n := Int.ediv_nonneg v0 (Int.le_of_lt (pow256_pos n))
        have hl := lt_iff_div v n
        by_cases hc : v < 256 ^ n
        · have hz : v / 256 ^ n = 0 := by
            have : ¬ 1 ≤ v / 256 ^ n := fun x => (hl.2 x) hc
            omega
          rw [if_pos hc, hz]
          simp
        · have hz := hl.1 hc
          rw [if_neg hc, if_pos (by rw [bne_iff_ne]; omega)]
      · obtain rfl : n = 8 := by omega
        rw [if_neg h8, if_neg (by decide), if_pos (show v < 256 ^ 8 from by
          have : (256 : Int) ^ 8 = 18446744073709551616 := by decide
          omega)]

end Go.Proofs.Ytnkmoigimkieeaa.NumFix
