/- Any number in any width is the document's bytes, or refused as it says; so is any row of bytes read: what the law computes is true at every number, width and row of bytes. No condition beyond the bound of every row of bytes. -/
import Derived.Test.YtnkmoigimkieeaaQ20
import Derived.Test.YtnkmoigimkieeaaNumRd
import Derived.Test.YtnkmoigimkieeaaNumWorks
namespace Go.Proofs.Ytnkmoigimkieeaa.Pure
open Go.RowKit Go.Proofs.Ytnkmoigimkieeaa.Q Go.Proofs.YtnkmoigimkieeaaW.PrintWords Go.Proofs.YtnkmoigimkieeaaW.PrintLast
open Go.Proofs.Ytnkmoigimkieeaa.NumA Go.Proofs.Ytnkmoigimkieeaa.NumFix Go.Proofs.Ytnkmoigimkieeaa.NumWorks

theorem ediv_step (v : Int) (i : Nat) : v / 256 ^ i / 256 = v / 256 ^ (i + 1) := by
  rw [Int.ediv_ediv_of_nonneg (Int.le_of_lt (pow256_pos i)), Int.pow_succ]
theorem refFixed_l0 (v : Int) (v0 : 0 ≤ v) (v1 : v < 18446744073709551616) (w : Nat) (hw : w ≤ 8) : ∀ (d k i : Nat), i + d = w → d < k →
    veneerref01_Fixed.l0 k (v / 256 ^ i) (List.replicate d 0 ++ fixL v i) ((d : Int) - 1) = some (if v < 256 ^ w then (fixL v w, 0) else ([], 3))
  | 0, k, i, h, hk => by
    obtain ⟨k, rfl⟩ : ∃ m, k = m + 1 := ⟨k - 1, by omega⟩
    obtain rfl : i = w := by omega
    have hl := lt_iff_div v i
    simp only [veneerref01_Fixed.l0]
    rw [if_neg (show ¬ (((0 : Nat) : Int) - 1 ≥ 0) by omega)]
    by_cases hc : v < 256 ^ i
    · have hz : ¬ v / 256 ^ i > 0 := fun x => (hl.2 (by omega)) hc
      rw [if_pos hc, if_neg hz]
      simp
    · have hz := hl.1 hc
      rw [if_neg hc, if_pos (by omega)]
  | d + 1, k, i, h, hk => by
    obtain ⟨k, rfl⟩ : ∃ m, k = m + 1 := ⟨k - 1, by omega⟩
    have q0 : 0 ≤ v / 256 ^ i := Int.ediv_nonneg v0 (Int.le_of_lt (pow256_pos i))
    have q1 : v / 256 ^ i ≤ v := Int.ediv_le_self _ v0
    have e1 : ((d + 1 : Nat) : Int) - 1 = (d : Int) := by omega
    have e2 : wrap64 ((d : Int) - 1) = (d : Int) - 1 := by unfold wrap64; omega
    have e3 : IntKind.u64.wrap (Int.tdiv (v / 256 ^ i) 256) = v / 256 ^ (i + 1) := by
      rw [wrap_u64, Int.tdiv_eq_ediv_of_nonneg q0, ediv_step]
      have : v / 256 ^ (i + 1) ≤ v := Int.ediv_le_self _ v0
      have : 0 ≤ v / 256 ^ (i + 1) := Int.ediv_nonneg v0 (Int.le_of_lt (pow256_pos (i + 1)))
      omega
    have e4 : Int.tmod (v / 256 ^ i) 256 % 256 = v / 256 ^ i % 256 := by rw [Int.tmod_eq_emod_of_nonneg q0]; omega
    rw [e1]
    simp only [veneerref01_Fixed.l0]
    rw [if_pos (show (d : Int) ≥ 0 by omega), if_pos (show 0 ≤ (d : Int) by omega), if_pos (by rw [List.length_append, List.length_replicate, fixL_length]; omega), e2, e3, e4, Int.toNat_natCast, set_zeros]
    exact refFixed_l0 v v0 v1 w hw d k (i + 1) (by omega) (by omega)
theorem refFixed_of (v w : Int) (v0 : 0 ≤ v) (v1 : v < 18446744073709551616) (k : Nat) (hk : 12 ≤ k) : veneerref01_Fixed.f k v w = some (fixR v w) := by
  obtain ⟨k, rfl⟩ : ∃ m, k = m + 1 := ⟨k - 1, by omega⟩
  unfold veneerref01_Fixed.f fixR
  simp only [veneerref01_Fixed.j0]
  by_cases h1 : w < 1
  · rw [if_pos h1, if_pos trivial, if_neg (show ¬ (1 ≤ w ∧ w ≤ 8) by omega)]
  · rw [if_neg h1]
    by_cases h2 : w > 8
    · rw [if_neg (show ¬ (1 ≤ w ∧ w ≤ 8) by omega), decide_eq_true h2, if_pos rfl]
    · rw [if_pos (show 1 ≤ w ∧ w ≤ 8 by omega), decide_eq_false h2, if_neg (by decide)]
      obtain ⟨n, rfl⟩ := Int.eq_ofNat_of_zero_le (show 0 ≤ w by omega)
      have e := refFixed_l0 v v0 v1 n (by omega) n k 0 (by omega) (by omega)
      simp only [fixL, List.append_nil, Int.pow_zero, Int.ediv_one] at e
      have e2 : wrap64 ((n : Int) - 1) = (n : Int) - 1 := by unfold wrap64; omega
      rw [if_pos (show (0 : Int) ≤ n by omega), if_pos (show ((n : Int)).toNat ≤ 281474976710656 by omega), Int.toNat_natCast, e2, e]
theorem refRead_l0 (l : List Int) (hl : Byt l) (w : Nat) (hw : w ≤ l.length) (hb : l.length ≤ 140737488355328) : ∀ (d k i : Nat), i + d = w → d < k →
    veneerref01_ReadFixed.l0 k l w (rdv l i) i = some (rdv l w, 0)
  | 0, k, i, h, hk => by
    obtain ⟨k, rfl⟩ : ∃ m, k = m + 1 := ⟨k - 1, by omega⟩
    obtain rfl : i = w := by omega
    simp only [veneerref01_ReadFixed.l0]
    rw [if_neg (by omega)]
  | d + 1, k, i, h, hk => by
    obtain ⟨k, rfl⟩ : ∃ m, k = m + 1 := ⟨k - 1, by omega⟩
    have e2 : wrap64 ((i : Int) + 1) = ((i + 1 : Nat) : Int) := by unfold wrap64; omega
    have hr := rd_byt hl i
    have e3 : IntKind.u64.wrap ((IntKind.u64.wrap (rdv l i * 256)) + (IntKind.u64.wrap (rd l i))) = rdv l (i + 1) := by
      simp only [wrap_u64, rdv]
      omega
    simp only [veneerref01_ReadFixed.l0]
    rw [if_pos (show (i : Int) < w by omega), if_pos (show 0 ≤ (i : Int) by omega), if_pos (show (i : Int) < l.length by omega), e3, e2]
    exact refRead_l0 l hl w hw hb d k (i + 1) (by omega) (by omega)
theorem refRead_of (l : List Int) (w : Int) (hl : Byt l) (hb : l.length ≤ 140737488355328) (k : Nat) (hk : 12 ≤ k) : veneerref01_ReadFixed.f k l w = some (rfR l w) := by
  obtain ⟨k, rfl⟩ : ∃ m, k = m + 1 := ⟨k - 1, by omega⟩
  unfold veneerref01_ReadFixed.f rfR
  simp only [veneerref01_ReadFixed.j0]
  by_cases h1 : w < 1
  · rw [if_pos h1, if_pos trivial, if_neg (show ¬ (1 ≤ w ∧ w ≤ 8) by omega)]
  · rw [if_neg h1]
    by_cases h2 : w > 8
    · rw [if_neg (show ¬ (1 ≤ w ∧ w ≤ 8) by omega), decide_eq_true h2, if_pos rfl]
    · rw [if_pos (show 1 ≤ w ∧ w ≤ 8 by omega), decide_eq_false h2, if_neg (by decide)]
      by_cases h3 : (l.length : Int) < w
      · rw [if_pos h3, if_neg (show ¬ w ≤ (l.length : Int) by omega)]
      · obtain ⟨n, rfl⟩ := Int.eq_ofNat_of_zero_le (show 0 ≤ w by omega)
        have e := refRead_l0 l hl n (by omega) hb n k 0 (by omega) (by omega)
        rw [if_neg h3, if_pos (show (n : Int) ≤ (l.length : Int) by omega), Int.toNat_natCast]
        exact e
theorem NumFixed : veneerlaw01_NumFixed.Pure := by
  intro a w l h0 h1 hm hb hx
  obtain ⟨a0, a1⟩ := u64_wf h0
  have hl : Byt l := fun x m => u8_wf (hx x m)
  obtain ⟨k, hk⟩ : ∃ k : Nat, 30 ≤ k := ⟨30, Nat.le_refl _⟩
  refine ⟨k, ?_⟩
  have hw := works_ge k hk
  unfold veneerlaw01_NumFixed.f
  rw [fixed_of a w a0 a1 k (by omega), refFixed_of a w a0 a1 k (by omega)]
  simp only [Option.bind_some, List.nil_append, List.length_nil, List.length_append, List.length_cons]
  rw [if_pos (by omega), if_pos (by omega), if_pos (by omega), if_pos (by omega), Int.toNat_natCast, List.take_left, readFixed_of l w hl (by omega) k (by omega), refRead_of l w hl (by omega) k (by omega)]
  simp only [Option.bind_some, if_true]
  rw [if_pos (by rw [strOfNums_size]; omega), if_pos, hw]
  · rfl
  · rw [Go.Lib.strOfNums_toList, Go.Lib.toList_data, ByteArray.data_append, Array.toList_append, strOfNums_data]
    simp [Go.Lib.bytesOf]

end Go.Proofs.Ytnkmoigimkieeaa.Pure
