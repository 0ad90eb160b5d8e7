/- Numbers by sevens: what Var tells is read by ReadVar, whatever stands behind it; cut short it is not read; what ReadVar reads has just those bytes as its own. Condition: what is read are bytes; what is told is from 0 to 2 to the 64th less 1. -/
import Derived.Test.YtnkmoigimkieeaaNumSev
namespace Go.Proofs.Ytnkmoigimkieeaa.NumSev
open Go.RowKit Go.Proofs.YtnkmoigimkieeaaW.PrintWords
open Go.Proofs.Ytnkmoigimkieeaa.NumA Go.Proofs.Ytnkmoigimkieeaa.NumFix

theorem rd_at (p : List Int) (c : Int) (t : List Int) (i : Nat) (h : p.length = i) : rd (p ++ c :: t) i = c := by
  subst h
  simp [rd]
/-- What stands behind a row of its own is read. -/
theorem rv_varL : ∀ (d : Nat) (v : Int) (p t : List Int) (i : Nat), p.length = i → i + d = 10 → 0 < d → 0 ≤ v → (0 < i → 0 < v) → v * 128 ^ i < 18446744073709551616 →
    rvR (p ++ varL d v ++ t) d i = (sv (p ++ varL d v ++ t) i + v * 128 ^ i, ((i + (varL d v).length : Nat) : Int), 0)
  | 0, v, p, t, i, hp, hi, hd, v0, hv, hm => by omega
  | d + 1, v, p, t, i, hp, hi, _, v0, hv, hm => by
    have pp := p128_pos i
    by_cases h : 128 ≤ v
    · have h9 : i ≠ 9 := by
        rintro rfl
        have e : (128 : Int) ^ 9 = 9223372036854775808 := by decide
        rw [e] at hm
        omega
      simp only [varL]
      rw [if_pos h]
      have e1 : p ++ (v % 128 + 128) :: varL d (v / 128) ++ t = (p ++ [v % 128 + 128]) ++ varL d (v / 128) ++ t := by simp
      have hr : rd (p ++ (v % 128 + 128) :: varL d (v / 128) ++ t) i = v % 128 + 128 := by
        rw [List.append_assoc, List.cons_append]
        exact rd_at p _ _ i hp
      have hm' : v / 128 * 128 ^ (i + 1) < 18446744073709551616 := by
        rw [Int.pow_succ, Int.mul_comm (128 ^ i) 128, ← Int.mul_assoc]
        have : v / 128 * 128 ≤ v := by omega
        have := Int.mul_le_mul_of_nonneg_right this (Int.le_of_lt pp)
        omega
      have ih := rv_varL d (v / 128) (p ++ [v % 128 + 128]) t (i + 1) (by simp [hp]) (by omega) (by omega) (by omega) (fun _ => by omega) hm'
      rw [← e1] at ih
      simp only [rvR, sv]
      rw [hr, if_neg (by simp; omega), if_neg (fun x => h9 x.1), if_neg (by omega), ih]
      simp only [sv, hr, List.length_cons]
      have e3 : (v % 128 + 128) % 128 * 128 ^ i + v / 128 * 128 ^ (i + 1) = v * 128 ^ i := by
        rw [Int.pow_succ, Int.mul_comm (128 ^ i) 128, ← Int.mul_assoc, ← Int.add_mul]
        congr 1
        omega
      rw [Int.add_assoc, e3]
      congr 2
      omega
    · simp only [varL]
      rw [if_neg h]
      have hr : rd (p ++ [v] ++ t) i = v := by
        rw [List.append_assoc, List.cons_append]
        exact rd_at p _ _ i hp
      have h9 : ¬ (i = 9 ∧ v > 1) := by
        rintro ⟨rfl, h2⟩
        have e : (128 : Int) ^ 9 = 9223372036854775808 := by decide
        rw [e] at hm
        omega
      have h0 : ¬ (v = 0 ∧ 0 < i) := by
        rintro ⟨h3, h4⟩
        have := hv h4
        omega
      simp only [rvR, sv]
      rw [hr, if_neg (by simp; omega), if_neg h9, if_pos (by omega), if_neg h0, show v % 128 = v by omega]
      simp
theorem readVar_back (v : Int) (t : List Int) (v0 : 0 ≤ v) (v1 : v < 18446744073709551616) : rvR (varL 10 v ++ t) 10 0 = (v, ((varL 10 v).length : Int), 0) := by
  have h := rv_varL 10 v [] t 0 rfl (by omega) (by omega) v0 (fun x => by omega) (by simpa using v1)
  simpa [sv] using h
theorem rv_short (l : List Int) (h9 : l.length ≤ 9) (hall : ∀ j, j < l.length → 128 ≤ rd l j) : ∀ (d i : Nat), i + d = 10 → i ≤ l.length → rvR l d i = (0, 0, 4)
  | 0, i, h, hi => by omega
  | d + 1, i, h, hi => by
    simp only [rvR]
    by_cases h1 : l.length ≤ i
    · rw [if_pos h1]
    · rw [if_neg h1, if_neg (by omega), if_neg (by have := hall i (by omega); omega)]
      exact rv_short l h9 hall d (i + 1) (by omega) (by omega)
/-- All but the last byte have their highest bit. -/
theorem varL_high : ∀ (d : Nat) (v : Int) (j : Nat), 0 ≤ v → j + 1 < (varL d v).length → 128 ≤ rd (varL d v) j
  | 0, v, j, v0, h => by simp [varL] at h
  | d + 1, v, j, v0, h => by
    simp only [varL] at h ⊢
    by_cases hv : 128 ≤ v
    · rw [if_pos hv] at h ⊢
      rcases Nat.eq_zero_or_pos j with rfl | hj
      · simp [rd]; omega
      · obtain ⟨j, rfl⟩ : ∃ m, j = m + 1 := ⟨j - 1, by omega⟩
        have ih := varL_high d (v / 128) j (by omega) (by simp at h; omega)
        unfold rd at ih ⊢
        rw [Int.toNat_natCast] at ih ⊢
        simpa using ih
    · rw [if_neg hv] at h
      simp at h
theorem varL_pos : ∀ (d : Nat) (v : Int), 0 < d → 0 < (varL d v).length
  | 0, v, h => by omega
  | d + 1, v, _ => by simp only [varL]; split <;> simp
theorem rd_take (l : List Int) (n j : Nat) (h : j < n) : rd (l.take n) j = rd l j := by
  unfold rd
  rw [Int.toNat_natCast, List.getD_eq_getElem?_getD, List.getD_eq_getElem?_getD, List.getElem?_take, if_pos h]
/-- With its last byte cut off it is not read. -/
theorem readVar_cut (v : Int) (v0 : 0 ≤ v) : rvR ((varL 10 v).take ((varL 10 v).length - 1)) 10 0 = (0, 0, 4) := by
  have hl := varL_length 10 v
  have hp := varL_pos 10 v (by omega)
  refine rv_short _ (by rw [List.length_take]; omega) (fun j hj => ?_) 10 0 (by omega) (by omega)
  rw [List.length_take] at hj
  rw [rd_take _ _ _ (by omega)]
  exact varL_high 10 v j v0 (by omega)
/-- How many bytes it needs. -/
theorem varL_needs : ∀ (d : Nat) (v : Int), 0 ≤ v → v < 128 ^ d → 0 < d → v < 128 ^ (varL d v).length ∧ ((varL d v).length ≠ 1 → 128 ^ ((varL d v).length - 1) ≤ v)
  | 0, v, v0, hv, h => by omega
  | d + 1, v, v0, hv, _ => by
    simp only [varL]
    by_cases h : 128 ≤ v
    · rw [if_pos h]
      rcases Nat.eq_zero_or_pos d with rfl | hd
      · simp at hv; omega
      · have ih := varL_needs d (v / 128) (by omega) (div_lt_pow v d hv) hd
        have hp := varL_pos d (v / 128) hd
        rw [List.length_cons]
        refine ⟨?_, fun _ => ?_⟩
        · rw [Int.pow_succ]
          have := ih.1
          generalize (128 : Int) ^ (varL d (v / 128)).length = P at *
          omega
        · rw [Nat.add_sub_cancel]
          by_cases h1 : (varL d (v / 128)).length = 1
          · rw [h1]
            omega
          · have h2 := ih.2 h1
            obtain ⟨m, hm⟩ : ∃ m, (varL d (v / 128)).length = m + 1 := ⟨(varL d (v / 128)).length - 1, by omega⟩
            rw [hm, Nat.add_sub_cancel] at h2
            rw [hm, Int.pow_succ]
            generalize (128 : Int) ^ m = P at *
            omega
    · rw [if_neg h]
      refine ⟨?_, fun x => absurd rfl x⟩
      rw [List.length_singleton, Int.pow_one]
      omega
/-- What is read by sevens has just those bytes as its own. -/
theorem rv_only (l : List Int) (hl : Byt l) : ∀ (d i : Nat) (v n : Int), i + d = 10 → i ≤ l.length → rvR l d i = (v, n, 0) →
    ∃ (u : Int) (m : Nat), n = m ∧ v = sv l i + u * 128 ^ i ∧ 0 ≤ u ∧ (0 < i → 0 < u) ∧ u * 128 ^ i < 18446744073709551616 ∧ i < m ∧ m ≤ l.length ∧ (l.drop i).take (m - i) = varL d u
  | 0, i, v, n, h, hi, hr => by simp [rvR] at hr
  | d + 1, i, v, n, h, hi, hr => by
    simp only [rvR] at hr
    have hb := rd_byt hl i
    have pp := p128_pos i
    by_cases h1 : l.length ≤ i
    · rw [if_pos h1] at hr
      simp at hr
    · have hdrop : l.drop i = rd l i :: l.drop (i + 1) := by
        rw [List.drop_eq_getElem_cons (by omega)]
        congr 1
        unfold rd
        rw [Int.toNat_natCast, List.getD_eq_getElem?_getD, List.getElem?_eq_getElem (by omega)]
        rfl
      rw [if_neg h1] at hr
      by_cases h2 : i = 9 ∧ rd l i > 1
      · rw [if_pos h2] at hr
        simp at hr
      · rw [if_neg h2] at hr
        by_cases h3 : rd l i < 128
        · rw [if_pos h3] at hr
          by_cases h4 : rd l i = 0 ∧ 0 < i
          · rw [if_pos h4] at hr
            simp at hr
          · rw [if_neg h4] at hr
            simp only [Prod.mk.injEq, and_true] at hr
            obtain ⟨rfl, rfl⟩ := hr
            refine ⟨rd l i, i + 1, rfl, ?_, hb.1, fun hp => ?_, ?_, by omega, by omega, ?_⟩
            · simp only [sv]
              rw [show rd l i % 128 = rd l i by omega]
            · rcases Int.lt_or_le 0 (rd l i) with hh | hh
              · exact hh
              · exact absurd ⟨by omega, hp⟩ h4
            · have := digit_fits (rd l i) i (by omega) hb.1 h3 (fun x => by
                rcases Int.lt_or_le 1 (rd l i) with hh | hh
                · exact absurd ⟨x, hh⟩ h2
                · exact hh)
              omega
            · rw [hdrop, Nat.add_sub_cancel_left]
              simp only [varL]
              rw [if_neg (by omega)]
              rfl
        · rw [if_neg h3] at hr
          obtain ⟨u, m, rfl, hv, u0, u1, hu, hm, hml, ht⟩ := rv_only l hl d (i + 1) v n (by omega) (by omega) hr
          have u2 := u1 (by omega)
          have hq : (rd l i % 128 + 128 * u) * 128 ^ i = rd l i % 128 * 128 ^ i + u * 128 ^ (i + 1) := by
            rw [Int.add_mul, Int.pow_succ, Int.mul_comm 128 u, Int.mul_assoc, Int.mul_comm 128 (128 ^ i)]
          have hd : 0 < d := by
            rcases Nat.eq_zero_or_pos d with rfl | hd
            · simp [rvR] at hr
            · exact hd
          refine ⟨rd l i % 128 + 128 * u, m, rfl, ?_, by omega, fun _ => by omega, ?_, by omega, hml, ?_⟩
          · rw [hv, hq]
            simp only [sv]
            omega
          · rw [hq]
            rw [Int.pow_succ] at hu ⊢
            have h8 : i ≤ 8 := by omega
            have h127 : rd l i % 128 ≤ 127 := by omega
            have c0 : 0 ≤ rd l i % 128 := by omega
            rcases ten (i := i) (by omega) with rfl | rfl | rfl | rfl | rfl | rfl | rfl | rfl | rfl | rfl <;> simp at hu ⊢ <;> omega
          · rw [hdrop, show m - i = (m - (i + 1)) + 1 by omega, List.take_succ_cons, ht]
            simp only [varL]
            rw [if_pos (by omega), show (rd l i % 128 + 128 * u) % 128 + 128 = rd l i by omega, show (rd l i % 128 + 128 * u) / 128 = u by omega]
theorem readVar_only (l : List Int) (hl : Byt l) (v n : Int) (h : rvR l 10 0 = (v, n, 0)) : ∃ m : Nat, n = m ∧ 1 ≤ m ∧ m ≤ l.length ∧ 0 ≤ v ∧ v < 18446744073709551616 ∧ l.take m = varL 10 v := by
  obtain ⟨u, m, rfl, hv, u0, _, hu, hm, hml, ht⟩ := rv_only l hl 10 0 v n (by omega) (by omega) h
  simp only [sv, Int.pow_zero, Int.mul_one, Int.zero_add, List.drop_zero, Nat.sub_zero] at hv hu ht
  subst hv
  exact ⟨m, rfl, by omega, hml, u0, hu, ht⟩
/-- Refused, it tells 0 and no bytes. -/
theorem rv_refused (l : List Int) : ∀ (d i : Nat), (rvR l d i).2.2 ≠ 0 → (rvR l d i).1 = 0 ∧ (rvR l d i).2.1 = 0
  | 0, i, _ => by simp [rvR]
  | d + 1, i, h => by
    simp only [rvR] at h ⊢
    by_cases h1 : l.length ≤ i
    · rw [if_pos h1]; simp
    · rw [if_neg h1] at h ⊢
      by_cases h2 : i = 9 ∧ rd l i > 1
      · rw [if_pos h2]; simp
      · rw [if_neg h2] at h ⊢
        by_cases h3 : rd l i < 128
        · rw [if_pos h3] at h ⊢
          by_cases h4 : rd l i = 0 ∧ 0 < i
          · rw [if_pos h4]; simp
          · rw [if_neg h4] at h; simp at h
        · rw [if_neg h3] at h ⊢
          exact rv_refused l d (i + 1) h

end Go.Proofs.Ytnkmoigimkieeaa.NumSev
