/- What ReadFixed answers, told plainly, and that it reads what Fixed has told. Condition: what is read are bytes. -/
import Derived.Test.YtnkmoigimkieeaaQ18
import Derived.Test.YtnkmoigimkieeaaNumFix
namespace Go.Proofs.Ytnkmoigimkieeaa.NumFix
open Go.RowKit Go.Proofs.Ytnkmoigimkieeaa.Q Go.Proofs.YtnkmoigimkieeaaW.PrintWords Go.Proofs.YtnkmoigimkieeaaW.PrintLast
open Go.Proofs.Ytnkmoigimkieeaa.NumA

/-- The number that the first bytes are. -/
def rdv (l : List Int) : Nat → Int
  | 0 => 0
  | n + 1 => (rdv l n * 256) % 18446744073709551616 + rd l n
theorem rd_byt {l : List Int} (hl : Byt l) (i : Nat) : 0 ≤ rd l i ∧ rd l i < 256 := by
  unfold rd
  rw [Int.toNat_natCast, List.getD_eq_getElem?_getD]
  rcases Nat.lt_or_ge i l.length with h | h
  · rw [List.getElem?_eq_getElem h]
    exact hl _ (List.getElem_mem h)
  · rw [List.getElem?_eq_none h]
    simp
theorem rdv_range {l : List Int} (hl : Byt l) : ∀ n, 0 ≤ rdv l n ∧ rdv l n < 18446744073709551616
  | 0 => by simp [rdv]
  | n + 1 => by
    have h := rd_byt hl n
    simp only [rdv]
    omega
theorem or_step (x r : Int) (r0 : 0 ≤ r) (r1 : r < 256) : bits .or .u64 (IntKind.u64.wrap (x * 256)) (IntKind.u64.wrap r) = (x * 256) % 18446744073709551616 + r := by
  simp only [wrap_u64]
  rw [show r % 18446744073709551616 = r by omega]
  exact bits_join .u64 64 (by decide) (fun n a b => by rw [wrap_u64]; omega) 8 _ r (by omega) (by omega) (by omega) r0 (by omega) (by omega)
theorem read_l0 (l : List Int) (hl : Byt l) (w : Nat) (hw : w ≤ l.length) (hb : l.length ≤ 140737488355328) : ∀ (d k i : Nat), i + d = w → d < k →
    num_ReadFixed.l0 k l (rdv l i) w i = some (rdv l w, 0)
  | 0, k, i, h, hk => by
    obtain ⟨k, rfl⟩ : ∃ m, k = m + 1 := ⟨k - 1, by omega⟩
    obtain rfl : i = w := by omega
    simp only [num_ReadFixed.l0]
    rw [if_neg (by omega)]
  | d + 1, k, i, h, hk => by
    obtain ⟨k, rfl⟩ : ∃ m, k = m + 1 := ⟨k - 1, by omega⟩
    have e2 : wrap64 ((i : Int) + 1) = ((i + 1 : Nat) : Int) := by unfold wrap64; omega
    have hr := rd_byt hl i
    simp only [num_ReadFixed.l0]
    rw [if_pos (by omega), if_pos (by omega), if_pos (by omega), or_step _ _ hr.1 hr.2, e2]
    exact read_l0 l hl w hw hb d k (i + 1) (by omega) (by omega)
/-- What ReadFixed answers. -/
def rfR (l : List Int) (w : Int) : Int × Int := if 1 ≤ w ∧ w ≤ 8 then (if w ≤ l.length then (rdv l w.toNat, 0) else (0, 4)) else (0, 2)
theorem readFixed_of (l : List Int) (w : Int) (hl : Byt l) (hb : l.length ≤ 140737488355328) (k : Nat) (hk : 12 ≤ k) : num_ReadFixed.f k l w = some (rfR l w) := by
  obtain ⟨k, rfl⟩ : ∃ m, k = m + 1 := ⟨k - 1, by omega⟩
  unfold num_ReadFixed.f rfR
  simp only [num_ReadFixed.j0]
  by_cases h1 : w < 1
  · rw [if_pos h1, if_pos trivial, if_neg (show ¬ (1 ≤ w ∧ w ≤ 8) by omega)]
  · rw [if_neg h1]
    by_cases h2 : w > 8
    · rw [if_neg (show ¬ (1 ≤ w ∧ w ≤ 8) by omega), decide_eq_true h2, if_pos rfl]
    · rw [if_pos (show 1 ≤ w ∧ w ≤ 8 by omega), decide_eq_false h2, if_neg (by decide)]
      by_cases h3 : (l.length : Int) < w
      · rw [if_pos h3, if_neg (show ¬ w ≤ (l.length : Int) by omega)]
      · obtain ⟨n, rfl⟩ := Int.eq_ofNat_of_zero_le (show 0 ≤ w by omega)
        have e := read_l0 l hl n (by omega) hb n k 0 (by omega) (by omega)
        rw [if_neg h3, if_pos (show (n : Int) ≤ (l.length : Int) by omega), Int.toNat_natCast]
        exact e
theorem rd_fixL (v : Int) (t : List Int) : ∀ (w j : Nat), j < w → rd (fixL v w ++ t) j = v / 256 ^ (w - 1 - j) % 256
  | 0, j, h => by omega
  | w + 1, j, h => by
    rcases Nat.eq_zero_or_pos j with rfl | hj
    · simp [rd, fixL]
    · obtain ⟨j, rfl⟩ : ∃ m, j = m + 1 := ⟨j - 1, by omega⟩
      have ih := rd_fixL v t w j (by omega)
      unfold rd at ih ⊢
      rw [Int.toNat_natCast] at ih ⊢
      simp only [fixL, List.cons_append, List.getD_cons_succ]
      rw [ih]
      congr 2
      congr 1
      omega
theorem rdv_fixL (v : Int) (v0 : 0 ≤ v) (v1 : v < 18446744073709551616) (t : List Int) (w : Nat) (hv : v < 256 ^ w) : ∀ j, j ≤ w → rdv (fixL v w ++ t) j = v / 256 ^ (w - j)
  | 0, _ => by
    simp only [rdv, Nat.sub_zero]
    exact (Int.ediv_eq_zero_of_lt v0 hv).symm
  | j + 1, hj => by
    simp only [rdv]
    rw [rdv_fixL v v0 v1 t w hv j (by omega), rd_fixL v t w j (by omega), show w - (j + 1) = w - 1 - j by omega]
    have e : (256 : Int) ^ (w - j) = 256 ^ (w - 1 - j) * 256 := by
      rw [show w - j = (w - 1 - j) + 1 by omega, Int.pow_succ]
    have hp := pow256_pos (w - 1 - j)
    rw [e, ← Int.ediv_ediv_of_nonneg (Int.le_of_lt hp)]
    have q0 : 0 ≤ v / 256 ^ (w - 1 - j) := Int.ediv_nonneg v0 (Int.le_of_lt hp)
    have q1 : v / 256 ^ (w - 1 - j) ≤ v := Int.ediv_le_self _ v0
    omega
/-- What Fixed has told is read again, whatever stands behind it. -/
theorem rdv_back (v : Int) (v0 : 0 ≤ v) (v1 : v < 18446744073709551616) (t : List Int) (w : Nat) (hv : v < 256 ^ w) : rdv (fixL v w ++ t) w = v := by
  rw [rdv_fixL v v0 v1 t w hv w (Nat.le_refl _)]
  simp

end Go.Proofs.Ytnkmoigimkieeaa.NumFix
