/- What is written in a width is read again, whatever stands behind it; it is refused just where it needs more bytes: what the law computes is true at every number, width and row of bytes. No condition beyond the bound of every row of bytes. -/
import Derived.Test.YtnkmoigimkieeaaQ21
import Derived.Test.YtnkmoigimkieeaaNumRd
import Derived.Test.YtnkmoigimkieeaaNumWorks
namespace Go.Proofs.Ytnkmoigimkieeaa.Pure
open Go.RowKit Go.Proofs.Ytnkmoigimkieeaa.Q Go.Proofs.YtnkmoigimkieeaaW.PrintWords Go.Proofs.YtnkmoigimkieeaaW.PrintLast
open Go.Proofs.Ytnkmoigimkieeaa.NumA Go.Proofs.Ytnkmoigimkieeaa.NumFix Go.Proofs.Ytnkmoigimkieeaa.NumWorks

theorem width_of (a : Int) (h0 : -9223372036854775808 ≤ a) (h1 : a < 9223372036854775808) : ∃ n : Nat, 1 ≤ n ∧ n ≤ 8 ∧ wrap64 (1 + (Int.tmod (wrap64 ((Int.tmod a 8) + 8)) 8)) = n := by
  have hb : -8 < Int.tmod a 8 ∧ Int.tmod a 8 < 8 := by
    rcases Int.lt_or_le a 0 with h | h
    · have e : Int.tmod a 8 = -(Int.tmod (-a) 8) := by
        have := Int.neg_tmod (-a) 8
        rwa [Int.neg_neg] at this
      rw [e, Int.tmod_eq_emod_of_nonneg (by omega)]
      omega
    · rw [Int.tmod_eq_emod_of_nonneg h]
      omega
  generalize Int.tmod a 8 = m at hb
  have e1 : wrap64 (m + 8) = m + 8 := by unfold wrap64; omega
  have e2 : Int.tmod (m + 8) 8 = (m + 8) % 8 := Int.tmod_eq_emod_of_nonneg (by omega)
  have e3 : wrap64 (1 + (m + 8) % 8) = 1 + (m + 8) % 8 := by unfold wrap64; omega
  rw [e1, e2, e3]
  exact ⟨(1 + (m + 8) % 8).toNat, by omega, by omega, by omega⟩
theorem byt_append {x y : List Int} (hx : Byt x) (hy : Byt y) : Byt (x ++ y) := fun z m => by
  rcases List.mem_append.1 m with m | m
  · exact hx z m
  · exact hy z m
theorem byt_take {x : List Int} (hx : Byt x) (n : Nat) : Byt (x.take n) := fun z m => hx z (List.mem_of_mem_take m)
theorem NumBack : veneerlaw01_NumBack.Pure := by
  intro a w l h0 h1 hm hb hx
  obtain ⟨a0, a1⟩ := u64_wf h0
  obtain ⟨w0, w1⟩ := i64_wf h1
  have hl : Byt l := fun x m => u8_wf (hx x m)
  obtain ⟨n, n0, n1, hn⟩ := width_of w w0 w1
  obtain ⟨k, hk⟩ : ∃ k : Nat, 30 ≤ k := ⟨30, Nat.le_refl _⟩
  refine ⟨k, ?_⟩
  have hw := works_ge k hk
  unfold veneerlaw01_NumBack.f
  rw [hn, fixed_of a n a0 a1 k (by omega)]
  simp only [Option.bind_some]
  unfold fixR
  rw [if_pos (show 1 ≤ (n : Int) ∧ (n : Int) ≤ 8 by omega), Int.toNat_natCast]
  by_cases hc : a < 256 ^ n
  · rw [if_pos hc]
    simp only [if_true, List.nil_append, List.length_nil, fixL_length]
    have e1 : wrap64 ((n : Int) - 1) = ((n - 1 : Nat) : Int) := by unfold wrap64; omega
    rw [if_pos (by omega), if_pos (by omega), e1, readFixed_of _ _ (byt_append (fixL_byt a n) hl) (by rw [List.length_append, fixL_length]; omega) k (by omega)]
    simp only [Option.bind_some]
    rw [if_pos (by omega), if_pos (by omega), Int.toNat_natCast, readFixed_of _ _ (byt_take (fixL_byt a n) _) (by rw [List.length_take, fixL_length]; omega) k (by omega)]
    have r1 : rfR (fixL a n ++ l) n = (a, 0) := by
      unfold rfR
      rw [if_pos (show 1 ≤ (n : Int) ∧ (n : Int) ≤ 8 by omega), Int.toNat_natCast, if_pos (by rw [List.length_append, fixL_length]; omega), rdv_back a a0 a1 l n hc]
    have r2 : rfR ((fixL a n).take (n - 1)) n = (0, 4) := by
      unfold rfR
      rw [if_pos (show 1 ≤ (n : Int) ∧ (n : Int) ≤ 8 by omega), if_neg (by rw [List.length_take, fixL_length]; omega)]
    rw [r1, r2, hw]
    simp
  · rw [if_neg hc]
    simp only [List.length_nil]
    have h8 : n ≠ 8 := by
      rintro rfl
      apply hc
      have : (256 : Int) ^ 8 = 18446744073709551616 := by decide
      omega
    have e1 : wrap64 (8 * (n : Int)) = 8 * (n : Int) := by unfold wrap64; omega
    have e2 : IntKind.u64.wrap (8 * (n : Int)) = 8 * (n : Int) := by rw [wrap_u64]; omega
    have hd := (lt_iff_div a n).1 hc
    rw [if_neg (by decide), if_pos trivial, if_pos (show ((0 : Nat) : Int) = 0 from rfl), if_pos (show (n : Int) < 8 by omega), e1, e2, if_pos (by omega), shr8 a n n1, if_pos (by omega), hw]
    rfl

end Go.Proofs.Ytnkmoigimkieeaa.Pure
