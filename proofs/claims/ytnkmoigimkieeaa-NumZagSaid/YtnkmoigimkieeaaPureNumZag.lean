/- Each number with a sign is told by one without, each of these tells one with a sign, and numbers near 0 have small ones: what the law computes is true at every pair of numbers. No condition. -/
import Derived.Test.YtnkmoigimkieeaaQ10
import Derived.Test.YtnkmoigimkieeaaNumA
import Derived.Test.YtnkmoigimkieeaaNumWorks
namespace Go.Proofs.Ytnkmoigimkieeaa.Pure
open Go.RowKit Go.Proofs.Ytnkmoigimkieeaa.Q Go.Proofs.YtnkmoigimkieeaaW.PrintWords Go.Proofs.YtnkmoigimkieeaaW.PrintLast
open Go.Proofs.Ytnkmoigimkieeaa.NumA Go.Proofs.Ytnkmoigimkieeaa.NumWorks

theorem zig_of (n : Int) (h0 : -9223372036854775808 ≤ n) (h1 : n < 9223372036854775808) : num_Zig.f n = some (zig n) := by unfold num_Zig.f; rw [zig_eq n h0 h1]
theorem zag_of (v : Int) (h0 : 0 ≤ v) (h1 : v < 18446744073709551616) : num_Zag.f v = some (zag v) := by unfold num_Zag.f; rw [zag_eq v h0 h1]
theorem j0_true (a0 a1 : Int) (l0 : -9223372036854775808 ≤ a0) (u0 : a0 < 9223372036854775808) (l1 : 0 ≤ a1) (u1 : a1 < 18446744073709551616) : ∀ k, 30 ≤ k → veneerlaw01_NumZag.j0 (k + 1) a0 a1 true = some true := by
  intro k hk
  have zr := zig_range a0 l0 u0
  have gr := zag_range a1 l1 u1
  simp only [veneerlaw01_NumZag.j0]
  rw [zig_of a0 l0 u0]; simp only [Option.bind_some]
  rw [zag_of _ zr.1 zr.2]; simp only [Option.bind_some]
  rw [if_pos (zag_zig a0), zag_of a1 l1 u1]; simp only [Option.bind_some]
  rw [zig_of _ gr.1 gr.2]; simp only [Option.bind_some]
  rw [if_pos (zig_zag a1 l1), works_ge k hk]
  simp
theorem main_of (k : Nat) (a0 a1 z : Int) (hs : ¬ a0 < -1000 → ¬ a0 > 1000 → z ≤ 2000) (hz : num_Zig.f a0 = some z) (hj : veneerlaw01_NumZag.j0 k a0 a1 true = some true) : veneerlaw01_NumZag.f k a0 a1 = some true := by
  unfold veneerlaw01_NumZag.f
  generalize veneerlaw01_NumZag.j0 k a0 a1 = J at *
  by_cases c1 : a0 < -1000
  · rw [if_pos c1]; exact hj
  · rw [if_neg c1]
    by_cases c2 : a0 > 1000
    · rw [if_pos c2]; exact hj
    · rw [if_neg c2, hz]
      show J (decide (z ≤ 2000)) = some true
      rw [decide_eq_true (hs c1 c2)]
      exact hj
theorem NumZag : veneerlaw01_NumZag.Pure := by
  intro a0 a1 h0 h1
  obtain ⟨l0, u0⟩ := i64_wf h0
  obtain ⟨l1, u1⟩ := u64_wf h1
  obtain ⟨k, hk⟩ : ∃ k : Nat, 30 ≤ k := ⟨30, Nat.le_refl _⟩
  refine ⟨k + 1, ?_⟩
  have hj := j0_true a0 a1 l0 u0 l1 u1 k hk
  exact main_of _ a0 a1 (zig a0) (by unfold zig; split <;> omega) (zig_of a0 l0 u0) hj

end Go.Proofs.Ytnkmoigimkieeaa.Pure
