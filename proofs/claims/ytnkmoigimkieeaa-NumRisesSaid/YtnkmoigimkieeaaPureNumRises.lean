/- Of two numbers of one width the greater one is the greater row of bytes: what the law computes is true at every pair of numbers. No condition. -/
import Derived.Test.YtnkmoigimkieeaaQ5
import Derived.Test.YtnkmoigimkieeaaNumFix
import Derived.Test.YtnkmoigimkieeaaNumWorks
namespace Go.Proofs.Ytnkmoigimkieeaa.Pure
open Go.RowKit Go.Proofs.Ytnkmoigimkieeaa.Q Go.Proofs.YtnkmoigimkieeaaW.PrintWords Go.Proofs.YtnkmoigimkieeaaW.PrintLast
open Go.Proofs.Ytnkmoigimkieeaa.NumA Go.Proofs.Ytnkmoigimkieeaa.NumFix Go.Proofs.Ytnkmoigimkieeaa.NumWorks

theorem fix8 (v : Int) (v1 : v < 18446744073709551616) : fixR v 8 = (fixL v 8, 0) := by
  unfold fixR
  rw [if_pos (by decide), if_pos]
  · rfl
  · show v < (256 : Int) ^ 8
    have : (256 : Int) ^ 8 = 18446744073709551616 := by decide
    omega
theorem NumRises : veneerlaw01_NumRises.Pure := by
  intro a b h0 h1
  obtain ⟨a0, a1⟩ := u64_wf h0
  obtain ⟨b0, b1⟩ := u64_wf h1
  obtain ⟨k, hk⟩ : ∃ k : Nat, 30 ≤ k := ⟨30, Nat.le_refl _⟩
  refine ⟨k, ?_⟩
  have hw := works_ge k hk
  have hp : (256 : Int) ^ 8 = 18446744073709551616 := by decide
  have am : a % 256 ^ 8 = a := by rw [hp]; omega
  have bm : b % 256 ^ 8 = b := by rw [hp]; omega
  unfold veneerlaw01_NumRises.f
  rw [fixed_of a 8 a0 a1 k (by omega), fixed_of b 8 b0 b1 k (by omega), fix8 a a1, fix8 b b1, hw]
  simp only [Option.bind_some, if_true]
  rw [Go.Lib.strOfNums_toList, Go.Lib.strOfNums_toList, bytesLess_less (fixL_byt a 8) (fixL_byt b 8), less_fixL, am, bm, if_pos (by simp)]
  have he : (Go.Lib.bytesOf (fixL a 8) == Go.Lib.bytesOf (fixL b 8)) = (a == b) := by
    rw [Bool.eq_iff_iff, beq_iff_eq, beq_iff_eq]
    constructor
    · intro h
      have := fixL_inj 8 (bytesOf_inj (fixL_byt a 8) (fixL_byt b 8) h)
      rw [am, bm] at this
      exact this
    · intro h; rw [h]
  rw [he, if_pos (by simp)]

end Go.Proofs.Ytnkmoigimkieeaa.Pure
