/- Sums and products hang on no order, and what was added is taken away again: what the law computes is true at every pair of numbers. No condition. -/
import Derived.Test.YtnkmoigimkieeaaQ27
import Derived.Test.YtnkmoigimkieeaaNumArith
import Derived.Test.YtnkmoigimkieeaaNumWorks
namespace Go.Proofs.Ytnkmoigimkieeaa.Pure
open Go.RowKit Go.Proofs.Ytnkmoigimkieeaa.Q Go.Proofs.YtnkmoigimkieeaaW.PrintWords Go.Proofs.YtnkmoigimkieeaaW.PrintLast
open Go.Proofs.Ytnkmoigimkieeaa.NumA Go.Proofs.Ytnkmoigimkieeaa.NumWorks Go.Proofs.Ytnkmoigimkieeaa.NumArith

theorem turns_main (W : Option Bool) (a b s e : Int) (hs : s = a + b ∧ e = 0 ∧ a + b < 18446744073709551616 ∨ e ≠ 0) (a0 : 0 ≤ a) (b0 : 0 ≤ b) (b1 : b < 18446744073709551616) (hW : W = some true) :
    (if e = 0 then ((num_Sub.f s b).bind fun bt125 => (if bt125.1 = a then (if bt125.2 = 0 then (W.bind fun t127 => (some t127)) else (some false)) else (some false))) else (W.bind fun t128 => (some t128))) = some true := by
  subst hW
  rcases hs with ⟨rfl, rfl, h⟩ | h
  · rw [if_pos rfl, sub_of (a + b) b (by omega) h b0 b1, if_pos (by omega)]
    simp only [Option.bind_some]
    rw [if_pos (by omega)]
    simp
  · rw [if_neg h]; rfl
theorem NumTurns : veneerlaw01_NumTurns.Pure := by
  intro a b h0 h1
  obtain ⟨a0, a1⟩ := u64_wf h0
  obtain ⟨b0, b1⟩ := u64_wf h1
  obtain ⟨k, hk⟩ : ∃ k : Nat, 30 ≤ k := ⟨30, Nat.le_refl _⟩
  refine ⟨k + 1, ?_⟩
  have hw := works_ge k hk
  unfold veneerlaw01_NumTurns.f
  rw [add_of a b a0 a1 b0 b1, add_of b a b0 b1 a0 a1, mul_of a b a0 a1 b0 b1, mul_of b a b0 b1 a0 a1, Int.mul_comm b a, Int.add_comm b a]
  simp only [Option.bind_some, if_true, bne_self_eq_false]
  simp only [veneerlaw01_NumTurns.j0]
  rw [if_neg (by decide)]
  refine turns_main _ a b _ _ ?_ a0 b0 b1 hw
  by_cases h : a + b < 18446744073709551616
  · left; rw [if_pos h]; exact ⟨rfl, rfl, h⟩
  · right; rw [if_neg h]; decide

end Go.Proofs.Ytnkmoigimkieeaa.Pure
