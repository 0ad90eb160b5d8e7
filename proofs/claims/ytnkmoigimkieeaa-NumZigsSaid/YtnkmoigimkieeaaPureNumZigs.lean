/- Any number with a sign has the document's number without one, and any number without one is its: what the law computes is true at every pair of numbers. No condition. -/
import Derived.Test.YtnkmoigimkieeaaQ9
import Derived.Test.YtnkmoigimkieeaaNumA
import Derived.Test.YtnkmoigimkieeaaNumWorks
namespace Go.Proofs.Ytnkmoigimkieeaa.Pure
open Go.RowKit Go.Proofs.Ytnkmoigimkieeaa.Q Go.Proofs.YtnkmoigimkieeaaW.PrintWords Go.Proofs.YtnkmoigimkieeaaW.PrintLast
open Go.Proofs.Ytnkmoigimkieeaa.NumA Go.Proofs.Ytnkmoigimkieeaa.NumWorks

theorem refZig_eq (n : Int) (h0 : -9223372036854775808 ≤ n) (h1 : n < 9223372036854775808) : veneerref01_Zig.f n = some (zig n) := by
  unfold veneerref01_Zig.f zig
  simp only [wrap_u64, wrap64]
  by_cases h : 0 ≤ n
  · rw [if_pos h, if_pos h]; congr 1; omega
  · rw [if_neg h, if_neg h]; congr 1; omega
theorem refZag_eq (v : Int) (h0 : 0 ≤ v) (h1 : v < 18446744073709551616) : veneerref01_Zag.f v = some (zag v) := by
  unfold veneerref01_Zag.f zag
  have e1 : Int.tmod v 2 = v % 2 := Int.tmod_eq_emod_of_nonneg h0
  have e2 : Int.tdiv v 2 = v / 2 := Int.tdiv_eq_ediv_of_nonneg h0
  rw [e1, e2]
  simp only [wrap_u64, wrap64]
  split
  · congr 1; omega
  · congr 1; omega
theorem NumZigs : veneerlaw01_NumZigs.Pure := by
  intro a0 a1 h0 h1
  obtain ⟨l0, u0⟩ := i64_wf h0
  obtain ⟨l1, u1⟩ := u64_wf h1
  obtain ⟨k, hk⟩ : ∃ k : Nat, 30 ≤ k := ⟨30, Nat.le_refl _⟩
  refine ⟨k, ?_⟩
  unfold veneerlaw01_NumZigs.f num_Zig.f num_Zag.f
  rw [refZig_eq a0 l0 u0, refZag_eq a1 l1 u1, zig_eq a0 l0 u0, zag_eq a1 l1 u1, works_ge k hk]
  simp

end Go.Proofs.Ytnkmoigimkieeaa.Pure
