/- What is read by sevens has just those bytes as its own: what the law computes is true at every row of bytes. No condition beyond the bound of every row of bytes. -/
import Derived.Test.YtnkmoigimkieeaaQ16
import Derived.Test.YtnkmoigimkieeaaNumSevB
import Derived.Test.YtnkmoigimkieeaaNumWorks
namespace Go.Proofs.Ytnkmoigimkieeaa.Pure
open Go.RowKit Go.Proofs.Ytnkmoigimkieeaa.Q Go.Proofs.YtnkmoigimkieeaaW.PrintWords Go.Proofs.YtnkmoigimkieeaaW.PrintLast
open Go.Proofs.Ytnkmoigimkieeaa.NumA Go.Proofs.Ytnkmoigimkieeaa.NumFix Go.Proofs.Ytnkmoigimkieeaa.NumSev Go.Proofs.Ytnkmoigimkieeaa.NumWorks

theorem NumOnly : veneerlaw01_NumOnly.Pure := by
  intro l hm hb hx
  have hl : Byt l := fun x m => u8_wf (hx x m)
  obtain ⟨k, hk⟩ : ∃ k : Nat, 30 ≤ k := ⟨30, Nat.le_refl _⟩
  refine ⟨k, ?_⟩
  have hw := works_ge k hk
  have hr := readVar_of l hl (by omega) k hk
  unfold veneerlaw01_NumOnly.f
  rw [hr, hw]
  simp only [Option.bind_some]
  by_cases he : (rvR l 10 0).2.2 = 0
  · obtain ⟨m, hn, m1, m2, v0, v1, ht⟩ := readVar_only l hl (rvR l 10 0).1 (rvR l 10 0).2.1 (by rw [← he])
    rw [if_pos he, hn, if_pos (by omega), if_pos (by omega), var_of _ v0 v1 k (by omega)]
    simp only [Option.bind_some]
    rw [if_pos (show (0 : Int) ≤ (m : Int) by omega), Int.toNat_natCast, ht]
    simp
  · obtain ⟨h1, h2⟩ := rv_refused l 10 0 he
    rw [if_neg he, h1, h2]
    simp

end Go.Proofs.Ytnkmoigimkieeaa.Pure
