/- The example of the chapter num answers true. No condition. -/
import Derived.Test.YtnkmoigimkieeaaQ4
namespace Go.Proofs.Ytnkmoigimkieeaa.NumWorks
open Go.RowKit Go.Proofs.Ytnkmoigimkieeaa.Q Go.Proofs.YtnkmoigimkieeaaW.PrintWords Go.Proofs.YtnkmoigimkieeaaW.PrintLast

theorem works_at : veneerlaw01_works.f 30 = some true := by decide +kernel
theorem works_ge (k : Nat) (h : 30 ≤ k) : veneerlaw01_works.f k = some true := at_rounds veneerlaw01_works.mono h works_at

end Go.Proofs.Ytnkmoigimkieeaa.NumWorks
