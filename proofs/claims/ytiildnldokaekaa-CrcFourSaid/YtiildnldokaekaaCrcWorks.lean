/- The example of the chapter crc answers true. No condition. -/
import Derived.Test.YtiildnldokaekaaQ5
namespace Go.Proofs.Ytiildnldokaekaa.CrcWorks
open Go.RowKit Go.Proofs.Ytiildnldokaekaa.Q Go.Proofs.YtiildnldokaekaaW.PrintWords Go.Proofs.YtiildnldokaekaaW.PrintLast

theorem works_at : veneerlaw02_works.f 120 = some true := by decide +kernel
theorem works_ge (k : Nat) (h : 120 ≤ k) : veneerlaw02_works.f k = some true := at_rounds veneerlaw02_works.mono h works_at

end Go.Proofs.Ytiildnldokaekaa.CrcWorks
