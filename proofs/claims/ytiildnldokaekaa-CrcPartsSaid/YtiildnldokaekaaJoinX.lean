/- What crc.Join answers, as a Lean function, and the contract that says so. No condition. -/
import Derived.Test.YtiildnldokaekaaJoinW
namespace Go.Proofs.Ytiildnldokaekaa.Q
open Go.RowKit Go.Proofs.YtiildnldokaekaaW.PrintWords Go.Proofs.YtiildnldokaekaaW.PrintLast
open Go.Proofs.Ytiildnldokaekaa.JoinW

def crc_Join.f (k : Nat) (a b n : Int) : Option (Int × Int) := if n < 0 then some (0, 2) else if n > 65536 then some (0, 2) else (jl k a (n * 8) (firstK 32)).map fun R => (bits .xor .u32 R b, 0)
theorem jl_mono : ∀ (f : Nat) (a m : Int) (ss : List Int), LeO (jl f a m ss) (jl (f + 1) a m ss)
  | 0, _, _, _ => LeO.none _
  | f + 1, a, m, ss => by
    rw [jl, jl]
    exact LeO.ite (jl_mono f _ _ _) (LeO.refl _)
theorem crc_Join.mono : ∀ a0 a1 a2 k, LeO (crc_Join.f k a0 a1 a2) (crc_Join.f (k + 1) a0 a1 a2) := by
  intro a b n k
  unfold crc_Join.f
  exact LeO.ite (LeO.refl _) (LeO.ite (LeO.refl _) (LeO.map _ (jl_mono k _ _ _)))
theorem crc_Join.calls (k : Nat) (a0 : Int) (a1 : Int) (a2 : Int) (r1 : Int) (r2 : Int) (w : World) (h : crc_Join.f k a0 a1 a2 = some (r1, r2)) :
    Calls Try.prog 13 #[.int .u32 a0, .int .u32 a1, .int .i64 a2] w fun e w' => e = .returned (.tuple #[.int .u32 r1, .int .i64 r2]) ∧ Below w.heap.size w w' := by
  unfold crc_Join.f at h
  by_cases h1 : a2 < 0
  · rw [if_pos h1] at h
    simp only [Option.some.injEq, Prod.mk.injEq] at h
    obtain ⟨rfl, rfl⟩ := h
    exact join_no a0 a1 a2 w (.inl h1)
  · rw [if_neg h1] at h
    by_cases h2 : a2 > 65536
    · rw [if_pos h2] at h
      simp only [Option.some.injEq, Prod.mk.injEq] at h
      obtain ⟨rfl, rfl⟩ := h
      exact join_no a0 a1 a2 w (.inr h2)
    · rw [if_neg h2] at h
      obtain ⟨R, hR, he⟩ := Option.map_eq_some_iff.1 h
      simp only [Prod.mk.injEq] at he
      obtain ⟨rfl, rfl⟩ := he
      exact join_ok a0 a1 a2 R w (by omega) (by omega) ⟨⟨k, hR⟩⟩

end Go.Proofs.Ytiildnldokaekaa.Q
