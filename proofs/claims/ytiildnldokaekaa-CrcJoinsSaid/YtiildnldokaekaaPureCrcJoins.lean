/- Any two sums and any length are joined to the document's sum, or refused as it says: what the law computes is true at every two sums and length. No condition. -/
import Derived.Test.YtiildnldokaekaaQCrcjoins
import Derived.Test.YtiildnldokaekaaCrcJoin
import Derived.Test.YtiildnldokaekaaCrcWorks
namespace Go.Proofs.Ytiildnldokaekaa.Pure
open Go.RowKit Go.Proofs.Ytiildnldokaekaa.Q Go.Proofs.YtiildnldokaekaaW.PrintWords Go.Proofs.YtiildnldokaekaaW.PrintLast
open Go.Proofs.Ytiildnldokaekaa.CrcA Go.Proofs.Ytiildnldokaekaa.CrcB Go.Proofs.Ytiildnldokaekaa.CrcWorks Go.Proofs.Ytiildnldokaekaa.JoinW

theorem CrcJoins : veneerlaw02_CrcJoins.Pure := by
  intro a b n ha hb hn
  obtain ⟨a0, a1⟩ := u32_wf ha
  by_cases h : 0 ≤ n ∧ n ≤ 65536
  · obtain ⟨m, rfl⟩ := Int.eq_ofNat_of_zero_le h.1
    obtain ⟨f, hf⟩ := jl_of (BitVec.ofInt 32 a) m (by omega)
    rw [enc_ofInt a a0 a1] at hf
    have hj : crc_Join.f f a b m = some (bits .xor .u32 (enc (shrs (8 * m) (BitVec.ofInt 32 a))) b, 0) := by
      unfold crc_Join.f
      rw [if_neg (by omega), if_neg (by omega), hf]
      rfl
    obtain ⟨k, hk, hk1, hk2⟩ : ∃ k : Nat, f ≤ k ∧ m + 10 ≤ k ∧ 120 ≤ k := ⟨f + m + 130, by omega, by omega, by omega⟩
    refine ⟨k, ?_⟩
    unfold veneerlaw02_CrcJoins.f
    rw [at_rounds (crc_Join.mono a b m) hk hj, refJoin_of a b m a0 a1 (by omega) k hk1, works_ge k hk2]
    simp
  · have hj : crc_Join.f 121 a b n = some (0, 2) := by
      unfold crc_Join.f
      by_cases h1 : n < 0
      · rw [if_pos h1]
      · rw [if_neg h1, if_pos (by omega)]
    refine ⟨121, ?_⟩
    unfold veneerlaw02_CrcJoins.f
    rw [hj, refJoin_no a b n (by omega) 120, works_ge 121 (by omega)]
    simp

end Go.Proofs.Ytiildnldokaekaa.Pure
