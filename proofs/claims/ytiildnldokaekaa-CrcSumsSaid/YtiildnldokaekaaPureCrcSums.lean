/- Any bytes have the document's sum, and go on with any sum as it says: what the law computes is true at every row of bytes and sum. No condition beyond the bound of every row of bytes. -/
import Derived.Test.YtiildnldokaekaaQ6
import Derived.Test.YtiildnldokaekaaCrcB
import Derived.Test.YtiildnldokaekaaCrcWorks
import Derived.Lib.Bytes
namespace Go.Proofs.Ytiildnldokaekaa.Pure
open Go.RowKit Go.Proofs.Ytiildnldokaekaa.Q Go.Proofs.YtiildnldokaekaaW.PrintWords Go.Proofs.YtiildnldokaekaaW.PrintLast
open Go.Proofs.Ytiildnldokaekaa.CrcA Go.Proofs.Ytiildnldokaekaa.CrcB Go.Proofs.Ytiildnldokaekaa.CrcWorks

theorem CrcSums : veneerlaw02_CrcSums.Pure := by
  intro l s hm hb hx hs
  have hl : Byt l := fun x m => u8_wf (hx x m)
  obtain ⟨k, hk⟩ : ∃ k : Nat, 10 * l.length + 120 ≤ k := ⟨_, Nat.le_refl _⟩
  refine ⟨k, ?_⟩
  have hw := works_ge k (by omega)
  unfold veneerlaw02_CrcSums.f
  simp only [Option.bind_some, List.nil_append, List.length_nil, List.length_append, List.length_cons]
  rw [if_pos (by omega), if_pos (by omega), if_pos (by omega), if_pos (by omega), Int.toNat_natCast, List.take_left, sum_of l hl (by omega) k (by omega), refMore_of 0 l hl (by omega) k (by omega), more_of s l hl (by omega) k (by omega), refMore_of s l hl (by omega) k (by omega)]
  simp only [Option.bind_some]
  rw [if_pos (by rfl)]
  simp only [if_true]
  rw [if_pos (by rw [strOfNums_size]; omega), if_pos, hw]
  · rfl
  · rw [Go.Lib.strOfNums_toList, Go.Lib.toList_data, ByteArray.data_append, Array.toList_append, strOfNums_data]
    simp [Go.Lib.bytesOf]

end Go.Proofs.Ytiildnldokaekaa.Pure
