/- A sum goes on over parts; joined by their sums alone they have the same one: plain facts on the register. Condition: what goes through are bytes. -/
import Derived.Test.YtiildnldokaekaaJoinX
import Derived.Test.YtiildnldokaekaaCrcJoin
namespace Go.Proofs.Ytiildnldokaekaa.CrcB
open Go.RowKit Go.Proofs.Ytiildnldokaekaa.Q Go.Proofs.YtiildnldokaekaaW.PrintWords Go.Proofs.YtiildnldokaekaaW.PrintLast
open Go.Proofs.Ytiildnldokaekaa.CrcA Go.Proofs.Ytiildnldokaekaa.JoinW

theorem more_append (s : Reg) (a b : List Int) : more (more s a) b = more s (a ++ b) := by
  unfold more
  rw [BitVec.not_not, run_append]
theorem join_parts (a b : List Int) : shrs (8 * b.length) (more 0#32 a) ^^^ more 0#32 b = more 0#32 (a ++ b) := by
  have h : run (~~~ 0#32) (a ++ b) = run (~~~ 0#32) b ^^^ shrs (8 * b.length) (more 0#32 a) := by
    rw [run_append, ← run_split]
    congr 1
    unfold more
    generalize run (~~~ 0#32) a = u
    rw [show (~~~ 0#32 : Reg) = BitVec.allOnes 32 by decide, ← BitVec.allOnes_xor (x := u), ← BitVec.xor_assoc, BitVec.xor_self, BitVec.zero_xor]
  have h1 : more 0#32 (a ++ b) = ~~~ run (~~~ 0#32) (a ++ b) := rfl
  have h2 : more 0#32 b = ~~~ run (~~~ 0#32) b := rfl
  rw [h1, h, h2, ← BitVec.xor_allOnes, ← BitVec.xor_allOnes]
  ac_rfl
/-- A part goes on. -/
theorem more_part (a b : List Int) (hb : Byt b) (hl : b.length ≤ 140737488355328) (k : Nat) (hk : 10 * b.length + 1 ≤ k) : crc_More.f k (enc (more 0#32 a)) b = some (enc (more 0#32 (a ++ b))) := by
  rw [more_of _ b hb hl k hk, ofInt_enc, more_append]
theorem join_part (a b : List Int) (hl : b.length ≤ 65536) : ∃ k, crc_Join.f k (enc (more 0#32 a)) (enc (more 0#32 b)) (b.length : Int) = some (enc (more 0#32 (a ++ b)), 0) := by
  obtain ⟨f, hf⟩ := jl_of (more 0#32 a) b.length hl
  refine ⟨f, ?_⟩
  unfold crc_Join.f
  rw [if_neg (by omega), if_neg (by omega), hf]
  simp only [Option.map_some]
  rw [xor_enc, join_parts]

end Go.Proofs.Ytiildnldokaekaa.CrcB
