/- What becomes of a register by a step that is told bit by bit: the walk of (*step).of. Condition: the step's 32 words lie in one block from its beginning on. -/
import Derived.Test.YtiildnldokaekaaQ0
import Derived.Test.YtiildnldokaekaaCrcA
import Derived.LoopTactic
namespace Go.Proofs.Ytiildnldokaekaa.JoinW
open Go.RowKit Go.Proofs.YtiildnldokaekaaW.PrintWords Go.Proofs.YtiildnldokaekaaW.PrintLast Go.Proofs.YtiildnldokaekaaW.PrintMore

/-- What the first n bits come to. -/
def ofI (ss : List Int) (c : Int) : Nat → Int
  | 0 => 0
  | n + 1 => bits .xor .u32 (ofI ss c n) (bits .and .u32 (ss.getD n 0) ((-(bits .and .u32 (c / 2 ^ n) 1)) % 4294967296))

set_option maxHeartbeats 4000000 in
set_option maxRecDepth 100000 in
theorem of_calls (g : Nat) (ss : List Int) (c : Int) (w : World) (hc : ∀ i : Nat, i < 32 → w.cell? ⟨g, i, none⟩ = some (.int .u32 (ss.getD i 0))) :
    Calls Try.prog 16 #[.pointer (some ⟨g, 0, none⟩), .int .u32 c] w fun e w' => e = .returned (.int .u32 (ofI ss c 32)) ∧ w = w' := by
  have HC := Aside0.mk hc
  clear hc
  go_enter Try.func16, Try.ntmps16
  go_wp2
  go_loop [5, 7] (fun o i => ∃ k : Nat, k ≤ 32 ∧ i = .int .i64 k ∧ o = .int .u32 (ofI ss c k)) (fun _ i => 32 - (intOf i).toNat)
  case atStart => exact ⟨0, by omega, rfl, rfl⟩
  case round =>
    obtain ⟨k, hk, rfl, rfl⟩ := hrel
    by_cases hlt : k < 32
    · have hcell := HC.out k hlt
      have hi : (k : Int) < 32 := by omega
      have h0 : (0 : Int) ≤ (k : Int) := by omega
      go_wp2
      refine ⟨⟨k + 1, by omega, by simp, ?_⟩, by simp [intOf]; omega⟩
      simp only [ofI, List.getD_eq_getElem?_getD]
    · have hi : ¬ (k : Int) < 32 := by omega
      obtain rfl : k = 32 := by omega
      go_wp2
      go_ret
      exact ⟨rfl, rfl⟩

end Go.Proofs.Ytiildnldokaekaa.JoinW
