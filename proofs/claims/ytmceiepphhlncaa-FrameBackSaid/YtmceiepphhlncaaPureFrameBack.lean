/- What is framed is read, whatever stands behind it, and refused just where it is too long: what the law computes is true at any two rows of bytes. No condition beyond the bound of every row of bytes. -/
import Derived.Test.YtmceiepphhlncaaQLFrameBack
import Derived.Test.YtmceiepphhlncaaFrA
namespace Go.Proofs.Ytmceiepphhlncaa.Pure
open Go.RowKit Go.Proofs.Ytmceiepphhlncaa.Q Go.Proofs.YtmceiepphhlncaaW.PrintWords Go.Proofs.YtmceiepphhlncaaW.PrintLast
open Go.Proofs.Ytmceiepphhlncaa.CrcB Go.Proofs.Ytmceiepphhlncaa.Fr

theorem FrameBack : veneerlaw04_FrameBack.Pure := by
  intro l0 l1 _ hl1 hw _ hl2 hw2
  have hl : Byt l0 := fun x m => u8_wf (hw x m)
  have hl' : Byt l1 := fun x m => u8_wf (hw2 x m)
  refine ⟨41100, ?_⟩
  unfold veneerlaw04_FrameBack.f
  rw [Frame_of l0 hl _ (Nat.le_refl _), Option.bind_some]
  unfold frR
  by_cases h : 4096 < l0.length
  · simp only [if_pos h]
    rw [if_neg (by decide), if_pos trivial, if_pos (by simp), if_pos (by omega), works_ge _ (Nat.le_refl _)]
    rfl
  · simp only [if_neg h]
    have hf := fr_length l0
    rw [if_pos trivial, Option.bind_some, if_pos (by simp only [List.length_nil]; omega), Option.bind_some, List.nil_append, if_pos (by omega),
      Read_of _ (Byt.app (fr_byt hl) hl') (by rw [List.length_append]; omega) _ (Nat.le_refl _), Option.bind_some, rdR_fr l0 (by omega), if_pos (by omega), hf,
      if_pos (by unfold wrap64; omega), if_pos rfl, if_pos rfl, if_pos rfl, works_ge _ (Nat.le_refl _)]
    rfl
end Go.Proofs.Ytmceiepphhlncaa.Pure
