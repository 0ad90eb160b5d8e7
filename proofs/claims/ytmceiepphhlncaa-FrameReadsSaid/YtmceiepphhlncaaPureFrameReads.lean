/- Any bytes are framed, and read, as the document says, or refused as it says: what the law computes is true at every row of bytes. No condition beyond the bound of every row of bytes. -/
import Derived.Test.YtmceiepphhlncaaQLFrameReads
import Derived.Test.YtmceiepphhlncaaFrRef
namespace Go.Proofs.Ytmceiepphhlncaa.Pure
open Go.RowKit Go.Proofs.Ytmceiepphhlncaa.Q Go.Proofs.YtmceiepphhlncaaW.PrintWords Go.Proofs.YtmceiepphhlncaaW.PrintLast
open Go.Proofs.Ytmceiepphhlncaa.CrcB Go.Proofs.Ytmceiepphhlncaa.Fr

theorem FrameReads : veneerlaw04_FrameReads.Pure := by
  intro l0 _ hl1 hw
  have hl : Byt l0 := fun x m => u8_wf (hw x m)
  have hb : l0.length ≤ 140737488351232 := by omega
  have et : (l0 ++ [90]).take ((l0.length : Int)).toNat = l0 := by rw [Int.toNat_natCast, List.take_left]
  have es : strOfNums l0 ++ (⟨#[90]⟩ : ByteArray) = strOfNums (l0 ++ [90]) := str_append l0 [90]
  refine ⟨41100, ?_⟩
  unfold veneerlaw04_FrameReads.f
  rw [Option.bind_some, if_pos (by simp only [List.length_nil]; omega), Option.bind_some, List.nil_append, if_pos (by omega), Option.bind_some, if_pos (by omega), if_pos (by rw [List.length_append]; omega), et,
    Frame_of l0 hl _ (Nat.le_refl _), Option.bind_some, RefFrame_of l0 hl _ (Nat.le_refl _), Option.bind_some, Read_of l0 hl (by omega) _ (Nat.le_refl _), Option.bind_some, RefRead_of l0 hl (by omega) _ (Nat.le_refl _), Option.bind_some,
    if_pos rfl, if_pos rfl, if_pos rfl, if_pos rfl, if_pos rfl, if_pos (by rw [strOfNums_size]; omega), es, if_pos rfl, works_ge _ (Nat.le_refl _)]
  rfl
end Go.Proofs.Ytmceiepphhlncaa.Pure
