/- The register is linear: what three rows of one length come to, bit by bit, goes through it as they do. Condition: what goes through are bytes. -/
import Derived.Test.YtmceiepphhlncaaCrcB
namespace Go.Proofs.Ytmceiepphhlncaa.CrcB
open Go.RowKit Go.Proofs.YtmceiepphhlncaaW.PrintWords
open Go.Proofs.Ytmceiepphhlncaa.CrcA

theorem ofInt_toNat8 (x : BitVec 8) : BitVec.ofInt 32 (x.toNat : Int) = x.setWidth 32 := by
  rw [BitVec.ofInt_natCast]
  apply BitVec.eq_of_toNat_eq
  rw [BitVec.toNat_ofNat, BitVec.toNat_setWidth]
theorem ofInt8 (x : Int) (h0 : 0 ≤ x) (h1 : x < 256) : BitVec.ofInt 32 x = (BitVec.ofInt 8 x).setWidth 32 := by
  apply BitVec.eq_of_toNat_eq
  rw [BitVec.toNat_ofInt, BitVec.toNat_setWidth, BitVec.toNat_ofInt]
  omega
theorem bits_xor_u8 (x y : Int) : bits .xor .u8 x y = ((BitVec.ofInt 8 x ^^^ BitVec.ofInt 8 y : BitVec 8).toNat : Int) := by
  have h : bits .xor .u8 x y = IntKind.u8.wrap ((BitVec.ofInt 8 x ^^^ BitVec.ofInt 8 y : BitVec 8).toNat : Int) := rfl
  rw [h, IntKind.wrap_u8]
  have := (BitVec.ofInt 8 x ^^^ BitVec.ofInt 8 y : BitVec 8).isLt
  omega
theorem xor_u8_range (x y : Int) : 0 ≤ bits .xor .u8 x y ∧ bits .xor .u8 x y < 256 := by
  rw [bits_xor_u8]
  have := (BitVec.ofInt 8 x ^^^ BitVec.ofInt 8 y : BitVec 8).isLt
  omega
theorem ofInt8_toNat (x : BitVec 8) : BitVec.ofInt 8 (x.toNat : Int) = x := by rw [BitVec.ofInt_natCast, BitVec.ofNat_toNat, BitVec.setWidth_eq]
/-- An exclusive or of bytes, as words. -/
theorem xor8 (x y : Int) (x0 : 0 ≤ x) (x1 : x < 256) (y0 : 0 ≤ y) (y1 : y < 256) : BitVec.ofInt 32 (bits .xor .u8 x y) = BitVec.ofInt 32 x ^^^ BitVec.ofInt 32 y := by
  have hr := xor_u8_range x y
  rw [ofInt8 _ hr.1 hr.2, bits_xor_u8, ofInt8_toNat, ofInt8 x x0 x1, ofInt8 y y0 y1, BitVec.setWidth_xor]
theorem byte_xor (a b : Reg) (x y z : Int) (h : BitVec.ofInt 32 z = BitVec.ofInt 32 x ^^^ BitVec.ofInt 32 y) : byte (a ^^^ b) z = byte a x ^^^ byte b y := by
  unfold byte
  rw [← shrs_xor, h]
  congr 1
  ac_rfl
/-- Three rows, bit by bit. -/
def three : List Int → List Int → List Int → List Int
  | x :: a, y :: b, z :: c => bits .xor .u8 (bits .xor .u8 x y) z :: three a b c
  | _, _, _ => []
theorem three_byt : ∀ (a b c : List Int), Byt (three a b c)
  | [], _, _ => fun x m => by simp [three] at m
  | _ :: _, [], _ => fun x m => by simp [three] at m
  | _ :: _, _ :: _, [] => fun x m => by simp [three] at m
  | x :: a, y :: b, z :: c => fun u m => by
    simp only [three, List.mem_cons] at m
    rcases m with rfl | m
    · exact xor_u8_range _ _
    · exact three_byt a b c u m
theorem run_three : ∀ (a b c : List Int) (p q r : Reg), a.length = b.length → b.length = c.length → Byt a → Byt b → Byt c →
    run (p ^^^ q ^^^ r) (three a b c) = run p a ^^^ run q b ^^^ run r c
  | [], [], [], p, q, r, _, _, _, _, _ => rfl
  | [], _ :: _, _, p, q, r, h, _, _, _, _ => by simp at h
  | _ :: _, [], _, p, q, r, h, _, _, _, _ => by simp at h
  | _ :: _, _ :: _, [], p, q, r, _, h, _, _, _ => by simp at h
  | [], [], _ :: _, p, q, r, _, h, _, _, _ => by simp at h
  | x :: a, y :: b, z :: c, p, q, r, h1, h2, ha, hb, hc => by
    have hx := ha x (by simp)
    have hy := hb y (by simp)
    have hz := hc z (by simp)
    have hxy := xor_u8_range x y
    simp only [three, run_cons]
    rw [byte_xor (p ^^^ q) r (bits .xor .u8 x y) z _ (xor8 _ _ hxy.1 hxy.2 hz.1 hz.2), byte_xor p q x y _ (xor8 x y hx.1 hx.2 hy.1 hy.2)]
    exact run_three a b c _ _ _ (by simpa using h1) (by simpa using h2) (fun u m => ha u (by simp [m])) (fun u m => hb u (by simp [m])) (fun u m => hc u (by simp [m]))
theorem more_three (a b c : List Int) (h1 : a.length = b.length) (h2 : b.length = c.length) (ha : Byt a) (hb : Byt b) (hc : Byt c) :
    more 0#32 (three a b c) = more 0#32 a ^^^ more 0#32 b ^^^ more 0#32 c := by
  unfold more
  have h := run_three a b c (~~~ 0#32) (~~~ 0#32) (~~~ 0#32) h1 h2 ha hb hc
  rw [show (~~~ 0#32 ^^^ ~~~ 0#32 ^^^ ~~~ 0#32 : Reg) = ~~~ 0#32 by decide] at h
  rw [h]
  have e : ∀ u v w : Reg, ~~~ (u ^^^ v ^^^ w) = ~~~ u ^^^ ~~~ v ^^^ ~~~ w := by
    intro u v w
    rw [← BitVec.xor_allOnes, ← BitVec.xor_allOnes, ← BitVec.xor_allOnes, ← BitVec.xor_allOnes]
    have e1 : u ^^^ BitVec.allOnes 32 ^^^ (v ^^^ BitVec.allOnes 32) ^^^ (w ^^^ BitVec.allOnes 32) = (u ^^^ v ^^^ w) ^^^ (BitVec.allOnes 32 ^^^ BitVec.allOnes 32 ^^^ BitVec.allOnes 32) := by ac_rfl
    rw [e1, show (BitVec.allOnes 32 ^^^ BitVec.allOnes 32 ^^^ BitVec.allOnes 32 : Reg) = BitVec.allOnes 32 by decide]
  exact e _ _ _

end Go.Proofs.Ytmceiepphhlncaa.CrcB
