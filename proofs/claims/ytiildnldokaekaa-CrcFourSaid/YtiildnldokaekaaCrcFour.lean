/- Of rows of bytes of one length, four at most, no two unlike ones leave the register alike. Condition: what goes through are bytes. -/
import Derived.Test.YtiildnldokaekaaCrcBit
import Derived.Lib.Bytes
namespace Go.Proofs.Ytiildnldokaekaa.CrcB
open Go.RowKit Go.Proofs.YtiildnldokaekaaW.PrintWords
open Go.Proofs.Ytiildnldokaekaa.CrcA

/-- Four bytes at most as one word, the first one lowest. -/
def word : List Int → Reg
  | [] => 0#32
  | x :: t => BitVec.ofInt 32 x ^^^ (word t <<< 8)
theorem shl_toNat (v : Reg) (j m : Nat) (h : v.toNat < 2 ^ m) (hm : m + j ≤ 32) : (v <<< j).toNat = v.toNat * 2 ^ j := by
  rw [BitVec.toNat_shiftLeft, Nat.shiftLeft_eq]
  apply Nat.mod_eq_of_lt
  calc v.toNat * 2 ^ j < 2 ^ m * 2 ^ j := Nat.mul_lt_mul_of_pos_right h (Nat.two_pow_pos j)
    _ = 2 ^ (m + j) := (Nat.pow_add 2 m j).symm
    _ ≤ 2 ^ 32 := Nat.pow_le_pow_right (by decide) hm
theorem byte_toNat (x : Int) (x0 : 0 ≤ x) (x1 : x < 256) : (BitVec.ofInt 32 x : Reg).toNat < 2 ^ 8 := by
  rw [BitVec.toNat_ofInt]
  omega
theorem word_lt : ∀ (l : List Int), Byt l → l.length ≤ 4 → (word l).toNat < 2 ^ (8 * l.length)
  | [], _, _ => by simp [word]
  | x :: t, hl, h => by
    have hx := hl x (by simp)
    have ih := word_lt t (fun z m => hl z (by simp [m])) (by simp at h; omega)
    simp only [word, List.length_cons] at h ⊢
    rw [BitVec.toNat_xor]
    refine Nat.xor_lt_two_pow (Nat.lt_of_lt_of_le (byte_toNat x hx.1 hx.2) (Nat.pow_le_pow_right (by decide) (by omega))) ?_
    rw [shl_toNat _ 8 (8 * t.length) ih (by omega), show 8 * (t.length + 1) = 8 * t.length + 8 by omega, Nat.pow_add]
    exact Nat.mul_lt_mul_of_pos_right ih (by decide)
theorem shr1_even (v : Reg) (j m : Nat) (h : v.toNat < 2 ^ m) (hm : m + (j + 1) ≤ 32) : shr1 (v <<< (j + 1)) = v <<< j := by
  have hb : (v <<< (j + 1) : Reg).getLsbD 0 = false := by
    rw [BitVec.getLsbD_shiftLeft]
    simp
  unfold shr1
  rw [hb, if_neg (by decide), BitVec.xor_zero]
  apply BitVec.eq_of_toNat_eq
  rw [BitVec.toNat_ushiftRight, shl_toNat v (j + 1) m h hm, shl_toNat v j m h (by omega), Nat.shiftRight_eq_div_pow, Nat.pow_succ, ← Nat.mul_assoc]
  omega
theorem shrs_down (v : Reg) (m : Nat) (h : v.toNat < 2 ^ m) : ∀ j, m + j ≤ 32 → shrs j (v <<< j) = v
  | 0, _ => by simp [shrs]
  | j + 1, hj => by
    simp only [shrs]
    rw [shr1_even v j m h hj]
    exact shrs_down v m h j (by omega)
theorem run_word : ∀ (l : List Int) (c : Reg), Byt l → l.length ≤ 4 → run c l = shrs (8 * l.length) (c ^^^ word l)
  | [], c, _, _ => by simp [word, run, shrs]
  | x :: t, c, hl, h => by
    have ht : Byt t := fun z m => hl z (by simp [m])
    simp only [List.length_cons] at h
    rw [run_cons, run_word t _ ht (by omega)]
    unfold byte
    have hw := word_lt t ht (by omega)
    have hd : word t = shrs 8 (word t <<< 8) := (shrs_down (word t) (8 * t.length) hw 8 (by omega)).symm
    have e : shrs 8 (c ^^^ BitVec.ofInt 32 x) ^^^ word t = shrs 8 (c ^^^ word (x :: t)) := by
      rw [hd, ← shrs_xor]
      simp only [word]
      congr 1
      ac_rfl
    rw [e, ← shrs_add, List.length_cons, show 8 + 8 * t.length = 8 * (t.length + 1) by omega]
theorem word_inj : ∀ (a b : List Int), Byt a → Byt b → a.length = b.length → a.length ≤ 4 → word a = word b → a = b
  | [], [], _, _, _, _, _ => rfl
  | [], _ :: _, _, _, h, _, _ => by simp at h
  | _ :: _, [], _, _, h, _, _ => by simp at h
  | x :: s, y :: t, ha, hb, hl, h4, h => by
    have hx := ha x (by simp)
    have hy := hb y (by simp)
    have hs : Byt s := fun z m => ha z (by simp [m])
    have ht : Byt t := fun z m => hb z (by simp [m])
    simp only [List.length_cons] at hl h4
    simp only [word] at h
    have ws := word_lt s hs (by omega)
    have wt := word_lt t ht (by omega)
    have up : ∀ (z : Int) (r : List Int), 0 ≤ z → z < 256 → (word r).toNat < 2 ^ (8 * r.length) → r.length ≤ 3 → (BitVec.ofInt 32 z ^^^ (word r <<< 8)) >>> 8 = word r := by
      intro z r z0 z1 hr h3
      rw [BitVec.ushiftRight_xor_distrib]
      have e1 : (BitVec.ofInt 32 z : Reg) >>> 8 = 0#32 := by
        apply BitVec.eq_of_toNat_eq
        rw [BitVec.toNat_ushiftRight, Nat.shiftRight_eq_div_pow, Nat.div_eq_of_lt (byte_toNat z z0 z1)]
        rfl
      have e2 : (word r <<< 8) >>> 8 = word r := by
        apply BitVec.eq_of_toNat_eq
        rw [BitVec.toNat_ushiftRight, shl_toNat _ 8 (8 * r.length) hr (by omega), Nat.shiftRight_eq_div_pow]
        exact Nat.mul_div_cancel _ (by decide)
      rw [e1, e2, BitVec.zero_xor]
    have hw : word s = word t := by
      have h8 : (BitVec.ofInt 32 x ^^^ (word s <<< 8)) >>> 8 = (BitVec.ofInt 32 y ^^^ (word t <<< 8)) >>> 8 := by rw [h]
      rwa [up x s hx.1 hx.2 ws (by omega), up y t hy.1 hy.2 wt (by omega)] at h8
    have htail := word_inj s t hs ht (by omega) (by omega) hw
    rw [hw] at h
    have hxy : BitVec.ofInt 32 x = BitVec.ofInt 32 y := by
      have h2 : BitVec.ofInt 32 x ^^^ (word t <<< 8) ^^^ (word t <<< 8) = BitVec.ofInt 32 y ^^^ (word t <<< 8) ^^^ (word t <<< 8) := by rw [h]
      rwa [BitVec.xor_assoc, BitVec.xor_assoc, BitVec.xor_self, BitVec.xor_zero, BitVec.xor_zero] at h2
    have e := congrArg enc hxy
    rw [enc_ofInt x hx.1 (by omega), enc_ofInt y hy.1 (by omega)] at e
    rw [e, htail]
theorem four_iff (a b : List Int) (ha : Byt a) (hb : Byt b) (hl : a.length = b.length) (h4 : a.length ≤ 4) : more 0#32 a = more 0#32 b ↔ a = b := by
  rw [more_eq_iff, run_word a _ ha h4, run_word b _ hb (by omega), hl]
  constructor
  · intro h
    have h1 := shrs_inj _ _ _ h
    refine word_inj a b ha hb hl h4 ?_
    have h2 : ~~~ 0#32 ^^^ (~~~ 0#32 ^^^ word a) = ~~~ 0#32 ^^^ (~~~ 0#32 ^^^ word b) := by rw [h1]
    rwa [← BitVec.xor_assoc, ← BitVec.xor_assoc, BitVec.xor_self, BitVec.zero_xor, BitVec.zero_xor] at h2
  · rintro rfl; rfl

end Go.Proofs.Ytiildnldokaekaa.CrcB
