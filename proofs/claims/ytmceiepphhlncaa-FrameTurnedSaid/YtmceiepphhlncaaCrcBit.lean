/- One bit of a row of bytes is turned: what becomes of the register. Condition: what goes through are bytes. -/
import Derived.Test.YtmceiepphhlncaaCrcLin
namespace Go.Proofs.Ytmceiepphhlncaa.CrcB
open Go.RowKit Go.Proofs.YtmceiepphhlncaaW.PrintWords
open Go.Proofs.Ytmceiepphhlncaa.CrcA

theorem byte_split (c d : Reg) (x : Int) : byte (c ^^^ d) x = byte c x ^^^ shrs 8 d := by
  unfold byte
  rw [← shrs_xor]
  congr 1
  ac_rfl
/-- What is turned in the register goes on by itself. -/
theorem run_split : ∀ (l : List Int) (c d : Reg), run (c ^^^ d) l = run c l ^^^ shrs (8 * l.length) d
  | [], c, d => rfl
  | x :: l, c, d => by
    rw [run_cons, run_cons, byte_split, run_split l, ← shrs_add, List.length_cons]
    congr 2
    omega
theorem byte_turn (c : Reg) (x y : Int) (d : Reg) (h : BitVec.ofInt 32 y = BitVec.ofInt 32 x ^^^ d) : byte c y = byte c x ^^^ shrs 8 d := by
  unfold byte
  rw [← shrs_xor, h]
  congr 1
  ac_rfl
theorem run_turn (a b : List Int) (x y : Int) (c d : Reg) (h : BitVec.ofInt 32 y = BitVec.ofInt 32 x ^^^ d) : run c (a ++ y :: b) = run c (a ++ x :: b) ^^^ shrs (8 + 8 * b.length) d := by
  rw [run_append, run_append, run_cons, run_cons, byte_turn _ x y d h, run_split, ← shrs_add]
theorem one_down : ∀ b : Fin 32, shrs b.val (1#32 <<< b.val) = 1#32 := by decide +kernel
theorem bit_down (b m : Nat) (hb : b < 32) (hm : b ≤ m) : shrs m (1#32 <<< b) = shrs (m - b) 1#32 := by
  rw [show m = b + (m - b) by omega, shrs_add, one_down ⟨b, hb⟩, show b + (m - b) - b = m - b by omega]
theorem rd_split (l : List Int) (q : Nat) (h : q < l.length) : l = l.take q ++ rd l q :: l.drop (q + 1) := by
  rw [← drop_rd l q h, List.take_append_drop]
theorem set_split (l : List Int) (q : Nat) (y : Int) (h : q < l.length) : l.set q y = l.take q ++ y :: l.drop (q + 1) := by
  rw [List.set_eq_take_append_cons_drop, if_pos h]
theorem pow_ofInt (b : Nat) (hb : b < 8) : BitVec.ofInt 32 ((2 : Int) ^ b) = 1#32 <<< b := by
  have h : b = 0 ∨ b = 1 ∨ b = 2 ∨ b = 3 ∨ b = 4 ∨ b = 5 ∨ b = 6 ∨ b = 7 := by omega
  rcases h with rfl | rfl | rfl | rfl | rfl | rfl | rfl | rfl <;> decide
theorem pow_byte (b : Nat) (hb : b < 8) : 0 ≤ (2 : Int) ^ b ∧ (2 : Int) ^ b < 256 := by
  have h : b = 0 ∨ b = 1 ∨ b = 2 ∨ b = 3 ∨ b = 4 ∨ b = 5 ∨ b = 6 ∨ b = 7 := by omega
  rcases h with rfl | rfl | rfl | rfl | rfl | rfl | rfl | rfl <;> decide
/-- The row with its bit p turned (of each byte the lowest first). -/
def turn (l : List Int) (p : Nat) : List Int := l.set (p / 8) (bits .xor .u8 (rd l ((p / 8 : Nat) : Int)) (2 ^ (p % 8)))
theorem turn_length (l : List Int) (p : Nat) : (turn l p).length = l.length := by simp [turn]
theorem turn_byt {l : List Int} (hl : Byt l) (p : Nat) : Byt (turn l p) := fun x m => by
  rcases List.mem_or_eq_of_mem_set m with m | rfl
  · exact hl x m
  · exact xor_u8_range _ _
theorem run_turned (l : List Int) (hl : Byt l) (p : Nat) (hp : p < 8 * l.length) (c : Reg) : run c (turn l p) = run c l ^^^ shrs (8 * l.length - p) 1#32 := by
  have hq : p / 8 < l.length := by omega
  have hb : p % 8 < 8 := by omega
  have hr := rd_byt hl (p / 8)
  have hw := pow_byte (p % 8) hb
  have hx := xor8 (rd l ((p / 8 : Nat) : Int)) (2 ^ (p % 8)) hr.1 hr.2 hw.1 hw.2
  rw [pow_ofInt _ hb] at hx
  have h := run_turn (l.take (p / 8)) (l.drop (p / 8 + 1)) _ _ c _ hx
  rw [← set_split l (p / 8) _ hq, ← rd_split l (p / 8) hq, List.length_drop, bit_down _ _ (by omega) (by omega)] at h
  rw [show 8 * l.length - p = 8 + 8 * (l.length - (p / 8 + 1)) - p % 8 by omega]
  exact h
/-- The bits below i that are to be turned, as a word. -/
def mask (f : Nat → Bool) : Nat → Reg
  | 0 => 0#32
  | i + 1 => if f i = true then mask f i ^^^ (1#32 <<< i) else mask f i
theorem mask_lt (f : Nat → Bool) : ∀ i, i ≤ 32 → (mask f i).toNat < 2 ^ i
  | 0, _ => by simp [mask]
  | i + 1, h => by
    have ih := mask_lt f i (by omega)
    have hp : (2 : Nat) ^ i < 2 ^ (i + 1) := Nat.pow_lt_pow_right (by decide) (by omega)
    simp only [mask]
    by_cases hf : f i = true
    · rw [if_pos hf, BitVec.toNat_xor]
      refine Nat.xor_lt_two_pow (by omega) ?_
      rw [BitVec.toNat_shiftLeft, Nat.shiftLeft_eq]
      refine Nat.lt_of_le_of_lt (Nat.mod_le _ _) ?_
      rw [show (1#32 : Reg).toNat = 1 from rfl]
      omega
    · rw [if_neg hf]
      omega
theorem one_shl (i : Nat) (h : i < 32) : (1#32 <<< i : Reg).toNat = 2 ^ i := by
  rw [BitVec.toNat_shiftLeft, Nat.shiftLeft_eq, show (1#32 : Reg).toNat = 1 from rfl, Nat.one_mul, Nat.mod_eq_of_lt (Nat.pow_lt_pow_right (by decide) h)]
theorem mask_turned (f : Nat → Bool) (i : Nat) (h : i < 32) (hf : f i = true) : mask f (i + 1) ≠ 0#32 := by
  intro e
  simp only [mask] at e
  rw [if_pos hf, xor_eq_zero] at e
  have h1 := mask_lt f i (by omega)
  rw [e, one_shl i h] at h1
  omega
theorem more_eq_iff (a b : List Int) : more 0#32 a = more 0#32 b ↔ run (~~~ 0#32) a = run (~~~ 0#32) b := by
  unfold more
  constructor
  · intro h
    have := congrArg (fun x : Reg => ~~~ x) h
    simpa using this
  · intro h; rw [h]
/-- The rows part just where the bits that were turned are any. -/
theorem turned_iff (l o : List Int) (m : Nat) (w : Reg) (h1 : run (~~~ 0#32) o = run (~~~ 0#32) l ^^^ shrs m w) (h2 : w = 0#32 → o = l) : (more 0#32 o = more 0#32 l ↔ o = l) := by
  constructor
  · intro h
    rw [more_eq_iff, h1] at h
    apply h2
    apply shrs_eq_zero m
    have : run (~~~ 0#32) l ^^^ shrs m w ^^^ run (~~~ 0#32) l = run (~~~ 0#32) l ^^^ run (~~~ 0#32) l := by rw [h]
    rw [BitVec.xor_self, show run (~~~ 0#32) l ^^^ shrs m w ^^^ run (~~~ 0#32) l = shrs m w ^^^ (run (~~~ 0#32) l ^^^ run (~~~ 0#32) l) by ac_rfl, BitVec.xor_self, BitVec.xor_zero] at this
    exact this
  · rintro rfl; rfl

end Go.Proofs.Ytmceiepphhlncaa.CrcB
