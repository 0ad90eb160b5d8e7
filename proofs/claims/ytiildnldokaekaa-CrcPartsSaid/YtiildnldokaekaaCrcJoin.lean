/- What crc's Join and the document's Join answer: as many bytes 0 go through the register. Condition: a sum is of 32 bits; the length is from 0 to 65536. -/
import Derived.Test.YtiildnldokaekaaJoinW
import Derived.Test.YtiildnldokaekaaQ12
import Derived.Test.YtiildnldokaekaaCrcBit
namespace Go.Proofs.Ytiildnldokaekaa.CrcB
open Go.RowKit Go.Proofs.Ytiildnldokaekaa.Q Go.Proofs.YtiildnldokaekaaW.PrintWords Go.Proofs.YtiildnldokaekaaW.PrintLast
open Go.Proofs.Ytiildnldokaekaa.CrcA Go.Proofs.Ytiildnldokaekaa.JoinW

/-- The lowest n bits. -/
def lowb (c : Reg) : Nat → Reg
  | 0 => 0#32
  | n + 1 => lowb c n ^^^ (if c.getLsbD n = true then 1#32 <<< n else 0#32)
theorem one_bit (n i : Nat) (hi : i < 32) : (1#32 <<< n : Reg).getLsbD i = decide (i = n) := by
  rw [BitVec.getLsbD_shiftLeft, BitVec.getLsbD_one, Bool.eq_iff_iff]
  simp only [Bool.and_eq_true, decide_eq_true_eq, Bool.not_eq_true', decide_eq_false_iff_not]
  omega
theorem lowb_bit (c : Reg) : ∀ (n i : Nat), i < 32 → (lowb c n).getLsbD i = (decide (i < n) && c.getLsbD i)
  | 0, i, _ => by simp [lowb]
  | n + 1, i, hi => by
    simp only [lowb]
    rw [BitVec.getLsbD_xor, lowb_bit c n i hi]
    by_cases hb : c.getLsbD n = true
    · rw [if_pos hb, one_bit n i hi]
      by_cases e : i = n
      · subst e; simp [hb]
      · rw [show decide (i = n) = false from decide_eq_false e, show decide (i < n + 1) = decide (i < n) by rw [decide_eq_decide]; omega]
        simp
    · rw [if_neg hb, BitVec.getLsbD_zero, Bool.xor_false]
      by_cases e : i = n
      · subst e; simp [hb]
      · rw [show decide (i < n + 1) = decide (i < n) by rw [decide_eq_decide]; omega]
theorem lowb_all (c : Reg) : lowb c 32 = c := by
  apply BitVec.eq_of_getLsbD_eq
  intro i hi
  rw [lowb_bit c 32 i hi]
  simp [hi]
/-- These words are what becomes of each bit under so many shifts. -/
def Mat (ss : List Int) (m : Nat) : Prop := ss.length = 32 ∧ ∀ i, i < 32 → ss.getD i 0 = enc (shrs m (1#32 <<< i))
theorem shift_enc (c : Reg) (n : Nat) : enc c / 2 ^ n = enc (c >>> n) := by
  unfold enc
  rw [BitVec.toNat_ushiftRight, Nat.shiftRight_eq_div_pow]
  simp
theorem bit_enc (c : Reg) (n : Nat) : bits .and .u32 (enc c / 2 ^ n) 1 = if c.getLsbD n = true then 1 else 0 := by
  rw [shift_enc, low_enc, BitVec.getLsbD_ushiftRight, Nat.add_zero]
theorem term_enc (d c : Reg) (n : Nat) : bits .and .u32 (enc d) ((-(bits .and .u32 (enc c / 2 ^ n) 1)) % 4294967296) = enc (if c.getLsbD n = true then d else 0#32) := by
  rw [bit_enc]
  by_cases hb : c.getLsbD n = true
  · rw [if_pos hb, if_pos hb, bits_and_u32, ofInt_enc, show BitVec.ofInt 32 (-1 % 4294967296) = BitVec.allOnes 32 by decide, BitVec.and_allOnes]
    rfl
  · rw [if_neg hb, if_neg hb, bits_and_u32, show BitVec.ofInt 32 (-0 % 4294967296) = 0#32 by decide, BitVec.and_zero]
    rfl
theorem ofI_low (ss : List Int) (m : Nat) (h : Mat ss m) (c : Reg) : ∀ n, n ≤ 32 → ofI ss (enc c) n = enc (shrs m (lowb c n))
  | 0, _ => by simp only [ofI, lowb]; rw [shrs_zero]; rfl
  | n + 1, hn => by
    simp only [ofI, lowb]
    rw [ofI_low ss m h c n (by omega), h.2 n (by omega), term_enc, xor_enc, shrs_xor]
    congr 2
    by_cases hb : c.getLsbD n = true
    · rw [if_pos hb, if_pos hb]
    · rw [if_neg hb, if_neg hb, shrs_zero]
theorem ofI_mat (ss : List Int) (m : Nat) (h : Mat ss m) (c : Reg) : ofI ss (enc c) 32 = enc (shrs m c) := by rw [ofI_low ss m h c 32 (by omega), lowb_all]
theorem firstT_at (ss : List Int) : ∀ (k i : Nat), k ≤ 32 → i < k → (firstT ss k).getD i 0 = ofI ss (ss.getD i 0) 32
  | 0, i, _, h => by omega
  | k + 1, i, hk, h => by
    simp only [firstT]
    rw [List.getD_eq_getElem?_getD]
    by_cases e : i = k
    · subst e
      rw [List.getElem?_set_self (by rw [firstT_length]; omega)]
      rfl
    · rw [List.getElem?_set_ne (fun x => e x.symm), ← List.getD_eq_getElem?_getD]
      exact firstT_at ss k i (by omega) (by omega)
theorem mat_twice (ss : List Int) (m : Nat) (h : Mat ss m) : Mat (firstT ss 32) (2 * m) := by
  refine ⟨firstT_length ss 32, fun i hi => ?_⟩
  rw [firstT_at ss 32 i (by omega) hi, h.2 i hi, ofI_mat ss m h, ← shrs_add, show m + m = 2 * m by omega]
theorem mat_one : Mat (firstK 32) 1 := by
  refine ⟨firstK_length 32, ?_⟩
  have h : ∀ i : Fin 32, (firstK 32).getD i.val 0 = enc (shrs 1 (1#32 <<< i.val)) := by decide +kernel
  exact fun i hi => h ⟨i, hi⟩
theorem jl_mat : ∀ (f m q : Nat) (a : Reg) (ss : List Int), Mat ss m → q < 2 ^ f → jl (f + 1) (enc a) (q : Int) ss = some (enc (shrs (m * q) a))
  | f, m, q, a, ss, h, hq => by
    by_cases h0 : q = 0
    · subst h0
      simp only [jl]
      rw [if_neg (by decide), Nat.mul_zero]
      rfl
    · cases f with
      | zero => simp at hq; omega
      | succ f =>
        rw [jl, if_pos (by omega), show (q : Int) / 2 = ((q / 2 : Nat) : Int) by omega]
        have hq2 : q / 2 < 2 ^ f := by rw [Nat.pow_succ] at hq; omega
        by_cases ho : (q : Int) % 2 = 1
        · rw [if_pos ho, ofI_mat ss m h, jl_mat f (2 * m) (q / 2) _ _ (mat_twice ss m h) hq2, ← shrs_add]
          congr 3
          have e : q = 2 * (q / 2) + 1 := by omega
          rw [show 2 * m * (q / 2) = m * (2 * (q / 2)) by rw [Nat.mul_comm 2 m, Nat.mul_assoc]]
          rw [e, Nat.mul_add, Nat.mul_one, show (2 * (q / 2) + 1) / 2 = q / 2 by omega]
          omega
        · rw [if_neg ho, jl_mat f (2 * m) (q / 2) _ _ (mat_twice ss m h) hq2]
          congr 3
          have e : q = 2 * (q / 2) := by omega
          rw [Nat.mul_comm 2 m, Nat.mul_assoc, ← e]
/-- What the rounds of Join come to. -/
theorem jl_of (a : Reg) (n : Nat) (hn : n ≤ 65536) : ∃ f, jl f (enc a) ((n : Int) * 8) (firstK 32) = some (enc (shrs (8 * n) a)) := by
  refine ⟨20 + 1, ?_⟩
  have h := jl_mat 20 1 (8 * n) a (firstK 32) mat_one (by omega)
  rw [Nat.one_mul] at h
  rw [show (n : Int) * 8 = ((8 * n : Nat) : Int) by omega]
  exact h
theorem byte_zero (c : Reg) : byte c 0 = shrs 8 c := by
  unfold byte
  rw [show BitVec.ofInt 32 0 = 0#32 from rfl, BitVec.xor_zero]
theorem refJoin_l0 (b : Int) (n : Nat) (hn : n ≤ 65536) : ∀ (d k i : Nat) (a : Reg), i + d = n → veneerref02_Join.l0 (k + d + 9) (enc a) b n i = some (bits .xor .u32 (enc (shrs (8 * d) a)) b, 0)
  | 0, k, i, a, h => by
    rw [veneerref02_Join.l0, if_neg (by omega)]
    rfl
  | d + 1, k, i, a, h => by
    rw [show k + (d + 1) + 9 = (k + d + 9) + 1 by omega, veneerref02_Join.l0, if_pos (by omega), through_of a 0 (by decide) (by decide) _ (by omega), Option.bind_some, wrap_next i (by omega), byte_zero, refJoin_l0 b n hn d k (i + 1) _ (by omega), ← shrs_add]
    rw [show 8 * (d + 1) = 8 + 8 * d by omega]
theorem refJoin_of (a b : Int) (n : Nat) (a0 : 0 ≤ a) (a1 : a < 4294967296) (hn : n ≤ 65536) (k : Nat) (hk : n + 10 ≤ k) : veneerref02_Join.f k a b n = some (bits .xor .u32 (enc (shrs (8 * n) (BitVec.ofInt 32 a))) b, 0) := by
  obtain ⟨k, rfl⟩ : ∃ m, k = (m + n + 9) + 1 := ⟨k - (n + 10), by omega⟩
  unfold veneerref02_Join.f
  rw [if_neg (by omega), decide_eq_false (by omega), veneerref02_Join.j0, if_neg (by decide)]
  have h := refJoin_l0 b n hn n k 0 (BitVec.ofInt 32 a) (by omega)
  rw [enc_ofInt a a0 a1] at h
  exact h
theorem refJoin_no (a b n : Int) (hn : n < 0 ∨ 65536 < n) (k : Nat) : veneerref02_Join.f (k + 1) a b n = some (0, 2) := by
  unfold veneerref02_Join.f
  rcases Int.lt_or_le n 0 with h | h
  · rw [if_pos h, veneerref02_Join.j0, if_pos rfl]
  · rw [if_neg (by omega), decide_eq_true (by omega), veneerref02_Join.j0, if_pos rfl]

end Go.Proofs.Ytiildnldokaekaa.CrcB
