/- What crc's More and Sum, and the document's More, answer: the register of 32 bits, bytes through it. Condition: what goes through are bytes; a sum is of 32 bits. -/
import Derived.Test.YtmceiepphhlncaaQSum
import Derived.Test.YtmceiepphhlncaaQRefMore
import Derived.Test.YtmceiepphhlncaaQSum
import Derived.Test.YtmceiepphhlncaaQRefMore
import Derived.Test.YtmceiepphhlncaaCrcA
namespace Go.Proofs.Ytmceiepphhlncaa.CrcB
open Go.RowKit Go.Proofs.Ytmceiepphhlncaa.Q Go.Proofs.YtmceiepphhlncaaW.PrintWords Go.Proofs.YtmceiepphhlncaaW.PrintLast
open Go.Proofs.Ytmceiepphhlncaa.CrcA

def Byt (xs : List Int) : Prop := ∀ x ∈ xs, 0 ≤ x ∧ x < 256
theorem u32_wf {a : Int} (h : (Lit.int .u32 a).wf = true) : 0 ≤ a ∧ a < 4294967296 := by
  simp [Lit.wf, IntKind.min, IntKind.max, IntKind.bits, IntKind.signed] at h
  omega
theorem u8_wf {a : Int} (h : (Lit.int .u8 a).wf = true) : 0 ≤ a ∧ a < 256 := by
  simp [Lit.wf, IntKind.min, IntKind.max, IntKind.bits, IntKind.signed] at h
  omega
theorem rd_byt {l : List Int} (hl : Byt l) (i : Nat) : 0 ≤ rd l i ∧ rd l i < 256 := by
  unfold rd
  rw [Int.toNat_natCast, List.getD_eq_getElem?_getD]
  rcases Nat.lt_or_ge i l.length with h | h
  · rw [List.getElem?_eq_getElem h]
    exact hl _ (List.getElem_mem h)
  · rw [List.getElem?_eq_none h]
    simp
theorem drop_rd (l : List Int) (i : Nat) (h : i < l.length) : l.drop i = rd l i :: l.drop (i + 1) := by
  rw [List.drop_eq_getElem_cons h]
  congr 1
  unfold rd
  rw [Int.toNat_natCast, List.getD_eq_getElem?_getD, List.getElem?_eq_getElem h]
  rfl
theorem wrap_next (i : Nat) (h : (i : Int) < 9223372036854775807) : wrap64 ((i : Int) + 1) = ((i + 1 : Nat) : Int) := by unfold wrap64; omega
theorem more_l1 (l : List Int) (n i : Int) : ∀ (d k j : Nat) (c : Reg), j + d = 8 → crc_More.l1 (k + d + 1) (enc c) l n i j = crc_More.l0 k (enc (shrs d c)) l n (wrap64 (i + 1))
  | 0, k, j, c, h => by
    simp only [crc_More.l1]
    rw [if_neg (by omega)]
    rfl
  | d + 1, k, j, c, h => by
    rw [show k + (d + 1) + 1 = (k + d + 1) + 1 by omega]
    simp only [crc_More.l1]
    rw [if_pos (by omega), shr1_enc, wrap_next j (by omega)]
    exact more_l1 l n i d k (j + 1) (shr1 c) (by omega)
theorem more_l0 (l : List Int) (hl : Byt l) (hb : l.length ≤ 140737488355328) : ∀ (d k i : Nat) (c : Reg), i + d = l.length → crc_More.l0 (k + 10 * d + 1) (enc c) l (l.length : Int) i = some (enc (~~~ run c (l.drop i)))
  | 0, k, i, c, h => by
    simp only [crc_More.l0]
    rw [if_neg (by omega), List.drop_of_length_le (by omega), run_nil, xor_ones, ofInt_enc]
  | d + 1, k, i, c, h => by
    have hr := rd_byt hl i
    rw [show k + 10 * (d + 1) + 1 = (((k + 10 * d + 1) + 8) + 1) + 1 by omega]
    rw [crc_More.l0]
    rw [if_pos (by omega), if_pos (by omega), if_pos (by omega), byte_enc _ _ hr.1 hr.2]
    have h1 := more_l1 l (l.length : Int) i 8 (k + 10 * d + 1) 0 (c ^^^ BitVec.ofInt 32 (rd l i)) rfl
    rw [show ((0 : Nat) : Int) = 0 from rfl] at h1
    rw [h1, wrap_next i (by omega), more_l0 l hl hb d k (i + 1) _ (by omega), drop_rd l i (by omega), run_cons]
    rfl
/-- What crc.More answers. -/
theorem more_of (s : Int) (l : List Int) (hl : Byt l) (hb : l.length ≤ 140737488355328) (k : Nat) (hk : 10 * l.length + 1 ≤ k) : crc_More.f k s l = some (enc (more (BitVec.ofInt 32 s) l)) := by
  obtain ⟨k, rfl⟩ : ∃ m, k = m + 10 * l.length + 1 := ⟨k - (10 * l.length + 1), by omega⟩
  unfold crc_More.f more
  have h := more_l0 l hl hb l.length k 0 (~~~ BitVec.ofInt 32 s) (by omega)
  rw [show ((0 : Nat) : Int) = 0 from rfl, List.drop_zero] at h
  rw [xor_ones, h]
theorem sum_of (l : List Int) (hl : Byt l) (hb : l.length ≤ 140737488355328) (k : Nat) (hk : 10 * l.length + 1 ≤ k) : crc_Sum.f k l = some (enc (more 0#32 l)) := by
  unfold crc_Sum.f
  rw [more_of 0 l hl hb k hk]
  rfl
theorem through_l0 : ∀ (d k j : Nat) (c : Reg), j + d = 8 → veneerref02_through.l0 (k + d + 1) (enc c) j = some (enc (shrs d c))
  | 0, k, j, c, h => by
    simp only [veneerref02_through.l0]
    rw [if_neg (by omega)]
    rfl
  | d + 1, k, j, c, h => by
    have hr := enc_range c
    rw [show k + (d + 1) + 1 = (k + d + 1) + 1 by omega]
    simp only [veneerref02_through.l0]
    have e1 : Int.tmod (enc c) 2 = if c.getLsbD 0 = true then 1 else 0 := by rw [Int.tmod_eq_emod_of_nonneg hr.1, mod_enc]
    have e2 : Int.tdiv (enc c) 2 % 4294967296 = enc (c >>> (1 : Nat)) := by
      rw [Int.tdiv_eq_ediv_of_nonneg hr.1, half_enc]
      have := enc_range (c >>> (1 : Nat))
      omega
    rw [if_pos (by omega), e1, e2, wrap_next j (by omega)]
    have hs : shr1 c = (c >>> (1 : Nat)) ^^^ (if c.getLsbD 0 = true then poly else 0#32) := rfl
    by_cases hb : c.getLsbD 0 = true
    · rw [if_pos hb] at hs
      have e3 : bits .xor .u32 (enc (c >>> (1 : Nat))) 3988292384 = enc (shr1 c) := by rw [hs, ← xor_enc]; rfl
      rw [if_pos hb, if_pos rfl, e3]
      exact through_l0 d k (j + 1) (shr1 c) (by omega)
    · rw [if_neg hb, BitVec.xor_zero] at hs
      rw [if_neg hb, if_neg (by decide), ← hs]
      exact through_l0 d k (j + 1) (shr1 c) (by omega)
theorem through_of (c : Reg) (x : Int) (x0 : 0 ≤ x) (x1 : x < 256) (k : Nat) (hk : 9 ≤ k) : veneerref02_through.f k (enc c) x = some (enc (byte c x)) := by
  obtain ⟨k, rfl⟩ : ∃ m, k = m + 8 + 1 := ⟨k - 9, by omega⟩
  unfold veneerref02_through.f
  have h := through_l0 8 k 0 (c ^^^ BitVec.ofInt 32 x) rfl
  rw [show ((0 : Nat) : Int) = 0 from rfl] at h
  rw [byte_enc c x x0 x1, h]
  rfl
theorem refMore_l0 (l : List Int) (hl : Byt l) (hb : l.length ≤ 140737488355328) : ∀ (d k i : Nat) (c : Reg), i + d = l.length → veneerref02_More.l0 (k + d + 9) l (enc c) i = some (enc (~~~ run c (l.drop i)))
  | 0, k, i, c, h => by
    rw [veneerref02_More.l0]
    rw [if_neg (by omega), List.drop_of_length_le (by omega), run_nil, not_enc, ofInt_enc]
  | d + 1, k, i, c, h => by
    have hr := rd_byt hl i
    rw [show k + (d + 1) + 9 = (k + d + 9) + 1 by omega]
    rw [veneerref02_More.l0]
    rw [if_pos (by omega), if_pos (by omega), through_of c _ hr.1 hr.2 _ (by omega)]
    rw [Option.bind_some, wrap_next i (by omega), refMore_l0 l hl hb d k (i + 1) _ (by omega), drop_rd l i (by omega), run_cons]
theorem refMore_of (s : Int) (l : List Int) (hl : Byt l) (hb : l.length ≤ 140737488355328) (k : Nat) (hk : l.length + 9 ≤ k) : veneerref02_More.f k s l = some (enc (more (BitVec.ofInt 32 s) l)) := by
  obtain ⟨k, rfl⟩ : ∃ m, k = m + l.length + 9 := ⟨k - (l.length + 9), by omega⟩
  unfold veneerref02_More.f more
  have h := refMore_l0 l hl hb l.length k 0 (~~~ BitVec.ofInt 32 s) (by omega)
  rw [show ((0 : Nat) : Int) = 0 from rfl, List.drop_zero] at h
  rw [not_enc, h]

end Go.Proofs.Ytmceiepphhlncaa.CrcB
