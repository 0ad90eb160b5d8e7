/- Where at most 32 bits side by side are changed, and any of them is, the sum is another one: what the law computes is true at every row of bytes, place and word. No condition beyond the bound of every row of bytes. -/
import Derived.Test.YtiildnldokaekaaQB
import Derived.Test.YtiildnldokaekaaCrcBit
import Derived.Test.YtiildnldokaekaaCrcWorks
import Derived.Lib.Bytes
namespace Go.Proofs.Ytiildnldokaekaa.Pure
open Go.RowKit Go.Proofs.Ytiildnldokaekaa.Q Go.Proofs.YtiildnldokaekaaW.PrintWords Go.Proofs.YtiildnldokaekaaW.PrintLast
open Go.Proofs.Ytiildnldokaekaa.CrcA Go.Proofs.Ytiildnldokaekaa.CrcB Go.Proofs.Ytiildnldokaekaa.CrcWorks

theorem u8_inj {a b : Int} (a0 : 0 ≤ a) (a1 : a < 256) (b0 : 0 ≤ b) (b1 : b < 256) (h : UInt8.ofNat a.toNat = UInt8.ofNat b.toNat) : a = b := by
  have h1 := congrArg UInt8.toNat h
  simp only [UInt8.toNat_ofNat'] at h1
  omega
theorem bytesOf_inj : ∀ {xs ys : List Int}, Byt xs → Byt ys → Go.Lib.bytesOf xs = Go.Lib.bytesOf ys → xs = ys
  | [], [], _, _, _ => rfl
  | [], _ :: _, _, _, h => by simp [Go.Lib.bytesOf] at h
  | _ :: _, [], _, _, h => by simp [Go.Lib.bytesOf] at h
  | a :: xs, b :: ys, hx, hy, h => by
    simp only [Go.Lib.bytesOf, List.map_cons, List.cons.injEq] at h
    have ha := hx a (by simp)
    have hb := hy b (by simp)
    rw [u8_inj ha.1 ha.2 hb.1 hb.2 h.1, bytesOf_inj (fun x m => hx x (by simp [m])) (fun x m => hy x (by simp [m])) h.2]
theorem str_iff {xs ys : List Int} (hx : Byt xs) (hy : Byt ys) : (strOfNums xs).toList = (strOfNums ys).toList ↔ xs = ys := by
  rw [Go.Lib.strOfNums_toList, Go.Lib.strOfNums_toList]
  exact ⟨bytesOf_inj hx hy, fun h => by rw [h]⟩
/-- The law's end. -/
theorem burst_end (l o : List Int) (hl : Byt l) (ho : Byt o) (h : more 0#32 o = more 0#32 l ↔ o = l) : ((enc (more 0#32 o) == enc (more 0#32 l)) == ((strOfNums o).toList == (strOfNums l).toList)) = true := by
  rw [beq_iff_eq, Bool.eq_iff_iff, beq_iff_eq, beq_iff_eq, str_iff ho hl, ← h]
  exact ⟨enc_inj, fun e => by rw [e]⟩
def bitOf (y : Int) (i : Nat) : Bool := decide (bits .and .u32 (shr .u32 y (i : Int)) 1 = 1)
theorem burst_l0 (l : List Int) (hl : Byt l) (hn : l.length ≤ 2000) (y : Int) (p : Nat) (hp : p < 8 * l.length) :
    ∀ (d k i : Nat) (o : List Int), i + d = 32 → 20200 ≤ k → Byt o → o.length = l.length → p + i ≤ 8 * l.length →
      run (~~~ 0#32) o = run (~~~ 0#32) l ^^^ shrs (8 * l.length - p) (mask (bitOf y) i) → (mask (bitOf y) i = 0#32 → o = l) →
      veneerlaw02_CrcBurst.l0 (k + 2 * d + 2) l y (8 * (l.length : Int)) p o i = some true := by
  intro d
  induction d with
  | zero =>
    intro k i o h hk ho hol hpi h1 h2
    have hw := works_ge k (by omega)
    rw [show k + 2 * 0 + 2 = (k + 1) + 1 by omega, veneerlaw02_CrcBurst.l0, if_neg (by omega), veneerlaw02_CrcBurst.j1]
    rw [if_neg (by decide), sum_of o ho (by omega) k (by omega), Option.bind_some, sum_of l hl (by omega) k (by omega), Option.bind_some, if_pos (burst_end l o hl ho (turned_iff l o _ _ h1 h2)), hw]
    rfl
  | succ d ih =>
    intro k i o h hk ho hol hpi h1 h2
    have hw := works_ge (k + 2 * (d + 1)) (by omega)
    have e1 : wrap64 ((p : Int) + (i : Int)) = ((p + i : Nat) : Int) := by unfold wrap64; omega
    rw [show k + 2 * (d + 1) + 2 = (k + 2 * (d + 1) + 1) + 1 by omega, veneerlaw02_CrcBurst.l0, if_pos (by omega), e1, veneerlaw02_CrcBurst.j1]
    by_cases hc : ((p + i : Nat) : Int) < 8 * (l.length : Int)
    · have e2 : IntKind.u64.wrap (i : Int) = (i : Int) := by
        simp only [IntKind.wrap, IntKind.bits, IntKind.signed]
        simp
        omega
      have e3 : wrap64 (Int.tdiv ((p + i : Nat) : Int) 8) = (((p + i) / 8 : Nat) : Int) := by
        rw [Int.tdiv_eq_ediv_of_nonneg (by omega)]
        unfold wrap64
        omega
      have e4 : IntKind.u64.wrap (Int.tmod ((p + i : Nat) : Int) 8) = (((p + i) % 8 : Nat) : Int) := by
        rw [Int.tmod_eq_emod_of_nonneg (by omega)]
        simp only [IntKind.wrap, IntKind.bits, IntKind.signed]
        simp
        omega
      have e5 : shl .u8 1 (((p + i) % 8 : Nat) : Int) = 2 ^ ((p + i) % 8) := by
        have hb : (p + i) % 8 < 8 := by omega
        have hw := pow_byte _ hb
        unfold shl
        rw [IntKind.wrap_u8, Int.toNat_natCast, Nat.min_eq_left (by show _ ≤ 8; omega), Int.one_mul]
        omega
      rw [if_pos (decide_eq_true hc), e2, if_pos (by omega)]
      by_cases hf : bits .and .u32 (shr .u32 y (i : Int)) 1 = 1
      · have hb : bitOf y i = true := decide_eq_true hf
        rw [if_pos hf, e1, e3, if_pos (by omega), if_pos (by omega), e4, if_pos (by omega), e5, Int.toNat_natCast, wrap_next i (by omega)]
        rw [show k + 2 * (d + 1) = k + 2 * d + 2 by omega]
        have ht := run_turned o ho (p + i) (by omega) (~~~ 0#32)
        refine ih k (i + 1) (turn o (p + i)) (by omega) hk (turn_byt ho _) (by rw [turn_length]; exact hol) (by omega) ?_ ?_
        · rw [ht, h1, hol]
          simp only [mask]
          rw [if_pos hb, shrs_xor, bit_down i _ (by omega) (by omega), show 8 * l.length - (p + i) = 8 * l.length - p - i by omega]
          ac_rfl
        · intro e
          exact absurd e (mask_turned (bitOf y) i (by omega) hb)
      · have hb : bitOf y i = false := decide_eq_false hf
        have hm : mask (bitOf y) (i + 1) = mask (bitOf y) i := by
          simp only [mask]
          rw [hb, if_neg (by decide)]
        rw [if_neg hf, wrap_next i (by omega), show k + 2 * (d + 1) = k + 2 * d + 2 by omega]
        exact ih k (i + 1) o (by omega) hk ho hol (by omega) (by rw [hm]; exact h1) (by rw [hm]; exact h2)
    · rw [decide_eq_false hc, if_neg (by decide), sum_of o ho (by omega) _ (by omega), Option.bind_some, sum_of l hl (by omega) _ (by omega), Option.bind_some, if_pos (burst_end l o hl ho (turned_iff l o _ _ h1 h2)), hw]
      rfl
theorem place_of (a n : Int) (n0 : 0 < n) (n1 : n ≤ 16000) : ∃ p : Nat, (p : Int) < n ∧ Int.tmod (wrap64 ((Int.tmod a n) + n)) n = p := by
  have hb : -n < Int.tmod a n ∧ Int.tmod a n < n := by
    rcases Int.lt_or_le a 0 with h | h
    · have e : Int.tmod a n = -(Int.tmod (-a) n) := by
        have := Int.neg_tmod (-a) n
        rwa [Int.neg_neg] at this
      rw [e, Int.tmod_eq_emod_of_nonneg (by omega)]
      have h1 := Int.emod_nonneg (-a) (show n ≠ 0 by omega)
      have h2 := Int.emod_lt_of_pos (-a) n0
      omega
    · rw [Int.tmod_eq_emod_of_nonneg h]
      have h1 := Int.emod_nonneg a (show n ≠ 0 by omega)
      have h2 := Int.emod_lt_of_pos a n0
      omega
  generalize Int.tmod a n = m at hb
  have e1 : wrap64 (m + n) = m + n := by unfold wrap64; omega
  rw [e1, Int.tmod_eq_emod_of_nonneg (by omega)]
  have h1 := Int.emod_nonneg (m + n) (show n ≠ 0 by omega)
  have h2 := Int.emod_lt_of_pos (m + n) n0
  exact ⟨((m + n) % n).toNat, by omega, by omega⟩
theorem CrcBurst : veneerlaw02_CrcBurst.Pure := by
  intro L a y hm hb hx ha hy
  have hL : Byt L := fun x m => u8_wf (hx x m)
  have hl : Byt (L.take 2000) := fun z m => hL z (List.mem_of_mem_take m)
  have hn : (L.take 2000).length ≤ 2000 := by rw [List.length_take]; omega
  generalize L.take 2000 = l at hl hn
  have e8 : wrap64 (8 * (l.length : Int)) = 8 * (l.length : Int) := by unfold wrap64; omega
  refine ⟨20200 + 2 * 32 + 2, ?_⟩
  unfold veneerlaw02_CrcBurst.f
  rw [e8]
  by_cases h0 : 8 * (l.length : Int) = 0
  · rw [if_pos h0, works_ge _ (by omega)]
    rfl
  · obtain ⟨p, hp, e⟩ := place_of a (8 * (l.length : Int)) (by omega) (by omega)
    rw [if_neg h0, e]
    simp only [Option.bind_some, List.nil_append, List.length_nil]
    rw [if_pos (by omega)]
    have h := burst_l0 l hl hn y p (by omega) 32 20200 0 l (by omega) (by omega) hl rfl (by omega) (by simp only [mask]; rw [shrs_zero, BitVec.xor_zero]) (fun _ => rfl)
    exact h

end Go.Proofs.Ytiildnldokaekaa.Pure
