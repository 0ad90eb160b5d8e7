/- Where at most 32 bits side by side behind the length are changed, and any of them is, it is no frame: what the law computes is true at every row of bytes, place and word. No condition beyond the bound of every row of bytes. -/
import Derived.Test.YtmceiepphhlncaaQLFrameTurned
import Derived.Test.YtmceiepphhlncaaFrTurn
namespace Go.Proofs.Ytmceiepphhlncaa.Pure
open Go.RowKit Go.Proofs.Ytmceiepphhlncaa.Q Go.Proofs.YtmceiepphhlncaaW.PrintWords Go.Proofs.YtmceiepphhlncaaW.PrintLast
open Go.Proofs.Ytmceiepphhlncaa.CrcA Go.Proofs.Ytmceiepphhlncaa.CrcB Go.Proofs.Ytmceiepphhlncaa.Fr

/-- What Read says of a row whose length is the frame's, and whose register is another one. -/
theorem read_turned (l o : List Int) (hl : Byt l) (hn : l.length ≤ 4096) (ho : Byt o) (hol : o.length = l.length + 8) (h4 : o.take 4 = (fr l).take 4) (hr : run (~~~ 0#32) o ≠ run (~~~ 0#32) (fr l)) : rdR o = ([], 0, 6) := by
  have hf := fr_length l
  have e : num4 o = l.length := by
    rw [← num4_take, h4, num4_take]
    have := fr_num4 l hn []
    rwa [List.append_nil] at this
  have hb := rdR_fr l hn []
  rw [List.append_nil] at hb
  have hd : (o.drop (4 + l.length)).length = 4 := by rw [List.length_drop]; omega
  have fit1 := fits_iff (x := o.take (4 + l.length)) (Byt.drop ho (4 + l.length)) hd
  rw [List.take_append_drop] at fit1
  have hd2 : ((fr l).drop (4 + l.length)).length = 4 := by rw [List.length_drop]; omega
  have fit2 := fits_iff (x := (fr l).take (4 + l.length)) (Byt.drop (fr_byt hl) (4 + l.length)) hd2
  rw [List.take_append_drop] at fit2
  have good : num4 ((fr l).drop (4 + l.length)) = csum ((fr l).take (4 + l.length)) := by
    have e1 : (low (l.length : Int) ++ l).length = 4 + l.length := by rw [List.length_append, low_length]
    have et : (fr l).take (4 + l.length) = low (l.length : Int) ++ l := by unfold fr; rw [← e1, List.take_left]
    have ed : (fr l).drop (4 + l.length) = low (csum (low (l.length : Int) ++ l)) := by unfold fr; rw [← e1, List.drop_left]
    have hc := csum_range (low (l.length : Int) ++ l)
    have := num4_low _ hc.1 hc.2 []
    rw [List.append_nil] at this
    rw [et, ed, this]
  have bad : ¬ num4 (o.drop (4 + l.length)) = csum (o.take (4 + l.length)) := fun h => hr ((fit1.1 h).trans (fit2.1 good).symm)
  unfold rdR
  rw [if_neg (by omega), e, Int.toNat_natCast, if_neg (by omega), if_neg (by omega), if_neg bad]
def bitOf (y : Int) (i : Nat) : Bool := decide (bits .and .u32 (shr .u32 y (i : Int)) 1 = 1)
theorem xor_back (a z : Reg) (h : a ^^^ z = a) : z = 0#32 := by
  have : a ^^^ (a ^^^ z) = a ^^^ a := by rw [h]
  rwa [← BitVec.xor_assoc, BitVec.xor_self, BitVec.zero_xor] at this
/-- The law's end. -/
theorem turned_end (l : List Int) (hl : Byt l) (hn : l.length ≤ 2000) (y : Int) (p : Nat) (k : Nat) (hk : 41100 ≤ k) (o : List Int) (ch : Bool) (i : Nat) (x9 x10 : Int) (ho : Byt o) (hol : o.length = l.length + 8) (h4 : o.take 4 = (fr l).take 4)
    (h1 : run (~~~ 0#32) o = run (~~~ 0#32) (fr l) ^^^ shrs (8 * (l.length + 8) - p) (mask (bitOf y) i)) (h2 : ch = true → mask (bitOf y) i ≠ 0#32) (h3 : ch = false → o = fr l) :
    veneerlaw04_FrameTurned.j2 (k + 1) l y (fr l) x9 x10 o ch (i : Int) false = some true := by
  rw [veneerlaw04_FrameTurned.j2, if_neg (by decide), Read_of o ho (by omega) k hk, Option.bind_some, works_ge k hk]
  cases ch with
  | true =>
    have hr : run (~~~ 0#32) o ≠ run (~~~ 0#32) (fr l) := fun h => h2 rfl (shrs_eq_zero _ _ (xor_back _ _ (h1.symm.trans h)))
    rw [read_turned l o hl (by omega) ho hol h4 hr]
    rfl
  | false =>
    have hb := rdR_fr l (by omega) []
    rw [List.append_nil] at hb
    rw [h3 rfl, hb, if_neg (by decide), if_pos rfl, fr_length, if_pos rfl, if_pos rfl]
    rfl
theorem idx8 (q : Nat) (h : q < 20000) : wrap64 (4 + wrap64 (Int.tdiv (q : Int) 8)) = (((32 + q) / 8 : Nat) : Int) := by
  have w1 : wrap64 (Int.tdiv (q : Int) 8) = ((q / 8 : Nat) : Int) := by
    rw [Int.tdiv_eq_ediv_of_nonneg (Int.natCast_nonneg _)]
    unfold wrap64
    omega
  have w2 : (32 + q) / 8 = 4 + q / 8 := by omega
  have w3 : q / 8 < 2500 := by omega
  rw [w1, w2]
  generalize q / 8 = r at w3
  unfold wrap64
  omega
theorem bit8 (q : Nat) : IntKind.u64.wrap (Int.tmod (q : Int) 8) = (((32 + q) % 8 : Nat) : Int) := by
  have w2 : (32 + q) % 8 = q % 8 := by omega
  rw [Int.tmod_eq_emod_of_nonneg (Int.natCast_nonneg _), w2]
  simp only [IntKind.wrap, IntKind.bits, IntKind.signed]
  simp
  omega
theorem shl8 (q : Nat) (h : q < 8) : shl .u8 1 (q : Int) = 2 ^ q := by
  have hw := pow_byte _ h
  unfold shl
  rw [IntKind.wrap_u8, Int.toNat_natCast, Nat.min_eq_left (by show _ ≤ 8; omega), Int.one_mul]
  omega
set_option maxHeartbeats 1000000 in
theorem turned_l0 (l : List Int) (hl : Byt l) (hn : l.length ≤ 2000) (y : Int) (p : Nat) (hp : p < 8 * (l.length + 4)) :
    ∀ (d k i : Nat) (o : List Int) (ch : Bool), i + d = 32 → 41100 ≤ k → Byt o → o.length = l.length + 8 → o.take 4 = (fr l).take 4 → p + i ≤ 8 * (l.length + 4) →
      run (~~~ 0#32) o = run (~~~ 0#32) (fr l) ^^^ shrs (8 * (l.length + 8) - (32 + p)) (mask (bitOf y) i) → (ch = true → mask (bitOf y) i ≠ 0#32) → (ch = false → o = fr l) →
      veneerlaw04_FrameTurned.l0 (k + 2 * d + 2) l y (fr l) (8 * ((l.length : Int) + 4)) p o ch i = some true := by
  intro d
  induction d with
  | zero =>
    intro k i o ch h hk ho hol h4 hpi h1 h2 h3
    rw [show k + 2 * 0 + 2 = (k + 1) + 1 by omega, veneerlaw04_FrameTurned.l0, if_neg (by omega)]
    exact turned_end l hl hn y (32 + p) k hk o ch i _ _ ho hol h4 h1 h2 h3
  | succ d ih =>
    intro k i o ch h hk ho hol h4 hpi h1 h2 h3
    have e1 : wrap64 ((p : Int) + (i : Int)) = ((p + i : Nat) : Int) := by unfold wrap64; omega
    rw [show k + 2 * (d + 1) + 2 = (k + 2 * (d + 1) + 1) + 1 by omega, veneerlaw04_FrameTurned.l0, if_pos (by omega), e1]
    by_cases hc : ((p + i : Nat) : Int) < 8 * ((l.length : Int) + 4)
    · rw [veneerlaw04_FrameTurned.j2]
      have e2 : IntKind.u64.wrap (i : Int) = (i : Int) := by
        simp only [IntKind.wrap, IntKind.bits, IntKind.signed]
        simp
        omega
      have e3 : wrap64 (4 + wrap64 (Int.tdiv ((p + i : Nat) : Int) 8)) = (((32 + p + i) / 8 : Nat) : Int) := by rw [idx8 _ (by omega), Nat.add_assoc]
      have e4 : IntKind.u64.wrap (Int.tmod ((p + i : Nat) : Int) 8) = (((32 + p + i) % 8 : Nat) : Int) := by rw [bit8, Nat.add_assoc]
      have e5 : shl .u8 1 (((32 + p + i) % 8 : Nat) : Int) = 2 ^ ((32 + p + i) % 8) := shl8 _ (Nat.mod_lt _ (by decide))
      have e6 : (((32 + p + i) / 8 : Nat) : Int) < (o.length : Int) := by omega
      rw [if_pos (decide_eq_true hc), e2, if_pos (by omega)]
      by_cases hf : bits .and .u32 (shr .u32 y (i : Int)) 1 = 1
      · have hb : bitOf y i = true := decide_eq_true hf
        rw [if_pos hf, e1, e3, if_pos (Int.natCast_nonneg _), if_pos e6, e4, if_pos (Int.natCast_nonneg _), e5, Int.toNat_natCast, wrap_next i (by omega)]
        rw [show k + 2 * (d + 1) = k + 2 * d + 2 by omega]
        have ht := run_turned o ho (32 + p + i) (by omega) (~~~ 0#32)
        refine ih k (i + 1) (turn o (32 + p + i)) true (by omega) hk (turn_byt ho _) (by rw [turn_length]; exact hol) ?_ (by omega) ?_ ?_ (fun h => by cases h)
        · unfold turn
          rw [List.take_set, h4, List.set_eq_of_length_le (by rw [List.length_take]; omega)]
        · rw [ht, h1, hol]
          simp only [mask]
          rw [if_pos hb, shrs_xor, bit_down i _ (by omega) (by omega), show 8 * (l.length + 8) - (32 + p + i) = 8 * (l.length + 8) - (32 + p) - i by omega]
          ac_rfl
        · exact fun _ => mask_turned (bitOf y) i (by omega) hb
      · have hb : bitOf y i = false := decide_eq_false hf
        have hm : mask (bitOf y) (i + 1) = mask (bitOf y) i := by
          simp only [mask]
          rw [hb, if_neg (by decide)]
        rw [if_neg hf, wrap_next i (by omega), show k + 2 * (d + 1) = k + 2 * d + 2 by omega]
        exact ih k (i + 1) o ch (by omega) hk ho hol h4 (by omega) (by rw [hm]; exact h1) (by rw [hm]; exact h2) h3
    · rw [decide_eq_false hc]
      exact turned_end l hl hn y (32 + p) _ (by omega) o ch i _ _ ho hol h4 h1 h2 h3
theorem place_of (a n : Int) (n0 : 0 < n) (n1 : n ≤ 100000) : ∃ p : Nat, (p : Int) < n ∧ Int.tmod (wrap64 ((Int.tmod a n) + n)) n = p := by
  have h1 := Int.tmod_lt_of_pos a n0
  have h2 := Int.lt_tmod_of_pos a n0
  generalize Int.tmod a n = m at h1 h2
  have e1 : wrap64 (m + n) = m + n := by unfold wrap64; omega
  have h3 := Int.tmod_lt_of_pos (m + n) n0
  have h4 := Int.tmod_nonneg (a := m + n) n (by omega)
  rw [e1]
  exact ⟨(Int.tmod (m + n) n).toNat, by omega, (Int.toNat_of_nonneg h4).symm⟩
theorem FrameTurned : veneerlaw04_FrameTurned.Pure := by
  intro L a y _ _ hx _ _
  have hL : Byt L := fun x m => u8_wf (hx x m)
  have hl : Byt (L.take 2000) := fun z m => hL z (List.mem_of_mem_take m)
  have hn : (L.take 2000).length ≤ 2000 := by rw [List.length_take]; omega
  generalize L.take 2000 = l at hl hn
  have hf := fr_length l
  have e8 : wrap64 (8 * (wrap64 (((fr l).length : Int) - 4))) = 8 * ((l.length : Int) + 4) := by rw [hf]; unfold wrap64; omega
  obtain ⟨p, hp, e⟩ := place_of a (8 * ((l.length : Int) + 4)) (by omega) (by omega)
  refine ⟨41100 + 2 * 32 + 2 + 1, ?_⟩
  unfold veneerlaw04_FrameTurned.f
  rw [Frame_of l hl _ (by omega), Option.bind_some]
  unfold frR
  simp only [if_neg (show ¬ 4096 < l.length by omega)]
  rw [if_pos trivial, decide_eq_false (by omega), veneerlaw04_FrameTurned.j0, if_neg (by decide), e8, if_neg (by omega), Option.bind_some, if_pos (by simp only [List.length_nil]; omega), List.nil_append, e]
  exact turned_l0 l hl hn y p (by omega) 32 41100 0 (fr l) false (by omega) (by omega) (fr_byt hl) hf rfl (by omega) (by simp only [mask]; rw [shrs_zero, BitVec.xor_zero]) (fun h => by cases h) (fun _ => rfl)
end Go.Proofs.Ytmceiepphhlncaa.Pure
