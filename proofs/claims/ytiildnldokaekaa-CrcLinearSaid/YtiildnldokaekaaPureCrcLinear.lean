/- The sum of what three rows of one length come to, bit by bit, is what their sums come to: what the law computes is true at every three rows of bytes. No condition beyond the bound of every row of bytes. -/
import Derived.Test.YtiildnldokaekaaQ9
import Derived.Test.YtiildnldokaekaaCrcLin
import Derived.Test.YtiildnldokaekaaCrcWorks
namespace Go.Proofs.Ytiildnldokaekaa.Pure
open Go.RowKit Go.Proofs.Ytiildnldokaekaa.Q Go.Proofs.YtiildnldokaekaaW.PrintWords Go.Proofs.YtiildnldokaekaaW.PrintLast
open Go.Proofs.Ytiildnldokaekaa.CrcA Go.Proofs.Ytiildnldokaekaa.CrcB Go.Proofs.Ytiildnldokaekaa.CrcWorks

theorem byt_take {x : List Int} (hx : Byt x) (n : Nat) : Byt (x.take n) := fun z m => hx z (List.mem_of_mem_take m)
theorem take_rd (l : List Int) (i : Nat) (h : i < l.length) : l.take (i + 1) = l.take i ++ [rd l i] := by
  rw [List.take_succ_eq_append_getElem h]
  congr 2
  unfold rd
  rw [Int.toNat_natCast, List.getD_eq_getElem?_getD, List.getElem?_eq_getElem h]
  rfl
theorem three_snoc : ∀ (a b c : List Int) (x y z : Int), a.length = b.length → b.length = c.length → three (a ++ [x]) (b ++ [y]) (c ++ [z]) = three a b c ++ [bits .xor .u8 (bits .xor .u8 x y) z]
  | [], [], [], x, y, z, _, _ => rfl
  | [], _ :: _, _, _, _, _, h, _ => by simp at h
  | _ :: _, [], _, _, _, _, h, _ => by simp at h
  | _ :: _, _ :: _, [], _, _, _, _, h => by simp at h
  | [], [], _ :: _, _, _, _, _, h => by simp at h
  | u :: a, v :: b, w :: c, x, y, z, h1, h2 => by
    simp only [List.cons_append, three]
    rw [three_snoc a b c x y z (by simpa using h1) (by simpa using h2)]
theorem three_length : ∀ (a b c : List Int), a.length = b.length → b.length = c.length → (three a b c).length = a.length
  | [], _, _, _, _ => by simp [three]
  | _ :: _, [], _, h, _ => by simp at h
  | _ :: _, _ :: _, [], _, h => by simp at h
  | x :: a, y :: b, z :: c, h1, h2 => by
    simp only [three, List.length_cons]
    rw [three_length a b c (by simpa using h1) (by simpa using h2)]
theorem set_row (p : List Int) (d : Nat) (x : Int) (i : Nat) (h : p.length = i) : (p ++ List.replicate (d + 1) 0).set i x = (p ++ [x]) ++ List.replicate d 0 := by
  rw [List.set_append_right _ _ (by omega), h, Nat.sub_self, List.replicate_succ, List.set_cons_zero, List.append_assoc]
  rfl
theorem linear_l0 (a b c : List Int) (ha : Byt a) (hb : Byt b) (hc : Byt c) (n : Nat) (na : n ≤ a.length) (nb : n ≤ b.length) (nc : n ≤ c.length) (hn : n ≤ 2000) :
    ∀ (d k i : Nat), 20200 ≤ k → i + d = n → veneerlaw02_CrcLinear.l0 (k + d + 1) a b c n (three (a.take i) (b.take i) (c.take i) ++ List.replicate d 0) n i = some true
  | 0, k, i, hk, h => by
    obtain rfl : i = n := by omega
    have hw := works_ge k (by omega)
    have la : (a.take i).length = i := by rw [List.length_take]; omega
    have lb : (b.take i).length = i := by rw [List.length_take]; omega
    have lc : (c.take i).length = i := by rw [List.length_take]; omega
    rw [veneerlaw02_CrcLinear.l0]
    rw [if_neg (by omega), List.replicate_zero, List.append_nil, sum_of _ (three_byt _ _ _) (by rw [three_length _ _ _ (by omega) (by omega)]; omega) k (by rw [three_length _ _ _ (by omega) (by omega)]; omega), Option.bind_some, if_pos (by omega), if_pos (by omega), Int.toNat_natCast,
      sum_of _ (byt_take ha i) (by omega) k (by omega), Option.bind_some, if_pos (by omega), sum_of _ (byt_take hb i) (by omega) k (by omega), Option.bind_some, if_pos (by omega), sum_of _ (byt_take hc i) (by omega) k (by omega), Option.bind_some]
    rw [xor_enc, xor_enc, more_three _ _ _ (by omega) (by omega) (byt_take ha i) (byt_take hb i) (byt_take hc i), if_pos rfl, hw]
    rfl
  | d + 1, k, i, hk, h => by
    have la : (a.take i).length = i := by rw [List.length_take]; omega
    have lb : (b.take i).length = i := by rw [List.length_take]; omega
    have lc : (c.take i).length = i := by rw [List.length_take]; omega
    have lt := three_length (a.take i) (b.take i) (c.take i) (by omega) (by omega)
    rw [show k + (d + 1) + 1 = (k + d + 1) + 1 by omega, veneerlaw02_CrcLinear.l0]
    rw [if_pos (by omega), if_pos (by omega), if_pos (by omega), if_pos (by omega), if_pos (by omega), if_pos (by rw [List.length_append, List.length_replicate]; omega), Int.toNat_natCast, set_row _ d _ i (by omega), ← three_snoc _ _ _ _ _ _ (by omega) (by omega), ← take_rd a i (by omega), ← take_rd b i (by omega), ← take_rd c i (by omega), wrap_next i (by omega)]
    exact linear_l0 a b c ha hb hc n na nb nc hn d k (i + 1) hk (by omega)
theorem CrcLinear : veneerlaw02_CrcLinear.Pure := by
  intro a b c ma ba xa mb bb xb mc bc xc
  have ha : Byt a := fun x m => u8_wf (xa x m)
  have hb : Byt b := fun x m => u8_wf (xb x m)
  have hc : Byt c := fun x m => u8_wf (xc x m)
  obtain ⟨n, na, nb, nc, hn, e⟩ : ∃ n : Nat, n ≤ a.length ∧ n ≤ b.length ∧ n ≤ c.length ∧ n ≤ 2000 ∧ (mn (mn (mn (a.length : Int) (b.length : Int)) (c.length : Int)) 2000) = n := by
    refine ⟨(mn (mn (mn (a.length : Int) (b.length : Int)) (c.length : Int)) 2000).toNat, ?_⟩
    unfold mn
    omega
  refine ⟨20200 + n + 1, ?_⟩
  unfold veneerlaw02_CrcLinear.f
  rw [e, if_pos (by omega), if_pos (by omega), Int.toNat_natCast]
  have h := linear_l0 a b c ha hb hc n na nb nc hn n 20200 0 (by omega) (by omega)
  exact h

end Go.Proofs.Ytiildnldokaekaa.Pure
