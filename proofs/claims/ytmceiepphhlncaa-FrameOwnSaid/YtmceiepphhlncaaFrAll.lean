/- Frames one behind the other: what All, and the document's All, answer. Condition: what is read are bytes, at most 1048576 of them where the document's answer is spoken of. -/
import Derived.Test.YtmceiepphhlncaaFrA
import Derived.Test.YtmceiepphhlncaaQAll
namespace Go.Proofs.Ytmceiepphhlncaa.Fr
open Go.RowKit Go.Proofs.Ytmceiepphhlncaa.Q Go.Proofs.YtmceiepphhlncaaW.PrintWords Go.Proofs.YtmceiepphhlncaaW.PrintLast
open Go.Proofs.Ytmceiepphhlncaa.CrcA Go.Proofs.Ytmceiepphhlncaa.CrcB

theorem rdR_ok {l : List Int} (h : (rdR l).2.2 = 0) : ∃ n : Nat, rdR l = ((l.drop 4).take n, ((8 + n : Nat) : Int), 0) ∧ 8 + n ≤ l.length := by
  unfold rdR at h ⊢
  by_cases h1 : l.length < 4
  · rw [if_pos h1] at h; exact absurd h (by decide)
  rw [if_neg h1] at h ⊢
  by_cases h2 : 4096 < num4 l
  · rw [if_pos h2] at h; exact absurd h (by decide)
  rw [if_neg h2] at h ⊢
  by_cases h3 : l.length < 8 + (num4 l).toNat
  · rw [if_pos h3] at h; exact absurd h (by decide)
  rw [if_neg h3] at h ⊢
  by_cases h4 : num4 (l.drop (4 + (num4 l).toNat)) = csum (l.take (4 + (num4 l).toNat))
  · rw [if_pos h4]
    exact ⟨_, rfl, by omega⟩
  · rw [if_neg h4] at h; exact absurd h (by decide)
/-- What All answers, in at most so many steps. -/
def allR : Nat → List Int → List (List Int) × Nat × Int
  | 0, _ => ([], 0, 0)
  | d + 1, l => if l.length = 0 then ([], 0, 0) else if (rdR l).2.2 = 0 then ((rdR l).1 :: (allR d (l.drop (rdR l).2.1.toNat)).1, (rdR l).2.1.toNat + (allR d (l.drop (rdR l).2.1.toNat)).2.1, (allR d (l.drop (rdR l).2.1.toNat)).2.2)
    else ([], 0, (rdR l).2.2)
theorem All_l0 (l : List Int) (hl : Byt l) (hb : l.length ≤ 17592186044416) : ∀ (d k p : Nat) (out : List (List Int)), l.length ≤ p + d → p ≤ l.length → 41100 ≤ k → out.length * 8 ≤ p →
    frame_All.l0 (k + d + 1) l out (p : Int) = some (out ++ (allR d (l.drop p)).1, ((p + (allR d (l.drop p)).2.1 : Nat) : Int), (allR d (l.drop p)).2.2) := by
  intro d
  induction d with
  | zero =>
    intro k p out h1 h2 hk ho
    rw [frame_All.l0, if_neg (by omega)]
    simp [allR]
  | succ d ih =>
    intro k p out h1 h2 hk ho
    rw [show k + (d + 1) + 1 = (k + d + 1) + 1 by omega, frame_All.l0]
    by_cases hp : p < l.length
    · have hdl : (l.drop p).length = l.length - p := List.length_drop
      rw [if_pos (by omega), if_pos (by omega), if_pos (by omega), Int.toNat_natCast, Read_of _ (Byt.drop hl p) (by omega) _ (by omega), Option.bind_some]
      by_cases hr : (rdR (l.drop p)).2.2 = 0
      · obtain ⟨n, e, hn⟩ := rdR_ok hr
        have hw : wrap64 ((p : Int) + ((8 + n : Nat) : Int)) = ((p + (8 + n) : Nat) : Int) := by unfold wrap64; omega
        rw [if_pos hr, if_pos (by omega), e, hw, ih k (p + (8 + n)) _ (by omega) (by omega) hk (by rw [List.length_append, List.length_singleton]; omega)]
        rw [allR, if_neg (by omega), if_pos hr, e]
        simp only [Int.toNat_natCast, List.drop_drop, List.append_assoc, List.singleton_append, Nat.add_assoc]
      · rw [if_neg hr, allR, if_neg (by omega), if_neg hr]
        simp
    · rw [if_neg (by omega), allR, if_pos (by rw [List.length_drop]; omega)]
      simp
theorem All_of (l : List Int) (hl : Byt l) (hb : l.length ≤ 17592186044416) (k : Nat) (hk : 41101 + l.length ≤ k) : frame_All.f k l = some ((allR l.length l).1, ((allR l.length l).2.1 : Int), (allR l.length l).2.2) := by
  have h := All_l0 l hl hb l.length (k - (l.length + 1)) 0 [] (by omega) (by omega) (by omega) (by simp)
  rw [show k - (l.length + 1) + l.length + 1 = k by omega, List.drop_zero, List.nil_append, Nat.zero_add] at h
  exact h
end Go.Proofs.Ytmceiepphhlncaa.Fr
