/- What is told is memory of its own: what the law computes is true at any rows of bytes. No condition beyond that they are bytes. -/
import Derived.Test.YtmceiepphhlncaaQLFrameOwn
import Derived.Test.YtmceiepphhlncaaFrJoin
namespace Go.Proofs.Ytmceiepphhlncaa.Pure
open Go.RowKit Go.Proofs.Ytmceiepphhlncaa.Q Go.Proofs.YtmceiepphhlncaaW.PrintWords Go.Proofs.YtmceiepphhlncaaW.PrintLast
open Go.Proofs.Ytmceiepphhlncaa.CrcB Go.Proofs.Ytmceiepphhlncaa.Fr

theorem wh_all : ∀ fs : List (List Int), wh (cat fs).length fs = (fs.length, (cat fs).length)
  | [] => rfl
  | f :: r => by
    have hl : (cat (f :: r)).length = f.length + 8 + (cat r).length := by rw [cat, List.length_append, fr_length]
    rw [wh, hl, if_pos (by omega), show f.length + 8 + (cat r).length - (f.length + 8) = (cat r).length by omega, wh_all r]
    rfl
theorem All_cat (fs : List (List Int)) (hS : Small fs) (h30 : fs.length ≤ 30) (k : Nat) (hk : 200000 ≤ k) : frame_All.f k (cat fs) = some (fs, ((cat fs).length : Int), 0) := by
  have hcl := cat_le hS
  have h := All_of (cat fs) (cat_byt hS) (by omega) k (by omega)
  have h2 := allR_cut fs hS (cat fs).length (cat fs).length (Nat.le_refl _) (Nat.le_refl _)
  rw [List.take_length, wh_all] at h2
  rw [h, h2]
  simp
theorem own_l0 (fs : List (List Int)) (u : List Int) (h30 : fs.length ≤ 30) : ∀ (d k i : Nat), i + d = fs.length → 41100 ≤ k → veneerlaw04_FrameOwn.l0 (k + d + 1) u fs (strOfNums u) fs (fs.length : Int) (i : Int) = some true := by
  intro d
  induction d with
  | zero =>
    intro k i h hk
    rw [veneerlaw04_FrameOwn.l0, if_neg (by omega), if_pos rfl, works_ge _ (by omega)]
    rfl
  | succ d ih =>
    intro k i h hk
    have hw : wrap64 ((i : Int) + 1) = ((i + 1 : Nat) : Int) := by unfold wrap64; omega
    rw [show k + (d + 1) + 1 = (k + d + 1) + 1 by omega, veneerlaw04_FrameOwn.l0, if_pos (by omega), if_pos (by omega), if_pos (by omega), if_pos (by omega), if_pos rfl, hw]
    exact ih k (i + 1) (by omega) hk
theorem FrameOwn (xs : List (List Int)) (hx : ∀ f ∈ xs, Byt f) : ∃ k, veneerlaw04_FrameOwn.f k xs = some true ∧
    ∀ u v e, veneerlaw04_joined.f k xs = some (u, v, e) → ∀ r1 r2 r3, frame_All.f k u = some (r1, r2, r3) → ∀ x ∈ r1, x.length ≤ 1048576 := by
  obtain ⟨fs, hfs⟩ : ∃ fs, fs = pick xs 0 := ⟨_, rfl⟩
  have hS : Small fs := hfs ▸ pick_small hx 0
  have h30 : fs.length ≤ 30 := hfs ▸ pick_length xs 0
  obtain ⟨k, hk⟩ : ∃ k, k = 200000 + fs.length + 1 + 1 := ⟨_, rfl⟩
  have hJ := joined_of xs hx k (by omega)
  rw [← hfs] at hJ
  have hA := All_cat fs hS h30 k (by omega)
  refine ⟨k, ?_, ?_⟩
  · unfold veneerlaw04_FrameOwn.f
    rw [hJ, Option.bind_some]
    simp only [hA, Option.bind_some]
    rw [if_pos trivial, if_pos trivial, if_pos trivial, if_pos trivial, hk, veneerlaw04_FrameOwn.j0, if_neg (by simp)]
    exact own_l0 fs (cat fs) h30 fs.length 200000 0 (by omega) (by omega)
  · intro u v e h r1 r2 r3 h2 x m
    rw [hJ] at h
    cases h
    rw [hA] at h2
    cases h2
    have := (hS x m).2
    omega
end Go.Proofs.Ytmceiepphhlncaa.Pure
