/- Of frames one behind the other, cut off anywhere, just those are told that are whole, in order: what the law computes is true at any rows of bytes and any cut. No condition beyond that they are bytes. -/
import Derived.Test.YtmceiepphhlncaaQLFrameMany
import Derived.Test.YtmceiepphhlncaaFrJoin
namespace Go.Proofs.Ytmceiepphhlncaa.Pure
open Go.RowKit Go.Proofs.Ytmceiepphhlncaa.Q Go.Proofs.YtmceiepphhlncaaW.PrintWords Go.Proofs.YtmceiepphhlncaaW.PrintLast
open Go.Proofs.Ytmceiepphhlncaa.CrcB Go.Proofs.Ytmceiepphhlncaa.Fr

theorem rd_mid (pre : List Int) (e : Int) (tl : List Int) : rd (pre ++ e :: tl) (pre.length : Int) = e := by
  simp [rd, List.getD_eq_getElem?_getD]
theorem many_l0 (c : Nat) (all : List Int) (inn : List (List Int)) : ∀ (r : List (List Int)) (pre : List Int) (b k : Nat), b ≤ c → pre.length + r.length ≤ 30 →
    ∃ k', k ≤ k' ∧ veneerlaw04_FrameMany.l0 (k + r.length + 1) (c : Int) all inn (pre ++ endsOf b r) (pre.length : Int) (b : Int) =
      veneerlaw04_FrameMany.j1 k' (c : Int) all inn ((pre.length + (wh (c - b) r).1 : Nat) : Int) ((b + (wh (c - b) r).2 : Nat) : Int) := by
  intro r
  induction r with
  | nil =>
    intro pre b k hb hl
    refine ⟨k, Nat.le_refl _, ?_⟩
    rw [show k + ([] : List (List Int)).length + 1 = k + 1 by simp, veneerlaw04_FrameMany.l0, endsOf, List.append_nil, if_neg (by omega)]
    simp [wh]
  | cons f r ih =>
    intro pre b k hb hl
    rw [List.length_cons] at hl
    have hlen : (pre ++ endsOf b (f :: r)).length = pre.length + (r.length + 1) := by rw [List.length_append, endsOf_length, List.length_cons]
    have hw : wrap64 ((pre.length : Int) + 1) = ((pre.length + 1 : Nat) : Int) := by unfold wrap64; omega
    have e1 : rd (pre ++ endsOf b (f :: r)) (pre.length : Int) = ((b + (f.length + 8) : Nat) : Int) := rd_mid pre _ _
    rw [show k + (f :: r).length + 1 = (k + r.length + 1) + 1 by simp; omega, veneerlaw04_FrameMany.l0, if_pos (by omega), if_pos (by omega), e1, wh]
    by_cases h : f.length + 8 ≤ c - b
    · rw [if_pos (by omega), if_pos h, hw]
      obtain ⟨k', hk', e⟩ := ih (pre ++ [((b + (f.length + 8) : Nat) : Int)]) (b + (f.length + 8)) k (by omega) (by rw [List.length_append, List.length_singleton]; omega)
      refine ⟨k', hk', ?_⟩
      rw [List.append_assoc, List.singleton_append, List.length_append, List.length_singleton] at e
      rw [endsOf, e, show c - (b + (f.length + 8)) = c - b - (f.length + 8) by omega]
      congr 2 <;> omega
    · rw [if_neg (by omega), if_neg h]
      refine ⟨k + r.length + 1, by omega, ?_⟩
      simp
theorem many_l1 (fs : List (List Int)) (n : Nat) (hn : n ≤ fs.length) (hb : fs.length ≤ 30) : ∀ (d k i : Nat), i + d = n → 41100 ≤ k → veneerlaw04_FrameMany.l1 (k + d + 1) fs (fs.take n) ((fs.take n).length : Int) (i : Int) = some true := by
  have hl : (fs.take n).length = n := by rw [List.length_take]; omega
  intro d
  induction d with
  | zero =>
    intro k i h hk
    rw [veneerlaw04_FrameMany.l1, hl, if_neg (by omega), works_ge _ (by omega)]
    rfl
  | succ d ih =>
    intro k i h hk
    have hi : i < fs.length := by omega
    have e1 : rd_L1 (fs.take n) (i : Int) = rd_L1 fs (i : Int) := by simp [rd_L1, List.getD_eq_getElem?_getD, show i < n by omega]
    have hw : wrap64 ((i : Int) + 1) = ((i + 1 : Nat) : Int) := by unfold wrap64; omega
    rw [show k + (d + 1) + 1 = (k + d + 1) + 1 by omega, veneerlaw04_FrameMany.l1, hl, if_pos (by omega), if_pos (by omega), if_pos (by omega), if_pos (by omega), e1, if_pos rfl, hw]
    have := ih k (i + 1) (by omega) hk
    rw [hl] at this
    exact this
theorem FrameMany (xs : List (List Int)) (a : Int) (hx : ∀ f ∈ xs, Byt f) : ∃ k, veneerlaw04_FrameMany.f k xs a = some true := by
  obtain ⟨fs, hfs⟩ : ∃ fs, fs = pick xs 0 := ⟨_, rfl⟩
  have hS : Small fs := hfs ▸ pick_small hx 0
  have h30 : fs.length ≤ 30 := hfs ▸ pick_length xs 0
  have hcl := cat_le hS
  obtain ⟨n, hn⟩ : ∃ n, n = (cat fs).length := ⟨_, rfl⟩
  have hn2 : n ≤ 123120 := by omega
  have w1 : wrap64 ((n : Int) + 1) = (n : Int) + 1 := by unfold wrap64; omega
  obtain ⟨c, hc, hcn⟩ : ∃ c : Nat, Int.tmod (wrap64 ((wrap64 ((Int.tmod a ((n : Int) + 1)) + (n : Int))) + 1)) ((n : Int) + 1) = (c : Int) ∧ c ≤ n := by
    have h1 := Int.tmod_lt_of_pos a (b := (n : Int) + 1) (by omega)
    have h2 := Int.lt_tmod_of_pos a (b := (n : Int) + 1) (by omega)
    generalize Int.tmod a ((n : Int) + 1) = m at *
    have e1 : wrap64 (m + (n : Int)) = m + n := by unfold wrap64; omega
    have e2 : wrap64 (m + (n : Int) + 1) = m + n + 1 := by unfold wrap64; omega
    rw [e1, e2]
    have h3 := Int.tmod_lt_of_pos (m + n + 1) (b := (n : Int) + 1) (by omega)
    have h4 := Int.tmod_nonneg (a := m + n + 1) ((n : Int) + 1) (by omega)
    exact ⟨(Int.tmod (m + n + 1) ((n : Int) + 1)).toNat, (Int.toNat_of_nonneg h4).symm, by omega⟩
  obtain ⟨k', hk', e⟩ := many_l0 c (cat fs) fs fs [] 0 200000 (Nat.zero_le _) (by simpa using h30)
  refine ⟨200000 + fs.length + 1, ?_⟩
  unfold veneerlaw04_FrameMany.f
  rw [joined_of xs hx _ (by omega), ← hfs, Option.bind_some, ← hn, w1, if_neg (by omega), hc]
  rw [List.nil_append, List.length_nil, Nat.sub_zero, Nat.zero_add, Nat.zero_add] at e
  have e' : veneerlaw04_FrameMany.l0 (200000 + fs.length + 1) (c : Int) (cat fs) fs (endsOf 0 fs) 0 0 = veneerlaw04_FrameMany.j1 k' (c : Int) (cat fs) fs ((wh c fs).1 : Int) ((wh c fs).2 : Int) := e
  rw [e']
  obtain ⟨q, rfl⟩ : ∃ q, k' = q + 1 + 1 + 30 + 1 := ⟨k' - 33, by omega⟩
  have htl : ((cat fs).take c).length = c := by rw [List.length_take]; omega
  have hB : Byt ((cat fs).take c) := Byt.take (cat_byt hS) _
  have hA := All_of _ hB (by omega) (q + 1 + 1 + 30) (by omega)
  rw [htl, allR_cut fs hS c c (by omega) (Nat.le_refl _)] at hA
  have hwl := wh_le c fs
  have hlw : (fs.take (wh c fs).1).length = (wh c fs).1 := by rw [List.length_take]; omega
  rw [show q + 1 + 1 + 30 + 1 = (q + 1 + 1 + 30) + 1 by omega, veneerlaw04_FrameMany.j1, if_pos (by omega), if_pos (by omega), Int.toNat_natCast, hA, Option.bind_some, if_pos (by rw [hlw]), if_pos rfl]
  have fin : veneerlaw04_FrameMany.j2 (q + 1 + 1 + 30) fs (fs.take (wh c fs).1) false = some true := by
    rw [show q + 1 + 1 + 30 = (q + (31 - (wh c fs).1)) + (wh c fs).1 + 1 by omega, veneerlaw04_FrameMany.j2, if_neg (by decide)]
    have h := many_l1 fs (wh c fs).1 hwl.1 h30 (wh c fs).1 (q + (31 - (wh c fs).1) - 1) 0 (by omega) (by omega)
    rw [show q + (31 - (wh c fs).1) - 1 + (wh c fs).1 + 1 = (q + (31 - (wh c fs).1)) + (wh c fs).1 by omega] at h
    exact h
  by_cases he : (wh c fs).2 = c
  · simp only [if_pos he]
    rw [if_neg (by simp [he]), if_pos trivial, fin]
  · simp only [if_neg he]
    have he' : ¬ ((wh c fs).2 : Int) = (c : Int) := by omega
    rw [if_neg (by simp [he']), if_neg (by decide)]
    exact fin
end Go.Proofs.Ytmceiepphhlncaa.Pure
