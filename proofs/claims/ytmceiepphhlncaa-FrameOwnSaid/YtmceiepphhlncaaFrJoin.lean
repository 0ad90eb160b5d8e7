/- Frames one behind the other, cut off anywhere: what joined and All answer. Condition: what is framed are bytes. -/
import Derived.Test.YtmceiepphhlncaaFrAll
import Derived.Test.YtmceiepphhlncaaQJoined
namespace Go.Proofs.Ytmceiepphhlncaa.Fr
open Go.RowKit Go.Proofs.Ytmceiepphhlncaa.Q Go.Proofs.YtmceiepphhlncaaW.PrintWords Go.Proofs.YtmceiepphhlncaaW.PrintLast
open Go.Proofs.Ytmceiepphhlncaa.CrcA Go.Proofs.Ytmceiepphhlncaa.CrcB

/-- Frames one behind the other. -/
def cat : List (List Int) → List Int
  | [] => []
  | f :: r => fr f ++ cat r
/-- Where each ends. -/
def endsOf : Nat → List (List Int) → List Int
  | _, [] => []
  | b, f :: r => ((b + (f.length + 8) : Nat) : Int) :: endsOf (b + (f.length + 8)) r
/-- How many are whole, and where the last of them ends. -/
def wh : Nat → List (List Int) → Nat × Nat
  | _, [] => (0, 0)
  | c, f :: r => if f.length + 8 ≤ c then ((wh (c - (f.length + 8)) r).1 + 1, f.length + 8 + (wh (c - (f.length + 8)) r).2) else (0, 0)
def Small (fs : List (List Int)) : Prop := ∀ f ∈ fs, Byt f ∧ f.length ≤ 4096
theorem endsOf_length : ∀ (b : Nat) (fs : List (List Int)), (endsOf b fs).length = fs.length
  | _, [] => rfl
  | b, f :: r => by simp [endsOf, endsOf_length]
theorem cat_byt : ∀ {fs : List (List Int)}, Small fs → Byt (cat fs)
  | [], _ => Byt.nil
  | f :: r, h => Byt.app (fr_byt (h f (by simp)).1) (cat_byt fun g m => h g (by simp [m]))
theorem cat_le : ∀ {fs : List (List Int)}, Small fs → (cat fs).length ≤ fs.length * 4104
  | [], _ => by simp [cat]
  | f :: r, h => by
    have h1 := cat_le (fs := r) fun g m => h g (by simp [m])
    have h2 := (h f (by simp)).2
    simp only [cat, List.length_append, fr_length, List.length_cons]
    omega
theorem wh_le : ∀ (c : Nat) (fs : List (List Int)), (wh c fs).1 ≤ fs.length ∧ (wh c fs).2 ≤ c
  | c, [] => by simp [wh]
  | c, f :: r => by
    rw [wh]
    split
    · have := wh_le (c - (f.length + 8)) r
      simp only [List.length_cons]
      omega
    · simp
/-- What was torn is never read as a frame. -/
theorem rdR_torn (f : List Int) (hf : f.length ≤ 4096) (c : Nat) (hc : c < f.length + 8) : (rdR ((fr f).take c)).2.2 = 4 := by
  have hl := fr_length f
  have ht : ((fr f).take c).length = c := by rw [List.length_take]; omega
  unfold rdR
  by_cases h1 : c < 4
  · rw [if_pos (by omega)]
  · have e : num4 ((fr f).take c) = f.length := by
      have h4 : ((fr f).take c).take 4 = (fr f).take 4 := by rw [List.take_take, Nat.min_eq_left (by omega)]
      rw [← num4_take, h4, num4_take]
      have := fr_num4 f hf []
      rwa [List.append_nil] at this
    rw [if_neg (by omega), e, Int.toNat_natCast, if_neg (by omega), if_pos (by omega)]
theorem allR_cut : ∀ (fs : List (List Int)), Small fs → ∀ (c d : Nat), c ≤ (cat fs).length → c ≤ d →
    allR d ((cat fs).take c) = (fs.take (wh c fs).1, (wh c fs).2, if (wh c fs).2 = c then 0 else 4)
  | [], _, c, d, hc, hd => by
    have h0 : c = 0 := by simp [cat] at hc; exact hc
    subst h0
    cases d <;> simp [allR, wh, cat]
  | f :: r, h, c, d, hc, hd => by
    have hf := (h f (by simp)).2
    have hl := fr_length f
    have hlen : (cat (f :: r)).length = f.length + 8 + (cat r).length := by rw [cat, List.length_append, hl]
    have htl : ((cat (f :: r)).take c).length = c := by rw [List.length_take]; omega
    rcases Nat.eq_zero_or_pos c with rfl | hp
    · have h2 : ¬ f.length + 8 ≤ 0 := by omega
      cases d <;> simp [allR, wh, h2]
    · obtain ⟨d, rfl⟩ : ∃ d', d = d' + 1 := ⟨d - 1, by omega⟩
      rw [allR, if_neg (by omega), wh]
      by_cases hw : f.length + 8 ≤ c
      · have e1 : (cat (f :: r)).take c = fr f ++ (cat r).take (c - (f.length + 8)) := by
          rw [cat, List.take_append, hl, List.take_of_length_le (by omega)]
        have e2 := rdR_fr f hf ((cat r).take (c - (f.length + 8)))
        have ih := allR_cut r (fun g m => h g (by simp [m])) (c - (f.length + 8)) d (by omega) (by omega)
        rw [e1, e2]
        simp only [Int.toNat_natCast]
        rw [if_pos trivial, List.drop_left' hl, ih, if_pos hw]
        have hwl := wh_le (c - (f.length + 8)) r
        simp only [List.take_succ_cons]
        congr 2
        by_cases he : (wh (c - (f.length + 8)) r).2 = c - (f.length + 8)
        · rw [if_pos he, if_pos (by omega)]
        · rw [if_neg he, if_neg (by omega)]
      · have e1 : (cat (f :: r)).take c = (fr f).take c := by rw [cat, List.take_append_of_le_length (by omega)]
        have e2 := rdR_torn f hf c (by omega)
        rw [e1, e2, if_neg (by decide), if_neg hw]
        simp only [List.take_zero]
        rw [if_neg (by omega)]
/-- Those of the first thirty that are not too long. -/
def pick (xs : List (List Int)) (i : Nat) : List (List Int) := ((xs.take 30).drop i).filter fun f => decide (f.length ≤ 4096)
theorem pick_small {xs : List (List Int)} (h : ∀ f ∈ xs, Byt f) (i : Nat) : Small (pick xs i) := fun f m => by
  unfold pick at m
  rw [List.mem_filter] at m
  exact ⟨h f (List.mem_of_mem_take (List.mem_of_mem_drop m.1)), of_decide_eq_true m.2⟩
theorem pick_length (xs : List (List Int)) (i : Nat) : (pick xs i).length ≤ 30 := by
  unfold pick
  refine Nat.le_trans (List.length_filter_le _ _) ?_
  rw [List.length_drop, List.length_take]
  omega
theorem joined_l0 (xs : List (List Int)) (hx : ∀ f ∈ xs, Byt f) : ∀ (d k i : Nat) (all : List Int) (inn : List (List Int)) (ends : List Int), min xs.length 30 = i + d → 41100 ≤ k → all.length ≤ i * 4104 → inn.length ≤ i → ends.length ≤ i →
    veneerlaw04_joined.l0 (k + 2 * d + 2) xs all inn ends (i : Int) = some (all ++ cat (pick xs i), inn ++ pick xs i, ends ++ endsOf all.length (pick xs i)) := by
  intro d
  induction d with
  | zero =>
    intro k i all inn ends h hk h1 h2 h3
    have e : pick xs i = [] := by
      unfold pick
      rw [List.drop_eq_nil_of_le (by rw [List.length_take]; omega)]
      rfl
    rw [e, show k + 2 * 0 + 2 = (k + 1) + 1 by omega, veneerlaw04_joined.l0]
    simp only [cat, endsOf, List.append_nil]
    by_cases hi : i < xs.length
    · rw [if_pos (by omega), decide_eq_false (by omega), veneerlaw04_joined.j1, if_neg (by decide)]
    · rw [if_neg (by omega), veneerlaw04_joined.j1, if_neg (by decide)]
  | succ d ih =>
    intro k i all inn ends h hk h1 h2 h3
    have h1' : all.length ≤ (i + 1) * 4104 := Nat.le_trans h1 (Nat.mul_le_mul_right _ (Nat.le_succ i))
    have hi : i < xs.length := by omega
    have hi30 : i < 30 := by omega
    have hr : rd_L1 xs (i : Int) = xs[i] := by simp [rd_L1, List.getD_eq_getElem?_getD, List.getElem?_eq_getElem hi]
    have hb : Byt xs[i] := hx _ (List.getElem_mem hi)
    have hw : wrap64 ((i : Int) + 1) = ((i + 1 : Nat) : Int) := by unfold wrap64; omega
    have hit : i < (xs.take 30).length := by rw [List.length_take]; omega
    have hd : (xs.take 30).drop i = xs[i] :: (xs.take 30).drop (i + 1) := by
      rw [List.drop_eq_getElem_cons hit, List.getElem_take]
    rw [show k + 2 * (d + 1) + 2 = (k + 2 * d + 2 + 1) + 1 by omega, veneerlaw04_joined.l0, if_pos (by omega), decide_eq_true (by omega), veneerlaw04_joined.j1, if_pos rfl, if_pos (by omega), if_pos (by omega), hr, Frame_of _ hb _ (by omega), Option.bind_some, hw]
    unfold frR
    by_cases hl : 4096 < xs[i].length
    · have e : pick xs i = pick xs (i + 1) := by
        unfold pick
        rw [hd, List.filter_cons_of_neg (by simp; omega)]
      simp only [if_pos hl]
      rw [if_neg (by decide), e, ih k (i + 1) all inn ends (by omega) hk h1' (by omega) (by omega)]
    · have e : pick xs i = xs[i] :: pick xs (i + 1) := by
        unfold pick
        rw [hd, List.filter_cons_of_pos (by simp; omega)]
      have hf := fr_length xs[i]
      simp only [if_neg hl]
      rw [if_pos trivial, if_pos (by omega), Option.bind_some, if_pos (by omega), if_pos (by omega),
        ih k (i + 1) _ _ _ (by omega) hk (by rw [List.length_append]; omega) (by rw [List.length_append, List.length_singleton]; omega) (by rw [List.length_append, List.length_singleton]; omega), e, cat, endsOf]
      simp only [List.append_assoc, List.singleton_append, List.length_append, hf]
theorem joined_of (xs : List (List Int)) (hx : ∀ f ∈ xs, Byt f) (k : Nat) (hk : 41200 ≤ k) : veneerlaw04_joined.f k xs = some (cat (pick xs 0), pick xs 0, endsOf 0 (pick xs 0)) := by
  obtain ⟨d, hd⟩ : ∃ d, d = min xs.length 30 := ⟨_, rfl⟩
  obtain ⟨k', rfl⟩ : ∃ k', k = k' + 2 * d + 2 := ⟨k - (2 * d + 2), by omega⟩
  have h := joined_l0 xs hx d k' 0 [] [] [] (by omega) (by omega) (Nat.zero_le _) (Nat.zero_le _) (Nat.zero_le _)
  exact h
end Go.Proofs.Ytmceiepphhlncaa.Fr
