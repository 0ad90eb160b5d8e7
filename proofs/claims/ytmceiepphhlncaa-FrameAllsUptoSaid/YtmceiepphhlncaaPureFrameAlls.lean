/- Of any bytes just the document's frames are told, where they end, and why no more: what the law computes is true at every row of at most 1048576 bytes. -/
import Derived.Test.YtmceiepphhlncaaQLFrameAlls
import Derived.Test.YtmceiepphhlncaaFrRef
import Derived.Test.YtmceiepphhlncaaFrAll
namespace Go.Proofs.Ytmceiepphhlncaa.Pure
open Go.RowKit Go.Proofs.Ytmceiepphhlncaa.Q Go.Proofs.YtmceiepphhlncaaW.PrintWords Go.Proofs.YtmceiepphhlncaaW.PrintLast
open Go.Proofs.Ytmceiepphhlncaa.CrcB Go.Proofs.Ytmceiepphhlncaa.Fr

theorem RefAll_l0 (l : List Int) (hl : Byt l) (hb : l.length ≤ 17592186044416) : ∀ (d k p : Nat) (out : List ByteArray), l.length ≤ p + d → p ≤ l.length → 41100 ≤ k → out.length * 8 ≤ p →
    veneerref04_All.l0 (k + d + 1) (strOfNums l) out (p : Int) = some (out ++ (allR d (l.drop p)).1.map strOfNums, ((p + (allR d (l.drop p)).2.1 : Nat) : Int), (allR d (l.drop p)).2.2) := by
  intro d
  induction d with
  | zero =>
    intro k p out h1 h2 hk ho
    rw [veneerref04_All.l0, strOfNums_size, if_neg (by omega)]
    simp [allR]
  | succ d ih =>
    intro k p out h1 h2 hk ho
    rw [show k + (d + 1) + 1 = (k + d + 1) + 1 by omega, veneerref04_All.l0, strOfNums_size]
    by_cases hp : p < l.length
    · have hdl : (l.drop p).length = l.length - p := List.length_drop
      rw [if_pos (by omega), if_pos (by omega), if_pos (by omega), Int.toNat_natCast, str_extract, List.take_length, RefRead_of _ (Byt.drop hl p) (by omega) _ (by omega), Option.bind_some]
      by_cases hr : (rdR (l.drop p)).2.2 = 0
      · obtain ⟨n, e, hn⟩ := rdR_ok hr
        have hw : wrap64 ((p : Int) + ((8 + n : Nat) : Int)) = ((p + (8 + n) : Nat) : Int) := by unfold wrap64; omega
        rw [if_pos hr, if_pos (by omega), e, hw, ih k (p + (8 + n)) _ (by omega) (by omega) hk (by rw [List.length_append, List.length_singleton]; omega)]
        rw [allR, if_neg (by omega), if_pos hr, e]
        simp only [Int.toNat_natCast, List.drop_drop, List.append_assoc, List.singleton_append, Nat.add_assoc, List.map_cons]
      · rw [if_neg hr, allR, if_neg (by omega), if_neg hr]
        simp
    · rw [if_neg (by omega), allR, if_pos (by rw [List.length_drop]; omega)]
      simp
theorem RefAll_of (l : List Int) (hl : Byt l) (hb : l.length ≤ 17592186044416) (k : Nat) (hk : 41101 + l.length ≤ k) : veneerref04_All.f k (strOfNums l) = some ((allR l.length l).1.map strOfNums, ((allR l.length l).2.1 : Int), (allR l.length l).2.2) := by
  have h := RefAll_l0 l hl hb l.length (k - (l.length + 1)) 0 [] (by omega) (by omega) (by omega) (by simp)
  rw [show k - (l.length + 1) + l.length + 1 = k by omega, List.drop_zero, List.nil_append, Nat.zero_add] at h
  exact h
theorem same_l0 (xs : List (List Int)) (hb : xs.length ≤ 17592186044416) : ∀ (d k i : Nat), i + d = xs.length → 41100 ≤ k → veneerlaw04_FrameAlls.l0 (k + d + 1) xs (xs.map strOfNums) (xs.length : Int) (i : Int) = some true := by
  intro d
  induction d with
  | zero =>
    intro k i h hk
    rw [veneerlaw04_FrameAlls.l0, if_neg (by omega), works_ge _ (by omega)]
    rfl
  | succ d ih =>
    intro k i h hk
    have hi : i < xs.length := by omega
    have e1 : rd_L1 xs (i : Int) = xs[i] := by simp [rd_L1, List.getD_eq_getElem?_getD, List.getElem?_eq_getElem hi]
    have e2 : rdOf ByteArray.empty (xs.map strOfNums) (i : Int) = strOfNums xs[i] := by simp [rdOf, List.getD_eq_getElem?_getD, List.getElem?_eq_getElem hi]
    have hw : wrap64 ((i : Int) + 1) = ((i + 1 : Nat) : Int) := by unfold wrap64; omega
    rw [show k + (d + 1) + 1 = (k + d + 1) + 1 by omega, veneerlaw04_FrameAlls.l0, if_pos (by omega), if_pos (by omega), if_pos (by omega), if_pos (by rw [List.length_map]; omega), e1, e2, if_pos rfl, hw]
    exact ih k (i + 1) (by omega) hk
theorem allR_length : ∀ (d : Nat) (l : List Int), (allR d l).1.length ≤ d
  | 0, l => by simp [allR]
  | d + 1, l => by
    rw [allR]
    split
    · simp
    · split
      · have := allR_length d (l.drop (rdR l).2.1.toNat)
        simp only [List.length_cons]
        omega
      · simp
/-- What the law computes, at most so many bytes given. -/
theorem FrameAlls (l0 : List Int) (hb : l0.length ≤ 1048576) (hw : ∀ x ∈ l0, (Lit.int .u8 x).wf = true) : ∃ k, veneerlaw04_FrameAlls.f k l0 = some true := by
  have hl : Byt l0 := fun x m => u8_wf (hw x m)
  refine ⟨41102 + l0.length + (allR l0.length l0).1.length, ?_⟩
  have hlen := allR_length l0.length l0
  unfold veneerlaw04_FrameAlls.f
  rw [Option.bind_some, if_pos (by simp only [List.length_nil]; omega), List.nil_append, All_of l0 hl (by omega) _ (by omega), Option.bind_some, RefAll_of l0 hl (by omega) _ (by omega), Option.bind_some, if_pos rfl, if_pos rfl]
  rw [show 41102 + l0.length + (allR l0.length l0).1.length = ((41100 + l0.length) + (allR l0.length l0).1.length + 1) + 1 by omega, veneerlaw04_FrameAlls.j0]
  rw [if_neg (by simp)]
  exact same_l0 (allR l0.length l0).1 (by omega) (allR l0.length l0).1.length (41100 + l0.length) 0 (by omega) (by omega)
/-- The walk at such a row. -/
theorem FrameAlls_walk (a0 : Option Addr) (len0 cap0 : Nat) (z0 : List Int) (w : World) (w0 : (a0 = none ∧ len0 = 0 ∧ cap0 = 0 ∧ z0 = []) ∨ ∃ x, a0 = some x ∧ len0 ≤ cap0 ∧ cap0 ≤ maxLen ∧ z0.length = cap0 ∧ (∀ i, i < z0.length → w.cell? (x.add i) = some (.int .u8 (z0.getD i 0))) ∧ ∀ n ∈ z0, (Lit.int .u8 n).wf = true) (y0 : len0 ≤ 1048576) :
    Calls Try.prog 6 #[.slice a0 len0 cap0] w fun e w' => e = .returned (.bool true) ∧ Below w.heap.size w w' := by
  obtain ⟨l0, rfl, hr0, hm0, hw0, hc0⟩ := ReadsInt.ofRowC w0
  obtain ⟨k, h⟩ := FrameAlls l0 y0 hw0
  refine (veneerlaw04_FrameAlls.calls k _ _ l0 true w (Kd.C_of_reads (d := (0 : Int)) (h1 := fun _ => rfl) hr0) hc0 h).mono ?_
  rintro e w' ⟨rfl, hd⟩
  exact ⟨rfl, hd⟩
end Go.Proofs.Ytmceiepphhlncaa.Pure
