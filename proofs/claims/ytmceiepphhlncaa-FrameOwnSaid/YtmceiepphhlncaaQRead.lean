/- frame.Read as a Lean function, and the contract that says so, put together out of the six ways' walks. Condition: the bytes lie within one block. -/
import Derived.Test.YtmceiepphhlncaaQSum
import Derived.Test.YtmceiepphhlncaaReadB
import Derived.Test.YtmceiepphhlncaaReadC
import Derived.Test.YtmceiepphhlncaaReadD
namespace Go.Proofs.Ytmceiepphhlncaa.Q
open Go.RowKit Go.Proofs.YtmceiepphhlncaaW.PrintWords Go.Proofs.YtmceiepphhlncaaW.PrintLast Go.Proofs.YtmceiepphhlncaaW.PrintMore
open Go.Proofs.Ytmceiepphhlncaa.ReadW
/-- What frame.Read answers. -/
def frame_Read.f (k : Nat) (l : List Int) : Option (List Int × Int × Int) :=
  if 281474976710656 < l.length then none else
  if l.length < 4 then some ([], 0, 4) else
  if 4096 < fourI (l.take 4) 4 then some ([], 0, 3) else
  if l.length < 8 + (fourI (l.take 4) 4).toNat then some ([], 0, 4) else
  (crc_Sum.f k (l.take (4 + (fourI (l.take 4) 4).toNat))).bind fun s =>
  if fourI ((l.drop (4 + (fourI (l.take 4) 4).toNat)).take 4) 4 = s then some ((l.drop 4).take (fourI (l.take 4) 4).toNat, ((8 + (fourI (l.take 4) 4).toNat : Nat) : Int), 0)
  else some ([], 0, 6)
theorem frame_Read.mono : ∀ a0 k, LeO (frame_Read.f k a0) (frame_Read.f (k + 1) a0) := by
  intro a0 k
  unfold frame_Read.f
  repeat' first
      | (with_reducible exact crc_Sum.mono _ _)
      | (with_reducible exact LeO.refl _)
      | (with_reducible exact LeO.none _)
      | (with_reducible refine LeO.ite ?_ ?_)
      | (with_reducible refine LeO.bind ?_ (fun _ => ?_))
theorem fourI_nonneg (q : List Int) : ∀ n, 0 ≤ fourI q n
  | 0 => Int.le_refl _
  | n + 1 => by
    unfold fourI bits
    simp only [IntKind.wrap_u32]
    omega
theorem frame_Read.calls (k : Nat) (A0 : Option Addr) (c0 : Nat) (l0 : List Int) (r1 : List Int) (r2 r3 : Int) (w : World) (hr0 : Kd.C (Kd.int .u8) w A0 l0.length l0) (hc0 : l0.length ≤ c0) (h : frame_Read.f k l0 = some (r1, r2, r3)) :
    Calls Try.prog 11 #[.slice A0 l0.length c0] w fun e w' => ∃ v0_ : Value, e = .returned (.tuple #[v0_, .int .i64 r2, .int .i64 r3]) ∧ Kd.R (Kd.int .u8) 5 w' w.heap.size (fun _ => True) v0_ r1 ∧ Below w.heap.size w w' := by
  have hA : ∀ w', Below w.heap.size w w' → Kd.C (Kd.int .u8) w' A0 l0.length l0 := fun w' hb => Kd.C_below hr0 hb
  unfold frame_Read.f at h
  by_cases h1 : 281474976710656 < l0.length
  · rw [if_pos h1] at h; cases h
  rw [if_neg h1] at h
  by_cases h2 : l0.length < 4
  · rw [if_pos h2] at h
    cases h
    exact (read_short A0 c0 l0 w h2).mono fun e w' hh => ⟨_, hh.1, Kd.R_nil _ _ _ _ _, hh.2⟩
  rw [if_neg h2] at h
  have hnn := fourI_nonneg (l0.take 4) 4
  by_cases h3 : 4096 < fourI (l0.take 4) 4
  · rw [if_pos h3] at h
    cases h
    exact (read_big A0 c0 l0 w (by omega) hc0 (by omega) hA h3).mono fun e w' hh => ⟨_, hh.1, Kd.R_nil _ _ _ _ _, hh.2⟩
  rw [if_neg h3] at h
  obtain ⟨nn, hn⟩ : ∃ nn : Nat, fourI (l0.take 4) 4 = nn := ⟨_, (Int.toNat_of_nonneg hnn).symm⟩
  have ht : (fourI (l0.take 4) 4).toNat = nn := by rw [hn]; rfl
  rw [ht] at h
  by_cases h4 : l0.length < 8 + nn
  · rw [if_pos h4] at h
    cases h
    by_cases h5 : l0.length < 4 + nn
    · exact (read_cut A0 c0 l0 w (by omega) hc0 (by omega) hA nn hn (by omega) h5).mono fun e w' hh => ⟨_, hh.1, Kd.R_nil _ _ _ _ _, hh.2⟩
    · exact (read_torn A0 c0 l0 w (by omega) hc0 (by omega) hA nn hn (by omega) (by omega) h4).mono fun e w' hh => ⟨_, hh.1, Kd.R_nil _ _ _ _ _, hh.2⟩
  rw [if_neg h4] at h
  obtain ⟨s, hs, h⟩ := Option.bind_eq_some_iff.mp h
  have hl : (l0.take (4 + nn)).length = 4 + nn := by rw [List.length_take]; omega
  have hsum : ∀ w', Below w.heap.size w w' → Calls Try.prog 18 #[.slice A0 (4 + nn) c0] w' fun e w'' => e = .returned (.int .u32 s) ∧ Drawn0 w' w'' := fun w' hb => by
    have := crc_Sum.calls k A0 c0 (l0.take (4 + nn)) s w' (Kd.C_take (hA w' hb) (by omega)) (by omega) hs
    rw [hl] at this
    exact this
  by_cases h6 : fourI ((l0.drop (4 + nn)).take 4) 4 = s
  · rw [if_pos h6] at h
    cases h
    exact (read_ok A0 c0 l0 w (by omega) hc0 (by omega) hA nn hn (by omega) (by omega) _ hsum h6)
  · rw [if_neg h6] at h
    cases h
    exact (read_bad A0 c0 l0 w (by omega) hc0 (by omega) hA nn hn (by omega) (by omega) s hsum h6).mono fun e w' hh => ⟨_, hh.1, Kd.R_nil _ _ _ _ _, hh.2⟩
end Go.Proofs.Ytmceiepphhlncaa.Q
