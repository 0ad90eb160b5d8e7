/- veneerref04.Of as a Lean function, and the contract that says so. No condition beyond what the theorem states. -/
import Derived.Test.YtmceiepphhlncaaQFour
import Derived.Test.YtmceiepphhlncaaQRefMore
import Derived.Lib.ConvBytes
namespace Go.Proofs.Ytmceiepphhlncaa.Q
open Go.RowKit Go.Proofs.YtmceiepphhlncaaW.PrintWords Go.Proofs.YtmceiepphhlncaaW.PrintLast Go.Proofs.YtmceiepphhlncaaW.PrintMore
/-- The bytes of a string as numbers. -/
def ints (s : ByteArray) : List Int := s.data.toList.map fun b => (b.toNat : Int)
theorem ints_length (s : ByteArray) : (ints s).length = s.size := by unfold ints; rw [List.length_map, Array.length_toList]; rfl
theorem below_bytes {w W : World} (h : Below w.heap.size w W) (e : TypeId) (s : ByteArray) : Below w.heap.size w (Lib.bytesWorld W e s) := by
  have hs := h.size
  refine ⟨?_, ?_, ?_, ?_, ?_⟩
  · exact (rfl : (Lib.bytesWorld W e s).os = W.os).trans h.os
  · exact (rfl : (Lib.bytesWorld W e s).tape = W.tape).trans h.tape
  · exact (rfl : (Lib.bytesWorld W e s).output = W.output).trans h.output
  · rw [Lib.bytesWorld_size]; omega
  · intro k hk
    rw [Lib.bytesWorld_at_old W e s k (by omega)]
    exact h.block k hk
theorem bytes_read (w : World) (s : ByteArray) (hs : s.size ≤ 9223372036854775807) : Kd.C (Kd.int .u8) (Lib.bytesWorld w 5 s) (some ⟨w.heap.size, 0, none⟩) (ints s).length (ints s) := by
  refine Kd.C_of_reads (d := (0 : Int)) ⟨rfl, by rw [ints_length]; exact hs, fun _ => ⟨_, rfl, fun j hj => ?_⟩⟩
  rw [ints_length] at hj
  have ha : (⟨w.heap.size, 0, none⟩ : Addr).add j = ⟨w.heap.size, j, none⟩ := by unfold Addr.add; split <;> simp_all
  rw [ha, Lib.bytesWorld_cell w 5 s j hj]
  have hj2 : j < s.data.toList.length := by rw [Array.length_toList]; exact hj
  simp only [ints, List.getD_eq_getElem?_getD, List.getElem?_map, List.getElem?_eq_getElem hj2, Option.map_some, Option.getD_some]
/-- What Of answers. -/
def veneerref04_Of.f (k : Nat) (a0 : ByteArray) : Option ByteArray :=
  (veneerref04_four.f (a0.size : Int)).bind fun t6 => if t6.size + a0.size ≤ 281474976710656 then
    ((veneerref02_More.f k 0 (ints (t6 ++ a0))).bind fun t12 => if 0 ≤ t12 ∧ t12 < 4294967296 then (veneerref04_four.f t12).bind fun t14 => some (t6 ++ a0 ++ t14) else none) else none
theorem veneerref04_Of.mono : ∀ a0 k, LeO (veneerref04_Of.f k a0) (veneerref04_Of.f (k + 1) a0) := by
  intro a0 k
  unfold veneerref04_Of.f
  repeat' first
      | (with_reducible exact veneerref02_More.mono _ _ _)
      | (with_reducible exact LeO.refl _)
      | (with_reducible exact LeO.none _)
      | (with_reducible refine LeO.ite ?_ ?_)
      | (with_reducible refine LeO.bind ?_ (fun _ => ?_))
theorem four_size {a : Int} {t : ByteArray} (h : veneerref04_four.f a = some t) : t.size = 4 := by
  unfold veneerref04_four.f at h
  cases h
  rfl
set_option maxHeartbeats 4000000 in
set_option maxRecDepth 100000 in
theorem veneerref04_Of.calls (k : Nat) (a0 : ByteArray) (r : ByteArray) (w : World) (h : veneerref04_Of.f k a0 = some r) :
    Calls Try.prog 19 #[.string a0] w fun e w' => e = .returned (.string r) ∧ Below w.heap.size w w' := by
  unfold veneerref04_Of.f at h
  obtain ⟨t6, h6, h⟩ := Option.bind_eq_some_iff.mp h
  by_cases hsz : t6.size + a0.size ≤ 281474976710656
  case neg => rw [if_neg hsz] at h; cases h
  rw [if_pos hsz] at h
  obtain ⟨t12, h12, h⟩ := Option.bind_eq_some_iff.mp h
  by_cases ht12 : 0 ≤ t12 ∧ t12 < 4294967296
  case neg => rw [if_neg ht12] at h; cases h
  rw [if_pos ht12] at h
  obtain ⟨hl12, hu12⟩ := ht12
  obtain ⟨t14, h14, h⟩ := Option.bind_eq_some_iff.mp h
  have e14 := four_size h14
  cases h
  have H6 := Aside0.mk (fun w => veneerref04_four.calls _ t6 w h6)
  have H14 := Aside0.mk (fun w => veneerref04_four.calls _ t14 w h14)
  have hts : (t6 ++ a0).size = t6.size + a0.size := by simp
  have hsz2 : (t6 ++ a0).size ≤ 281474976710656 := by omega
  have HM := Aside0.mk (fun w => veneerref02_More.calls k 0 (some ⟨w.heap.size, 0, none⟩) (grownCap w (t6 ++ a0).size 0 5) (ints (t6 ++ a0)) t12 (Lib.bytesWorld w 5 (t6 ++ a0)) (bytes_read w _ (by omega)) (by rw [ints_length]; exact grownCap_ge _ _ _ _) h12)
  have hcb := fun (w : World) (s : ByteArray) => Lib.run_convert_string_bytes (P := Try.prog) w 9 22 5 s Try.underlying9 Try.underlying22 Try.underlying5
  have h14s : (t6 ++ a0).size + t14.size ≤ 281474976710660 := by omega
  have h14s2 : t6.size + a0.size + t14.size ≤ 281474976710660 := by omega
  clear h6 h12 h14 hts e14
  simp only [ints_length, ByteArray.size_append] at HM
  go_enter Try.func19, Try.ntmps19
  go_wp2_with (first | (go_at_call 25; refine (H6.out _).mono ?_; rintro e w1 ⟨rfl, hb1⟩; have HB1 := Aside0.mk hb1; clear hb1 H6) | (go_at_call 26; refine (HM.out _).mono ?_; rintro e w2 ⟨rfl, hd2⟩; have HB2 := Aside0.mk ((below_bytes HB1.out 5 (t6 ++ a0)).trans (hd2.below.mono (below_bytes HB1.out 5 (t6 ++ a0)).size)); clear hd2 HM HB1) | (go_at_call 25; refine (H14.out _).mono ?_; rintro e w3 ⟨rfl, hb3⟩; have HB3 := Aside0.mk (HB2.out.trans (hb3.mono HB2.out.size)); clear hb3 H14 HB2))
  go_ret
  exact ⟨rfl, HB3.out⟩
end Go.Proofs.Ytmceiepphhlncaa.Q
