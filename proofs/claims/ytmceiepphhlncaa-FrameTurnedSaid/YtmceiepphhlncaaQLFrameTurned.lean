/- The side of the machine, written by a program of this session (a scratch copy of the printer of the kit, turned): Lean functions with the answers of the Go functions, and the contracts that say so. No condition beyond what each theorem states. -/
import Derived.Test.YtmceiepphhlncaaQ0
import Derived.Test.YtmceiepphhlncaaQFrame
import Derived.Test.YtmceiepphhlncaaQWorks
import Derived.Test.YtmceiepphhlncaaQRead
namespace Go.Proofs.Ytmceiepphhlncaa.Q
open Go.RowKit Go.Proofs.YtmceiepphhlncaaW.PrintWords Go.Proofs.YtmceiepphhlncaaW.PrintLast Go.Proofs.YtmceiepphhlncaaW.PrintMore
attribute [local go_sem] max2_int min2_int max_two min_two max_three min_three max_four min_four   -- for this text's walks alone
set_option linter.unusedVariables false
set_option linter.unusedSimpArgs false

/-! ### veneerlaw04_FrameTurned: function 5 -/
mutual
def veneerlaw04_FrameTurned.j0 : Nat → List Int → Int → Int → List Int → Bool → Option (Bool)
  | 0, _, _, _, _, _ => none
  | k + 1, x0, x1, x2, x7, x33 => if x33 = true then (some false) else (if (wrap64 (8 * (wrap64 ((x7.length : Int) - 4)))) = 0 then (none) else ((some (([] : List Int) : List Int)).bind fun y127 => (if y127.length + x7.length < 140737488355328 then (veneerlaw04_FrameTurned.l0 k x0 x2 x7 (wrap64 (8 * (wrap64 ((x7.length : Int) - 4)))) (Int.tmod (wrap64 ((Int.tmod x1 (wrap64 (8 * (wrap64 ((x7.length : Int) - 4))))) + (wrap64 (8 * (wrap64 ((x7.length : Int) - 4)))))) (wrap64 (8 * (wrap64 ((x7.length : Int) - 4))))) (y127 ++ x7) false 0) else (none))))
def veneerlaw04_FrameTurned.l0 : Nat → List Int → Int → List Int → Int → Int → List Int → Bool → Int → Option (Bool)
  | 0, _, _, _, _, _, _, _, _ => none
  | k + 1, x0, x2, x7, x9, x10, x11, x12, x13 => if x13 < 32 then (veneerlaw04_FrameTurned.j2 k x0 x2 x7 x9 x10 x11 x12 x13 (decide ((wrap64 (x10 + x13)) < x9))) else (veneerlaw04_FrameTurned.j2 k x0 x2 x7 x9 x10 x11 x12 x13 false)
def veneerlaw04_FrameTurned.j2 : Nat → List Int → Int → List Int → Int → Int → List Int → Bool → Int → Bool → Option (Bool)
  | 0, _, _, _, _, _, _, _, _, _ => none
  | k + 1, x0, x2, x7, x9, x10, x11, x12, x13, x56 => if x56 = true then (if 0 ≤ (IntKind.u64.wrap (x13)) then (if (Go.bits .and .u32 (shr .u32 x2 (IntKind.u64.wrap (x13))) 1) = 1 then (if 0 ≤ (wrap64 (4 + (wrap64 (Int.tdiv (wrap64 (x10 + x13)) 8)))) then (if (wrap64 (4 + (wrap64 (Int.tdiv (wrap64 (x10 + x13)) 8)))) < (x11.length : Int) then (if 0 ≤ (IntKind.u64.wrap (Int.tmod (wrap64 (x10 + x13)) 8)) then (veneerlaw04_FrameTurned.l0 k x0 x2 x7 x9 x10 (x11.set ((wrap64 (4 + (wrap64 (Int.tdiv (wrap64 (x10 + x13)) 8)))) : Int).toNat (Go.bits .xor .u8 (rd x11 (wrap64 (4 + (wrap64 (Int.tdiv (wrap64 (x10 + x13)) 8))))) (shl .u8 1 (IntKind.u64.wrap (Int.tmod (wrap64 (x10 + x13)) 8))))) true (wrap64 (x13 + 1))) else (none)) else (none)) else (none)) else (veneerlaw04_FrameTurned.l0 k x0 x2 x7 x9 x10 x11 x12 (wrap64 (x13 + 1)))) else (none)) else ((frame_Read.f k x11).bind fun bt135 => (if x12 = true then (if bt135.2.2 = 6 then (if bt135.2.1 = 0 then (if (bt135.1.length : Int) = 0 then ((veneerlaw04_works.f k).bind fun t140 => (some t140)) else (some false)) else (some false)) else (some false)) else (if bt135.2.2 = 0 then (if bt135.2.1 = (x7.length : Int) then (if (strOfNums bt135.1).toList = (strOfNums x0).toList then ((veneerlaw04_works.f k).bind fun t141 => (some t141)) else (some false)) else (some false)) else (some false))))
end
def veneerlaw04_FrameTurned.f (k : Nat) (l0 : List Int) (a1 : Int) (a2 : Int) : Option (Bool) := (frame_Frame.f k l0).bind fun bt123 => (if bt123.2 = 0 then (veneerlaw04_FrameTurned.j0 k l0 a1 a2 bt123.1 (decide ((bt123.1.length : Int) < 8))) else (veneerlaw04_FrameTurned.j0 k l0 a1 a2 bt123.1 true))
theorem veneerlaw04_FrameTurned.mono_l : ∀ k, (∀ y0 y1 y2 y3 y4, LeO (veneerlaw04_FrameTurned.j0 k y0 y1 y2 y3 y4) (veneerlaw04_FrameTurned.j0 (k + 1) y0 y1 y2 y3 y4)) ∧ (∀ y0 y1 y2 y3 y4 y5 y6 y7, LeO (veneerlaw04_FrameTurned.l0 k y0 y1 y2 y3 y4 y5 y6 y7) (veneerlaw04_FrameTurned.l0 (k + 1) y0 y1 y2 y3 y4 y5 y6 y7)) ∧ (∀ y0 y1 y2 y3 y4 y5 y6 y7 y8, LeO (veneerlaw04_FrameTurned.j2 k y0 y1 y2 y3 y4 y5 y6 y7 y8) (veneerlaw04_FrameTurned.j2 (k + 1) y0 y1 y2 y3 y4 y5 y6 y7 y8))
  | 0 => ⟨fun _ _ _ _ _ r h => by simp [veneerlaw04_FrameTurned.j0] at h, fun _ _ _ _ _ _ _ _ r h => by simp [veneerlaw04_FrameTurned.l0] at h, fun _ _ _ _ _ _ _ _ _ r h => by simp [veneerlaw04_FrameTurned.j2] at h⟩
  | k + 1 => by
    obtain ⟨ih0, ih1, ih2⟩ := veneerlaw04_FrameTurned.mono_l k
    refine ⟨?_, ?_, ?_⟩
    · intro y0 y1 y2 y3 y4
      unfold veneerlaw04_FrameTurned.j0
      repeat' first
      | (with_reducible exact ih0 _ _ _ _ _)
      | (with_reducible exact ih1 _ _ _ _ _ _ _ _)
      | (with_reducible exact ih2 _ _ _ _ _ _ _ _ _)
      | (with_reducible exact frame_Frame.mono _ _)
      | (with_reducible exact frame_Read.mono _ _)
      | (with_reducible exact veneerlaw04_works.mono _)
      | (with_reducible exact LeO.refl _)
      | (with_reducible exact LeO.none _)
      | (with_reducible refine LeO.ite ?_ ?_)
      | (with_reducible refine LeO.bind ?_ (fun _ => ?_))
      | exact ih0 _ _ _ _ _
      | exact ih1 _ _ _ _ _ _ _ _
      | exact ih2 _ _ _ _ _ _ _ _ _
      | exact frame_Frame.mono _ _
      | exact frame_Read.mono _ _
      | exact veneerlaw04_works.mono _
      | exact LeO.none _
      | refine LeO.ite ?_ ?_
      | refine LeO.bind ?_ (fun _ => ?_)
    · intro y0 y1 y2 y3 y4 y5 y6 y7
      unfold veneerlaw04_FrameTurned.l0
      repeat' first
      | (with_reducible exact ih0 _ _ _ _ _)
      | (with_reducible exact ih1 _ _ _ _ _ _ _ _)
      | (with_reducible exact ih2 _ _ _ _ _ _ _ _ _)
      | (with_reducible exact frame_Frame.mono _ _)
      | (with_reducible exact frame_Read.mono _ _)
      | (with_reducible exact veneerlaw04_works.mono _)
      | (with_reducible exact LeO.refl _)
      | (with_reducible exact LeO.none _)
      | (with_reducible refine LeO.ite ?_ ?_)
      | (with_reducible refine LeO.bind ?_ (fun _ => ?_))
      | exact ih0 _ _ _ _ _
      | exact ih1 _ _ _ _ _ _ _ _
      | exact ih2 _ _ _ _ _ _ _ _ _
      | exact frame_Frame.mono _ _
      | exact frame_Read.mono _ _
      | exact veneerlaw04_works.mono _
      | exact LeO.none _
      | refine LeO.ite ?_ ?_
      | refine LeO.bind ?_ (fun _ => ?_)
    · intro y0 y1 y2 y3 y4 y5 y6 y7 y8
      unfold veneerlaw04_FrameTurned.j2
      repeat' first
      | (with_reducible exact ih0 _ _ _ _ _)
      | (with_reducible exact ih1 _ _ _ _ _ _ _ _)
      | (with_reducible exact ih2 _ _ _ _ _ _ _ _ _)
      | (with_reducible exact frame_Frame.mono _ _)
      | (with_reducible exact frame_Read.mono _ _)
      | (with_reducible exact veneerlaw04_works.mono _)
      | (with_reducible exact LeO.refl _)
      | (with_reducible exact LeO.none _)
      | (with_reducible refine LeO.ite ?_ ?_)
      | (with_reducible refine LeO.bind ?_ (fun _ => ?_))
      | exact ih0 _ _ _ _ _
      | exact ih1 _ _ _ _ _ _ _ _
      | exact ih2 _ _ _ _ _ _ _ _ _
      | exact frame_Frame.mono _ _
      | exact frame_Read.mono _ _
      | exact veneerlaw04_works.mono _
      | exact LeO.none _
      | refine LeO.ite ?_ ?_
      | refine LeO.bind ?_ (fun _ => ?_)
theorem veneerlaw04_FrameTurned.mono : ∀ a0 a1 a2 k, LeO (veneerlaw04_FrameTurned.f k a0 a1 a2) (veneerlaw04_FrameTurned.f (k + 1) a0 a1 a2) := by
  intro a0 a1 a2 k
  obtain ⟨ih0, ih1, ih2⟩ := veneerlaw04_FrameTurned.mono_l k
  unfold veneerlaw04_FrameTurned.f
  repeat' first
      | (with_reducible exact ih0 _ _ _ _ _)
      | (with_reducible exact ih1 _ _ _ _ _ _ _ _)
      | (with_reducible exact ih2 _ _ _ _ _ _ _ _ _)
      | (with_reducible exact frame_Frame.mono _ _)
      | (with_reducible exact frame_Read.mono _ _)
      | (with_reducible exact veneerlaw04_works.mono _)
      | (with_reducible exact LeO.refl _)
      | (with_reducible exact LeO.none _)
      | (with_reducible refine LeO.ite ?_ ?_)
      | (with_reducible refine LeO.bind ?_ (fun _ => ?_))
      | exact ih0 _ _ _ _ _
      | exact ih1 _ _ _ _ _ _ _ _
      | exact ih2 _ _ _ _ _ _ _ _ _
      | exact frame_Frame.mono _ _
      | exact frame_Read.mono _ _
      | exact veneerlaw04_works.mono _
      | exact LeO.none _
      | refine LeO.ite ?_ ?_
      | refine LeO.bind ?_ (fun _ => ?_)
set_option maxHeartbeats 8000000 in
set_option maxRecDepth 100000 in
theorem veneerlaw04_FrameTurned.calls (k : Nat) (A0 : Option Addr) (c0 : Nat) (L l0 : List Int) (hl0 : l0 = L.take 2000) (a1 : Int) (a2 : Int) (r : Bool) (w : World) (hR : Kd.C (Kd.int .u8) w A0 L.length L) (hC : L.length ≤ c0) (h : veneerlaw04_FrameTurned.f k l0 a1 a2 = some r) :
    Calls Try.prog 5 #[.slice A0 L.length c0, .int .i64 a1, .int .u32 a2] w fun e w' => e = .returned (.bool r) ∧ Below w.heap.size w w' := by
  have hlen : l0.length = min 2000 L.length := by rw [hl0, List.length_take]
  have hr0 : Kd.C (Kd.int .u8) w A0 l0.length l0 := by
    rw [hl0, List.length_take]
    have hq := Kd.C_take (m := min 2000 L.length) hR (by omega)
    rw [List.length_take, ← List.take_eq_take_min, show min (min 2000 L.length) L.length = min 2000 L.length by omega] at hq
    exact hq
  have hc0 : l0.length ≤ c0 := by omega
  have HLEN := Aside0.mk hlen
  have HCC := Aside0.mk hC
  clear hl0 hlen hR hC
  have HR0 := Aside0.mk hr0
  have HC0 := Aside0.mk hc0
  clear hr0 hc0
  have HB := Aside0.mk (Below.refl w.heap.size w)
  have H : ((frame_Frame.f k l0).bind fun bt123 => (if bt123.2 = 0 then (veneerlaw04_FrameTurned.j0 k l0 a1 a2 bt123.1 (decide ((bt123.1.length : Int) < 8))) else (veneerlaw04_FrameTurned.j0 k l0 a1 a2 bt123.1 true))) = some r := h
  clear h
  replace H := Option.bind_eq_some_iff.mp H
  obtain ⟨⟨t123, t124⟩, A40, H⟩ := H
  replace H : (if t124 = 0 then (veneerlaw04_FrameTurned.j0 k l0 a1 a2 t123 (decide ((t123.length : Int) < 8))) else (veneerlaw04_FrameTurned.j0 k l0 a1 a2 t123 true)) = some r := H
  have A4 := Aside0.mk A40
  clear A40
  have HC5 := Aside0.mk H
  clear H
  go_enter Try.func5, Try.ntmps5
  go_upto_if 19 with (fail)
  go_cut [0] (fun v0 wc => v0 = .slice A0 l0.length c0 ∧ w = wc)
  case first =>
    have hlen := HLEN.out
    have hC := HCC.out
    by_cases hL : 2000 < L.length
    · have d0 : decide (2000 < (L.length : Int)) = true := decide_eq_true (by omega)
      have d0n : decide (2000 < L.length) = true := decide_eq_true hL
      obtain ⟨i0, hi0, _, _, _⟩ := info_parts info5
      have hcut0 := cut_to (P := Try.prog) 22 5 .i64 Try.underlying22 hi0 A0 L.length c0 2000 (by decide) (by omega) hC
      have HE := Aside0.mk (show l0.length = 2000 by omega)
      clear hlen hC
      go_wp2
      go_meet
      case rel => exact ⟨by rw [HE.out], rfl⟩
    · have d0 : decide (2000 < (L.length : Int)) = false := decide_eq_false (by omega)
      have d0n : decide (2000 < L.length) = false := decide_eq_false hL
      have HE := Aside0.mk (show l0.length = L.length by omega)
      clear hlen hC
      go_wp2
      go_meet
      case rel => exact ⟨by rw [HE.out], rfl⟩
  obtain ⟨hv0, hwc⟩ := hcut
  subst hv0
  subst hwc
  go_upto_region 4 with (first | ((with_reducible refine gate_callee (f := 9) rfl ?_); refine goesL_ (some 24) rfl rfl Try.func9 (by kernel_rfl) rfl #[.slice A0 l0.length c0] rfl (by (try simp only [List.map_toArray, List.map_cons, List.map_nil]); first | done | rfl | (simp only [List.length_drop, List.length_take]; rfl)) ?_; (with_reducible refine (frame_Frame.calls k _ _ l0 t123 t124 _ ?side1 ?side2 A4.out).mono ?_); (case side1 => repeat (first | exact HR0.out | (with_reducible refine Kd.C_alloc ?_ _) | (with_reducible refine Kd.C_drewN ?_ _) | (with_reducible refine Kd.C_drew ?_))); (case side2 => exact HC0.out); rintro e w6 ⟨v125, rfl, ho0, hb⟩; refine ⟨_, rfl, ?_⟩; have n0_ := Aside0.mk (Kd.R_lower ho0 (below_size (by repeat (first | (with_reducible first | exact HB.out | apply below_alloc | apply pw_below_drewN | apply below_drew1) | exact HB.out)))); have n1_ := Aside0.mk (below_step (by repeat (first | (with_reducible first | exact HB.out | apply below_alloc | apply pw_below_drewN | apply below_drew1) | exact HB.out)) hb); clear HB; have HO126 := n0_; have HB := n1_; clear n0_ n1_; (try clear hb); (try clear hb2); (try clear hk); (try clear hi); (try clear ho0)))
  (try simp only [Act.put, List.setIfInBounds_toArray, List.set_cons_zero, List.set_cons_succ])
  go_cut [33] (fun v33 wc => ∃ (kq : Nat) (x33_4 : Bool), v33 = .bool x33_4 ∧ Aside0 (veneerlaw04_FrameTurned.j0 kq l0 a1 a2 t123 x33_4 = some r) ∧ Aside0 (kq ≤ k) ∧ Aside0 (Kd.R (Kd.int .u8) 5 wc w.heap.size (fun _ => True) v125 t123) ∧ Aside0 (Below w.heap.size w wc))
  case first =>
    have H := HC5.out
    clear HC5
    by_cases c7 : t124 = 0
    · rw [if_pos c7] at H
      have c7b0 : (t124 == 0) = true := beq_iff_eq.mpr c7
      have c7b1 : (t124 != 0) = false := bne_eq_false_iff_eq.mpr c7
      clear c7
      (first | rw [c7b0] | (simp only [i64_w, i32_w]; rw [c7b0]) | skip)
      have H' := Aside0.mk H
      clear H
      obtain ⟨Ao8, co8, eo8⟩ := Kd.R_slice HO126.out
      subst eo8
      go_wp2
      go_meet
      case rel => exact ⟨_, (decide ((t123.length : Int) < 8)), (by first | rfl | (simp; done) | (simp [*]; done)), H', ⟨by first | omega | exact Nat.le_refl _⟩, ⟨by (with_reducible repeat (first | apply Kd.R_alloc | apply Kd.R_drewN | apply Kd.R_drew)); exact HO126.out⟩, ⟨by repeat (first | (with_reducible first | exact HB.out | apply below_alloc | apply pw_below_drewN | apply below_drew1) | exact HB.out)⟩⟩
    · rw [if_neg c7] at H
      have c7b0 : (t124 == 0) = false := beq_eq_false_iff_ne.mpr c7
      have c7b1 : (t124 != 0) = true := bne_iff_ne.mpr c7
      (first | rw [c7b0] | (simp only [i64_w, i32_w]; rw [c7b0]) | skip)
      have H' := Aside0.mk H
      clear H
      go_wp2
      go_meet
      case rel => exact ⟨_, (true), (by first | rfl | (simp; done) | (simp [*]; done)), H', ⟨by first | omega | exact Nat.le_refl _⟩, ⟨by (with_reducible repeat (first | apply Kd.R_alloc | apply Kd.R_drewN | apply Kd.R_drew)); exact HO126.out⟩, ⟨by repeat (first | (with_reducible first | exact HB.out | apply below_alloc | apply pw_below_drewN | apply below_drew1) | exact HB.out)⟩⟩
  case rest =>
    clear HC5
    try clear p2
    try clear c5
    try clear c7
    try clear c7b0
    try clear c7b1
    obtain ⟨kq, x33_4, rfl, HA, HJ4, HO_7, HB⟩ := hcut
    cases kq with
    | zero => exact absurd HA.out (by simp [veneerlaw04_FrameTurned.j0])
    | succ kj4 =>
      have H := HA.out
      clear HA
      simp only [veneerlaw04_FrameTurned.j0] at H
      by_cases c9 : x33_4 = true
      · subst c9
        have H1 : (some false) = some r := by rw [if_pos rfl] at H; exact H
        clear H
        have H := H1
        clear H1
        obtain rfl := Option.some.inj H
        go_wp2
        go_ret
        exact ⟨by first | rfl | (simp [errW_none, errW_some] <;> rfl) | (simp [*, errW_none, errW_some] <;> rfl), by repeat (first | (with_reducible first | exact HB.out | apply below_alloc | apply pw_below_drewN | apply below_drew1) | exact HB.out)⟩
      · replace c9 := Bool.eq_false_iff.mpr c9
        subst c9
        have H1 : (if (wrap64 (8 * (wrap64 ((t123.length : Int) - 4)))) = 0 then (none) else ((some (([] : List Int) : List Int)).bind fun y127 => (if y127.length + t123.length < 140737488355328 then (veneerlaw04_FrameTurned.l0 kj4 l0 a2 t123 (wrap64 (8 * (wrap64 ((t123.length : Int) - 4)))) (Int.tmod (wrap64 ((Int.tmod a1 (wrap64 (8 * (wrap64 ((t123.length : Int) - 4))))) + (wrap64 (8 * (wrap64 ((t123.length : Int) - 4)))))) (wrap64 (8 * (wrap64 ((t123.length : Int) - 4))))) (y127 ++ t123) false 0) else (none)))) = some r := by rw [if_neg (show ¬ (false = true) by decide)] at H; exact H
        clear H
        have H := H1
        clear H1
        by_cases c10 : (wrap64 (8 * (wrap64 ((t123.length : Int) - 4)))) = 0
        · rw [if_pos c10] at H
          exact absurd H (by simp)
        · rw [if_neg c10] at H
          have c10b0 : ((wrap64 (8 * (wrap64 ((t123.length : Int) - 4)))) == 0) = false := beq_eq_false_iff_ne.mpr c10
          have c10b1 : ((wrap64 (8 * (wrap64 ((t123.length : Int) - 4)))) != 0) = true := bne_iff_ne.mpr c10
          obtain ⟨y127, hy127⟩ : ∃ y_ : List Int, y_ = (([] : List Int)) := ⟨_, rfl⟩
          replace H : (if y127.length + t123.length < 140737488355328 then (veneerlaw04_FrameTurned.l0 kj4 l0 a2 t123 (wrap64 (8 * (wrap64 ((t123.length : Int) - 4)))) (Int.tmod (wrap64 ((Int.tmod a1 (wrap64 (8 * (wrap64 ((t123.length : Int) - 4))))) + (wrap64 (8 * (wrap64 ((t123.length : Int) - 4)))))) (wrap64 (8 * (wrap64 ((t123.length : Int) - 4))))) (y127 ++ t123) false 0) else (none)) = some r := by first | (rw [hy127]; with_reducible exact H) | (have H2_ := (Option.bind_some _ _).symm.trans H; rw [hy127]; with_reducible exact H2_) | (have H2_ := (Option.bind_some _ _).symm.trans H; with_reducible exact H2_) | with_reducible exact H | (rw [hy127]; exact H) | exact H
          have Ny127 := Aside0.mk hy127
          clear hy127
          by_cases c11 : y127.length + t123.length < 140737488355328
          · rw [if_pos c11] at H
            have LMc11 := Aside0.mk c11
            clear c11
            obtain ⟨y130, hy130⟩ : ∃ y_ : List Int, y_ = (y127 ++ t123) := ⟨_, rfl⟩
            replace H : (veneerlaw04_FrameTurned.l0 kj4 l0 a2 t123 (wrap64 (8 * (wrap64 ((t123.length : Int) - 4)))) (Int.tmod (wrap64 ((Int.tmod a1 (wrap64 (8 * (wrap64 ((t123.length : Int) - 4))))) + (wrap64 (8 * (wrap64 ((t123.length : Int) - 4)))))) (wrap64 (8 * (wrap64 ((t123.length : Int) - 4))))) y130 false 0) = some r := by first | (rw [hy130]; with_reducible exact H) | (have H2_ := (Option.bind_some _ _).symm.trans H; rw [hy130]; with_reducible exact H2_) | (have H2_ := (Option.bind_some _ _).symm.trans H; with_reducible exact H2_) | with_reducible exact H | (rw [hy130]; exact H) | exact H
            have Ny130 := Aside0.mk hy130
            clear hy130
            have H' := Aside0.mk H
            clear H
            obtain ⟨Ao12, co12, eo12⟩ := Kd.R_slice HO_7.out
            subst eo12
            go_wp2_with (first | ((with_reducible refine gate_dst (N := 45) rfl ?_); (try (refine gate_guard (by rfl) ?_; dsimp only)); refine Kd.R_lit (Kd.int .u8) _ 5 ?hg (N := 45) ?hd (xs := ([] : List Int)) (inner := []) (ok := fun _ => True) (okp := fun _ => True) ?hr ?hp (fun _ hk => hk) trivial (Below.refl _ _) (Nat.le_refl _) (by simp) ?_; (case hd => rfl); (case hg => rfl); (case hr => first | (go_simp; done) | (go_simp; rfl)); (case hp => exact (Reps.none _ _)); intro v128 w13 ho14 hb hg_ hnew_; clear hg_ hnew_; (first | rw [← Ny127.out] at ho14 | (simp only [Int.reduceToNat] at ho14; rw [← Ny127.out] at ho14)); have n0_ := Aside0.mk (Kd.R_elder' (by (with_reducible repeat (first | apply Kd.R_alloc | apply Kd.R_drewN | apply Kd.R_drew)); exact HO_7.out) (Kd.R_base ho14) hb); have n1_ := Aside0.mk (Kd.R_lower (Kd.R_new' ho14 (Kd.R_lt (by (with_reducible repeat (first | apply Kd.R_alloc | apply Kd.R_drewN | apply Kd.R_drew)); exact HO_7.out))) (below_size (by repeat (first | (with_reducible first | exact HB.out | apply below_alloc | apply pw_below_drewN | apply below_drew1) | exact HB.out)))); have n2_ := Aside0.mk (below_step (by repeat (first | (with_reducible first | exact HB.out | apply below_alloc | apply pw_below_drewN | apply below_drew1) | exact HB.out)) hb); clear HO_7; clear HB; have HO_7 := n0_; have HO129 := n1_; have HB := n2_; clear n0_ n1_ n2_; clear hb ho14) | ((with_reducible refine gate_builtin (b := .append) (xs := #[.tmp 45, .tmp 46]) rfl ?_); (try (refine gate_guard (by rfl) ?_; dsimp only)); at_builtin; refine Kd.R_append_rows (Kd.int .u8) (w0 := w) w.heap.size rfl (.tmp 45) (.tmp 46) 22 5 (.int .u8 0) 1 rfl Try.underlying22 info5 rfl (by decide) (by omega) v128 y127 t123 _ _ _ (fun k_ => some k_ ≠ (.slice Ao12 t123.length co12 : Value).ownBlock) (fun _ => False) rfl rfl ?aO ?aR (fun _ _ h => h) (fun _ h => h.elim) ?aF ?aB ?aS ?aL ?_; (case aR => repeat (first | exact (Kd.R_reads' HO_7.out).2.2 | (with_reducible refine Kd.C_alloc ?_ _) | (with_reducible refine Kd.C_drewN ?_ _) | (with_reducible refine Kd.C_drew ?_))); (case aB => exact (by repeat (first | (with_reducible first | exact HB.out | apply below_alloc | apply pw_below_drewN | apply below_drew1) | exact HB.out))); (case aF => exact (fun k_ hk => Kd.fresh' (Kd.R_lt (by (with_reducible repeat (first | apply Kd.R_alloc | apply Kd.R_drewN | apply Kd.R_drew)); exact HO_7.out)) k_ hk)); (case aO => exact (by (with_reducible repeat (first | apply Kd.R_alloc | apply Kd.R_drewN | apply Kd.R_drew)); exact Kd.R_mono HO129.out (fun _ hk => hk.2))); (case aS => exact (below_size (by repeat (first | (with_reducible first | exact HB.out | apply below_alloc | apply pw_below_drewN | apply below_drew1) | exact HB.out)))); (case aL => have := LMc11.out; omega); intro v131 w15 ho hb hg hat; rw [← Ny130.out] at ho; have n0_ := Aside0.mk (Kd.R_after (ok := (fun _ => True)) (by (with_reducible repeat (first | apply Kd.R_alloc | apply Kd.R_drewN | apply Kd.R_drew)); exact HO_7.out) hg hat); have n1_ := Aside0.mk (hb); have n2_ := Aside0.mk (ho); clear HO_7; clear HB; clear HO129; have HO_7 := n0_; have HB := n1_; have HO132 := n2_; clear n0_ n1_ n2_; clear ho hb hg hat))
            go_loopg [12, 13] kj4 (fun kq v12 v13 w' => ∃ (x11_2 : List Int) (x12_2 : Bool) (x13_2 : Int), v12 = .bool x12_2 ∧ v13 = .int .i64 x13_2 ∧ Aside0 (veneerlaw04_FrameTurned.l0 kq l0 a2 t123 (wrap64 (8 * (wrap64 ((t123.length : Int) - 4)))) (Int.tmod (wrap64 ((Int.tmod a1 (wrap64 (8 * (wrap64 ((t123.length : Int) - 4))))) + (wrap64 (8 * (wrap64 ((t123.length : Int) - 4)))))) (wrap64 (8 * (wrap64 ((t123.length : Int) - 4))))) x11_2 x12_2 x13_2 = some r) ∧ Aside0 (kq ≤ kj4) ∧ Aside0 (Kd.R (Kd.int .u8) 5 w' w.heap.size (fun k_ => some k_ ≠ (v131 : Value).ownBlock) (.slice Ao12 t123.length co12) t123) ∧ Aside0 (Kd.R (Kd.int .u8) 5 w' w.heap.size (fun k_ => some k_ ≠ ((.slice Ao12 t123.length co12) : Value).ownBlock) v131 x11_2) ∧ Aside0 (Below w.heap.size w w'))
            case atStart => exact ⟨(y130), (false), (0), (by first | rfl | (simp; done) | (simp [*]; done)), (by first | rfl | (simp; done) | (simp [*]; done)), H', ⟨Nat.le_refl _⟩, ⟨by (with_reducible repeat (first | apply Kd.R_alloc | apply Kd.R_drewN | apply Kd.R_drew)); exact Kd.R_mono HO_7.out (fun _ hk => hk.2)⟩, ⟨by (with_reducible repeat (first | apply Kd.R_alloc | apply Kd.R_drewN | apply Kd.R_drew)); exact HO132.out⟩, ⟨by repeat (first | (with_reducible first | exact HB.out | apply below_alloc | apply pw_below_drewN | apply below_drew1) | exact HB.out)⟩⟩
            case round =>
              clear H'
              try clear c1
              try clear p2
              try clear c5
              try clear p6
              try clear c7
              try clear c7b0
              try clear c7b1
              try clear c9
              try clear c10
              try clear c10b0
              try clear c10b1
              try clear c11
              try clear p2
              obtain ⟨x11_2, x12_2, x13_2, rfl, rfl, HA, HK2, HO_7, HO_11, HB⟩ := hrel
              cases gk with
              | zero => exact absurd HA.out (by simp [veneerlaw04_FrameTurned.l0])
              | succ k2 =>
                have H := HA.out
                clear HA
                simp only [veneerlaw04_FrameTurned.l0] at H
                have HC16 := Aside0.mk H
                clear H
                go_upto_region 11 with (fail)
                go_cut [56] (fun v56 wc => ∃ (kq : Nat) (x56_15 : Bool), v56 = .bool x56_15 ∧ Aside0 (veneerlaw04_FrameTurned.j2 kq l0 a2 t123 (wrap64 (8 * (wrap64 ((t123.length : Int) - 4)))) (Int.tmod (wrap64 ((Int.tmod a1 (wrap64 (8 * (wrap64 ((t123.length : Int) - 4))))) + (wrap64 (8 * (wrap64 ((t123.length : Int) - 4)))))) (wrap64 (8 * (wrap64 ((t123.length : Int) - 4))))) x11_2 x12_2 x13_2 x56_15 = some r) ∧ Aside0 (kq ≤ k2) ∧ Aside0 (Kd.R (Kd.int .u8) 5 wc w.heap.size (fun k_ => some k_ ≠ (v131 : Value).ownBlock) (.slice Ao12 t123.length co12) t123) ∧ Aside0 (Kd.R (Kd.int .u8) 5 wc w.heap.size (fun k_ => some k_ ≠ ((.slice Ao12 t123.length co12) : Value).ownBlock) v131 x11_2) ∧ Aside0 (Below w.heap.size w wc))
                case first =>
                  have H := HC16.out
                  clear HC16
                  by_cases c17 : x13_2 < 32
                  · rw [if_pos c17] at H
                    have c17b0 : decide (x13_2 < 32) = true := decide_eq_true c17
                    clear c17
                    (first | rw [c17b0] | (simp only [i64_w, i32_w]; rw [c17b0]) | skip)
                    have H' := Aside0.mk H
                    clear H
                    go_wp2
                    go_meet
                    case rel => exact ⟨_, (decide ((wrap64 ((Int.tmod (wrap64 ((Int.tmod a1 (wrap64 (8 * (wrap64 ((t123.length : Int) - 4))))) + (wrap64 (8 * (wrap64 ((t123.length : Int) - 4)))))) (wrap64 (8 * (wrap64 ((t123.length : Int) - 4))))) + x13_2)) < (wrap64 (8 * (wrap64 ((t123.length : Int) - 4)))))), (by first | rfl | (simp; done) | (simp [*]; done)), H', ⟨by have := HJ4.out; have := HK2.out; first | omega | exact Nat.le_refl _⟩, ⟨by (with_reducible repeat (first | apply Kd.R_alloc | apply Kd.R_drewN | apply Kd.R_drew)); exact HO_7.out⟩, ⟨by (with_reducible repeat (first | apply Kd.R_alloc | apply Kd.R_drewN | apply Kd.R_drew)); exact HO_11.out⟩, ⟨by repeat (first | (with_reducible first | exact HB.out | apply below_alloc | apply pw_below_drewN | apply below_drew1) | exact HB.out)⟩⟩
                  · rw [if_neg c17] at H
                    have c17b0 : decide (x13_2 < 32) = false := decide_eq_false c17
                    clear c17
                    (first | rw [c17b0] | (simp only [i64_w, i32_w]; rw [c17b0]) | skip)
                    have H' := Aside0.mk H
                    clear H
                    go_wp2
                    go_meet
                    case rel => exact ⟨_, (false), (by first | rfl | (simp; done) | (simp [*]; done)), H', ⟨by have := HJ4.out; have := HK2.out; first | omega | exact Nat.le_refl _⟩, ⟨by (with_reducible repeat (first | apply Kd.R_alloc | apply Kd.R_drewN | apply Kd.R_drew)); exact HO_7.out⟩, ⟨by (with_reducible repeat (first | apply Kd.R_alloc | apply Kd.R_drewN | apply Kd.R_drew)); exact HO_11.out⟩, ⟨by repeat (first | (with_reducible first | exact HB.out | apply below_alloc | apply pw_below_drewN | apply below_drew1) | exact HB.out)⟩⟩
                case rest =>
                  clear HC16
                  try clear c1
                  try clear p2
                  try clear c5
                  try clear p6
                  try clear c7
                  try clear c7b0
                  try clear c7b1
                  try clear c9
                  try clear c10
                  try clear c10b0
                  try clear c10b1
                  try clear c11
                  try clear c17
                  try clear c17b0
                  try clear p2
                  try clear p6
                  obtain ⟨kq, x56_15, rfl, HA, HJ15, HO_7, HO_11, HB⟩ := hcut
                  cases kq with
                  | zero => exact absurd HA.out (by simp [veneerlaw04_FrameTurned.j2])
                  | succ kj15 =>
                    have H := HA.out
                    clear HA
                    simp only [veneerlaw04_FrameTurned.j2] at H
                    by_cases c18 : x56_15 = true
                    · subst c18
                      have H1 : (if 0 ≤ (IntKind.u64.wrap (x13_2)) then (if (Go.bits .and .u32 (shr .u32 a2 (IntKind.u64.wrap (x13_2))) 1) = 1 then (if 0 ≤ (wrap64 (4 + (wrap64 (Int.tdiv (wrap64 ((Int.tmod (wrap64 ((Int.tmod a1 (wrap64 (8 * (wrap64 ((t123.length : Int) - 4))))) + (wrap64 (8 * (wrap64 ((t123.length : Int) - 4)))))) (wrap64 (8 * (wrap64 ((t123.length : Int) - 4))))) + x13_2)) 8)))) then (if (wrap64 (4 + (wrap64 (Int.tdiv (wrap64 ((Int.tmod (wrap64 ((Int.tmod a1 (wrap64 (8 * (wrap64 ((t123.length : Int) - 4))))) + (wrap64 (8 * (wrap64 ((t123.length : Int) - 4)))))) (wrap64 (8 * (wrap64 ((t123.length : Int) - 4))))) + x13_2)) 8)))) < (x11_2.length : Int) then (if 0 ≤ (IntKind.u64.wrap (Int.tmod (wrap64 ((Int.tmod (wrap64 ((Int.tmod a1 (wrap64 (8 * (wrap64 ((t123.length : Int) - 4))))) + (wrap64 (8 * (wrap64 ((t123.length : Int) - 4)))))) (wrap64 (8 * (wrap64 ((t123.length : Int) - 4))))) + x13_2)) 8)) then (veneerlaw04_FrameTurned.l0 kj15 l0 a2 t123 (wrap64 (8 * (wrap64 ((t123.length : Int) - 4)))) (Int.tmod (wrap64 ((Int.tmod a1 (wrap64 (8 * (wrap64 ((t123.length : Int) - 4))))) + (wrap64 (8 * (wrap64 ((t123.length : Int) - 4)))))) (wrap64 (8 * (wrap64 ((t123.length : Int) - 4))))) (x11_2.set ((wrap64 (4 + (wrap64 (Int.tdiv (wrap64 ((Int.tmod (wrap64 ((Int.tmod a1 (wrap64 (8 * (wrap64 ((t123.length : Int) - 4))))) + (wrap64 (8 * (wrap64 ((t123.length : Int) - 4)))))) (wrap64 (8 * (wrap64 ((t123.length : Int) - 4))))) + x13_2)) 8)))) : Int).toNat (Go.bits .xor .u8 (rd x11_2 (wrap64 (4 + (wrap64 (Int.tdiv (wrap64 ((Int.tmod (wrap64 ((Int.tmod a1 (wrap64 (8 * (wrap64 ((t123.length : Int) - 4))))) + (wrap64 (8 * (wrap64 ((t123.length : Int) - 4)))))) (wrap64 (8 * (wrap64 ((t123.length : Int) - 4))))) + x13_2)) 8))))) (shl .u8 1 (IntKind.u64.wrap (Int.tmod (wrap64 ((Int.tmod (wrap64 ((Int.tmod a1 (wrap64 (8 * (wrap64 ((t123.length : Int) - 4))))) + (wrap64 (8 * (wrap64 ((t123.length : Int) - 4)))))) (wrap64 (8 * (wrap64 ((t123.length : Int) - 4))))) + x13_2)) 8))))) true (wrap64 (x13_2 + 1))) else (none)) else (none)) else (none)) else (veneerlaw04_FrameTurned.l0 kj15 l0 a2 t123 (wrap64 (8 * (wrap64 ((t123.length : Int) - 4)))) (Int.tmod (wrap64 ((Int.tmod a1 (wrap64 (8 * (wrap64 ((t123.length : Int) - 4))))) + (wrap64 (8 * (wrap64 ((t123.length : Int) - 4)))))) (wrap64 (8 * (wrap64 ((t123.length : Int) - 4))))) x11_2 x12_2 (wrap64 (x13_2 + 1)))) else (none)) = some r := by rw [if_pos rfl] at H; exact H
                      clear H
                      have H := H1
                      clear H1
                      obtain ⟨ji19, hji19⟩ : ∃ j_ : Int, (IntKind.u64.wrap (x13_2)) = j_ := ⟨_, rfl⟩
                      replace H : (if 0 ≤ (ji19) then (if (Go.bits .and .u32 (shr .u32 a2 (ji19)) 1) = 1 then (if 0 ≤ (wrap64 (4 + (wrap64 (Int.tdiv (wrap64 ((Int.tmod (wrap64 ((Int.tmod a1 (wrap64 (8 * (wrap64 ((t123.length : Int) - 4))))) + (wrap64 (8 * (wrap64 ((t123.length : Int) - 4)))))) (wrap64 (8 * (wrap64 ((t123.length : Int) - 4))))) + x13_2)) 8)))) then (if (wrap64 (4 + (wrap64 (Int.tdiv (wrap64 ((Int.tmod (wrap64 ((Int.tmod a1 (wrap64 (8 * (wrap64 ((t123.length : Int) - 4))))) + (wrap64 (8 * (wrap64 ((t123.length : Int) - 4)))))) (wrap64 (8 * (wrap64 ((t123.length : Int) - 4))))) + x13_2)) 8)))) < (x11_2.length : Int) then (if 0 ≤ (IntKind.u64.wrap (Int.tmod (wrap64 ((Int.tmod (wrap64 ((Int.tmod a1 (wrap64 (8 * (wrap64 ((t123.length : Int) - 4))))) + (wrap64 (8 * (wrap64 ((t123.length : Int) - 4)))))) (wrap64 (8 * (wrap64 ((t123.length : Int) - 4))))) + x13_2)) 8)) then (veneerlaw04_FrameTurned.l0 kj15 l0 a2 t123 (wrap64 (8 * (wrap64 ((t123.length : Int) - 4)))) (Int.tmod (wrap64 ((Int.tmod a1 (wrap64 (8 * (wrap64 ((t123.length : Int) - 4))))) + (wrap64 (8 * (wrap64 ((t123.length : Int) - 4)))))) (wrap64 (8 * (wrap64 ((t123.length : Int) - 4))))) (x11_2.set ((wrap64 (4 + (wrap64 (Int.tdiv (wrap64 ((Int.tmod (wrap64 ((Int.tmod a1 (wrap64 (8 * (wrap64 ((t123.length : Int) - 4))))) + (wrap64 (8 * (wrap64 ((t123.length : Int) - 4)))))) (wrap64 (8 * (wrap64 ((t123.length : Int) - 4))))) + x13_2)) 8)))) : Int).toNat (Go.bits .xor .u8 (rd x11_2 (wrap64 (4 + (wrap64 (Int.tdiv (wrap64 ((Int.tmod (wrap64 ((Int.tmod a1 (wrap64 (8 * (wrap64 ((t123.length : Int) - 4))))) + (wrap64 (8 * (wrap64 ((t123.length : Int) - 4)))))) (wrap64 (8 * (wrap64 ((t123.length : Int) - 4))))) + x13_2)) 8))))) (shl .u8 1 (IntKind.u64.wrap (Int.tmod (wrap64 ((Int.tmod (wrap64 ((Int.tmod a1 (wrap64 (8 * (wrap64 ((t123.length : Int) - 4))))) + (wrap64 (8 * (wrap64 ((t123.length : Int) - 4)))))) (wrap64 (8 * (wrap64 ((t123.length : Int) - 4))))) + x13_2)) 8))))) true (wrap64 (x13_2 + 1))) else (none)) else (none)) else (none)) else (veneerlaw04_FrameTurned.l0 kj15 l0 a2 t123 (wrap64 (8 * (wrap64 ((t123.length : Int) - 4)))) (Int.tmod (wrap64 ((Int.tmod a1 (wrap64 (8 * (wrap64 ((t123.length : Int) - 4))))) + (wrap64 (8 * (wrap64 ((t123.length : Int) - 4)))))) (wrap64 (8 * (wrap64 ((t123.length : Int) - 4))))) x11_2 x12_2 (wrap64 (x13_2 + 1)))) else (none)) = some r := by first | (rw [hji19] at H; exact H) | (simp only [hji19] at H ⊢; exact H)
                      by_cases c20 : 0 ≤ (ji19)
                      · rw [if_pos c20] at H
                        have c20b0 := eq_true c20
                        have c20b1 : decide (0 ≤ (ji19)) = true := decide_eq_true c20
                        clear c20
                        obtain ⟨ji21, hji21⟩ : ∃ j_ : Int, (shr .u32 a2 (ji19)) = j_ := ⟨_, rfl⟩
                        replace H : (if (Go.bits .and .u32 (ji21) 1) = 1 then (if 0 ≤ (wrap64 (4 + (wrap64 (Int.tdiv (wrap64 ((Int.tmod (wrap64 ((Int.tmod a1 (wrap64 (8 * (wrap64 ((t123.length : Int) - 4))))) + (wrap64 (8 * (wrap64 ((t123.length : Int) - 4)))))) (wrap64 (8 * (wrap64 ((t123.length : Int) - 4))))) + x13_2)) 8)))) then (if (wrap64 (4 + (wrap64 (Int.tdiv (wrap64 ((Int.tmod (wrap64 ((Int.tmod a1 (wrap64 (8 * (wrap64 ((t123.length : Int) - 4))))) + (wrap64 (8 * (wrap64 ((t123.length : Int) - 4)))))) (wrap64 (8 * (wrap64 ((t123.length : Int) - 4))))) + x13_2)) 8)))) < (x11_2.length : Int) then (if 0 ≤ (IntKind.u64.wrap (Int.tmod (wrap64 ((Int.tmod (wrap64 ((Int.tmod a1 (wrap64 (8 * (wrap64 ((t123.length : Int) - 4))))) + (wrap64 (8 * (wrap64 ((t123.length : Int) - 4)))))) (wrap64 (8 * (wrap64 ((t123.length : Int) - 4))))) + x13_2)) 8)) then (veneerlaw04_FrameTurned.l0 kj15 l0 a2 t123 (wrap64 (8 * (wrap64 ((t123.length : Int) - 4)))) (Int.tmod (wrap64 ((Int.tmod a1 (wrap64 (8 * (wrap64 ((t123.length : Int) - 4))))) + (wrap64 (8 * (wrap64 ((t123.length : Int) - 4)))))) (wrap64 (8 * (wrap64 ((t123.length : Int) - 4))))) (x11_2.set ((wrap64 (4 + (wrap64 (Int.tdiv (wrap64 ((Int.tmod (wrap64 ((Int.tmod a1 (wrap64 (8 * (wrap64 ((t123.length : Int) - 4))))) + (wrap64 (8 * (wrap64 ((t123.length : Int) - 4)))))) (wrap64 (8 * (wrap64 ((t123.length : Int) - 4))))) + x13_2)) 8)))) : Int).toNat (Go.bits .xor .u8 (rd x11_2 (wrap64 (4 + (wrap64 (Int.tdiv (wrap64 ((Int.tmod (wrap64 ((Int.tmod a1 (wrap64 (8 * (wrap64 ((t123.length : Int) - 4))))) + (wrap64 (8 * (wrap64 ((t123.length : Int) - 4)))))) (wrap64 (8 * (wrap64 ((t123.length : Int) - 4))))) + x13_2)) 8))))) (shl .u8 1 (IntKind.u64.wrap (Int.tmod (wrap64 ((Int.tmod (wrap64 ((Int.tmod a1 (wrap64 (8 * (wrap64 ((t123.length : Int) - 4))))) + (wrap64 (8 * (wrap64 ((t123.length : Int) - 4)))))) (wrap64 (8 * (wrap64 ((t123.length : Int) - 4))))) + x13_2)) 8))))) true (wrap64 (x13_2 + 1))) else (none)) else (none)) else (none)) else (veneerlaw04_FrameTurned.l0 kj15 l0 a2 t123 (wrap64 (8 * (wrap64 ((t123.length : Int) - 4)))) (Int.tmod (wrap64 ((Int.tmod a1 (wrap64 (8 * (wrap64 ((t123.length : Int) - 4))))) + (wrap64 (8 * (wrap64 ((t123.length : Int) - 4)))))) (wrap64 (8 * (wrap64 ((t123.length : Int) - 4))))) x11_2 x12_2 (wrap64 (x13_2 + 1)))) = some r := by first | (rw [hji21] at H; exact H) | (simp only [hji21] at H ⊢; exact H)
                        have hji21_ : (a2 / 2 ^ min (ji19).toNat 32) = ji21 := hji21
                        have hji21z : (ji19) ≤ 32 → (a2 / 2 ^ (ji19).toNat) = ji21 := shr_small hji21
                        by_cases c22 : (Go.bits .and .u32 (ji21) 1) = 1
                        · rw [if_pos c22] at H
                          have c22b0 : ((Go.bits .and .u32 (ji21) 1) == 1) = true := beq_iff_eq.mpr c22
                          have c22b1 : ((Go.bits .and .u32 (ji21) 1) != 1) = false := bne_eq_false_iff_eq.mpr c22
                          clear c22
                          obtain ⟨ji23, hji23⟩ : ∃ j_ : Int, (wrap64 (4 + (wrap64 (Int.tdiv (wrap64 ((Int.tmod (wrap64 ((Int.tmod a1 (wrap64 (8 * (wrap64 ((t123.length : Int) - 4))))) + (wrap64 (8 * (wrap64 ((t123.length : Int) - 4)))))) (wrap64 (8 * (wrap64 ((t123.length : Int) - 4))))) + x13_2)) 8)))) = j_ := ⟨_, rfl⟩
                          replace H : (if 0 ≤ (ji23) then (if (ji23) < (x11_2.length : Int) then (if 0 ≤ (IntKind.u64.wrap (Int.tmod (wrap64 ((Int.tmod (wrap64 ((Int.tmod a1 (wrap64 (8 * (wrap64 ((t123.length : Int) - 4))))) + (wrap64 (8 * (wrap64 ((t123.length : Int) - 4)))))) (wrap64 (8 * (wrap64 ((t123.length : Int) - 4))))) + x13_2)) 8)) then (veneerlaw04_FrameTurned.l0 kj15 l0 a2 t123 (wrap64 (8 * (wrap64 ((t123.length : Int) - 4)))) (Int.tmod (wrap64 ((Int.tmod a1 (wrap64 (8 * (wrap64 ((t123.length : Int) - 4))))) + (wrap64 (8 * (wrap64 ((t123.length : Int) - 4)))))) (wrap64 (8 * (wrap64 ((t123.length : Int) - 4))))) (x11_2.set ((ji23) : Int).toNat (Go.bits .xor .u8 (rd x11_2 (ji23)) (shl .u8 1 (IntKind.u64.wrap (Int.tmod (wrap64 ((Int.tmod (wrap64 ((Int.tmod a1 (wrap64 (8 * (wrap64 ((t123.length : Int) - 4))))) + (wrap64 (8 * (wrap64 ((t123.length : Int) - 4)))))) (wrap64 (8 * (wrap64 ((t123.length : Int) - 4))))) + x13_2)) 8))))) true (wrap64 (x13_2 + 1))) else (none)) else (none)) else (none)) = some r := by first | (rw [hji23] at H; exact H) | (simp only [hji23] at H ⊢; exact H)
                          have hji23w : (IntKind.i64.wrap (4 + (wrap64 (Int.tdiv (wrap64 ((Int.tmod (wrap64 ((Int.tmod a1 (wrap64 (8 * (wrap64 ((t123.length : Int) - 4))))) + (wrap64 (8 * (wrap64 ((t123.length : Int) - 4)))))) (wrap64 (8 * (wrap64 ((t123.length : Int) - 4))))) + x13_2)) 8)))) = ji23 := (i64_w _).trans hji23
                          by_cases c24 : 0 ≤ (ji23)
                          · rw [if_pos c24] at H
                            have c24b0 : decide (0 ≤ (ji23)) = true := decide_eq_true c24
                            clear c24
                            by_cases c25 : (ji23) < (x11_2.length : Int)
                            · rw [if_pos c25] at H
                              have c25b0 : decide ((ji23) < (x11_2.length : Int)) = true := decide_eq_true c25
                              clear c25
                              obtain ⟨ji26, hji26⟩ : ∃ j_ : Int, (IntKind.u64.wrap (Int.tmod (wrap64 ((Int.tmod (wrap64 ((Int.tmod a1 (wrap64 (8 * (wrap64 ((t123.length : Int) - 4))))) + (wrap64 (8 * (wrap64 ((t123.length : Int) - 4)))))) (wrap64 (8 * (wrap64 ((t123.length : Int) - 4))))) + x13_2)) 8)) = j_ := ⟨_, rfl⟩
                              replace H : (if 0 ≤ (ji26) then (veneerlaw04_FrameTurned.l0 kj15 l0 a2 t123 (wrap64 (8 * (wrap64 ((t123.length : Int) - 4)))) (Int.tmod (wrap64 ((Int.tmod a1 (wrap64 (8 * (wrap64 ((t123.length : Int) - 4))))) + (wrap64 (8 * (wrap64 ((t123.length : Int) - 4)))))) (wrap64 (8 * (wrap64 ((t123.length : Int) - 4))))) (x11_2.set ((ji23) : Int).toNat (Go.bits .xor .u8 (rd x11_2 (ji23)) (shl .u8 1 (ji26)))) true (wrap64 (x13_2 + 1))) else (none)) = some r := by first | (rw [hji26] at H; exact H) | (simp only [hji26] at H ⊢; exact H)
                              by_cases c27 : 0 ≤ (ji26)
                              · rw [if_pos c27] at H
                                have c27b0 := eq_true c27
                                have c27b1 : decide (0 ≤ (ji26)) = true := decide_eq_true c27
                                clear c27
                                obtain ⟨ji28, hji28⟩ : ∃ j_ : Int, (shl .u8 1 (ji26)) = j_ := ⟨_, rfl⟩
                                replace H : (veneerlaw04_FrameTurned.l0 kj15 l0 a2 t123 (wrap64 (8 * (wrap64 ((t123.length : Int) - 4)))) (Int.tmod (wrap64 ((Int.tmod a1 (wrap64 (8 * (wrap64 ((t123.length : Int) - 4))))) + (wrap64 (8 * (wrap64 ((t123.length : Int) - 4)))))) (wrap64 (8 * (wrap64 ((t123.length : Int) - 4))))) (x11_2.set ((ji23) : Int).toNat (Go.bits .xor .u8 (rd x11_2 (ji23)) (ji28))) true (wrap64 (x13_2 + 1))) = some r := by first | (rw [hji28] at H; exact H) | (simp only [hji28] at H ⊢; exact H)
                                have hji28_ : (IntKind.u8.wrap (1 * 2 ^ min (ji26).toNat 8)) = ji28 := hji28
                                have hji28z : (ji26) ≤ 8 → (IntKind.u8.wrap (1 * 2 ^ (ji26).toNat)) = ji28 := shl_small hji28
                                have hji28u : (IntKind.u8.wrap (2 ^ min (ji26).toNat 8)) = ji28 := by have h_ := hji28_; rw [Int.one_mul] at h_; exact h_
                                have hji28v : (ji26) ≤ 8 → (IntKind.u8.wrap (2 ^ (ji26).toNat)) = ji28 := fun hle_ => by have h_ := hji28z hle_; rw [Int.one_mul] at h_; exact h_
                                obtain ⟨y134, hy134⟩ : ∃ y_ : List Int, y_ = (x11_2.set ((ji23) : Int).toNat (Go.bits .xor .u8 (rd x11_2 (ji23)) (ji28))) := ⟨_, rfl⟩
                                replace H : (veneerlaw04_FrameTurned.l0 kj15 l0 a2 t123 (wrap64 (8 * (wrap64 ((t123.length : Int) - 4)))) (Int.tmod (wrap64 ((Int.tmod a1 (wrap64 (8 * (wrap64 ((t123.length : Int) - 4))))) + (wrap64 (8 * (wrap64 ((t123.length : Int) - 4)))))) (wrap64 (8 * (wrap64 ((t123.length : Int) - 4))))) y134 true (wrap64 (x13_2 + 1))) = some r := by first | (rw [hy134]; with_reducible exact H) | (have H2_ := (Option.bind_some _ _).symm.trans H; rw [hy134]; with_reducible exact H2_) | (have H2_ := (Option.bind_some _ _).symm.trans H; with_reducible exact H2_) | with_reducible exact H | (rw [hy134]; exact H) | exact H
                                have Ny134 := Aside0.mk hy134
                                clear hy134
                                have H' := Aside0.mk H
                                clear H
                                obtain ⟨Ao30, co30, eo30⟩ := Kd.R_slice HO_11.out
                                subst eo30
                                have p133 : 0 ≤ ((ji23) : Int) := of_decide_eq_true (by first | (with_reducible assumption) | assumption)
                                have q133 : (ji23) < (x11_2.length : Int) := of_decide_eq_true (by first | (with_reducible assumption) | assumption)
                                obtain ⟨ad133, e133, hx133_0⟩ := Kd.at_int (Kd.R_reads' HO_11.out).2.2 (ji23) p133 q133
                                cases e133
                                replace p133 := eq_true p133
                                replace q133 := eq_true q133
                                have p29 : 0 ≤ ((ji23) : Int) := of_decide_eq_true (by first | (with_reducible assumption) | assumption)
                                have q29 : ((ji23) : Int) < ((x11_2.length : Int) : Int) := of_decide_eq_true (by first | (with_reducible assumption) | assumption)
                                obtain ⟨go29, co29, eo29, gb29, gl29, cl29, HG29⟩ := Kd.R_form HO_11.out (by omega)
                                (first | cases eo29 | (injection eo29 with ea_ en_ ec_; (first | subst ea_ | (injection ea_ with ea_; subst ea_)); subst ec_; clear en_))
                                have GB29 := Aside0.mk gb29
                                have GG29 := Aside0.mk HG29
                                clear gb29 gl29 HG29
                                (first | simp only [add_plain] at hx133_0 | skip)
                                obtain ⟨hx29_0, hf29_0⟩ := Kd.R_celln 0 HO_11.out ((ji23) : Int) p29 q29
                                replace p29 := eq_true p29
                                replace q29 := eq_true q29
                                have HP31 := Kd.R_putg HO_11.out ((ji23) : Int) (Go.bits .xor .u8 (rd x11_2 (ji23)) (ji28))
                                go_wp2_with (first | ((with_reducible refine gate_store (t := 5) (p := 80) rfl ?_); refine store_event (t := 5) (p := 80) (v := ?vo_w32) (w1 := (wc.setCell ⟨go29, ((ji23) : Int).toNat, none⟩ (.int .u8 (Go.bits .xor .u8 (rd x11_2 (ji23)) (ji28))))) ?hg ?ho ?hn ?hr ?_; (case ho => rfl); (case hg => rfl); (case hn => rfl); (case hr => first | (go_simp; done) | (go_simp; rfl)); intro w32 hw; have hg : wc.grownBy w32 (some go29) := (by rw [hw]; exact HP31.2); have hp_ : Kd.R (Kd.int .u8) 5 w32 w.heap.size (fun k_ => some k_ ≠ (.slice Ao12 t123.length co12 : Value).ownBlock) (.slice (some ⟨go29, 0, none⟩) x11_2.length co30) y134 := (by rw [hw, Ny134.out]; exact HP31.1); clear HP31; have n0_ := Aside0.mk (Kd.R_after (v := (.slice (some ⟨go29, 0, none⟩) x11_2.length co30)) (v1 := (.slice (some ⟨go29, 0, none⟩) x11_2.length co30)) (ok := (fun _ => True)) (by (with_reducible repeat (first | apply Kd.R_alloc | apply Kd.R_drewN | apply Kd.R_drew)); exact Kd.R_mono HO_7.out (fun _ hk => ⟨trivial, hk⟩)) hg (.inl rfl)); have n1_ := Aside0.mk (hp_); have n2_ := Aside0.mk ((by rw [hw]; exact below_set (HB.out) GB29.out : Below w.heap.size w w32)); clear HO_7; clear HO_11; clear HB; have HO_7 := n0_; have HO_11 := n1_; have HB := n2_; clear n0_ n1_ n2_; clear hg hw hp_))
                                go_roundg kj15
                                case measure => have := HJ4.out; have := HK2.out; have := HJ15.out; omega
                                case rel => exact ⟨(y134), (true), (wrap64 (x13_2 + 1)), (by first | rfl | (simp; done) | (simp [*]; done)), (by first | rfl | (simp; done) | (simp [*]; done)), H', ⟨by have := HJ4.out; have := HK2.out; have := HJ15.out; omega⟩, ⟨by (with_reducible repeat (first | apply Kd.R_alloc | apply Kd.R_drewN | apply Kd.R_drew)); exact Kd.R_mono HO_7.out (fun _ hk => hk.2)⟩, ⟨by (with_reducible repeat (first | apply Kd.R_alloc | apply Kd.R_drewN | apply Kd.R_drew)); exact HO_11.out⟩, ⟨by repeat (first | (with_reducible first | exact HB.out | apply below_alloc | apply pw_below_drewN | apply below_drew1) | exact HB.out)⟩⟩
                              · rw [if_neg c27] at H
                                exact absurd H (by simp)
                            · rw [if_neg c25] at H
                              exact absurd H (by simp)
                          · rw [if_neg c24] at H
                            exact absurd H (by simp)
                        · rw [if_neg c22] at H
                          have c22b0 : ((Go.bits .and .u32 (ji21) 1) == 1) = false := beq_eq_false_iff_ne.mpr c22
                          have c22b1 : ((Go.bits .and .u32 (ji21) 1) != 1) = true := bne_iff_ne.mpr c22
                          have H' := Aside0.mk H
                          clear H
                          go_wp2
                          go_roundg kj15
                          case measure => have := HJ4.out; have := HK2.out; have := HJ15.out; omega
                          case rel => exact ⟨(x11_2), (x12_2), (wrap64 (x13_2 + 1)), (by first | rfl | (simp; done) | (simp [*]; done)), (by first | rfl | (simp; done) | (simp [*]; done)), H', ⟨by have := HJ4.out; have := HK2.out; have := HJ15.out; omega⟩, ⟨by (with_reducible repeat (first | apply Kd.R_alloc | apply Kd.R_drewN | apply Kd.R_drew)); exact HO_7.out⟩, ⟨by (with_reducible repeat (first | apply Kd.R_alloc | apply Kd.R_drewN | apply Kd.R_drew)); exact HO_11.out⟩, ⟨by repeat (first | (with_reducible first | exact HB.out | apply below_alloc | apply pw_below_drewN | apply below_drew1) | exact HB.out)⟩⟩
                      · rw [if_neg c20] at H
                        exact absurd H (by simp)
                    · replace c18 := Bool.eq_false_iff.mpr c18
                      subst c18
                      have H1 : ((frame_Read.f kj15 x11_2).bind fun bt135 => (if x12_2 = true then (if bt135.2.2 = 6 then (if bt135.2.1 = 0 then (if (bt135.1.length : Int) = 0 then ((veneerlaw04_works.f kj15).bind fun t140 => (some t140)) else (some false)) else (some false)) else (some false)) else (if bt135.2.2 = 0 then (if bt135.2.1 = (t123.length : Int) then (if (strOfNums bt135.1).toList = (strOfNums l0).toList then ((veneerlaw04_works.f kj15).bind fun t141 => (some t141)) else (some false)) else (some false)) else (some false)))) = some r := by rw [if_neg (show ¬ (false = true) by decide)] at H; exact H
                      clear H
                      have H := H1
                      clear H1
                      replace H := Option.bind_eq_some_iff.mp H
                      obtain ⟨⟨t135, t136, t137⟩, A330, H⟩ := H
                      replace H : (if x12_2 = true then (if t137 = 6 then (if t136 = 0 then (if (t135.length : Int) = 0 then ((veneerlaw04_works.f kj15).bind fun t140 => (some t140)) else (some false)) else (some false)) else (some false)) else (if t137 = 0 then (if t136 = (t123.length : Int) then (if (strOfNums t135).toList = (strOfNums l0).toList then ((veneerlaw04_works.f kj15).bind fun t141 => (some t141)) else (some false)) else (some false)) else (some false))) = some r := H
                      have A33 := Aside0.mk A330
                      clear A330
                      by_cases c34 : x12_2 = true
                      · subst c34
                        have H1 : (if t137 = 6 then (if t136 = 0 then (if (t135.length : Int) = 0 then ((veneerlaw04_works.f kj15).bind fun t140 => (some t140)) else (some false)) else (some false)) else (some false)) = some r := by rw [if_pos rfl] at H; exact H
                        clear H
                        have H := H1
                        clear H1
                        by_cases c35 : t137 = 6
                        · rw [if_pos c35] at H
                          have c35b0 : (t137 == 6) = true := beq_iff_eq.mpr c35
                          have c35b1 : (t137 != 6) = false := bne_eq_false_iff_eq.mpr c35
                          clear c35
                          by_cases c36 : t136 = 0
                          · rw [if_pos c36] at H
                            have c36b0 : (t136 == 0) = true := beq_iff_eq.mpr c36
                            have c36b1 : (t136 != 0) = false := bne_eq_false_iff_eq.mpr c36
                            clear c36
                            by_cases c37 : (t135.length : Int) = 0
                            · rw [if_pos c37] at H
                              have c37b0 : ((t135.length : Int) == 0) = true := beq_iff_eq.mpr c37
                              have c37b1 : ((t135.length : Int) != 0) = false := bne_eq_false_iff_eq.mpr c37
                              clear c37
                              replace H := Option.bind_eq_some_iff.mp H
                              obtain ⟨t140, A380, H⟩ := H
                              replace H : (some t140) = some r := H
                              have A38 := Aside0.mk A380
                              clear A380
                              obtain rfl := Option.some.inj H
                              obtain ⟨Ao39, co39, eo39⟩ := Kd.R_slice HO_11.out
                              subst eo39
                              go_wp2_with (first | ((with_reducible refine gate_callee (f := 11) rfl ?_); refine goesL_ (some 83) rfl rfl Try.func11 (by kernel_rfl) rfl #[.slice Ao39 x11_2.length co39] rfl (by (try simp only [List.map_toArray, List.map_cons, List.map_nil]); first | done | rfl | (simp only [List.length_drop, List.length_take]; rfl)) ?_; (with_reducible refine (frame_Read.calls kj15 _ _ x11_2 t135 t136 t137 _ ?side1 ?side2 A33.out).mono ?_); (case side1 => repeat (first | exact (Kd.R_reads' HO_11.out).2.2 | (with_reducible refine Kd.C_alloc ?_ _) | (with_reducible refine Kd.C_drewN ?_ _) | (with_reducible refine Kd.C_drew ?_))); (case side2 => exact (Kd.R_reads' HO_11.out).2.1); rintro e w40 ⟨v138, rfl, ho0, hb⟩; refine ⟨_, rfl, ?_⟩; have n0_ := Aside0.mk (Kd.R_elder' (by (with_reducible repeat (first | apply Kd.R_alloc | apply Kd.R_drewN | apply Kd.R_drew)); exact HO_7.out) (Kd.R_base ho0) hb); have n1_ := Aside0.mk (Kd.R_elder' (by (with_reducible repeat (first | apply Kd.R_alloc | apply Kd.R_drewN | apply Kd.R_drew)); exact HO_11.out) (Kd.R_base ho0) hb); have n2_ := Aside0.mk (Kd.R_lower (Kd.R_new' (Kd.R_new' ho0 (Kd.R_lt (by (with_reducible repeat (first | apply Kd.R_alloc | apply Kd.R_drewN | apply Kd.R_drew)); exact HO_7.out))) (Kd.R_lt (by (with_reducible repeat (first | apply Kd.R_alloc | apply Kd.R_drewN | apply Kd.R_drew)); exact HO_11.out))) (below_size (by repeat (first | (with_reducible first | exact HB.out | apply below_alloc | apply pw_below_drewN | apply below_drew1) | exact HB.out)))); have n3_ := Aside0.mk (below_step (by repeat (first | (with_reducible first | exact HB.out | apply below_alloc | apply pw_below_drewN | apply below_drew1) | exact HB.out)) hb); clear HO_7; clear HO_11; clear HB; have HO_7 := n0_; have HO_11 := n1_; have HO139 := n2_; have HB := n3_; clear n0_ n1_ n2_ n3_; (try clear hb); (try clear hb2); (try clear hk); (try clear hi); (try clear ho0); obtain ⟨Ao41, co41, eo41⟩ := Kd.R_slice HO139.out; subst eo41) | (go_at_call 13; (with_reducible refine (veneerlaw04_works.calls kj15  t140 _ A38.out).mono ?_); rintro e w42 ⟨rfl, hb⟩; have n0_ := Aside0.mk (Kd.R_below (by (with_reducible repeat (first | apply Kd.R_alloc | apply Kd.R_drewN | apply Kd.R_drew)); exact HO_7.out) hb); have n1_ := Aside0.mk (Kd.R_below (by (with_reducible repeat (first | apply Kd.R_alloc | apply Kd.R_drewN | apply Kd.R_drew)); exact HO_11.out) hb); have n2_ := Aside0.mk (Kd.R_below (by (with_reducible repeat (first | apply Kd.R_alloc | apply Kd.R_drewN | apply Kd.R_drew)); exact HO139.out) hb); have n3_ := Aside0.mk (below_step (by repeat (first | (with_reducible first | exact HB.out | apply below_alloc | apply pw_below_drewN | apply below_drew1) | exact HB.out)) hb); clear HO_7; clear HO_11; clear HO139; clear HB; have HO_7 := n0_; have HO_11 := n1_; have HO139 := n2_; have HB := n3_; clear n0_ n1_ n2_ n3_; (try clear hb); (try clear hb2); (try clear hk); (try clear hi)))
                              go_ret
                              exact ⟨by first | rfl | (simp [errW_none, errW_some] <;> rfl) | (simp [*, errW_none, errW_some] <;> rfl), by repeat (first | (with_reducible first | exact HB.out | apply below_alloc | apply pw_below_drewN | apply below_drew1) | exact HB.out)⟩
                            · rw [if_neg c37] at H
                              have c37b0 : ((t135.length : Int) == 0) = false := beq_eq_false_iff_ne.mpr c37
                              have c37b1 : ((t135.length : Int) != 0) = true := bne_iff_ne.mpr c37
                              have c37b2 : ¬ (t135 = []) := fun h_ => c37 (by rw [h_]; rfl)
                              obtain rfl := Option.some.inj H
                              obtain ⟨Ao43, co43, eo43⟩ := Kd.R_slice HO_11.out
                              subst eo43
                              go_wp2_with (first | ((with_reducible refine gate_callee (f := 11) rfl ?_); refine goesL_ (some 83) rfl rfl Try.func11 (by kernel_rfl) rfl #[.slice Ao43 x11_2.length co43] rfl (by (try simp only [List.map_toArray, List.map_cons, List.map_nil]); first | done | rfl | (simp only [List.length_drop, List.length_take]; rfl)) ?_; (with_reducible refine (frame_Read.calls kj15 _ _ x11_2 t135 t136 t137 _ ?side1 ?side2 A33.out).mono ?_); (case side1 => repeat (first | exact (Kd.R_reads' HO_11.out).2.2 | (with_reducible refine Kd.C_alloc ?_ _) | (with_reducible refine Kd.C_drewN ?_ _) | (with_reducible refine Kd.C_drew ?_))); (case side2 => exact (Kd.R_reads' HO_11.out).2.1); rintro e w44 ⟨v138, rfl, ho0, hb⟩; refine ⟨_, rfl, ?_⟩; have n0_ := Aside0.mk (Kd.R_elder' (by (with_reducible repeat (first | apply Kd.R_alloc | apply Kd.R_drewN | apply Kd.R_drew)); exact HO_7.out) (Kd.R_base ho0) hb); have n1_ := Aside0.mk (Kd.R_elder' (by (with_reducible repeat (first | apply Kd.R_alloc | apply Kd.R_drewN | apply Kd.R_drew)); exact HO_11.out) (Kd.R_base ho0) hb); have n2_ := Aside0.mk (Kd.R_lower (Kd.R_new' (Kd.R_new' ho0 (Kd.R_lt (by (with_reducible repeat (first | apply Kd.R_alloc | apply Kd.R_drewN | apply Kd.R_drew)); exact HO_7.out))) (Kd.R_lt (by (with_reducible repeat (first | apply Kd.R_alloc | apply Kd.R_drewN | apply Kd.R_drew)); exact HO_11.out))) (below_size (by repeat (first | (with_reducible first | exact HB.out | apply below_alloc | apply pw_below_drewN | apply below_drew1) | exact HB.out)))); have n3_ := Aside0.mk (below_step (by repeat (first | (with_reducible first | exact HB.out | apply below_alloc | apply pw_below_drewN | apply below_drew1) | exact HB.out)) hb); clear HO_7; clear HO_11; clear HB; have HO_7 := n0_; have HO_11 := n1_; have HO139 := n2_; have HB := n3_; clear n0_ n1_ n2_ n3_; (try clear hb); (try clear hb2); (try clear hk); (try clear hi); (try clear ho0); obtain ⟨Ao45, co45, eo45⟩ := Kd.R_slice HO139.out; subst eo45))
                              go_ret
                              exact ⟨by first | rfl | (simp [errW_none, errW_some] <;> rfl) | (simp [*, errW_none, errW_some] <;> rfl), by repeat (first | (with_reducible first | exact HB.out | apply below_alloc | apply pw_below_drewN | apply below_drew1) | exact HB.out)⟩
                          · rw [if_neg c36] at H
                            have c36b0 : (t136 == 0) = false := beq_eq_false_iff_ne.mpr c36
                            have c36b1 : (t136 != 0) = true := bne_iff_ne.mpr c36
                            obtain rfl := Option.some.inj H
                            obtain ⟨Ao46, co46, eo46⟩ := Kd.R_slice HO_11.out
                            subst eo46
                            go_wp2_with (first | ((with_reducible refine gate_callee (f := 11) rfl ?_); refine goesL_ (some 83) rfl rfl Try.func11 (by kernel_rfl) rfl #[.slice Ao46 x11_2.length co46] rfl (by (try simp only [List.map_toArray, List.map_cons, List.map_nil]); first | done | rfl | (simp only [List.length_drop, List.length_take]; rfl)) ?_; (with_reducible refine (frame_Read.calls kj15 _ _ x11_2 t135 t136 t137 _ ?side1 ?side2 A33.out).mono ?_); (case side1 => repeat (first | exact (Kd.R_reads' HO_11.out).2.2 | (with_reducible refine Kd.C_alloc ?_ _) | (with_reducible refine Kd.C_drewN ?_ _) | (with_reducible refine Kd.C_drew ?_))); (case side2 => exact (Kd.R_reads' HO_11.out).2.1); rintro e w47 ⟨v138, rfl, ho0, hb⟩; refine ⟨_, rfl, ?_⟩; have n0_ := Aside0.mk (Kd.R_elder' (by (with_reducible repeat (first | apply Kd.R_alloc | apply Kd.R_drewN | apply Kd.R_drew)); exact HO_7.out) (Kd.R_base ho0) hb); have n1_ := Aside0.mk (Kd.R_elder' (by (with_reducible repeat (first | apply Kd.R_alloc | apply Kd.R_drewN | apply Kd.R_drew)); exact HO_11.out) (Kd.R_base ho0) hb); have n2_ := Aside0.mk (Kd.R_lower (Kd.R_new' (Kd.R_new' ho0 (Kd.R_lt (by (with_reducible repeat (first | apply Kd.R_alloc | apply Kd.R_drewN | apply Kd.R_drew)); exact HO_7.out))) (Kd.R_lt (by (with_reducible repeat (first | apply Kd.R_alloc | apply Kd.R_drewN | apply Kd.R_drew)); exact HO_11.out))) (below_size (by repeat (first | (with_reducible first | exact HB.out | apply below_alloc | apply pw_below_drewN | apply below_drew1) | exact HB.out)))); have n3_ := Aside0.mk (below_step (by repeat (first | (with_reducible first | exact HB.out | apply below_alloc | apply pw_below_drewN | apply below_drew1) | exact HB.out)) hb); clear HO_7; clear HO_11; clear HB; have HO_7 := n0_; have HO_11 := n1_; have HO139 := n2_; have HB := n3_; clear n0_ n1_ n2_ n3_; (try clear hb); (try clear hb2); (try clear hk); (try clear hi); (try clear ho0)))
                            go_ret
                            exact ⟨by first | rfl | (simp [errW_none, errW_some] <;> rfl) | (simp [*, errW_none, errW_some] <;> rfl), by repeat (first | (with_reducible first | exact HB.out | apply below_alloc | apply pw_below_drewN | apply below_drew1) | exact HB.out)⟩
                        · rw [if_neg c35] at H
                          have c35b0 : (t137 == 6) = false := beq_eq_false_iff_ne.mpr c35
                          have c35b1 : (t137 != 6) = true := bne_iff_ne.mpr c35
                          obtain rfl := Option.some.inj H
                          obtain ⟨Ao48, co48, eo48⟩ := Kd.R_slice HO_11.out
                          subst eo48
                          go_wp2_with (first | ((with_reducible refine gate_callee (f := 11) rfl ?_); refine goesL_ (some 83) rfl rfl Try.func11 (by kernel_rfl) rfl #[.slice Ao48 x11_2.length co48] rfl (by (try simp only [List.map_toArray, List.map_cons, List.map_nil]); first | done | rfl | (simp only [List.length_drop, List.length_take]; rfl)) ?_; (with_reducible refine (frame_Read.calls kj15 _ _ x11_2 t135 t136 t137 _ ?side1 ?side2 A33.out).mono ?_); (case side1 => repeat (first | exact (Kd.R_reads' HO_11.out).2.2 | (with_reducible refine Kd.C_alloc ?_ _) | (with_reducible refine Kd.C_drewN ?_ _) | (with_reducible refine Kd.C_drew ?_))); (case side2 => exact (Kd.R_reads' HO_11.out).2.1); rintro e w49 ⟨v138, rfl, ho0, hb⟩; refine ⟨_, rfl, ?_⟩; have n0_ := Aside0.mk (Kd.R_elder' (by (with_reducible repeat (first | apply Kd.R_alloc | apply Kd.R_drewN | apply Kd.R_drew)); exact HO_7.out) (Kd.R_base ho0) hb); have n1_ := Aside0.mk (Kd.R_elder' (by (with_reducible repeat (first | apply Kd.R_alloc | apply Kd.R_drewN | apply Kd.R_drew)); exact HO_11.out) (Kd.R_base ho0) hb); have n2_ := Aside0.mk (Kd.R_lower (Kd.R_new' (Kd.R_new' ho0 (Kd.R_lt (by (with_reducible repeat (first | apply Kd.R_alloc | apply Kd.R_drewN | apply Kd.R_drew)); exact HO_7.out))) (Kd.R_lt (by (with_reducible repeat (first | apply Kd.R_alloc | apply Kd.R_drewN | apply Kd.R_drew)); exact HO_11.out))) (below_size (by repeat (first | (with_reducible first | exact HB.out | apply below_alloc | apply pw_below_drewN | apply below_drew1) | exact HB.out)))); have n3_ := Aside0.mk (below_step (by repeat (first | (with_reducible first | exact HB.out | apply below_alloc | apply pw_below_drewN | apply below_drew1) | exact HB.out)) hb); clear HO_7; clear HO_11; clear HB; have HO_7 := n0_; have HO_11 := n1_; have HO139 := n2_; have HB := n3_; clear n0_ n1_ n2_ n3_; (try clear hb); (try clear hb2); (try clear hk); (try clear hi); (try clear ho0)))
                          go_ret
                          exact ⟨by first | rfl | (simp [errW_none, errW_some] <;> rfl) | (simp [*, errW_none, errW_some] <;> rfl), by repeat (first | (with_reducible first | exact HB.out | apply below_alloc | apply pw_below_drewN | apply below_drew1) | exact HB.out)⟩
                      · replace c34 := Bool.eq_false_iff.mpr c34
                        subst c34
                        have H1 : (if t137 = 0 then (if t136 = (t123.length : Int) then (if (strOfNums t135).toList = (strOfNums l0).toList then ((veneerlaw04_works.f kj15).bind fun t141 => (some t141)) else (some false)) else (some false)) else (some false)) = some r := by rw [if_neg (show ¬ (false = true) by decide)] at H; exact H
                        clear H
                        have H := H1
                        clear H1
                        by_cases c50 : t137 = 0
                        · rw [if_pos c50] at H
                          have c50b0 : (t137 == 0) = true := beq_iff_eq.mpr c50
                          have c50b1 : (t137 != 0) = false := bne_eq_false_iff_eq.mpr c50
                          clear c50
                          by_cases c51 : t136 = (t123.length : Int)
                          · rw [if_pos c51] at H
                            have c51b0 : (t136 == (t123.length : Int)) = true := beq_iff_eq.mpr c51
                            have c51b1 : (t136 != (t123.length : Int)) = false := bne_eq_false_iff_eq.mpr c51
                            clear c51
                            by_cases c52 : (strOfNums t135).toList = (strOfNums l0).toList
                            · rw [if_pos c52] at H
                              have c52b0 : ((strOfNums t135).toList == (strOfNums l0).toList) = true := beq_iff_eq.mpr c52
                              have c52b1 : ((strOfNums t135).toList != (strOfNums l0).toList) = false := bne_eq_false_iff_eq.mpr c52
                              clear c52
                              replace H := Option.bind_eq_some_iff.mp H
                              obtain ⟨t141, A530, H⟩ := H
                              replace H : (some t141) = some r := H
                              have A53 := Aside0.mk A530
                              clear A530
                              obtain rfl := Option.some.inj H
                              obtain ⟨Ao54, co54, eo54⟩ := Kd.R_slice HO_11.out
                              subst eo54
                              go_wp2_with (first | ((with_reducible refine gate_callee (f := 11) rfl ?_); refine goesL_ (some 83) rfl rfl Try.func11 (by kernel_rfl) rfl #[.slice Ao54 x11_2.length co54] rfl (by (try simp only [List.map_toArray, List.map_cons, List.map_nil]); first | done | rfl | (simp only [List.length_drop, List.length_take]; rfl)) ?_; (with_reducible refine (frame_Read.calls kj15 _ _ x11_2 t135 t136 t137 _ ?side1 ?side2 A33.out).mono ?_); (case side1 => repeat (first | exact (Kd.R_reads' HO_11.out).2.2 | (with_reducible refine Kd.C_alloc ?_ _) | (with_reducible refine Kd.C_drewN ?_ _) | (with_reducible refine Kd.C_drew ?_))); (case side2 => exact (Kd.R_reads' HO_11.out).2.1); rintro e w55 ⟨v138, rfl, ho0, hb⟩; refine ⟨_, rfl, ?_⟩; have n0_ := Aside0.mk (Kd.R_elder' (by (with_reducible repeat (first | apply Kd.R_alloc | apply Kd.R_drewN | apply Kd.R_drew)); exact HO_7.out) (Kd.R_base ho0) hb); have n1_ := Aside0.mk (Kd.R_elder' (by (with_reducible repeat (first | apply Kd.R_alloc | apply Kd.R_drewN | apply Kd.R_drew)); exact HO_11.out) (Kd.R_base ho0) hb); have n2_ := Aside0.mk (Kd.R_lower (Kd.R_new' (Kd.R_new' ho0 (Kd.R_lt (by (with_reducible repeat (first | apply Kd.R_alloc | apply Kd.R_drewN | apply Kd.R_drew)); exact HO_7.out))) (Kd.R_lt (by (with_reducible repeat (first | apply Kd.R_alloc | apply Kd.R_drewN | apply Kd.R_drew)); exact HO_11.out))) (below_size (by repeat (first | (with_reducible first | exact HB.out | apply below_alloc | apply pw_below_drewN | apply below_drew1) | exact HB.out)))); have n3_ := Aside0.mk (below_step (by repeat (first | (with_reducible first | exact HB.out | apply below_alloc | apply pw_below_drewN | apply below_drew1) | exact HB.out)) hb); clear HO_7; clear HO_11; clear HB; have HO_7 := n0_; have HO_11 := n1_; have HO139 := n2_; have HB := n3_; clear n0_ n1_ n2_ n3_; (try clear hb); (try clear hb2); (try clear hk); (try clear hi); (try clear ho0); have hcv56 := own_string (P := Try.prog) Try.underlying22 Try.underlying5 Try.underlying9 (Kd.own_of_R HO139.out); have hcv57 := fun (m_ : Nat) => own_string (P := Try.prog) Try.underlying22 Try.underlying5 Try.underlying9 (Kd.own_of_R (Kd.R_drewN HO139.out m_)); have hcv58 := Kd.C_string (P := Try.prog) (A := A0) (c := c0) Try.underlying22 Try.underlying5 Try.underlying9 (Kd.C_below HR0.out HB.out); have hcv59 := fun (m_ : Nat) => Kd.C_string (P := Try.prog) (A := A0) (c := c0) Try.underlying22 Try.underlying5 Try.underlying9 (Kd.C_drewN (Kd.C_below HR0.out HB.out) m_)) | (go_at_call 13; (with_reducible refine (veneerlaw04_works.calls kj15  t141 _ A53.out).mono ?_); rintro e w60 ⟨rfl, hb⟩; have n0_ := Aside0.mk (Kd.R_below (by (with_reducible repeat (first | apply Kd.R_alloc | apply Kd.R_drewN | apply Kd.R_drew)); exact HO_7.out) hb); have n1_ := Aside0.mk (Kd.R_below (by (with_reducible repeat (first | apply Kd.R_alloc | apply Kd.R_drewN | apply Kd.R_drew)); exact HO_11.out) hb); have n2_ := Aside0.mk (Kd.R_below (by (with_reducible repeat (first | apply Kd.R_alloc | apply Kd.R_drewN | apply Kd.R_drew)); exact HO139.out) hb); have n3_ := Aside0.mk (below_step (by repeat (first | (with_reducible first | exact HB.out | apply below_alloc | apply pw_below_drewN | apply below_drew1) | exact HB.out)) hb); clear HO_7; clear HO_11; clear HO139; clear HB; have HO_7 := n0_; have HO_11 := n1_; have HO139 := n2_; have HB := n3_; clear n0_ n1_ n2_ n3_; (try clear hb); (try clear hb2); (try clear hk); (try clear hi)))
                              go_ret
                              exact ⟨by first | rfl | (simp [errW_none, errW_some] <;> rfl) | (simp [*, errW_none, errW_some] <;> rfl), by repeat (first | (with_reducible first | exact HB.out | apply below_alloc | apply pw_below_drewN | apply below_drew1) | exact HB.out)⟩
                            · rw [if_neg c52] at H
                              have c52b0 : ((strOfNums t135).toList == (strOfNums l0).toList) = false := beq_eq_false_iff_ne.mpr c52
                              have c52b1 : ((strOfNums t135).toList != (strOfNums l0).toList) = true := bne_iff_ne.mpr c52
                              obtain rfl := Option.some.inj H
                              obtain ⟨Ao61, co61, eo61⟩ := Kd.R_slice HO_11.out
                              subst eo61
                              go_wp2_with (first | ((with_reducible refine gate_callee (f := 11) rfl ?_); refine goesL_ (some 83) rfl rfl Try.func11 (by kernel_rfl) rfl #[.slice Ao61 x11_2.length co61] rfl (by (try simp only [List.map_toArray, List.map_cons, List.map_nil]); first | done | rfl | (simp only [List.length_drop, List.length_take]; rfl)) ?_; (with_reducible refine (frame_Read.calls kj15 _ _ x11_2 t135 t136 t137 _ ?side1 ?side2 A33.out).mono ?_); (case side1 => repeat (first | exact (Kd.R_reads' HO_11.out).2.2 | (with_reducible refine Kd.C_alloc ?_ _) | (with_reducible refine Kd.C_drewN ?_ _) | (with_reducible refine Kd.C_drew ?_))); (case side2 => exact (Kd.R_reads' HO_11.out).2.1); rintro e w62 ⟨v138, rfl, ho0, hb⟩; refine ⟨_, rfl, ?_⟩; have n0_ := Aside0.mk (Kd.R_elder' (by (with_reducible repeat (first | apply Kd.R_alloc | apply Kd.R_drewN | apply Kd.R_drew)); exact HO_7.out) (Kd.R_base ho0) hb); have n1_ := Aside0.mk (Kd.R_elder' (by (with_reducible repeat (first | apply Kd.R_alloc | apply Kd.R_drewN | apply Kd.R_drew)); exact HO_11.out) (Kd.R_base ho0) hb); have n2_ := Aside0.mk (Kd.R_lower (Kd.R_new' (Kd.R_new' ho0 (Kd.R_lt (by (with_reducible repeat (first | apply Kd.R_alloc | apply Kd.R_drewN | apply Kd.R_drew)); exact HO_7.out))) (Kd.R_lt (by (with_reducible repeat (first | apply Kd.R_alloc | apply Kd.R_drewN | apply Kd.R_drew)); exact HO_11.out))) (below_size (by repeat (first | (with_reducible first | exact HB.out | apply below_alloc | apply pw_below_drewN | apply below_drew1) | exact HB.out)))); have n3_ := Aside0.mk (below_step (by repeat (first | (with_reducible first | exact HB.out | apply below_alloc | apply pw_below_drewN | apply below_drew1) | exact HB.out)) hb); clear HO_7; clear HO_11; clear HB; have HO_7 := n0_; have HO_11 := n1_; have HO139 := n2_; have HB := n3_; clear n0_ n1_ n2_ n3_; (try clear hb); (try clear hb2); (try clear hk); (try clear hi); (try clear ho0); have hcv63 := own_string (P := Try.prog) Try.underlying22 Try.underlying5 Try.underlying9 (Kd.own_of_R HO139.out); have hcv64 := fun (m_ : Nat) => own_string (P := Try.prog) Try.underlying22 Try.underlying5 Try.underlying9 (Kd.own_of_R (Kd.R_drewN HO139.out m_)); have hcv65 := Kd.C_string (P := Try.prog) (A := A0) (c := c0) Try.underlying22 Try.underlying5 Try.underlying9 (Kd.C_below HR0.out HB.out); have hcv66 := fun (m_ : Nat) => Kd.C_string (P := Try.prog) (A := A0) (c := c0) Try.underlying22 Try.underlying5 Try.underlying9 (Kd.C_drewN (Kd.C_below HR0.out HB.out) m_)))
                              go_ret
                              exact ⟨by first | rfl | (simp [errW_none, errW_some] <;> rfl) | (simp [*, errW_none, errW_some] <;> rfl), by repeat (first | (with_reducible first | exact HB.out | apply below_alloc | apply pw_below_drewN | apply below_drew1) | exact HB.out)⟩
                          · rw [if_neg c51] at H
                            have c51b0 : (t136 == (t123.length : Int)) = false := beq_eq_false_iff_ne.mpr c51
                            have c51b1 : (t136 != (t123.length : Int)) = true := bne_iff_ne.mpr c51
                            obtain rfl := Option.some.inj H
                            obtain ⟨Ao67, co67, eo67⟩ := Kd.R_slice HO_11.out
                            subst eo67
                            go_wp2_with (first | ((with_reducible refine gate_callee (f := 11) rfl ?_); refine goesL_ (some 83) rfl rfl Try.func11 (by kernel_rfl) rfl #[.slice Ao67 x11_2.length co67] rfl (by (try simp only [List.map_toArray, List.map_cons, List.map_nil]); first | done | rfl | (simp only [List.length_drop, List.length_take]; rfl)) ?_; (with_reducible refine (frame_Read.calls kj15 _ _ x11_2 t135 t136 t137 _ ?side1 ?side2 A33.out).mono ?_); (case side1 => repeat (first | exact (Kd.R_reads' HO_11.out).2.2 | (with_reducible refine Kd.C_alloc ?_ _) | (with_reducible refine Kd.C_drewN ?_ _) | (with_reducible refine Kd.C_drew ?_))); (case side2 => exact (Kd.R_reads' HO_11.out).2.1); rintro e w68 ⟨v138, rfl, ho0, hb⟩; refine ⟨_, rfl, ?_⟩; have n0_ := Aside0.mk (Kd.R_elder' (by (with_reducible repeat (first | apply Kd.R_alloc | apply Kd.R_drewN | apply Kd.R_drew)); exact HO_7.out) (Kd.R_base ho0) hb); have n1_ := Aside0.mk (Kd.R_elder' (by (with_reducible repeat (first | apply Kd.R_alloc | apply Kd.R_drewN | apply Kd.R_drew)); exact HO_11.out) (Kd.R_base ho0) hb); have n2_ := Aside0.mk (Kd.R_lower (Kd.R_new' (Kd.R_new' ho0 (Kd.R_lt (by (with_reducible repeat (first | apply Kd.R_alloc | apply Kd.R_drewN | apply Kd.R_drew)); exact HO_7.out))) (Kd.R_lt (by (with_reducible repeat (first | apply Kd.R_alloc | apply Kd.R_drewN | apply Kd.R_drew)); exact HO_11.out))) (below_size (by repeat (first | (with_reducible first | exact HB.out | apply below_alloc | apply pw_below_drewN | apply below_drew1) | exact HB.out)))); have n3_ := Aside0.mk (below_step (by repeat (first | (with_reducible first | exact HB.out | apply below_alloc | apply pw_below_drewN | apply below_drew1) | exact HB.out)) hb); clear HO_7; clear HO_11; clear HB; have HO_7 := n0_; have HO_11 := n1_; have HO139 := n2_; have HB := n3_; clear n0_ n1_ n2_ n3_; (try clear hb); (try clear hb2); (try clear hk); (try clear hi); (try clear ho0)))
                            go_ret
                            exact ⟨by first | rfl | (simp [errW_none, errW_some] <;> rfl) | (simp [*, errW_none, errW_some] <;> rfl), by repeat (first | (with_reducible first | exact HB.out | apply below_alloc | apply pw_below_drewN | apply below_drew1) | exact HB.out)⟩
                        · rw [if_neg c50] at H
                          have c50b0 : (t137 == 0) = false := beq_eq_false_iff_ne.mpr c50
                          have c50b1 : (t137 != 0) = true := bne_iff_ne.mpr c50
                          obtain rfl := Option.some.inj H
                          obtain ⟨Ao69, co69, eo69⟩ := Kd.R_slice HO_11.out
                          subst eo69
                          go_wp2_with (first | ((with_reducible refine gate_callee (f := 11) rfl ?_); refine goesL_ (some 83) rfl rfl Try.func11 (by kernel_rfl) rfl #[.slice Ao69 x11_2.length co69] rfl (by (try simp only [List.map_toArray, List.map_cons, List.map_nil]); first | done | rfl | (simp only [List.length_drop, List.length_take]; rfl)) ?_; (with_reducible refine (frame_Read.calls kj15 _ _ x11_2 t135 t136 t137 _ ?side1 ?side2 A33.out).mono ?_); (case side1 => repeat (first | exact (Kd.R_reads' HO_11.out).2.2 | (with_reducible refine Kd.C_alloc ?_ _) | (with_reducible refine Kd.C_drewN ?_ _) | (with_reducible refine Kd.C_drew ?_))); (case side2 => exact (Kd.R_reads' HO_11.out).2.1); rintro e w70 ⟨v138, rfl, ho0, hb⟩; refine ⟨_, rfl, ?_⟩; have n0_ := Aside0.mk (Kd.R_elder' (by (with_reducible repeat (first | apply Kd.R_alloc | apply Kd.R_drewN | apply Kd.R_drew)); exact HO_7.out) (Kd.R_base ho0) hb); have n1_ := Aside0.mk (Kd.R_elder' (by (with_reducible repeat (first | apply Kd.R_alloc | apply Kd.R_drewN | apply Kd.R_drew)); exact HO_11.out) (Kd.R_base ho0) hb); have n2_ := Aside0.mk (Kd.R_lower (Kd.R_new' (Kd.R_new' ho0 (Kd.R_lt (by (with_reducible repeat (first | apply Kd.R_alloc | apply Kd.R_drewN | apply Kd.R_drew)); exact HO_7.out))) (Kd.R_lt (by (with_reducible repeat (first | apply Kd.R_alloc | apply Kd.R_drewN | apply Kd.R_drew)); exact HO_11.out))) (below_size (by repeat (first | (with_reducible first | exact HB.out | apply below_alloc | apply pw_below_drewN | apply below_drew1) | exact HB.out)))); have n3_ := Aside0.mk (below_step (by repeat (first | (with_reducible first | exact HB.out | apply below_alloc | apply pw_below_drewN | apply below_drew1) | exact HB.out)) hb); clear HO_7; clear HO_11; clear HB; have HO_7 := n0_; have HO_11 := n1_; have HO139 := n2_; have HB := n3_; clear n0_ n1_ n2_ n3_; (try clear hb); (try clear hb2); (try clear hk); (try clear hi); (try clear ho0)))
                          go_ret
                          exact ⟨by first | rfl | (simp [errW_none, errW_some] <;> rfl) | (simp [*, errW_none, errW_some] <;> rfl), by repeat (first | (with_reducible first | exact HB.out | apply below_alloc | apply pw_below_drewN | apply below_drew1) | exact HB.out)⟩
          · rw [if_neg c11] at H
            exact absurd H (by simp)

/-- What is left to prove. -/
def veneerlaw04_FrameTurned.Pure : Prop := ∀ (l0 : List Int) (a1 : Int) (a2 : Int), l0.length ≤ maxLen → l0.length * 1 ≤ 140737488351232 → (∀ x ∈ l0, (Lit.int .u8 x).wf = true) → (Lit.int .i64 a1).wf = true → (Lit.int .u32 a2).wf = true → ∃ k, veneerlaw04_FrameTurned.f k (l0.take 2000) a1 a2 = some true
theorem veneerlaw04_FrameTurned.walk (P : veneerlaw04_FrameTurned.Pure) (a0 : Option Addr) (len0 cap0 : Nat) (z0 : List Int) (a1 : Int) (a2 : Int) (w : World) (w0 : (a0 = none ∧ len0 = 0 ∧ cap0 = 0 ∧ z0 = []) ∨ ∃ x, a0 = some x ∧ len0 ≤ cap0 ∧ cap0 ≤ maxLen ∧ z0.length = cap0 ∧ (∀ i, i < z0.length → w.cell? (x.add i) = some (.int .u8 (z0.getD i 0))) ∧ ∀ n ∈ z0, (Lit.int .u8 n).wf = true) (y0 : len0 * 1 ≤ 140737488351232) (w1 : (Lit.int .i64 a1).wf = true) (w2 : (Lit.int .u32 a2).wf = true) :
    Calls Try.prog 5 #[.slice a0 len0 cap0, .int .i64 a1, .int .u32 a2] w fun e w' => e = .returned (.bool true) ∧ Below w.heap.size w w' := by
  obtain ⟨l0, rfl, hr0, hm0, hw0, hc0⟩ := ReadsInt.ofRowC w0
  obtain ⟨k, h⟩ := P l0 a1 a2 hm0 y0 hw0 w1 w2
  refine (veneerlaw04_FrameTurned.calls k _ _ l0 _ rfl a1 a2 true w (Kd.C_of_reads (d := (0 : Int)) (h1 := fun _ => rfl) hr0) hc0 h).mono ?_
  rintro e w' ⟨rfl, hd⟩
  exact ⟨rfl, hd⟩

end Go.Proofs.Ytmceiepphhlncaa.Q
