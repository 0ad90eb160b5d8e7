/- The side of the machine, written by a program of this session (a scratch copy of the printer of the kit, turned): Lean functions with the answers of the Go functions, and the contracts that say so. No condition beyond what each theorem states. -/
import Derived.Test.YtmceiepphhlncaaQ0
import Derived.Test.YtmceiepphhlncaaOwnR
import Derived.Test.YtmceiepphhlncaaQWorks
import Derived.Test.YtmceiepphhlncaaQAll
import Derived.Test.YtmceiepphhlncaaQJoined
namespace Go.Proofs.Ytmceiepphhlncaa.Q
open Go.RowKit Go.Proofs.YtmceiepphhlncaaW.PrintWords Go.Proofs.YtmceiepphhlncaaW.PrintLast Go.Proofs.YtmceiepphhlncaaW.PrintMore
attribute [local go_sem] max2_int min2_int max_two min_two max_three min_three max_four min_four   -- for this text's walks alone
set_option linter.unusedVariables false
set_option linter.unusedSimpArgs false

/-! ### veneerlaw04_FrameOwn: function 8 -/
mutual
def veneerlaw04_FrameOwn.j0 : Nat → List Int → List (List Int) → ByteArray → List (List Int) → Bool → Option (Bool)
  | 0, _, _, _, _, _ => none
  | k + 1, x3, x4, x6, x10, x60 => if x60 = true then (some false) else (veneerlaw04_FrameOwn.l0 k x3 x4 x6 x10 (x10.length : Int) 0)
def veneerlaw04_FrameOwn.l0 : Nat → List Int → List (List Int) → ByteArray → List (List Int) → Int → Int → Option (Bool)
  | 0, _, _, _, _, _, _ => none
  | k + 1, x3, x4, x6, x10, x92, x93 => if x93 < x92 then (if 0 ≤ x93 then (if x93 < (x10.length : Int) then (if x93 < (x4.length : Int) then (if (strOfNums (rd_L1 x10 x93)).toList = (strOfNums (rd_L1 x4 x93)).toList then (veneerlaw04_FrameOwn.l0 k x3 x4 x6 x10 x92 (wrap64 (x93 + 1))) else (some false)) else (none)) else (none)) else (none)) else (if (strOfNums x3).toList = x6.toList then ((veneerlaw04_works.f k).bind fun t168 => (some t168)) else (some false))
end
def veneerlaw04_FrameOwn.f (k : Nat) (l0 : List (List Int)) : Option (Bool) := (veneerlaw04_joined.f k l0).bind fun bt147 => ((frame_All.f k bt147.1).bind fun bt156 => ((frame_All.f k bt147.1).bind fun bt161 => (if bt156.2.2 = 0 then (if bt161.2.2 = 0 then (if bt156.2.1 = bt161.2.1 then (if (bt156.1.length : Int) = (bt147.2.1.length : Int) then (veneerlaw04_FrameOwn.j0 k bt147.1 bt147.2.1 (strOfNums bt147.1) bt161.1 ((bt161.1.length : Int) != (bt147.2.1.length : Int))) else (veneerlaw04_FrameOwn.j0 k bt147.1 bt147.2.1 (strOfNums bt147.1) bt161.1 true)) else (veneerlaw04_FrameOwn.j0 k bt147.1 bt147.2.1 (strOfNums bt147.1) bt161.1 true)) else (veneerlaw04_FrameOwn.j0 k bt147.1 bt147.2.1 (strOfNums bt147.1) bt161.1 true)) else (veneerlaw04_FrameOwn.j0 k bt147.1 bt147.2.1 (strOfNums bt147.1) bt161.1 true))))
theorem veneerlaw04_FrameOwn.mono_l : ∀ k, (∀ y0 y1 y2 y3 y4, LeO (veneerlaw04_FrameOwn.j0 k y0 y1 y2 y3 y4) (veneerlaw04_FrameOwn.j0 (k + 1) y0 y1 y2 y3 y4)) ∧ (∀ y0 y1 y2 y3 y4 y5, LeO (veneerlaw04_FrameOwn.l0 k y0 y1 y2 y3 y4 y5) (veneerlaw04_FrameOwn.l0 (k + 1) y0 y1 y2 y3 y4 y5))
  | 0 => ⟨fun _ _ _ _ _ r h => by simp [veneerlaw04_FrameOwn.j0] at h, fun _ _ _ _ _ _ r h => by simp [veneerlaw04_FrameOwn.l0] at h⟩
  | k + 1 => by
    obtain ⟨ih0, ih1⟩ := veneerlaw04_FrameOwn.mono_l k
    refine ⟨?_, ?_⟩
    · intro y0 y1 y2 y3 y4
      unfold veneerlaw04_FrameOwn.j0
      repeat' first
      | (with_reducible exact ih0 _ _ _ _ _)
      | (with_reducible exact ih1 _ _ _ _ _ _)
      | (with_reducible exact frame_All.mono _ _)
      | (with_reducible exact veneerlaw04_joined.mono _ _)
      | (with_reducible exact veneerlaw04_works.mono _)
      | (with_reducible exact LeO.refl _)
      | (with_reducible exact LeO.none _)
      | (with_reducible refine LeO.ite ?_ ?_)
      | (with_reducible refine LeO.bind ?_ (fun _ => ?_))
      | exact ih0 _ _ _ _ _
      | exact ih1 _ _ _ _ _ _
      | exact frame_All.mono _ _
      | exact veneerlaw04_joined.mono _ _
      | exact veneerlaw04_works.mono _
      | exact LeO.none _
      | refine LeO.ite ?_ ?_
      | refine LeO.bind ?_ (fun _ => ?_)
    · intro y0 y1 y2 y3 y4 y5
      unfold veneerlaw04_FrameOwn.l0
      repeat' first
      | (with_reducible exact ih0 _ _ _ _ _)
      | (with_reducible exact ih1 _ _ _ _ _ _)
      | (with_reducible exact frame_All.mono _ _)
      | (with_reducible exact veneerlaw04_joined.mono _ _)
      | (with_reducible exact veneerlaw04_works.mono _)
      | (with_reducible exact LeO.refl _)
      | (with_reducible exact LeO.none _)
      | (with_reducible refine LeO.ite ?_ ?_)
      | (with_reducible refine LeO.bind ?_ (fun _ => ?_))
      | exact ih0 _ _ _ _ _
      | exact ih1 _ _ _ _ _ _
      | exact frame_All.mono _ _
      | exact veneerlaw04_joined.mono _ _
      | exact veneerlaw04_works.mono _
      | exact LeO.none _
      | refine LeO.ite ?_ ?_
      | refine LeO.bind ?_ (fun _ => ?_)
theorem veneerlaw04_FrameOwn.mono : ∀ a0 k, LeO (veneerlaw04_FrameOwn.f k a0) (veneerlaw04_FrameOwn.f (k + 1) a0) := by
  intro a0 k
  obtain ⟨ih0, ih1⟩ := veneerlaw04_FrameOwn.mono_l k
  unfold veneerlaw04_FrameOwn.f
  repeat' first
      | (with_reducible exact ih0 _ _ _ _ _)
      | (with_reducible exact ih1 _ _ _ _ _ _)
      | (with_reducible exact frame_All.mono _ _)
      | (with_reducible exact veneerlaw04_joined.mono _ _)
      | (with_reducible exact veneerlaw04_works.mono _)
      | (with_reducible exact LeO.refl _)
      | (with_reducible exact LeO.none _)
      | (with_reducible refine LeO.ite ?_ ?_)
      | (with_reducible refine LeO.bind ?_ (fun _ => ?_))
      | exact ih0 _ _ _ _ _
      | exact ih1 _ _ _ _ _ _
      | exact frame_All.mono _ _
      | exact veneerlaw04_joined.mono _ _
      | exact veneerlaw04_works.mono _
      | exact LeO.none _
      | refine LeO.ite ?_ ?_
      | refine LeO.bind ?_ (fun _ => ?_)
set_option maxHeartbeats 8000000 in
set_option maxRecDepth 100000 in
theorem veneerlaw04_FrameOwn.calls (k : Nat) (A0 : Option Addr) (c0 : Nat) (l0 : List (List Int)) (r : Bool) (w : World) (hr0 : Kd.C (Kd.slice 5 (Kd.int .u8)) w A0 l0.length l0) (hc0 : l0.length ≤ c0) (h : veneerlaw04_FrameOwn.f k l0 = some r) (hsm : ∀ u v e, veneerlaw04_joined.f k l0 = some (u, v, e) → ∀ r1 r2 r3, frame_All.f k u = some (r1, r2, r3) → ∀ x ∈ r1, x.length ≤ 1048576) :
    Calls Try.prog 8 #[.slice A0 l0.length c0] w fun e w' => e = .returned (.bool r) ∧ Below w.heap.size w w' := by
  have HSM := Aside0.mk hsm
  clear hsm
  have HR0 := Aside0.mk hr0
  have HC0 := Aside0.mk hc0
  clear hr0 hc0
  have HB := Aside0.mk (Below.refl w.heap.size w)
  have H : ((veneerlaw04_joined.f k l0).bind fun bt147 => ((frame_All.f k bt147.1).bind fun bt156 => ((frame_All.f k bt147.1).bind fun bt161 => (if bt156.2.2 = 0 then (if bt161.2.2 = 0 then (if bt156.2.1 = bt161.2.1 then (if (bt156.1.length : Int) = (bt147.2.1.length : Int) then (veneerlaw04_FrameOwn.j0 k bt147.1 bt147.2.1 (strOfNums bt147.1) bt161.1 ((bt161.1.length : Int) != (bt147.2.1.length : Int))) else (veneerlaw04_FrameOwn.j0 k bt147.1 bt147.2.1 (strOfNums bt147.1) bt161.1 true)) else (veneerlaw04_FrameOwn.j0 k bt147.1 bt147.2.1 (strOfNums bt147.1) bt161.1 true)) else (veneerlaw04_FrameOwn.j0 k bt147.1 bt147.2.1 (strOfNums bt147.1) bt161.1 true)) else (veneerlaw04_FrameOwn.j0 k bt147.1 bt147.2.1 (strOfNums bt147.1) bt161.1 true))))) = some r := h
  clear h
  replace H := Option.bind_eq_some_iff.mp H
  obtain ⟨⟨t147, t150, t153⟩, A20, H⟩ := H
  replace H : ((frame_All.f k t147).bind fun bt156 => ((frame_All.f k t147).bind fun bt161 => (if bt156.2.2 = 0 then (if bt161.2.2 = 0 then (if bt156.2.1 = bt161.2.1 then (if (bt156.1.length : Int) = (t150.length : Int) then (veneerlaw04_FrameOwn.j0 k t147 t150 (strOfNums t147) bt161.1 ((bt161.1.length : Int) != (t150.length : Int))) else (veneerlaw04_FrameOwn.j0 k t147 t150 (strOfNums t147) bt161.1 true)) else (veneerlaw04_FrameOwn.j0 k t147 t150 (strOfNums t147) bt161.1 true)) else (veneerlaw04_FrameOwn.j0 k t147 t150 (strOfNums t147) bt161.1 true)) else (veneerlaw04_FrameOwn.j0 k t147 t150 (strOfNums t147) bt161.1 true)))) = some r := H
  have A2 := Aside0.mk A20
  clear A20
  replace H := Option.bind_eq_some_iff.mp H
  obtain ⟨⟨t156, t157, t158⟩, A30, H⟩ := H
  replace H : ((frame_All.f k t147).bind fun bt161 => (if t158 = 0 then (if bt161.2.2 = 0 then (if t157 = bt161.2.1 then (if (t156.length : Int) = (t150.length : Int) then (veneerlaw04_FrameOwn.j0 k t147 t150 (strOfNums t147) bt161.1 ((bt161.1.length : Int) != (t150.length : Int))) else (veneerlaw04_FrameOwn.j0 k t147 t150 (strOfNums t147) bt161.1 true)) else (veneerlaw04_FrameOwn.j0 k t147 t150 (strOfNums t147) bt161.1 true)) else (veneerlaw04_FrameOwn.j0 k t147 t150 (strOfNums t147) bt161.1 true)) else (veneerlaw04_FrameOwn.j0 k t147 t150 (strOfNums t147) bt161.1 true))) = some r := H
  have A3 := Aside0.mk A30
  clear A30
  replace H := Option.bind_eq_some_iff.mp H
  obtain ⟨⟨t161, t162, t163⟩, A40, H⟩ := H
  replace H : (if t158 = 0 then (if t163 = 0 then (if t157 = t162 then (if (t156.length : Int) = (t150.length : Int) then (veneerlaw04_FrameOwn.j0 k t147 t150 (strOfNums t147) t161 ((t161.length : Int) != (t150.length : Int))) else (veneerlaw04_FrameOwn.j0 k t147 t150 (strOfNums t147) t161 true)) else (veneerlaw04_FrameOwn.j0 k t147 t150 (strOfNums t147) t161 true)) else (veneerlaw04_FrameOwn.j0 k t147 t150 (strOfNums t147) t161 true)) else (veneerlaw04_FrameOwn.j0 k t147 t150 (strOfNums t147) t161 true)) = some r := H
  have A4 := Aside0.mk A40
  clear A40
  have HC5 := Aside0.mk H
  clear H
  go_enter Try.func8, Try.ntmps8
  go_upto_region 5 with (first | (go_at_call 16; (with_reducible refine (veneerlaw04_joined.calls k (fun k_ => k_ < w.heap.size) _ _ l0 t147 t150 t153 _ ?side1 A2.out).mono ?_); (case side1 => exact Kd.V_mk HC0.out (Kd.F_below (Kd.C_F (Kd.heap_slice 5 (Kd.heap_int .u8)) HR0.out) (Below.refl _ _))); rintro e w0 ⟨v148, v151, v154, rfl, ho0, ho1, ho2, hb⟩; have HX0 := Aside0.mk (Kd.R_bound ho0); have HX1 := Aside0.mk (Kd.N_bound ho1); have HB0 := Aside0.mk hb; clear ho0 ho1 ho2 hb HB; have hcv7 := own_string (P := Try.prog) Try.underlying22 Try.underlying5 Try.underlying9 (Kd.own_of_R HX0.out); obtain ⟨Ao9, co9, eo9⟩ := Kd.R_slice HX0.out; subst eo9) | (go_at_call 14; (with_reducible refine (frame_All.calls k _ _ t147 t156 t157 t158 _ ?side1 ?side2 A3.out).mono ?_); (case side1 => exact (Kd.R_reads' HX0.out).2.2); (case side2 => exact (Kd.R_reads' HX0.out).2.1); rintro e w1 ⟨v159, rfl, hoA, hb1⟩; have HXA := Aside0.mk hoA; have HB1 := Aside0.mk hb1; clear hoA hb1) | (go_at_call 14; (with_reducible refine (frame_All.calls k _ _ t147 t161 t162 t163 _ ?side1 ?side2 A4.out).mono ?_); (case side1 => exact Kd.C_below (Kd.R_reads' HX0.out).2.2 HB1.out); (case side2 => exact (Kd.R_reads' HX0.out).2.1); rintro e w2 ⟨v164, rfl, hoB, hb2⟩; have HXB := Aside0.mk (Kd.S_bound hoB); have HB2 := Aside0.mk hb2; clear hoB hb2))
  have HBB := Aside0.mk (HB0.out.trans (HB1.out.mono HB0.out.size))
  have HB := Aside0.mk (HBB.out.trans (HB2.out.mono HBB.out.size))
  have BX3 := Aside0.mk (Kd.R_mono (ok' := fun k_ => k_ < w0.heap.size) (Kd.R_below (Kd.R_below HX0.out HB1.out) HB2.out) (fun _ hk => hk.2.2.1))
  have BX4 := Aside0.mk (Kd.N_mono (ok' := fun k_ => (some k_ ≠ (.slice Ao9 t147.length co9 : Value).ownBlock ∧ some k_ ≠ (v164 : Value).ownBlock) ∧ k_ < w0.heap.size) (Kd.N_below (Kd.N_below HX1.out HB1.out) HB2.out) (fun k_ hk => ⟨⟨hk.1.2.1, fun he => by have h1 := Kd.S_base HXB.out k_ he.symm; have h2 := HB1.out.size; have h3 := hk.2; omega⟩, hk.2⟩))
  have BX10 := Aside0.mk (Kd.N_mono (ok' := fun k_ => (some k_ ≠ (.slice Ao9 t147.length co9 : Value).ownBlock ∧ some k_ ≠ (v151 : Value).ownBlock) ∧ w1.heap.size ≤ k_) (Kd.N_lower (base' := w.heap.size) (Kd.S_N HXB.out) (by have h1 := HB0.out.size; have h2 := HB1.out.size; omega)) (fun k_ hk => ⟨⟨fun he => by have h1 := Kd.R_lt HX0.out k_ he.symm; have h2 := HB1.out.size; have h3 := hk.2.1; omega, fun he => by have h1 := Kd.N_lt HX1.out k_ he.symm; have h2 := HB1.out.size; have h3 := hk.2.1; omega⟩, hk.2.1⟩))
  have HO152 := Aside0.mk (Kd.N_below (Kd.N_below HX1.out HB1.out) HB2.out)
  have HO160 := Aside0.mk (Kd.S_N (Kd.S_below HXA.out HB2.out))
  have HO165 := Aside0.mk (Kd.S_N HXB.out)
  (try simp only [Act.put, List.setIfInBounds_toArray, List.set_cons_zero, List.set_cons_succ])
  go_cut [60] (fun v60 wc => ∃ (kq : Nat) (x60_4 : Bool), v60 = .bool x60_4 ∧ Aside0 (veneerlaw04_FrameOwn.j0 kq t147 t150 (strOfNums t147) t161 x60_4 = some r) ∧ Aside0 (kq ≤ k) ∧ w2 = wc)
  case first =>
    have H := HC5.out
    clear HC5
    by_cases c12 : t158 = 0
    · rw [if_pos c12] at H
      have c12b0 : (t158 == 0) = true := beq_iff_eq.mpr c12
      have c12b1 : (t158 != 0) = false := bne_eq_false_iff_eq.mpr c12
      clear c12
      (first | rw [c12b0] | (simp only [i64_w, i32_w]; rw [c12b0]) | skip)
      by_cases c13 : t163 = 0
      · rw [if_pos c13] at H
        have c13b0 : (t163 == 0) = true := beq_iff_eq.mpr c13
        have c13b1 : (t163 != 0) = false := bne_eq_false_iff_eq.mpr c13
        clear c13
        by_cases c14 : t157 = t162
        · rw [if_pos c14] at H
          have c14b0 : (t157 == t162) = true := beq_iff_eq.mpr c14
          have c14b1 : (t157 != t162) = false := bne_eq_false_iff_eq.mpr c14
          clear c14
          by_cases c15 : (t156.length : Int) = (t150.length : Int)
          · rw [if_pos c15] at H
            have c15b0 : ((t156.length : Int) == (t150.length : Int)) = true := beq_iff_eq.mpr c15
            have c15b1 : ((t156.length : Int) != (t150.length : Int)) = false := bne_eq_false_iff_eq.mpr c15
            have c15b2 : (t156.length == t150.length) = true := by first | simpa using c15 | (simp at c15 ⊢; omega)
            clear c15
            have H' := Aside0.mk H
            clear H
            obtain ⟨Ao16, co16, eo16⟩ := Kd.N_slice HO160.out
            subst eo16
            obtain ⟨Ao17, co17, eo17⟩ := Kd.N_slice HO152.out
            subst eo17
            obtain ⟨Ao18, co18, eo18⟩ := Kd.N_slice HO165.out
            subst eo18
            go_wp2
            repeat (go_quiet (fail); try go_wp2)
            go_meet
            case rel => exact ⟨_, (((t161.length : Int) != (t150.length : Int))), (by first | rfl | (simp; done) | (simp [*]; done)), H', ⟨by first | omega | exact Nat.le_refl _⟩, rfl⟩
          · rw [if_neg c15] at H
            have c15b0 : ((t156.length : Int) == (t150.length : Int)) = false := beq_eq_false_iff_ne.mpr c15
            have c15b1 : ((t156.length : Int) != (t150.length : Int)) = true := bne_iff_ne.mpr c15
            have c15b2 : (t156.length == t150.length) = false := by first | simpa using c15 | (simp at c15 ⊢; omega)
            have H' := Aside0.mk H
            clear H
            obtain ⟨Ao19, co19, eo19⟩ := Kd.N_slice HO160.out
            subst eo19
            obtain ⟨Ao20, co20, eo20⟩ := Kd.N_slice HO152.out
            subst eo20
            go_wp2
            repeat (go_quiet (fail); try go_wp2)
            go_meet
            case rel => exact ⟨_, (true), (by first | rfl | (simp; done) | (simp [*]; done)), H', ⟨by first | omega | exact Nat.le_refl _⟩, rfl⟩
        · rw [if_neg c14] at H
          have c14b0 : (t157 == t162) = false := beq_eq_false_iff_ne.mpr c14
          have c14b1 : (t157 != t162) = true := bne_iff_ne.mpr c14
          have H' := Aside0.mk H
          clear H
          go_wp2
          repeat (go_quiet (fail); try go_wp2)
          go_meet
          case rel => exact ⟨_, (true), (by first | rfl | (simp; done) | (simp [*]; done)), H', ⟨by first | omega | exact Nat.le_refl _⟩, rfl⟩
      · rw [if_neg c13] at H
        have c13b0 : (t163 == 0) = false := beq_eq_false_iff_ne.mpr c13
        have c13b1 : (t163 != 0) = true := bne_iff_ne.mpr c13
        have H' := Aside0.mk H
        clear H
        go_wp2
        repeat (go_quiet (fail); try go_wp2)
        go_meet
        case rel => exact ⟨_, (true), (by first | rfl | (simp; done) | (simp [*]; done)), H', ⟨by first | omega | exact Nat.le_refl _⟩, rfl⟩
    · rw [if_neg c12] at H
      have c12b0 : (t158 == 0) = false := beq_eq_false_iff_ne.mpr c12
      have c12b1 : (t158 != 0) = true := bne_iff_ne.mpr c12
      (first | rw [c12b0] | (simp only [i64_w, i32_w]; rw [c12b0]) | skip)
      have H' := Aside0.mk H
      clear H
      go_wp2
      repeat (go_quiet (fail); try go_wp2)
      go_meet
      case rel => exact ⟨_, (true), (by first | rfl | (simp; done) | (simp [*]; done)), H', ⟨by first | omega | exact Nat.le_refl _⟩, rfl⟩
  case rest =>
    clear HC5
    try clear c1
    try clear p2
    try clear hcv7
    try clear c8
    try clear hcv8
    try clear c12
    try clear c12b0
    try clear c12b1
    try clear c13
    try clear c13b0
    try clear c13b1
    try clear c14
    try clear c14b0
    try clear c14b1
    try clear c15
    try clear c15b0
    try clear c15b1
    try clear c15b2
    obtain ⟨kq, x60_4, rfl, HA, HJ4, hwc⟩ := hcut
    subst hwc
    cases kq with
    | zero => exact absurd HA.out (by simp [veneerlaw04_FrameOwn.j0])
    | succ kj4 =>
      have H := HA.out
      clear HA
      simp only [veneerlaw04_FrameOwn.j0] at H
      by_cases c21 : x60_4 = true
      · subst c21
        have H1 : (some false) = some r := by rw [if_pos rfl] at H; exact H
        clear H
        have H := H1
        clear H1
        obtain rfl := Option.some.inj H
        go_wp2
        repeat (go_quiet (fail); try go_wp2)
        go_ret
        exact ⟨by first | rfl | (simp [errW_none, errW_some] <;> rfl) | (simp [*, errW_none, errW_some] <;> rfl), by repeat (first | (with_reducible first | exact HB.out | apply below_alloc | apply pw_below_drewN | apply below_drew1) | exact HB.out)⟩
      · replace c21 := Bool.eq_false_iff.mpr c21
        subst c21
        have H1 : (veneerlaw04_FrameOwn.l0 kj4 t147 t150 (strOfNums t147) t161 (t161.length : Int) 0) = some r := by rw [if_neg (show ¬ (false = true) by decide)] at H; exact H
        clear H
        have H := H1
        clear H1
        have H' := Aside0.mk H
        clear H
        have HO_10 := Aside0.mk (Kd.N_mono BX10.out (fun _ hk => hk.1))
        obtain ⟨Ao22, co22, eo22⟩ := Kd.N_slice HO_10.out
        subst eo22
        clear HO_10
        obtain ⟨AoA, coA, eA_, hAR0⟩ := OwnR.Arows.of_R (Kd.S_R HXA.out) (HSM.out _ _ _ A2.out _ _ _ A3.out)
        subst eA_
        have HAR0 : Aside0 (OwnR.Arows w2 w0.heap.size w1.heap.size AoA t156.length) := ⟨hAR0.keep (fun k_ _ h2 => HB2.out.block k_ h2)⟩
        have HKP0 := Aside0.mk (OwnR.Kp.refl w2 w0.heap.size w1.heap.size)
        have HLEN := Aside0.mk (Kd.S_reads' HXA.out).2.2.2.1
        clear hAR0 HXA
        go_wp2
        go_loopw [63] (fun i wr => ∃ q : Nat, q ≤ t156.length ∧ i = .int .i64 q ∧ Aside0 (OwnR.Arows wr w0.heap.size w1.heap.size AoA t156.length) ∧ Aside0 (OwnR.Kp w2 wr w0.heap.size w1.heap.size)) (fun i _ => t156.length - (intOf i).toNat)
        case atStart => exact ⟨0, Nat.zero_le _, rfl, HAR0, HKP0⟩
        case round =>
          clear HAR0 HKP0
          obtain ⟨q, hq, rfl, HAR, HKP⟩ := hrel
          rename World => wo
          by_cases hlt : q < t156.length
          · obtain ⟨ad, A, l, c, eA_, hout, hrow, hl_⟩ := OwnR.Arows.at_ HAR.out q hlt
            cases eA_
            have hcell := hout.cell
            have HOUT := Aside0.mk hout
            have HROW := Aside0.mk hrow
            have hd1 : decide ((q : Int) < (t156.length : Int)) = true := decide_eq_true (by omega)
            have hd2 : decide (q < t156.length) = true := decide_eq_true hlt
            have hi0 : (0 : Int) ≤ (q : Int) := by omega
            have hi1 : (q : Int) < (t156.length : Int) := by omega
            have hqb : (q : Int) + 1 ≤ 9223372036854775807 := by have := HLEN.out; omega
            have hql : q < t156.length := hlt
            clear hout hrow
            go_wp2
            go_loopw [71] (fun v wi => ∃ j : Nat, j ≤ l ∧ v = .int .i64 j ∧ Aside0 (OwnR.RowOk wi w0.heap.size w1.heap.size A l c) ∧ Aside0 (OwnR.Arows wi w0.heap.size w1.heap.size (some ad) t156.length) ∧ Aside0 (OwnR.Kp w2 wi w0.heap.size w1.heap.size) ∧ Aside0 (OwnR.Outer wi ad q (.slice A l c))) (fun v _ => l - (intOf v).toNat)
            case atStart => exact ⟨0, Nat.zero_le _, rfl, HROW, HAR, HKP, HOUT⟩
            case round =>
              clear HROW HAR HKP HOUT hcell
              obtain ⟨j, hj, rfl, HROW, HAR, HKP, HOUT⟩ := hrel
              rename World => wi
              have hcell := HOUT.out.cell
              by_cases hjl : j < l
              · obtain ⟨ad2, x, eA2, hc2, hf2, hset⟩ := OwnR.RowOk.at_ HROW.out j hjl
                cases eA2
                have HSET := Aside0.mk hset
                have he1 : decide ((j : Int) < (l : Int)) = true := decide_eq_true (by omega)
                have he2 : decide (j < l) = true := decide_eq_true hjl
                have hj0 : (0 : Int) ≤ (j : Int) := by omega
                have hj1 : (j : Int) < (l : Int) := by omega
                clear hset
                go_wp2
                refine ⟨⟨j + 1, by omega, by simp, ⟨((HSET.out _).1)⟩, ⟨(HSET.out _).2.2.1 _ _ HAR.out⟩, ⟨HKP.out.trans (HSET.out _).2.1⟩, ⟨(HSET.out _).2.2.2 _ _ _ HOUT.out⟩⟩, by simp [intOf]; omega⟩
              · have he1 : decide ((j : Int) < (l : Int)) = false := decide_eq_false (by omega)
                have he2 : decide (j < l) = false := decide_eq_false hjl
                have hca := (HOUT.out.alloc (.cells #[.int .u8 1, .int .u8 2, .int .u8 3] 5)).cell
                have hBl := HB2.out.size
                have hKs := HKP.out.size
                have hblk : ∀ k_, k_ < wi.heap.size → (wi.alloc (.cells #[.int .u8 1, .int .u8 2, .int .u8 3] 5)).heap[k_]? = wi.heap[k_]? := fun k_ hk => Below.heap_alloc wi _ k_ hk
                obtain ⟨v1_, w1_, hrun, hkp, har⟩ := OwnR.RowOk.append (P := Try.prog) (OwnR.RowOk.keep HROW.out (fun k_ _ h2 => hblk k_ (by omega))) (by simp; omega) 22 (.int .u8 0) Try.underlying22 info5 ⟨wi.heap.size, 0, none⟩ (World.news_of_block (cs := #[.int .u8 1, .int .u8 2, .int .u8 3]) (heap_alloc_new wi _))
                have HAR2 := Aside0.mk (har _ _ (OwnR.Arows.keep HAR.out (fun k_ _ h2 => hblk k_ (by omega))))
                have HKP2 := Aside0.mk ((HKP.out.trans (OwnR.Kp.of_below (below_alloc (Below.refl _ _) (.cells #[.int .u8 1, .int .u8 2, .int .u8 3] 5)))).trans hkp)
                clear hkp har hblk HAR HKP HROW HOUT hBl hKs
                go_wp2_with (first | (at_builtin; refine OwnR.wpList_append_run rfl (.tmp 87) (.tmp 88) 22 rfl _ _ rfl rfl hrun ?_) | fail)
                refine ⟨⟨q + 1, by omega, by simp, HAR2, HKP2⟩, by simp [intOf]; omega⟩
          · have hd1 : decide ((q : Int) < (t156.length : Int)) = false := decide_eq_false (by omega)
            have hd2 : decide (q < t156.length) = false := decide_eq_false hlt
            have hBk : ∀ k_, k_ < w2.heap.size → k_ < w0.heap.size → wo.heap[k_]? = w2.heap[k_]? := fun k_ h1 h2 => HKP.out.block k_ h1 (.inl h2)
            have HO_3 := Aside0.mk (Kd.R_mono (ok' := fun _ => True) (Kd.R_step BX3.out (fun k_ ho hk => hBk k_ hk ho)) (fun _ _ => trivial))
            have HO_4 := Aside0.mk (Kd.N_mono (Kd.N_step BX4.out (fun k_ ho hk => hBk k_ hk ho.2)) (fun _ hk => hk.1))
            have HO_10 := Aside0.mk (Kd.N_mono (Kd.N_step BX10.out (fun k_ ho hk => HKP.out.block k_ hk (.inr ho.2))) (fun _ hk => hk.1))
            have HBn : Aside0 (Below w.heap.size w wo) := ⟨⟨HKP.out.os.trans HB.out.os, HKP.out.tape.trans HB.out.tape, HKP.out.output.trans HB.out.output, Nat.le_trans HB.out.size HKP.out.size, fun k_ hk => (hBk k_ (by have := HB.out.size; omega) (by have := HB0.out.size; omega)).trans (HB.out.block k_ hk)⟩⟩
            clear HB
            have HB := HBn
            clear HBn hBk HAR HKP BX3 BX4 BX10 hd1 hlt hq
            go_wp2
            repeat (go_quiet (fail); try go_wp2)
            go_loopg [93] kj4 (fun kq v93 w' => ∃ (x93_2 : Int), v93 = .int .i64 x93_2 ∧ Aside0 (veneerlaw04_FrameOwn.l0 kq t147 t150 (strOfNums t147) t161 (t161.length : Int) x93_2 = some r) ∧ Aside0 (kq ≤ kj4) ∧ Aside0 (Kd.R (Kd.int .u8) 5 w' w.heap.size (fun _ => True) (.slice Ao9 t147.length co9) t147) ∧ Aside0 (Kd.N (Kd.slice 5 (Kd.int .u8)) 22 w' w.heap.size (fun k_ => some k_ ≠ ((.slice Ao9 t147.length co9) : Value).ownBlock ∧ some k_ ≠ ((.slice Ao22 t161.length co22) : Value).ownBlock) v151 t150) ∧ Aside0 (Kd.N (Kd.slice 5 (Kd.int .u8)) 22 w' w.heap.size (fun k_ => some k_ ≠ ((.slice Ao9 t147.length co9) : Value).ownBlock ∧ some k_ ≠ (v151 : Value).ownBlock) (.slice Ao22 t161.length co22) t161) ∧ Aside0 (Below w.heap.size w w'))
            case atStart => exact ⟨(0), (by first | rfl | (simp; done) | (simp [*]; done)), H', ⟨Nat.le_refl _⟩, ⟨by (with_reducible repeat (first | apply Kd.R_alloc | apply Kd.R_drewN | apply Kd.R_drew)); exact HO_3.out⟩, ⟨by (with_reducible repeat (first | apply Kd.N_alloc | apply Kd.N_drewN | apply Kd.N_drew)); exact HO_4.out⟩, ⟨by (with_reducible repeat (first | apply Kd.N_alloc | apply Kd.N_drewN | apply Kd.N_drew)); exact HO_10.out⟩, ⟨by repeat (first | (with_reducible first | exact HB.out | apply below_alloc | apply pw_below_drewN | apply below_drew1) | exact HB.out)⟩⟩
            case round =>
              clear H'
              try clear c1
              try clear c2
              try clear p2
              try clear hcv7
              try clear c8
              try clear hcv8
              try clear c12
              try clear c12b0
              try clear c12b1
              try clear c13
              try clear c13b0
              try clear c13b1
              try clear c14
              try clear c14b0
              try clear c14b1
              try clear c15
              try clear c15b0
              try clear c15b1
              try clear c15b2
              try clear c21
              try clear p2
              obtain ⟨x93_2, rfl, HA, HK2, HO_3, HO_4, HO_10, HB⟩ := hrel
              cases gk with
              | zero => exact absurd HA.out (by simp [veneerlaw04_FrameOwn.l0])
              | succ k2 =>
                have H := HA.out
                clear HA
                simp only [veneerlaw04_FrameOwn.l0] at H
                by_cases c23 : x93_2 < (t161.length : Int)
                · rw [if_pos c23] at H
                  have c23b0 : decide (x93_2 < (t161.length : Int)) = true := decide_eq_true c23
                  clear c23
                  by_cases c24 : 0 ≤ x93_2
                  · rw [if_pos c24] at H
                    have c24b0 : decide (0 ≤ x93_2) = true := decide_eq_true c24
                    clear c24
                    by_cases c25 : x93_2 < (t161.length : Int)
                    · rw [if_pos c25] at H
                      have c25b0 : decide (x93_2 < (t161.length : Int)) = true := decide_eq_true c25
                      clear c25
                      by_cases c26 : x93_2 < (t150.length : Int)
                      · rw [if_pos c26] at H
                        have c26b0 : decide (x93_2 < (t150.length : Int)) = true := decide_eq_true c26
                        clear c26
                        by_cases c27 : (strOfNums (rd_L1 t161 x93_2)).toList = (strOfNums (rd_L1 t150 x93_2)).toList
                        · rw [if_pos c27] at H
                          have c27b0 : ((strOfNums (rd_L1 t161 x93_2)).toList == (strOfNums (rd_L1 t150 x93_2)).toList) = true := beq_iff_eq.mpr c27
                          have c27b1 : ((strOfNums (rd_L1 t161 x93_2)).toList != (strOfNums (rd_L1 t150 x93_2)).toList) = false := bne_eq_false_iff_eq.mpr c27
                          clear c27
                          have H' := Aside0.mk H
                          clear H
                          have p166 : 0 ≤ (x93_2 : Int) := of_decide_eq_true (by first | (with_reducible assumption) | assumption)
                          have q166 : x93_2 < (t161.length : Int) := of_decide_eq_true (by first | (with_reducible assumption) | assumption)
                          obtain ⟨ad166, A166_0, c166_0, e166, hx166_0, hl166_0, hi166_0⟩ := at_L1 (Kd.N_reads' HO_10.out).2.2 x93_2 p166 q166
                          cases e166
                          obtain ⟨ce166, hce166, hMe166, hcc166⟩ := Kd.N_get HO_10.out [] x93_2 p166 (by first | exact q166 | exact of_decide_eq_true (by first | (with_reducible assumption) | assumption) | (have e_ := (Kd.N_reads' HO_10.out).1; omega))
                          obtain ⟨ua166_0, uc166_0, rfl, ul166_0, ge166_0⟩ := Kd.FK_slice_open hMe166
                          have hv166_0 := hcc166 0 _ rfl
                          rw [Nat.add_zero, show ((Kd.slice 5 (Kd.int .u8))).sz = 1 from rfl, Nat.mul_one] at hv166_0
                          replace hv166_0 := Option.some.inj (hv166_0.symm.trans hx166_0)
                          injection hv166_0 with hva_ hvn_ hvc_
                          rw [hva_] at ge166_0
                          rw [hvc_] at ul166_0
                          have HL166_0 := Aside0.mk (show Kd.V (Kd.int .u8) 5 _ w.heap.size _ _ (rd_L1 t161 x93_2) from Kd.V_mk ul166_0 ge166_0)
                          clear hva_ hvn_ hvc_ ge166_0 ul166_0
                          clear hcc166 hce166
                          have HR166_0 := Aside0.mk hi166_0
                          have HC166_0 := Aside0.mk hl166_0
                          clear hi166_0 hl166_0
                          replace p166 := eq_true p166
                          replace q166 := eq_true q166
                          have hcv28 := Kd.C_string (P := Try.prog) (A := A166_0) (c := c166_0) Try.underlying22 Try.underlying5 Try.underlying9 (by repeat (first | (with_reducible exact HR166_0.out) | (with_reducible refine Kd.C_alloc ?_ _) | (with_reducible refine Kd.C_drewN ?_ _) | (with_reducible refine Kd.C_drew ?_) | exact HR166_0.out))
                          have hcv29 := fun (m_ : Nat) => Kd.C_string (P := Try.prog) (A := A166_0) (c := c166_0) Try.underlying22 Try.underlying5 Try.underlying9 (Kd.C_drewN (by repeat (first | (with_reducible exact HR166_0.out) | (with_reducible refine Kd.C_alloc ?_ _) | (with_reducible refine Kd.C_drewN ?_ _) | (with_reducible refine Kd.C_drew ?_) | exact HR166_0.out)) m_)
                          obtain ⟨Ao30, co30, eo30⟩ := Kd.N_slice HO_4.out
                          subst eo30
                          have p167 : 0 ≤ (x93_2 : Int) := of_decide_eq_true (by first | (with_reducible assumption) | assumption)
                          have q167 : x93_2 < (t150.length : Int) := of_decide_eq_true (by first | (with_reducible assumption) | assumption)
                          obtain ⟨ad167, A167_0, c167_0, e167, hx167_0, hl167_0, hi167_0⟩ := at_L1 (Kd.N_reads' HO_4.out).2.2 x93_2 p167 q167
                          cases e167
                          obtain ⟨ce167, hce167, hMe167, hcc167⟩ := Kd.N_get HO_4.out [] x93_2 p167 (by first | exact q167 | exact of_decide_eq_true (by first | (with_reducible assumption) | assumption) | (have e_ := (Kd.N_reads' HO_4.out).1; omega))
                          obtain ⟨ua167_0, uc167_0, rfl, ul167_0, ge167_0⟩ := Kd.FK_slice_open hMe167
                          have hv167_0 := hcc167 0 _ rfl
                          rw [Nat.add_zero, show ((Kd.slice 5 (Kd.int .u8))).sz = 1 from rfl, Nat.mul_one] at hv167_0
                          replace hv167_0 := Option.some.inj (hv167_0.symm.trans hx167_0)
                          injection hv167_0 with hva_ hvn_ hvc_
                          rw [hva_] at ge167_0
                          rw [hvc_] at ul167_0
                          have HL167_0 := Aside0.mk (show Kd.V (Kd.int .u8) 5 _ w.heap.size _ _ (rd_L1 t150 x93_2) from Kd.V_mk ul167_0 ge167_0)
                          clear hva_ hvn_ hvc_ ge167_0 ul167_0
                          clear hcc167 hce167
                          have HR167_0 := Aside0.mk hi167_0
                          have HC167_0 := Aside0.mk hl167_0
                          clear hi167_0 hl167_0
                          replace p167 := eq_true p167
                          replace q167 := eq_true q167
                          have hcv31 := Kd.C_string (P := Try.prog) (A := A167_0) (c := c167_0) Try.underlying22 Try.underlying5 Try.underlying9 (by repeat (first | (with_reducible exact HR167_0.out) | (with_reducible refine Kd.C_alloc ?_ _) | (with_reducible refine Kd.C_drewN ?_ _) | (with_reducible refine Kd.C_drew ?_) | exact HR167_0.out))
                          have hcv32 := fun (m_ : Nat) => Kd.C_string (P := Try.prog) (A := A167_0) (c := c167_0) Try.underlying22 Try.underlying5 Try.underlying9 (Kd.C_drewN (by repeat (first | (with_reducible exact HR167_0.out) | (with_reducible refine Kd.C_alloc ?_ _) | (with_reducible refine Kd.C_drewN ?_ _) | (with_reducible refine Kd.C_drew ?_) | exact HR167_0.out)) m_)
                          go_wp2
                          repeat (go_quiet (fail); try go_wp2)
                          go_roundg k2
                          case measure => have := HJ4.out; have := HK2.out; omega
                          case rel => exact ⟨(wrap64 (x93_2 + 1)), (by first | rfl | (simp; done) | (simp [*]; done)), H', ⟨by have := HJ4.out; have := HK2.out; omega⟩, ⟨by (with_reducible repeat (first | apply Kd.R_alloc | apply Kd.R_drewN | apply Kd.R_drew)); exact HO_3.out⟩, ⟨by (with_reducible repeat (first | apply Kd.N_alloc | apply Kd.N_drewN | apply Kd.N_drew)); exact HO_4.out⟩, ⟨by (with_reducible repeat (first | apply Kd.N_alloc | apply Kd.N_drewN | apply Kd.N_drew)); exact HO_10.out⟩, ⟨by repeat (first | (with_reducible first | exact HB.out | apply below_alloc | apply pw_below_drewN | apply below_drew1) | exact HB.out)⟩⟩
                        · rw [if_neg c27] at H
                          have c27b0 : ((strOfNums (rd_L1 t161 x93_2)).toList == (strOfNums (rd_L1 t150 x93_2)).toList) = false := beq_eq_false_iff_ne.mpr c27
                          have c27b1 : ((strOfNums (rd_L1 t161 x93_2)).toList != (strOfNums (rd_L1 t150 x93_2)).toList) = true := bne_iff_ne.mpr c27
                          obtain rfl := Option.some.inj H
                          have p166 : 0 ≤ (x93_2 : Int) := of_decide_eq_true (by first | (with_reducible assumption) | assumption)
                          have q166 : x93_2 < (t161.length : Int) := of_decide_eq_true (by first | (with_reducible assumption) | assumption)
                          obtain ⟨ad166, A166_0, c166_0, e166, hx166_0, hl166_0, hi166_0⟩ := at_L1 (Kd.N_reads' HO_10.out).2.2 x93_2 p166 q166
                          cases e166
                          obtain ⟨ce166, hce166, hMe166, hcc166⟩ := Kd.N_get HO_10.out [] x93_2 p166 (by first | exact q166 | exact of_decide_eq_true (by first | (with_reducible assumption) | assumption) | (have e_ := (Kd.N_reads' HO_10.out).1; omega))
                          obtain ⟨ua166_0, uc166_0, rfl, ul166_0, ge166_0⟩ := Kd.FK_slice_open hMe166
                          have hv166_0 := hcc166 0 _ rfl
                          rw [Nat.add_zero, show ((Kd.slice 5 (Kd.int .u8))).sz = 1 from rfl, Nat.mul_one] at hv166_0
                          replace hv166_0 := Option.some.inj (hv166_0.symm.trans hx166_0)
                          injection hv166_0 with hva_ hvn_ hvc_
                          rw [hva_] at ge166_0
                          rw [hvc_] at ul166_0
                          have HL166_0 := Aside0.mk (show Kd.V (Kd.int .u8) 5 _ w.heap.size _ _ (rd_L1 t161 x93_2) from Kd.V_mk ul166_0 ge166_0)
                          clear hva_ hvn_ hvc_ ge166_0 ul166_0
                          clear hcc166 hce166
                          have HR166_0 := Aside0.mk hi166_0
                          have HC166_0 := Aside0.mk hl166_0
                          clear hi166_0 hl166_0
                          replace p166 := eq_true p166
                          replace q166 := eq_true q166
                          have hcv33 := Kd.C_string (P := Try.prog) (A := A166_0) (c := c166_0) Try.underlying22 Try.underlying5 Try.underlying9 (by repeat (first | (with_reducible exact HR166_0.out) | (with_reducible refine Kd.C_alloc ?_ _) | (with_reducible refine Kd.C_drewN ?_ _) | (with_reducible refine Kd.C_drew ?_) | exact HR166_0.out))
                          have hcv34 := fun (m_ : Nat) => Kd.C_string (P := Try.prog) (A := A166_0) (c := c166_0) Try.underlying22 Try.underlying5 Try.underlying9 (Kd.C_drewN (by repeat (first | (with_reducible exact HR166_0.out) | (with_reducible refine Kd.C_alloc ?_ _) | (with_reducible refine Kd.C_drewN ?_ _) | (with_reducible refine Kd.C_drew ?_) | exact HR166_0.out)) m_)
                          obtain ⟨Ao35, co35, eo35⟩ := Kd.N_slice HO_4.out
                          subst eo35
                          have p167 : 0 ≤ (x93_2 : Int) := of_decide_eq_true (by first | (with_reducible assumption) | assumption)
                          have q167 : x93_2 < (t150.length : Int) := of_decide_eq_true (by first | (with_reducible assumption) | assumption)
                          obtain ⟨ad167, A167_0, c167_0, e167, hx167_0, hl167_0, hi167_0⟩ := at_L1 (Kd.N_reads' HO_4.out).2.2 x93_2 p167 q167
                          cases e167
                          obtain ⟨ce167, hce167, hMe167, hcc167⟩ := Kd.N_get HO_4.out [] x93_2 p167 (by first | exact q167 | exact of_decide_eq_true (by first | (with_reducible assumption) | assumption) | (have e_ := (Kd.N_reads' HO_4.out).1; omega))
                          obtain ⟨ua167_0, uc167_0, rfl, ul167_0, ge167_0⟩ := Kd.FK_slice_open hMe167
                          have hv167_0 := hcc167 0 _ rfl
                          rw [Nat.add_zero, show ((Kd.slice 5 (Kd.int .u8))).sz = 1 from rfl, Nat.mul_one] at hv167_0
                          replace hv167_0 := Option.some.inj (hv167_0.symm.trans hx167_0)
                          injection hv167_0 with hva_ hvn_ hvc_
                          rw [hva_] at ge167_0
                          rw [hvc_] at ul167_0
                          have HL167_0 := Aside0.mk (show Kd.V (Kd.int .u8) 5 _ w.heap.size _ _ (rd_L1 t150 x93_2) from Kd.V_mk ul167_0 ge167_0)
                          clear hva_ hvn_ hvc_ ge167_0 ul167_0
                          clear hcc167 hce167
                          have HR167_0 := Aside0.mk hi167_0
                          have HC167_0 := Aside0.mk hl167_0
                          clear hi167_0 hl167_0
                          replace p167 := eq_true p167
                          replace q167 := eq_true q167
                          have hcv36 := Kd.C_string (P := Try.prog) (A := A167_0) (c := c167_0) Try.underlying22 Try.underlying5 Try.underlying9 (by repeat (first | (with_reducible exact HR167_0.out) | (with_reducible refine Kd.C_alloc ?_ _) | (with_reducible refine Kd.C_drewN ?_ _) | (with_reducible refine Kd.C_drew ?_) | exact HR167_0.out))
                          have hcv37 := fun (m_ : Nat) => Kd.C_string (P := Try.prog) (A := A167_0) (c := c167_0) Try.underlying22 Try.underlying5 Try.underlying9 (Kd.C_drewN (by repeat (first | (with_reducible exact HR167_0.out) | (with_reducible refine Kd.C_alloc ?_ _) | (with_reducible refine Kd.C_drewN ?_ _) | (with_reducible refine Kd.C_drew ?_) | exact HR167_0.out)) m_)
                          go_wp2
                          repeat (go_quiet (fail); try go_wp2)
                          go_ret
                          exact ⟨by first | rfl | (simp [errW_none, errW_some] <;> rfl) | (simp [*, errW_none, errW_some] <;> rfl), by repeat (first | (with_reducible first | exact HB.out | apply below_alloc | apply pw_below_drewN | apply below_drew1) | exact HB.out)⟩
                      · rw [if_neg c26] at H
                        exact absurd H (by simp)
                    · rw [if_neg c25] at H
                      exact absurd H (by simp)
                  · rw [if_neg c24] at H
                    exact absurd H (by simp)
                · rw [if_neg c23] at H
                  have c23b0 : decide (x93_2 < (t161.length : Int)) = false := decide_eq_false c23
                  clear c23
                  by_cases c38 : (strOfNums t147).toList = (strOfNums t147).toList
                  · rw [if_pos trivial] at H
                    have c38b0 : ((strOfNums t147).toList == (strOfNums t147).toList) = true := beq_iff_eq.mpr c38
                    have c38b1 : ((strOfNums t147).toList != (strOfNums t147).toList) = false := bne_eq_false_iff_eq.mpr c38
                    clear c38
                    replace H := Option.bind_eq_some_iff.mp H
                    obtain ⟨t168, A390, H⟩ := H
                    replace H : (some t168) = some r := H
                    have A39 := Aside0.mk A390
                    clear A390
                    obtain rfl := Option.some.inj H
                    have hcv40 := own_string (P := Try.prog) Try.underlying22 Try.underlying5 Try.underlying9 (Kd.own_of_R HO_3.out)
                    have hcv41 := fun (m_ : Nat) => own_string (P := Try.prog) Try.underlying22 Try.underlying5 Try.underlying9 (Kd.own_of_R (Kd.R_drewN HO_3.out m_))
                    go_wp2_with (first | (go_at_call 13; (with_reducible refine (veneerlaw04_works.calls k2  t168 _ A39.out).mono ?_); rintro e w42 ⟨rfl, hb⟩; have n0_ := Aside0.mk (Kd.R_below (by (with_reducible repeat (first | apply Kd.R_alloc | apply Kd.R_drewN | apply Kd.R_drew)); exact HO_3.out) hb); have n1_ := Aside0.mk (Kd.N_below (by (with_reducible repeat (first | apply Kd.N_alloc | apply Kd.N_drewN | apply Kd.N_drew)); exact HO_4.out) hb); have n2_ := Aside0.mk (Kd.N_below (by (with_reducible repeat (first | apply Kd.N_alloc | apply Kd.N_drewN | apply Kd.N_drew)); exact HO_10.out) hb); have n3_ := Aside0.mk (below_step (by repeat (first | (with_reducible first | exact HB.out | apply below_alloc | apply pw_below_drewN | apply below_drew1) | exact HB.out)) hb); clear HO_3; clear HO_4; clear HO_10; clear HB; have HO_3 := n0_; have HO_4 := n1_; have HO_10 := n2_; have HB := n3_; clear n0_ n1_ n2_ n3_; (try clear hb); (try clear hb2); (try clear hk); (try clear hi)))
                    repeat (go_quiet (first | (go_at_call 13; (with_reducible refine (veneerlaw04_works.calls k2  t168 _ A39.out).mono ?_); rintro e w42 ⟨rfl, hb⟩; have n0_ := Aside0.mk (Kd.R_below (by (with_reducible repeat (first | apply Kd.R_alloc | apply Kd.R_drewN | apply Kd.R_drew)); exact HO_3.out) hb); have n1_ := Aside0.mk (Kd.N_below (by (with_reducible repeat (first | apply Kd.N_alloc | apply Kd.N_drewN | apply Kd.N_drew)); exact HO_4.out) hb); have n2_ := Aside0.mk (Kd.N_below (by (with_reducible repeat (first | apply Kd.N_alloc | apply Kd.N_drewN | apply Kd.N_drew)); exact HO_10.out) hb); have n3_ := Aside0.mk (below_step (by repeat (first | (with_reducible first | exact HB.out | apply below_alloc | apply pw_below_drewN | apply below_drew1) | exact HB.out)) hb); clear HO_3; clear HO_4; clear HO_10; clear HB; have HO_3 := n0_; have HO_4 := n1_; have HO_10 := n2_; have HB := n3_; clear n0_ n1_ n2_ n3_; (try clear hb); (try clear hb2); (try clear hk); (try clear hi))); try go_wp2_with (first | (go_at_call 13; (with_reducible refine (veneerlaw04_works.calls k2  t168 _ A39.out).mono ?_); rintro e w42 ⟨rfl, hb⟩; have n0_ := Aside0.mk (Kd.R_below (by (with_reducible repeat (first | apply Kd.R_alloc | apply Kd.R_drewN | apply Kd.R_drew)); exact HO_3.out) hb); have n1_ := Aside0.mk (Kd.N_below (by (with_reducible repeat (first | apply Kd.N_alloc | apply Kd.N_drewN | apply Kd.N_drew)); exact HO_4.out) hb); have n2_ := Aside0.mk (Kd.N_below (by (with_reducible repeat (first | apply Kd.N_alloc | apply Kd.N_drewN | apply Kd.N_drew)); exact HO_10.out) hb); have n3_ := Aside0.mk (below_step (by repeat (first | (with_reducible first | exact HB.out | apply below_alloc | apply pw_below_drewN | apply below_drew1) | exact HB.out)) hb); clear HO_3; clear HO_4; clear HO_10; clear HB; have HO_3 := n0_; have HO_4 := n1_; have HO_10 := n2_; have HB := n3_; clear n0_ n1_ n2_ n3_; (try clear hb); (try clear hb2); (try clear hk); (try clear hi))))
                    go_ret
                    exact ⟨by first | rfl | (simp [errW_none, errW_some] <;> rfl) | (simp [*, errW_none, errW_some] <;> rfl), by repeat (first | (with_reducible first | exact HB.out | apply below_alloc | apply pw_below_drewN | apply below_drew1) | exact HB.out)⟩
                  · exact absurd rfl c38

end Go.Proofs.Ytmceiepphhlncaa.Q
