/- The side of the machine, written by a program of this session (a scratch copy of the printer of the kit, turned): Lean functions with the answers of the Go functions, and the contracts that say so. No condition beyond what each theorem states. -/
import Derived.Test.YtnkmoigimkieeaaQ0
import Derived.Test.YtnkmoigimkieeaaQ4
import Derived.Test.YtnkmoigimkieeaaQ22
import Derived.Test.YtnkmoigimkieeaaQ23
import Derived.Test.YtnkmoigimkieeaaQ24
namespace Go.Proofs.Ytnkmoigimkieeaa.Q
open Go.RowKit Go.Proofs.YtnkmoigimkieeaaW.PrintWords Go.Proofs.YtnkmoigimkieeaaW.PrintLast Go.Proofs.YtnkmoigimkieeaaW.PrintMore
attribute [local go_sem] max2_int min2_int max_two min_two max_three min_three max_four min_four   -- for this text's walks alone
set_option linter.unusedVariables false
set_option linter.unusedSimpArgs false

/-! ### veneerlaw01_NumTurns: function 12 -/
def veneerlaw01_NumTurns.j0 : Nat → Int → Int → Int → Int → Bool → Option (Bool)
  | 0, _, _, _, _, _ => none
  | k + 1, x0, x1, x5, x6, x56 => if x56 = true then (some false) else (if x6 = 0 then ((num_Sub.f x5 x1).bind fun bt280 => (if bt280.1 = x0 then (if bt280.2 = 0 then ((veneerlaw01_works.f k).bind fun t282 => (some t282)) else (some false)) else (some false))) else ((veneerlaw01_works.f k).bind fun t283 => (some t283)))
def veneerlaw01_NumTurns.f (k : Nat) (a0 : Int) (a1 : Int) : Option (Bool) := (num_Add.f a0 a1).bind fun bt272 => ((num_Add.f a1 a0).bind fun bt274 => ((num_Mul.f k a0 a1).bind fun bt276 => ((num_Mul.f k a1 a0).bind fun bt278 => (if bt272.1 = bt274.1 then (if bt272.2 = bt274.2 then (if bt276.1 = bt278.1 then (veneerlaw01_NumTurns.j0 k a0 a1 bt272.1 bt272.2 (bt276.2 != bt278.2)) else (veneerlaw01_NumTurns.j0 k a0 a1 bt272.1 bt272.2 true)) else (veneerlaw01_NumTurns.j0 k a0 a1 bt272.1 bt272.2 true)) else (veneerlaw01_NumTurns.j0 k a0 a1 bt272.1 bt272.2 true)))))
theorem veneerlaw01_NumTurns.mono_l : ∀ k, (∀ y0 y1 y2 y3 y4, LeO (veneerlaw01_NumTurns.j0 k y0 y1 y2 y3 y4) (veneerlaw01_NumTurns.j0 (k + 1) y0 y1 y2 y3 y4))
  | 0 => fun _ _ _ _ _ r h => by simp [veneerlaw01_NumTurns.j0] at h
  | k + 1 => by
    have ih0 := veneerlaw01_NumTurns.mono_l k
    · intro y0 y1 y2 y3 y4
      unfold veneerlaw01_NumTurns.j0
      repeat' first
      | (with_reducible exact ih0 _ _ _ _ _)
      | (with_reducible exact num_Mul.mono _ _ _)
      | (with_reducible exact veneerlaw01_works.mono _)
      | (with_reducible exact LeO.refl _)
      | (with_reducible exact LeO.none _)
      | (with_reducible refine LeO.ite ?_ ?_)
      | (with_reducible refine LeO.bind ?_ (fun _ => ?_))
      | exact ih0 _ _ _ _ _
      | exact num_Mul.mono _ _ _
      | exact veneerlaw01_works.mono _
      | exact LeO.none _
      | refine LeO.ite ?_ ?_
      | refine LeO.bind ?_ (fun _ => ?_)
theorem veneerlaw01_NumTurns.mono : ∀ a0 a1 k, LeO (veneerlaw01_NumTurns.f k a0 a1) (veneerlaw01_NumTurns.f (k + 1) a0 a1) := by
  intro a0 a1 k
  have ih0 := veneerlaw01_NumTurns.mono_l k
  unfold veneerlaw01_NumTurns.f
  repeat' first
      | (with_reducible exact ih0 _ _ _ _ _)
      | (with_reducible exact num_Mul.mono _ _ _)
      | (with_reducible exact veneerlaw01_works.mono _)
      | (with_reducible exact LeO.refl _)
      | (with_reducible exact LeO.none _)
      | (with_reducible refine LeO.ite ?_ ?_)
      | (with_reducible refine LeO.bind ?_ (fun _ => ?_))
      | exact ih0 _ _ _ _ _
      | exact num_Mul.mono _ _ _
      | exact veneerlaw01_works.mono _
      | exact LeO.none _
      | refine LeO.ite ?_ ?_
      | refine LeO.bind ?_ (fun _ => ?_)
set_option maxHeartbeats 8000000 in
set_option maxRecDepth 100000 in
theorem veneerlaw01_NumTurns.calls (k : Nat) (a0 : Int) (a1 : Int) (r : Bool) (w : World) (h : veneerlaw01_NumTurns.f k a0 a1 = some r) :
    Calls Try.prog 12 #[.int .u64 a0, .int .u64 a1] w fun e w' => e = .returned (.bool r) ∧ Below w.heap.size w w' := by
  have HB := Aside0.mk (Below.refl w.heap.size w)
  have H : ((num_Add.f a0 a1).bind fun bt272 => ((num_Add.f a1 a0).bind fun bt274 => ((num_Mul.f k a0 a1).bind fun bt276 => ((num_Mul.f k a1 a0).bind fun bt278 => (if bt272.1 = bt274.1 then (if bt272.2 = bt274.2 then (if bt276.1 = bt278.1 then (veneerlaw01_NumTurns.j0 k a0 a1 bt272.1 bt272.2 (bt276.2 != bt278.2)) else (veneerlaw01_NumTurns.j0 k a0 a1 bt272.1 bt272.2 true)) else (veneerlaw01_NumTurns.j0 k a0 a1 bt272.1 bt272.2 true)) else (veneerlaw01_NumTurns.j0 k a0 a1 bt272.1 bt272.2 true)))))) = some r := h
  clear h
  replace H := Option.bind_eq_some_iff.mp H
  obtain ⟨⟨t272, t273⟩, A30, H⟩ := H
  replace H : ((num_Add.f a1 a0).bind fun bt274 => ((num_Mul.f k a0 a1).bind fun bt276 => ((num_Mul.f k a1 a0).bind fun bt278 => (if t272 = bt274.1 then (if t273 = bt274.2 then (if bt276.1 = bt278.1 then (veneerlaw01_NumTurns.j0 k a0 a1 t272 t273 (bt276.2 != bt278.2)) else (veneerlaw01_NumTurns.j0 k a0 a1 t272 t273 true)) else (veneerlaw01_NumTurns.j0 k a0 a1 t272 t273 true)) else (veneerlaw01_NumTurns.j0 k a0 a1 t272 t273 true))))) = some r := H
  have A3 := Aside0.mk A30
  clear A30
  replace H := Option.bind_eq_some_iff.mp H
  obtain ⟨⟨t274, t275⟩, A40, H⟩ := H
  replace H : ((num_Mul.f k a0 a1).bind fun bt276 => ((num_Mul.f k a1 a0).bind fun bt278 => (if t272 = t274 then (if t273 = t275 then (if bt276.1 = bt278.1 then (veneerlaw01_NumTurns.j0 k a0 a1 t272 t273 (bt276.2 != bt278.2)) else (veneerlaw01_NumTurns.j0 k a0 a1 t272 t273 true)) else (veneerlaw01_NumTurns.j0 k a0 a1 t272 t273 true)) else (veneerlaw01_NumTurns.j0 k a0 a1 t272 t273 true)))) = some r := H
  have A4 := Aside0.mk A40
  clear A40
  replace H := Option.bind_eq_some_iff.mp H
  obtain ⟨⟨t276, t277⟩, A50, H⟩ := H
  replace H : ((num_Mul.f k a1 a0).bind fun bt278 => (if t272 = t274 then (if t273 = t275 then (if t276 = bt278.1 then (veneerlaw01_NumTurns.j0 k a0 a1 t272 t273 (t277 != bt278.2)) else (veneerlaw01_NumTurns.j0 k a0 a1 t272 t273 true)) else (veneerlaw01_NumTurns.j0 k a0 a1 t272 t273 true)) else (veneerlaw01_NumTurns.j0 k a0 a1 t272 t273 true))) = some r := H
  have A5 := Aside0.mk A50
  clear A50
  replace H := Option.bind_eq_some_iff.mp H
  obtain ⟨⟨t278, t279⟩, A60, H⟩ := H
  replace H : (if t272 = t274 then (if t273 = t275 then (if t276 = t278 then (veneerlaw01_NumTurns.j0 k a0 a1 t272 t273 (t277 != t279)) else (veneerlaw01_NumTurns.j0 k a0 a1 t272 t273 true)) else (veneerlaw01_NumTurns.j0 k a0 a1 t272 t273 true)) else (veneerlaw01_NumTurns.j0 k a0 a1 t272 t273 true)) = some r := H
  have A6 := Aside0.mk A60
  clear A60
  have HC7 := Aside0.mk H
  clear H
  go_enter Try.func12, Try.ntmps12
  go_upto_region 5 with (first | ((with_reducible refine gate_callee (f := 26) rfl ?_); refine goesL_ (some 18) rfl rfl Try.func26 (by kernel_rfl) rfl #[.int .u64 a0, .int .u64 a1] rfl (by (try simp only [List.map_toArray, List.map_cons, List.map_nil]); first | done | rfl | (simp only [List.length_drop, List.length_take]; rfl)) ?_; (with_reducible refine (num_Add.calls a0 a1 t272 t273 _ A3.out).mono ?_); rintro e w' ⟨rfl, ⟨nd, rfl⟩⟩; refine ⟨_, rfl, ?_⟩) | ((with_reducible refine gate_callee (f := 26) rfl ?_); refine goesL_ (some 24) rfl rfl Try.func26 (by kernel_rfl) rfl #[.int .u64 a1, .int .u64 a0] rfl (by (try simp only [List.map_toArray, List.map_cons, List.map_nil]); first | done | rfl | (simp only [List.length_drop, List.length_take]; rfl)) ?_; (with_reducible refine (num_Add.calls a1 a0 t274 t275 _ A4.out).mono ?_); rintro e w' ⟨rfl, ⟨nd, rfl⟩⟩; refine ⟨_, rfl, ?_⟩) | ((with_reducible refine gate_callee (f := 28) rfl ?_); refine goesL_ (some 30) rfl rfl Try.func28 (by kernel_rfl) rfl #[.int .u64 a0, .int .u64 a1] rfl (by (try simp only [List.map_toArray, List.map_cons, List.map_nil]); first | done | rfl | (simp only [List.length_drop, List.length_take]; rfl)) ?_; (with_reducible refine (num_Mul.calls k a0 a1 t276 t277 _ A5.out).mono ?_); rintro e w' ⟨rfl, ⟨nd, rfl⟩⟩; refine ⟨_, rfl, ?_⟩) | ((with_reducible refine gate_callee (f := 28) rfl ?_); refine goesL_ (some 36) rfl rfl Try.func28 (by kernel_rfl) rfl #[.int .u64 a1, .int .u64 a0] rfl (by (try simp only [List.map_toArray, List.map_cons, List.map_nil]); first | done | rfl | (simp only [List.length_drop, List.length_take]; rfl)) ?_; (with_reducible refine (num_Mul.calls k a1 a0 t278 t279 _ A6.out).mono ?_); rintro e w' ⟨rfl, ⟨nd, rfl⟩⟩; refine ⟨_, rfl, ?_⟩))
  (try simp only [Act.put, List.setIfInBounds_toArray, List.set_cons_zero, List.set_cons_succ])
  go_cut [56] (fun v56 wc => ∃ (kq : Nat) (x56_6 : Bool), v56 = .bool x56_6 ∧ Aside0 (veneerlaw01_NumTurns.j0 kq a0 a1 t272 t273 x56_6 = some r) ∧ Aside0 (kq ≤ k) ∧ Aside0 (Below w.heap.size w wc))
  case first =>
    have H := HC7.out
    clear HC7
    by_cases c8 : t272 = t274
    · rw [if_pos c8] at H
      have c8b0 : (t272 == t274) = true := beq_iff_eq.mpr c8
      have c8b1 : (t272 != t274) = false := bne_eq_false_iff_eq.mpr c8
      clear c8
      (first | rw [c8b0] | (simp only [i64_w, i32_w]; rw [c8b0]) | skip)
      by_cases c9 : t273 = t275
      · rw [if_pos c9] at H
        have c9b0 : (t273 == t275) = true := beq_iff_eq.mpr c9
        have c9b1 : (t273 != t275) = false := bne_eq_false_iff_eq.mpr c9
        clear c9
        by_cases c10 : t276 = t278
        · rw [if_pos c10] at H
          have c10b0 : (t276 == t278) = true := beq_iff_eq.mpr c10
          have c10b1 : (t276 != t278) = false := bne_eq_false_iff_eq.mpr c10
          clear c10
          have H' := Aside0.mk H
          clear H
          go_wp2
          go_meet
          case rel => exact ⟨_, ((t277 != t279)), (by first | rfl | (simp; done) | (simp [*]; done)), H', ⟨by first | omega | exact Nat.le_refl _⟩, ⟨by repeat (first | (with_reducible first | exact HB.out | apply below_alloc | apply pw_below_drewN | apply below_drew1) | exact HB.out)⟩⟩
        · rw [if_neg c10] at H
          have c10b0 : (t276 == t278) = false := beq_eq_false_iff_ne.mpr c10
          have c10b1 : (t276 != t278) = true := bne_iff_ne.mpr c10
          have H' := Aside0.mk H
          clear H
          go_wp2
          go_meet
          case rel => exact ⟨_, (true), (by first | rfl | (simp; done) | (simp [*]; done)), H', ⟨by first | omega | exact Nat.le_refl _⟩, ⟨by repeat (first | (with_reducible first | exact HB.out | apply below_alloc | apply pw_below_drewN | apply below_drew1) | exact HB.out)⟩⟩
      · rw [if_neg c9] at H
        have c9b0 : (t273 == t275) = false := beq_eq_false_iff_ne.mpr c9
        have c9b1 : (t273 != t275) = true := bne_iff_ne.mpr c9
        have H' := Aside0.mk H
        clear H
        go_wp2
        go_meet
        case rel => exact ⟨_, (true), (by first | rfl | (simp; done) | (simp [*]; done)), H', ⟨by first | omega | exact Nat.le_refl _⟩, ⟨by repeat (first | (with_reducible first | exact HB.out | apply below_alloc | apply pw_below_drewN | apply below_drew1) | exact HB.out)⟩⟩
    · rw [if_neg c8] at H
      have c8b0 : (t272 == t274) = false := beq_eq_false_iff_ne.mpr c8
      have c8b1 : (t272 != t274) = true := bne_iff_ne.mpr c8
      (first | rw [c8b0] | (simp only [i64_w, i32_w]; rw [c8b0]) | skip)
      have H' := Aside0.mk H
      clear H
      go_wp2
      go_meet
      case rel => exact ⟨_, (true), (by first | rfl | (simp; done) | (simp [*]; done)), H', ⟨by first | omega | exact Nat.le_refl _⟩, ⟨by repeat (first | (with_reducible first | exact HB.out | apply below_alloc | apply pw_below_drewN | apply below_drew1) | exact HB.out)⟩⟩
  case rest =>
    clear HC7
    try clear c1
    try clear c2
    try clear p2
    try clear c8
    try clear c8b0
    try clear c8b1
    try clear c9
    try clear c9b0
    try clear c9b1
    try clear c10
    try clear c10b0
    try clear c10b1
    obtain ⟨kq, x56_6, rfl, HA, HJ6, HB⟩ := hcut
    cases kq with
    | zero => exact absurd HA.out (by simp [veneerlaw01_NumTurns.j0])
    | succ kj6 =>
      have H := HA.out
      clear HA
      simp only [veneerlaw01_NumTurns.j0] at H
      by_cases c11 : x56_6 = true
      · subst c11
        have H1 : (some false) = some r := by rw [if_pos rfl] at H; exact H
        clear H
        have H := H1
        clear H1
        obtain rfl := Option.some.inj H
        go_wp2
        go_ret
        exact ⟨by first | rfl | (simp [errW_none, errW_some] <;> rfl) | (simp [*, errW_none, errW_some] <;> rfl), by repeat (first | (with_reducible first | exact HB.out | apply below_alloc | apply pw_below_drewN | apply below_drew1) | exact HB.out)⟩
      · replace c11 := Bool.eq_false_iff.mpr c11
        subst c11
        have H1 : (if t273 = 0 then ((num_Sub.f t272 a1).bind fun bt280 => (if bt280.1 = a0 then (if bt280.2 = 0 then ((veneerlaw01_works.f kj6).bind fun t282 => (some t282)) else (some false)) else (some false))) else ((veneerlaw01_works.f kj6).bind fun t283 => (some t283))) = some r := by rw [if_neg (show ¬ (false = true) by decide)] at H; exact H
        clear H
        have H := H1
        clear H1
        by_cases c12 : t273 = 0
        · rw [if_pos c12] at H
          have c12b0 : (t273 == 0) = true := beq_iff_eq.mpr c12
          have c12b1 : (t273 != 0) = false := bne_eq_false_iff_eq.mpr c12
          clear c12
          replace H := Option.bind_eq_some_iff.mp H
          obtain ⟨⟨t280, t281⟩, A130, H⟩ := H
          replace H : (if t280 = a0 then (if t281 = 0 then ((veneerlaw01_works.f kj6).bind fun t282 => (some t282)) else (some false)) else (some false)) = some r := H
          have A13 := Aside0.mk A130
          clear A130
          by_cases c14 : t280 = a0
          · rw [if_pos c14] at H
            have c14b0 : (t280 == a0) = true := beq_iff_eq.mpr c14
            have c14b1 : (t280 != a0) = false := bne_eq_false_iff_eq.mpr c14
            clear c14
            by_cases c15 : t281 = 0
            · rw [if_pos c15] at H
              have c15b0 : (t281 == 0) = true := beq_iff_eq.mpr c15
              have c15b1 : (t281 != 0) = false := bne_eq_false_iff_eq.mpr c15
              clear c15
              replace H := Option.bind_eq_some_iff.mp H
              obtain ⟨t282, A160, H⟩ := H
              replace H : (some t282) = some r := H
              have A16 := Aside0.mk A160
              clear A160
              obtain rfl := Option.some.inj H
              go_wp2_with (first | ((with_reducible refine gate_callee (f := 27) rfl ?_); refine goesL_ (some 62) rfl rfl Try.func27 (by kernel_rfl) rfl #[.int .u64 t272, .int .u64 a1] rfl (by (try simp only [List.map_toArray, List.map_cons, List.map_nil]); first | done | rfl | (simp only [List.length_drop, List.length_take]; rfl)) ?_; (with_reducible refine (num_Sub.calls t272 a1 t280 t281 _ A13.out).mono ?_); rintro e w' ⟨rfl, ⟨nd, rfl⟩⟩; refine ⟨_, rfl, ?_⟩) | ((with_reducible refine gate_callee (f := 14) rfl ?_); refine goesL_ (some 72) rfl rfl Try.func14 (by kernel_rfl) rfl #[] rfl (by (try simp only [List.map_toArray, List.map_cons, List.map_nil]); first | done | rfl | (simp only [List.length_drop, List.length_take]; rfl)) ?_; (with_reducible refine (veneerlaw01_works.calls kj6  t282 _ A16.out).mono ?_); rintro e w17 ⟨rfl, hb⟩; refine ⟨_, rfl, ?_⟩; have n0_ := Aside0.mk (below_step (by repeat (first | (with_reducible first | exact HB.out | apply below_alloc | apply pw_below_drewN | apply below_drew1) | exact HB.out)) hb); clear HB; have HB := n0_; clear n0_; (try clear hb); (try clear hb2); (try clear hk); (try clear hi)))
              go_ret
              exact ⟨by first | rfl | (simp [errW_none, errW_some] <;> rfl) | (simp [*, errW_none, errW_some] <;> rfl), by repeat (first | (with_reducible first | exact HB.out | apply below_alloc | apply pw_below_drewN | apply below_drew1) | exact HB.out)⟩
            · rw [if_neg c15] at H
              have c15b0 : (t281 == 0) = false := beq_eq_false_iff_ne.mpr c15
              have c15b1 : (t281 != 0) = true := bne_iff_ne.mpr c15
              obtain rfl := Option.some.inj H
              go_wp2_with (first | ((with_reducible refine gate_callee (f := 27) rfl ?_); refine goesL_ (some 62) rfl rfl Try.func27 (by kernel_rfl) rfl #[.int .u64 t272, .int .u64 a1] rfl (by (try simp only [List.map_toArray, List.map_cons, List.map_nil]); first | done | rfl | (simp only [List.length_drop, List.length_take]; rfl)) ?_; (with_reducible refine (num_Sub.calls t272 a1 t280 t281 _ A13.out).mono ?_); rintro e w' ⟨rfl, ⟨nd, rfl⟩⟩; refine ⟨_, rfl, ?_⟩))
              go_ret
              exact ⟨by first | rfl | (simp [errW_none, errW_some] <;> rfl) | (simp [*, errW_none, errW_some] <;> rfl), by repeat (first | (with_reducible first | exact HB.out | apply below_alloc | apply pw_below_drewN | apply below_drew1) | exact HB.out)⟩
          · rw [if_neg c14] at H
            have c14b0 : (t280 == a0) = false := beq_eq_false_iff_ne.mpr c14
            have c14b1 : (t280 != a0) = true := bne_iff_ne.mpr c14
            obtain rfl := Option.some.inj H
            go_wp2_with (first | ((with_reducible refine gate_callee (f := 27) rfl ?_); refine goesL_ (some 62) rfl rfl Try.func27 (by kernel_rfl) rfl #[.int .u64 t272, .int .u64 a1] rfl (by (try simp only [List.map_toArray, List.map_cons, List.map_nil]); first | done | rfl | (simp only [List.length_drop, List.length_take]; rfl)) ?_; (with_reducible refine (num_Sub.calls t272 a1 t280 t281 _ A13.out).mono ?_); rintro e w' ⟨rfl, ⟨nd, rfl⟩⟩; refine ⟨_, rfl, ?_⟩))
            go_ret
            exact ⟨by first | rfl | (simp [errW_none, errW_some] <;> rfl) | (simp [*, errW_none, errW_some] <;> rfl), by repeat (first | (with_reducible first | exact HB.out | apply below_alloc | apply pw_below_drewN | apply below_drew1) | exact HB.out)⟩
        · rw [if_neg c12] at H
          have c12b0 : (t273 == 0) = false := beq_eq_false_iff_ne.mpr c12
          have c12b1 : (t273 != 0) = true := bne_iff_ne.mpr c12
          replace H := Option.bind_eq_some_iff.mp H
          obtain ⟨t283, A180, H⟩ := H
          replace H : (some t283) = some r := H
          have A18 := Aside0.mk A180
          clear A180
          obtain rfl := Option.some.inj H
          go_wp2_with (first | ((with_reducible refine gate_callee (f := 14) rfl ?_); refine goesL_ (some 72) rfl rfl Try.func14 (by kernel_rfl) rfl #[] rfl (by (try simp only [List.map_toArray, List.map_cons, List.map_nil]); first | done | rfl | (simp only [List.length_drop, List.length_take]; rfl)) ?_; (with_reducible refine (veneerlaw01_works.calls kj6  t283 _ A18.out).mono ?_); rintro e w19 ⟨rfl, hb⟩; refine ⟨_, rfl, ?_⟩; have n0_ := Aside0.mk (below_step (by repeat (first | (with_reducible first | exact HB.out | apply below_alloc | apply pw_below_drewN | apply below_drew1) | exact HB.out)) hb); clear HB; have HB := n0_; clear n0_; (try clear hb); (try clear hb2); (try clear hk); (try clear hi)))
          go_ret
          exact ⟨by first | rfl | (simp [errW_none, errW_some] <;> rfl) | (simp [*, errW_none, errW_some] <;> rfl), by repeat (first | (with_reducible first | exact HB.out | apply below_alloc | apply pw_below_drewN | apply below_drew1) | exact HB.out)⟩

/-- THE ONE PURE STATEMENT of veneerlaw01_NumTurns: yours. -/
def veneerlaw01_NumTurns.Pure : Prop := ∀ (a0 : Int) (a1 : Int), (Lit.int .u64 a0).wf = true → (Lit.int .u64 a1).wf = true → ∃ k, veneerlaw01_NumTurns.f k a0 a1 = some true
theorem veneerlaw01_NumTurns.walk (P : veneerlaw01_NumTurns.Pure) (a0 : Int) (a1 : Int) (w : World) (w0 : (Lit.int .u64 a0).wf = true) (w1 : (Lit.int .u64 a1).wf = true) :
    Calls Try.prog 12 #[.int .u64 a0, .int .u64 a1] w fun e w' => e = .returned (.bool true) ∧ Below w.heap.size w w' := by
  obtain ⟨k, h⟩ := P a0 a1 w0 w1
  refine (veneerlaw01_NumTurns.calls k a0 a1 true w h).mono ?_
  rintro e w' ⟨rfl, hd⟩
  exact ⟨rfl, hd⟩

end Go.Proofs.Ytnkmoigimkieeaa.Q
