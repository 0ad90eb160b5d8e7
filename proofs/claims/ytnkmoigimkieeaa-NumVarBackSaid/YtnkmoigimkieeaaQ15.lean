/- The side of the machine, written by a program of this session (a scratch copy of the printer of the kit, turned): Lean functions with the answers of the Go functions, and the contracts that say so. No condition beyond what each theorem states. -/
import Derived.Test.YtnkmoigimkieeaaQ0
import Derived.Test.YtnkmoigimkieeaaQ3
import Derived.Test.YtnkmoigimkieeaaQ4
import Derived.Test.YtnkmoigimkieeaaQ12
namespace Go.Proofs.Ytnkmoigimkieeaa.Q
open Go.RowKit Go.Proofs.YtnkmoigimkieeaaW.PrintWords Go.Proofs.YtnkmoigimkieeaaW.PrintLast Go.Proofs.YtnkmoigimkieeaaW.PrintMore
attribute [local go_sem] max2_int min2_int max_two min_two max_three min_three max_four min_four   -- for this text's walks alone
set_option linter.unusedVariables false
set_option linter.unusedSimpArgs false

/-! ### veneerlaw01_NumVarBack: function 7 -/
def veneerlaw01_NumVarBack.j0 : Nat → Int → List Int → Int → Bool → Option (Bool)
  | 0, _, _, _, _ => none
  | k + 1, x0, x5, x7, x45 => if x45 = true then (some false) else (if 0 ≤ (wrap64 (x7 - 1)) then (if (wrap64 (x7 - 1)) ≤ (x5.length : Int) then ((num_ReadVar.f k (x5.take ((wrap64 (x7 - 1)) : Int).toNat)).bind fun bt191 => (if x7 = 10 then (if bt191.2.2 = 4 then (if x7 = 1 then ((veneerlaw01_works.f k).bind fun t194 => (some t194)) else (if 0 ≤ (IntKind.u64.wrap (wrap64 (7 * (wrap64 (x7 - 1))))) then (if x0 ≥ (shl .u64 1 (IntKind.u64.wrap (wrap64 (7 * (wrap64 (x7 - 1)))))) then ((veneerlaw01_works.f k).bind fun t195 => (some t195)) else (some false)) else (none))) else (some false)) else (if 0 ≤ (IntKind.u64.wrap (wrap64 (7 * x7))) then (if bt191.2.2 = 4 then (if x0 < (shl .u64 1 (IntKind.u64.wrap (wrap64 (7 * x7)))) then (if x7 = 1 then ((veneerlaw01_works.f k).bind fun t196 => (some t196)) else (if 0 ≤ (IntKind.u64.wrap (wrap64 (7 * (wrap64 (x7 - 1))))) then (if x0 ≥ (shl .u64 1 (IntKind.u64.wrap (wrap64 (7 * (wrap64 (x7 - 1)))))) then ((veneerlaw01_works.f k).bind fun t197 => (some t197)) else (some false)) else (none))) else (some false)) else (some false)) else (none)))) else (none)) else (none))
def veneerlaw01_NumVarBack.f (k : Nat) (a0 : Int) (l1 : List Int) : Option (Bool) := (num_Var.f k a0).bind fun t172 => ((some (([] : List Int) : List Int)).bind fun y175 => (if y175.length + t172.length < 140737488355328 then ((some (y175 ++ t172 : List Int)).bind fun y178 => (if y178.length + l1.length < 140737488355328 then ((num_ReadVar.f k (y178 ++ l1)).bind fun bt184 => (if bt184.1 = a0 then (if bt184.2.1 = (t172.length : Int) then (if bt184.2.2 = 0 then (if bt184.2.1 < 1 then (veneerlaw01_NumVarBack.j0 k a0 t172 bt184.2.1 true) else (veneerlaw01_NumVarBack.j0 k a0 t172 bt184.2.1 (decide (bt184.2.1 > 10)))) else (veneerlaw01_NumVarBack.j0 k a0 t172 bt184.2.1 true)) else (veneerlaw01_NumVarBack.j0 k a0 t172 bt184.2.1 true)) else (veneerlaw01_NumVarBack.j0 k a0 t172 bt184.2.1 true))) else (none))) else (none)))
theorem veneerlaw01_NumVarBack.mono_l : ∀ k, (∀ y0 y1 y2 y3, LeO (veneerlaw01_NumVarBack.j0 k y0 y1 y2 y3) (veneerlaw01_NumVarBack.j0 (k + 1) y0 y1 y2 y3))
  | 0 => fun _ _ _ _ r h => by simp [veneerlaw01_NumVarBack.j0] at h
  | k + 1 => by
    have ih0 := veneerlaw01_NumVarBack.mono_l k
    · intro y0 y1 y2 y3
      unfold veneerlaw01_NumVarBack.j0
      repeat' first
      | (with_reducible exact ih0 _ _ _ _)
      | (with_reducible exact num_ReadVar.mono _ _)
      | (with_reducible exact num_Var.mono _ _)
      | (with_reducible exact veneerlaw01_works.mono _)
      | (with_reducible exact LeO.refl _)
      | (with_reducible exact LeO.none _)
      | (with_reducible refine LeO.ite ?_ ?_)
      | (with_reducible refine LeO.bind ?_ (fun _ => ?_))
      | exact ih0 _ _ _ _
      | exact num_ReadVar.mono _ _
      | exact num_Var.mono _ _
      | exact veneerlaw01_works.mono _
      | exact LeO.none _
      | refine LeO.ite ?_ ?_
      | refine LeO.bind ?_ (fun _ => ?_)
theorem veneerlaw01_NumVarBack.mono : ∀ a0 a1 k, LeO (veneerlaw01_NumVarBack.f k a0 a1) (veneerlaw01_NumVarBack.f (k + 1) a0 a1) := by
  intro a0 a1 k
  have ih0 := veneerlaw01_NumVarBack.mono_l k
  unfold veneerlaw01_NumVarBack.f
  repeat' first
      | (with_reducible exact ih0 _ _ _ _)
      | (with_reducible exact num_ReadVar.mono _ _)
      | (with_reducible exact num_Var.mono _ _)
      | (with_reducible exact veneerlaw01_works.mono _)
      | (with_reducible exact LeO.refl _)
      | (with_reducible exact LeO.none _)
      | (with_reducible refine LeO.ite ?_ ?_)
      | (with_reducible refine LeO.bind ?_ (fun _ => ?_))
      | exact ih0 _ _ _ _
      | exact num_ReadVar.mono _ _
      | exact num_Var.mono _ _
      | exact veneerlaw01_works.mono _
      | exact LeO.none _
      | refine LeO.ite ?_ ?_
      | refine LeO.bind ?_ (fun _ => ?_)
set_option maxHeartbeats 8000000 in
set_option maxRecDepth 100000 in
theorem veneerlaw01_NumVarBack.calls (k : Nat) (a0 : Int) (A1 : Option Addr) (c1 : Nat) (l1 : List Int) (r : Bool) (w : World) (hr1 : Kd.C (Kd.int .u8) w A1 l1.length l1) (hc1 : l1.length ≤ c1) (h : veneerlaw01_NumVarBack.f k a0 l1 = some r) :
    Calls Try.prog 7 #[.int .u64 a0, .slice A1 l1.length c1] w fun e w' => e = .returned (.bool r) ∧ Below w.heap.size w w' := by
  have HR1 := Aside0.mk hr1
  have HC1 := Aside0.mk hc1
  clear hr1 hc1
  have HB := Aside0.mk (Below.refl w.heap.size w)
  have H : ((num_Var.f k a0).bind fun t172 => ((some (([] : List Int) : List Int)).bind fun y175 => (if y175.length + t172.length < 140737488355328 then ((some (y175 ++ t172 : List Int)).bind fun y178 => (if y178.length + l1.length < 140737488355328 then ((num_ReadVar.f k (y178 ++ l1)).bind fun bt184 => (if bt184.1 = a0 then (if bt184.2.1 = (t172.length : Int) then (if bt184.2.2 = 0 then (if bt184.2.1 < 1 then (veneerlaw01_NumVarBack.j0 k a0 t172 bt184.2.1 true) else (veneerlaw01_NumVarBack.j0 k a0 t172 bt184.2.1 (decide (bt184.2.1 > 10)))) else (veneerlaw01_NumVarBack.j0 k a0 t172 bt184.2.1 true)) else (veneerlaw01_NumVarBack.j0 k a0 t172 bt184.2.1 true)) else (veneerlaw01_NumVarBack.j0 k a0 t172 bt184.2.1 true))) else (none))) else (none)))) = some r := h
  clear h
  replace H := Option.bind_eq_some_iff.mp H
  obtain ⟨t172, A30, H⟩ := H
  replace H : ((some (([] : List Int) : List Int)).bind fun y175 => (if y175.length + t172.length < 140737488355328 then ((some (y175 ++ t172 : List Int)).bind fun y178 => (if y178.length + l1.length < 140737488355328 then ((num_ReadVar.f k (y178 ++ l1)).bind fun bt184 => (if bt184.1 = a0 then (if bt184.2.1 = (t172.length : Int) then (if bt184.2.2 = 0 then (if bt184.2.1 < 1 then (veneerlaw01_NumVarBack.j0 k a0 t172 bt184.2.1 true) else (veneerlaw01_NumVarBack.j0 k a0 t172 bt184.2.1 (decide (bt184.2.1 > 10)))) else (veneerlaw01_NumVarBack.j0 k a0 t172 bt184.2.1 true)) else (veneerlaw01_NumVarBack.j0 k a0 t172 bt184.2.1 true)) else (veneerlaw01_NumVarBack.j0 k a0 t172 bt184.2.1 true))) else (none))) else (none))) = some r := H
  have A3 := Aside0.mk A30
  clear A30
  obtain ⟨y175, hy175⟩ : ∃ y_ : List Int, y_ = (([] : List Int)) := ⟨_, rfl⟩
  replace H : (if y175.length + t172.length < 140737488355328 then ((some (y175 ++ t172 : List Int)).bind fun y178 => (if y178.length + l1.length < 140737488355328 then ((num_ReadVar.f k (y178 ++ l1)).bind fun bt184 => (if bt184.1 = a0 then (if bt184.2.1 = (t172.length : Int) then (if bt184.2.2 = 0 then (if bt184.2.1 < 1 then (veneerlaw01_NumVarBack.j0 k a0 t172 bt184.2.1 true) else (veneerlaw01_NumVarBack.j0 k a0 t172 bt184.2.1 (decide (bt184.2.1 > 10)))) else (veneerlaw01_NumVarBack.j0 k a0 t172 bt184.2.1 true)) else (veneerlaw01_NumVarBack.j0 k a0 t172 bt184.2.1 true)) else (veneerlaw01_NumVarBack.j0 k a0 t172 bt184.2.1 true))) else (none))) else (none)) = some r := by first | (rw [hy175]; with_reducible exact H) | (have H2_ := (Option.bind_some _ _).symm.trans H; rw [hy175]; with_reducible exact H2_) | (have H2_ := (Option.bind_some _ _).symm.trans H; with_reducible exact H2_) | with_reducible exact H | (rw [hy175]; exact H) | exact H
  have Ny175 := Aside0.mk hy175
  clear hy175
  by_cases c4 : y175.length + t172.length < 140737488355328
  · rw [if_pos c4] at H
    have LMc4 := Aside0.mk c4
    clear c4
    obtain ⟨y178, hy178⟩ : ∃ y_ : List Int, y_ = (y175 ++ t172) := ⟨_, rfl⟩
    replace H : (if y178.length + l1.length < 140737488355328 then ((num_ReadVar.f k (y178 ++ l1)).bind fun bt184 => (if bt184.1 = a0 then (if bt184.2.1 = (t172.length : Int) then (if bt184.2.2 = 0 then (if bt184.2.1 < 1 then (veneerlaw01_NumVarBack.j0 k a0 t172 bt184.2.1 true) else (veneerlaw01_NumVarBack.j0 k a0 t172 bt184.2.1 (decide (bt184.2.1 > 10)))) else (veneerlaw01_NumVarBack.j0 k a0 t172 bt184.2.1 true)) else (veneerlaw01_NumVarBack.j0 k a0 t172 bt184.2.1 true)) else (veneerlaw01_NumVarBack.j0 k a0 t172 bt184.2.1 true))) else (none)) = some r := by first | (rw [hy178]; with_reducible exact H) | (have H2_ := (Option.bind_some _ _).symm.trans H; rw [hy178]; with_reducible exact H2_) | (have H2_ := (Option.bind_some _ _).symm.trans H; with_reducible exact H2_) | with_reducible exact H | (rw [hy178]; exact H) | exact H
    have Ny178 := Aside0.mk hy178
    clear hy178
    by_cases c5 : y178.length + l1.length < 140737488355328
    · rw [if_pos c5] at H
      have LMc5 := Aside0.mk c5
      clear c5
      obtain ⟨y181, hy181⟩ : ∃ y_ : List Int, y_ = (y178 ++ l1) := ⟨_, rfl⟩
      replace H : ((num_ReadVar.f k y181).bind fun bt184 => (if bt184.1 = a0 then (if bt184.2.1 = (t172.length : Int) then (if bt184.2.2 = 0 then (if bt184.2.1 < 1 then (veneerlaw01_NumVarBack.j0 k a0 t172 bt184.2.1 true) else (veneerlaw01_NumVarBack.j0 k a0 t172 bt184.2.1 (decide (bt184.2.1 > 10)))) else (veneerlaw01_NumVarBack.j0 k a0 t172 bt184.2.1 true)) else (veneerlaw01_NumVarBack.j0 k a0 t172 bt184.2.1 true)) else (veneerlaw01_NumVarBack.j0 k a0 t172 bt184.2.1 true))) = some r := by first | (rw [hy181]; with_reducible exact H) | (have H2_ := (Option.bind_some _ _).symm.trans H; rw [hy181]; with_reducible exact H2_) | (have H2_ := (Option.bind_some _ _).symm.trans H; with_reducible exact H2_) | with_reducible exact H | (rw [hy181]; exact H) | exact H
      have Ny181 := Aside0.mk hy181
      clear hy181
      replace H := Option.bind_eq_some_iff.mp H
      obtain ⟨⟨t184, t185, t186⟩, A60, H⟩ := H
      replace H : (if t184 = a0 then (if t185 = (t172.length : Int) then (if t186 = 0 then (if t185 < 1 then (veneerlaw01_NumVarBack.j0 k a0 t172 t185 true) else (veneerlaw01_NumVarBack.j0 k a0 t172 t185 (decide (t185 > 10)))) else (veneerlaw01_NumVarBack.j0 k a0 t172 t185 true)) else (veneerlaw01_NumVarBack.j0 k a0 t172 t185 true)) else (veneerlaw01_NumVarBack.j0 k a0 t172 t185 true)) = some r := H
      have A6 := Aside0.mk A60
      clear A60
      have HC7 := Aside0.mk H
      clear H
      go_enter Try.func7, Try.ntmps7
      go_upto_region 3 with (first | ((with_reducible refine gate_callee (f := 21) rfl ?_); refine goesL_ (some 14) rfl rfl Try.func21 (by kernel_rfl) rfl #[.int .u64 a0] rfl (by (try simp only [List.map_toArray, List.map_cons, List.map_nil]); first | done | rfl | (simp only [List.length_drop, List.length_take]; rfl)) ?_; (with_reducible refine (num_Var.calls k a0 t172 _ A3.out).mono ?_); rintro e w8 ⟨v173, rfl, ho0, hb⟩; refine ⟨_, rfl, ?_⟩; have n0_ := Aside0.mk (Kd.R_lower ho0 (below_size (by repeat (first | (with_reducible first | exact HB.out | apply below_alloc | apply pw_below_drewN | apply below_drew1) | exact HB.out)))); have n1_ := Aside0.mk (below_step (by repeat (first | (with_reducible first | exact HB.out | apply below_alloc | apply pw_below_drewN | apply below_drew1) | exact HB.out)) hb); clear HB; have HO174 := n0_; have HB := n1_; clear n0_ n1_; (try clear hb); (try clear hb2); (try clear hk); (try clear hi); (try clear ho0)) | ((with_reducible refine gate_dst (N := 16) rfl ?_); (try (refine gate_guard (by rfl) ?_; dsimp only)); refine Kd.R_lit (Kd.int .u8) _ 5 ?hg (N := 16) ?hd (xs := ([] : List Int)) (inner := []) (ok := fun _ => True) (okp := fun _ => True) ?hr ?hp (fun _ hk => hk) trivial (Below.refl _ _) (Nat.le_refl _) (by simp) ?_; (case hd => rfl); (case hg => rfl); (case hr => first | (go_simp; done) | (go_simp; rfl)); (case hp => exact (Reps.none _ _)); intro v176 w9 ho10 hb hg_ hnew_; clear hg_ hnew_; (first | rw [← Ny175.out] at ho10 | (simp only [Int.reduceToNat] at ho10; rw [← Ny175.out] at ho10)); have n0_ := Aside0.mk (Kd.R_elder' (by (with_reducible repeat (first | apply Kd.R_alloc | apply Kd.R_drewN | apply Kd.R_drew)); exact HO174.out) (Kd.R_base ho10) hb); have n1_ := Aside0.mk (Kd.R_lower (Kd.R_new' ho10 (Kd.R_lt (by (with_reducible repeat (first | apply Kd.R_alloc | apply Kd.R_drewN | apply Kd.R_drew)); exact HO174.out))) (below_size (by repeat (first | (with_reducible first | exact HB.out | apply below_alloc | apply pw_below_drewN | apply below_drew1) | exact HB.out)))); have n2_ := Aside0.mk (below_step (by repeat (first | (with_reducible first | exact HB.out | apply below_alloc | apply pw_below_drewN | apply below_drew1) | exact HB.out)) hb); clear HO174; clear HB; have HO174 := n0_; have HO177 := n1_; have HB := n2_; clear n0_ n1_ n2_; clear hb ho10; obtain ⟨Ao12, co12, eo12⟩ := Kd.R_slice HO174.out; subst eo12) | ((with_reducible refine gate_builtin (b := .append) (xs := #[.tmp 16, .tmp 17]) rfl ?_); (try (refine gate_guard (by rfl) ?_; dsimp only)); at_builtin; refine Kd.R_append_rows (Kd.int .u8) (w0 := w) w.heap.size rfl (.tmp 16) (.tmp 17) 23 5 (.int .u8 0) 1 rfl Try.underlying23 info5 rfl (by decide) (by omega) v176 y175 t172 _ _ _ (fun k_ => some k_ ≠ (.slice Ao12 t172.length co12 : Value).ownBlock) (fun _ => False) rfl rfl ?aO ?aR (fun _ _ h => h) (fun _ h => h.elim) ?aF ?aB ?aS ?aL ?_; (case aR => repeat (first | exact (Kd.R_reads' HO174.out).2.2 | (with_reducible refine Kd.C_alloc ?_ _) | (with_reducible refine Kd.C_drewN ?_ _) | (with_reducible refine Kd.C_drew ?_))); (case aB => exact (by repeat (first | (with_reducible first | exact HB.out | apply below_alloc | apply pw_below_drewN | apply below_drew1) | exact HB.out))); (case aF => exact (fun k_ hk => Kd.fresh' (Kd.R_lt (by (with_reducible repeat (first | apply Kd.R_alloc | apply Kd.R_drewN | apply Kd.R_drew)); exact HO174.out)) k_ hk)); (case aO => exact (by (with_reducible repeat (first | apply Kd.R_alloc | apply Kd.R_drewN | apply Kd.R_drew)); exact Kd.R_mono HO177.out (fun _ hk => hk.2))); (case aS => exact (below_size (by repeat (first | (with_reducible first | exact HB.out | apply below_alloc | apply pw_below_drewN | apply below_drew1) | exact HB.out)))); (case aL => have := LMc4.out; omega); intro v179 w11 ho hb hg hat; rw [← Ny178.out] at ho; have n0_ := Aside0.mk (Kd.R_after (ok := (fun _ => True)) (by (with_reducible repeat (first | apply Kd.R_alloc | apply Kd.R_drewN | apply Kd.R_drew)); exact HO174.out) hg hat); have n1_ := Aside0.mk (hb); have n2_ := Aside0.mk (ho); clear HO174; clear HB; clear HO177; have HO174 := n0_; have HB := n1_; have HO180 := n2_; clear n0_ n1_ n2_; clear ho hb hg hat) | ((with_reducible refine gate_builtin (b := .append) (xs := #[.tmp 18, .tmp 19]) rfl ?_); (try (refine gate_guard (by rfl) ?_; dsimp only)); at_builtin; refine Kd.R_append_rows (Kd.int .u8) (w0 := w) w.heap.size rfl (.tmp 18) (.tmp 19) 23 5 (.int .u8 0) 1 rfl Try.underlying23 info5 rfl (by decide) (by omega) v179 y178 l1 _ _ _ (fun k_ => some k_ ≠ (.slice Ao12 t172.length co12 : Value).ownBlock) (fun _ => False) rfl rfl ?aO ?aR (fun _ _ h => h) (fun _ h => h.elim) ?aF ?aB ?aS ?aL ?_; (case aR => repeat (first | exact (Kd.C_below HR1.out HB.out) | (with_reducible refine Kd.C_alloc ?_ _) | (with_reducible refine Kd.C_drewN ?_ _) | (with_reducible refine Kd.C_drew ?_))); (case aB => exact (by repeat (first | (with_reducible first | exact HB.out | apply below_alloc | apply pw_below_drewN | apply below_drew1) | exact HB.out))); (case aF => exact (fun k_ hk => Kd.fresh' (Kd.R_lt (by (with_reducible repeat (first | apply Kd.R_alloc | apply Kd.R_drewN | apply Kd.R_drew)); exact HO174.out)) k_ hk)); (case aO => exact (by (with_reducible repeat (first | apply Kd.R_alloc | apply Kd.R_drewN | apply Kd.R_drew)); exact HO180.out)); (case aS => exact (below_size (by repeat (first | (with_reducible first | exact HB.out | apply below_alloc | apply pw_below_drewN | apply below_drew1) | exact HB.out)))); (case aL => have := LMc5.out; omega); intro v182 w13 ho hb hg hat; rw [← Ny181.out] at ho; have n0_ := Aside0.mk (Kd.R_after (ok := (fun _ => True)) (by (with_reducible repeat (first | apply Kd.R_alloc | apply Kd.R_drewN | apply Kd.R_drew)); exact HO174.out) hg hat); have n1_ := Aside0.mk (hb); have n2_ := Aside0.mk (ho); clear HO174; clear HB; clear HO180; have HO174 := n0_; have HB := n1_; have HO183 := n2_; clear n0_ n1_ n2_; clear ho hb hg hat; obtain ⟨Ao14, co14, eo14⟩ := Kd.R_slice HO183.out; subst eo14) | ((with_reducible refine gate_callee (f := 19) rfl ?_); refine goesL_ (some 21) rfl rfl Try.func19 (by kernel_rfl) rfl #[.slice Ao14 y181.length co14] rfl (by (try simp only [List.map_toArray, List.map_cons, List.map_nil]); first | done | rfl | (simp only [List.length_drop, List.length_take]; rfl)) ?_; (with_reducible refine (num_ReadVar.calls k _ _ y181 t184 t185 t186 _ ?side1 ?side2 A6.out).mono ?_); (case side1 => repeat (first | exact (Kd.R_reads' HO183.out).2.2 | (with_reducible refine Kd.C_alloc ?_ _) | (with_reducible refine Kd.C_drewN ?_ _) | (with_reducible refine Kd.C_drew ?_))); (case side2 => exact (Kd.R_reads' HO183.out).2.1); rintro e w' ⟨rfl, ⟨nd, rfl⟩⟩; refine ⟨_, rfl, ?_⟩))
      (try simp only [Act.put, List.setIfInBounds_toArray, List.set_cons_zero, List.set_cons_succ])
      go_cut [45] (fun v45 wc => ∃ (kq : Nat) (x45_6 : Bool), v45 = .bool x45_6 ∧ Aside0 (veneerlaw01_NumVarBack.j0 kq a0 t172 t185 x45_6 = some r) ∧ Aside0 (kq ≤ k) ∧ Aside0 (Kd.R (Kd.int .u8) 5 wc w.heap.size (fun _ => True) (.slice Ao12 t172.length co12) t172) ∧ Aside0 (Below w.heap.size w wc))
      case first =>
        have H := HC7.out
        clear HC7
        by_cases c15 : t184 = a0
        · rw [if_pos c15] at H
          have c15b0 : (t184 == a0) = true := beq_iff_eq.mpr c15
          have c15b1 : (t184 != a0) = false := bne_eq_false_iff_eq.mpr c15
          clear c15
          (first | rw [c15b0] | (simp only [i64_w, i32_w]; rw [c15b0]) | skip)
          by_cases c16 : t185 = (t172.length : Int)
          · rw [if_pos c16] at H
            have c16b0 : (t185 == (t172.length : Int)) = true := beq_iff_eq.mpr c16
            have c16b1 : (t185 != (t172.length : Int)) = false := bne_eq_false_iff_eq.mpr c16
            clear c16
            by_cases c17 : t186 = 0
            · rw [if_pos c17] at H
              have c17b0 : (t186 == 0) = true := beq_iff_eq.mpr c17
              have c17b1 : (t186 != 0) = false := bne_eq_false_iff_eq.mpr c17
              clear c17
              by_cases c18 : t185 < 1
              · rw [if_pos c18] at H
                have c18b0 : decide (t185 < 1) = true := decide_eq_true c18
                clear c18
                have H' := Aside0.mk H
                clear H
                go_wp2
                go_meet
                case rel => exact ⟨_, (true), (by first | rfl | (simp; done) | (simp [*]; done)), H', ⟨by first | omega | exact Nat.le_refl _⟩, ⟨by (with_reducible repeat (first | apply Kd.R_alloc | apply Kd.R_drewN | apply Kd.R_drew)); exact Kd.R_mono HO174.out (fun _ hk => trivial)⟩, ⟨by repeat (first | (with_reducible first | exact HB.out | apply below_alloc | apply pw_below_drewN | apply below_drew1) | exact HB.out)⟩⟩
              · rw [if_neg c18] at H
                have c18b0 : decide (t185 < 1) = false := decide_eq_false c18
                clear c18
                have H' := Aside0.mk H
                clear H
                go_wp2
                go_meet
                case rel => exact ⟨_, (decide (t185 > 10)), (by first | rfl | (simp; done) | (simp [*]; done)), H', ⟨by first | omega | exact Nat.le_refl _⟩, ⟨by (with_reducible repeat (first | apply Kd.R_alloc | apply Kd.R_drewN | apply Kd.R_drew)); exact Kd.R_mono HO174.out (fun _ hk => trivial)⟩, ⟨by repeat (first | (with_reducible first | exact HB.out | apply below_alloc | apply pw_below_drewN | apply below_drew1) | exact HB.out)⟩⟩
            · rw [if_neg c17] at H
              have c17b0 : (t186 == 0) = false := beq_eq_false_iff_ne.mpr c17
              have c17b1 : (t186 != 0) = true := bne_iff_ne.mpr c17
              have H' := Aside0.mk H
              clear H
              go_wp2
              go_meet
              case rel => exact ⟨_, (true), (by first | rfl | (simp; done) | (simp [*]; done)), H', ⟨by first | omega | exact Nat.le_refl _⟩, ⟨by (with_reducible repeat (first | apply Kd.R_alloc | apply Kd.R_drewN | apply Kd.R_drew)); exact Kd.R_mono HO174.out (fun _ hk => trivial)⟩, ⟨by repeat (first | (with_reducible first | exact HB.out | apply below_alloc | apply pw_below_drewN | apply below_drew1) | exact HB.out)⟩⟩
          · rw [if_neg c16] at H
            have c16b0 : (t185 == (t172.length : Int)) = false := beq_eq_false_iff_ne.mpr c16
            have c16b1 : (t185 != (t172.length : Int)) = true := bne_iff_ne.mpr c16
            have H' := Aside0.mk H
            clear H
            go_wp2
            go_meet
            case rel => exact ⟨_, (true), (by first | rfl | (simp; done) | (simp [*]; done)), H', ⟨by first | omega | exact Nat.le_refl _⟩, ⟨by (with_reducible repeat (first | apply Kd.R_alloc | apply Kd.R_drewN | apply Kd.R_drew)); exact Kd.R_mono HO174.out (fun _ hk => trivial)⟩, ⟨by repeat (first | (with_reducible first | exact HB.out | apply below_alloc | apply pw_below_drewN | apply below_drew1) | exact HB.out)⟩⟩
        · rw [if_neg c15] at H
          have c15b0 : (t184 == a0) = false := beq_eq_false_iff_ne.mpr c15
          have c15b1 : (t184 != a0) = true := bne_iff_ne.mpr c15
          (first | rw [c15b0] | (simp only [i64_w, i32_w]; rw [c15b0]) | skip)
          have H' := Aside0.mk H
          clear H
          go_wp2
          go_meet
          case rel => exact ⟨_, (true), (by first | rfl | (simp; done) | (simp [*]; done)), H', ⟨by first | omega | exact Nat.le_refl _⟩, ⟨by (with_reducible repeat (first | apply Kd.R_alloc | apply Kd.R_drewN | apply Kd.R_drew)); exact Kd.R_mono HO174.out (fun _ hk => trivial)⟩, ⟨by repeat (first | (with_reducible first | exact HB.out | apply below_alloc | apply pw_below_drewN | apply below_drew1) | exact HB.out)⟩⟩
      case rest =>
        clear HC7
        try clear c1
        try clear c2
        try clear p2
        try clear c4
        try clear c5
        try clear c7
        try clear c15
        try clear c15b0
        try clear c15b1
        try clear c16
        try clear c16b0
        try clear c16b1
        try clear c17
        try clear c17b0
        try clear c17b1
        try clear c18
        try clear c18b0
        obtain ⟨kq, x45_6, rfl, HA, HJ6, HO_5, HB⟩ := hcut
        cases kq with
        | zero => exact absurd HA.out (by simp [veneerlaw01_NumVarBack.j0])
        | succ kj6 =>
          have H := HA.out
          clear HA
          simp only [veneerlaw01_NumVarBack.j0] at H
          by_cases c19 : x45_6 = true
          · subst c19
            have H1 : (some false) = some r := by rw [if_pos rfl] at H; exact H
            clear H
            have H := H1
            clear H1
            obtain rfl := Option.some.inj H
            go_wp2
            go_ret
            exact ⟨by first | rfl | (simp [errW_none, errW_some] <;> rfl) | (simp [*, errW_none, errW_some] <;> rfl), by repeat (first | (with_reducible first | exact HB.out | apply below_alloc | apply pw_below_drewN | apply below_drew1) | exact HB.out)⟩
          · replace c19 := Bool.eq_false_iff.mpr c19
            subst c19
            have H1 : (if 0 ≤ (wrap64 (t185 - 1)) then (if (wrap64 (t185 - 1)) ≤ (t172.length : Int) then ((num_ReadVar.f kj6 (t172.take ((wrap64 (t185 - 1)) : Int).toNat)).bind fun bt191 => (if t185 = 10 then (if bt191.2.2 = 4 then (if t185 = 1 then ((veneerlaw01_works.f kj6).bind fun t194 => (some t194)) else (if 0 ≤ (IntKind.u64.wrap (wrap64 (7 * (wrap64 (t185 - 1))))) then (if a0 ≥ (shl .u64 1 (IntKind.u64.wrap (wrap64 (7 * (wrap64 (t185 - 1)))))) then ((veneerlaw01_works.f kj6).bind fun t195 => (some t195)) else (some false)) else (none))) else (some false)) else (if 0 ≤ (IntKind.u64.wrap (wrap64 (7 * t185))) then (if bt191.2.2 = 4 then (if a0 < (shl .u64 1 (IntKind.u64.wrap (wrap64 (7 * t185)))) then (if t185 = 1 then ((veneerlaw01_works.f kj6).bind fun t196 => (some t196)) else (if 0 ≤ (IntKind.u64.wrap (wrap64 (7 * (wrap64 (t185 - 1))))) then (if a0 ≥ (shl .u64 1 (IntKind.u64.wrap (wrap64 (7 * (wrap64 (t185 - 1)))))) then ((veneerlaw01_works.f kj6).bind fun t197 => (some t197)) else (some false)) else (none))) else (some false)) else (some false)) else (none)))) else (none)) else (none)) = some r := by rw [if_neg (show ¬ (false = true) by decide)] at H; exact H
            clear H
            have H := H1
            clear H1
            obtain ⟨ji20, hji20⟩ : ∃ j_ : Int, (wrap64 (t185 - 1)) = j_ := ⟨_, rfl⟩
            replace H : (if 0 ≤ (ji20) then (if (ji20) ≤ (t172.length : Int) then ((num_ReadVar.f kj6 (t172.take ((ji20) : Int).toNat)).bind fun bt191 => (if t185 = 10 then (if bt191.2.2 = 4 then (if t185 = 1 then ((veneerlaw01_works.f kj6).bind fun t194 => (some t194)) else (if 0 ≤ (IntKind.u64.wrap (wrap64 (7 * (ji20)))) then (if a0 ≥ (shl .u64 1 (IntKind.u64.wrap (wrap64 (7 * (ji20))))) then ((veneerlaw01_works.f kj6).bind fun t195 => (some t195)) else (some false)) else (none))) else (some false)) else (if 0 ≤ (IntKind.u64.wrap (wrap64 (7 * t185))) then (if bt191.2.2 = 4 then (if a0 < (shl .u64 1 (IntKind.u64.wrap (wrap64 (7 * t185)))) then (if t185 = 1 then ((veneerlaw01_works.f kj6).bind fun t196 => (some t196)) else (if 0 ≤ (IntKind.u64.wrap (wrap64 (7 * (ji20)))) then (if a0 ≥ (shl .u64 1 (IntKind.u64.wrap (wrap64 (7 * (ji20))))) then ((veneerlaw01_works.f kj6).bind fun t197 => (some t197)) else (some false)) else (none))) else (some false)) else (some false)) else (none)))) else (none)) else (none)) = some r := by first | (rw [hji20] at H; exact H) | (simp only [hji20] at H ⊢; exact H)
            have hji20w : (IntKind.i64.wrap (t185 - 1)) = ji20 := (i64_w _).trans hji20
            by_cases c21 : 0 ≤ (ji20)
            · rw [if_pos c21] at H
              have c21b0 := eq_true c21
              have c21b1 : decide (0 ≤ (ji20)) = true := decide_eq_true c21
              clear c21
              by_cases c22 : (ji20) ≤ (t172.length : Int)
              · rw [if_pos c22] at H
                have c22b0 := eq_true c22
                have c22b1 : decide ((ji20) ≤ (t172.length : Int)) = true := decide_eq_true c22
                clear c22
                obtain ⟨y187, hy187⟩ : ∃ y_ : List Int, y_ = (t172.take ((ji20) : Int).toNat) := ⟨_, rfl⟩
                replace H : ((num_ReadVar.f kj6 y187).bind fun bt191 => (if t185 = 10 then (if bt191.2.2 = 4 then (if t185 = 1 then ((veneerlaw01_works.f kj6).bind fun t194 => (some t194)) else (if 0 ≤ (IntKind.u64.wrap (wrap64 (7 * (ji20)))) then (if a0 ≥ (shl .u64 1 (IntKind.u64.wrap (wrap64 (7 * (ji20))))) then ((veneerlaw01_works.f kj6).bind fun t195 => (some t195)) else (some false)) else (none))) else (some false)) else (if 0 ≤ (IntKind.u64.wrap (wrap64 (7 * t185))) then (if bt191.2.2 = 4 then (if a0 < (shl .u64 1 (IntKind.u64.wrap (wrap64 (7 * t185)))) then (if t185 = 1 then ((veneerlaw01_works.f kj6).bind fun t196 => (some t196)) else (if 0 ≤ (IntKind.u64.wrap (wrap64 (7 * (ji20)))) then (if a0 ≥ (shl .u64 1 (IntKind.u64.wrap (wrap64 (7 * (ji20))))) then ((veneerlaw01_works.f kj6).bind fun t197 => (some t197)) else (some false)) else (none))) else (some false)) else (some false)) else (none)))) = some r := by first | (rw [hy187]; with_reducible exact H) | (have H2_ := (Option.bind_some _ _).symm.trans H; rw [hy187]; with_reducible exact H2_) | (have H2_ := (Option.bind_some _ _).symm.trans H; with_reducible exact H2_) | with_reducible exact H | (rw [hy187]; exact H) | exact H
                have Ny187 := Aside0.mk hy187
                clear hy187
                replace H := Option.bind_eq_some_iff.mp H
                obtain ⟨⟨t191, t192, t193⟩, A230, H⟩ := H
                replace H : (if t185 = 10 then (if t193 = 4 then (if t185 = 1 then ((veneerlaw01_works.f kj6).bind fun t194 => (some t194)) else (if 0 ≤ (IntKind.u64.wrap (wrap64 (7 * (ji20)))) then (if a0 ≥ (shl .u64 1 (IntKind.u64.wrap (wrap64 (7 * (ji20))))) then ((veneerlaw01_works.f kj6).bind fun t195 => (some t195)) else (some false)) else (none))) else (some false)) else (if 0 ≤ (IntKind.u64.wrap (wrap64 (7 * t185))) then (if t193 = 4 then (if a0 < (shl .u64 1 (IntKind.u64.wrap (wrap64 (7 * t185)))) then (if t185 = 1 then ((veneerlaw01_works.f kj6).bind fun t196 => (some t196)) else (if 0 ≤ (IntKind.u64.wrap (wrap64 (7 * (ji20)))) then (if a0 ≥ (shl .u64 1 (IntKind.u64.wrap (wrap64 (7 * (ji20))))) then ((veneerlaw01_works.f kj6).bind fun t197 => (some t197)) else (some false)) else (none))) else (some false)) else (some false)) else (none))) = some r := H
                have A23 := Aside0.mk A230
                clear A230
                by_cases c24 : t185 = 10
                · rw [if_pos c24] at H
                  have c24b0 : (t185 == 10) = true := beq_iff_eq.mpr c24
                  have c24b1 : (t185 != 10) = false := bne_eq_false_iff_eq.mpr c24
                  clear c24
                  by_cases c25 : t193 = 4
                  · rw [if_pos c25] at H
                    have c25b0 : (t193 == 4) = true := beq_iff_eq.mpr c25
                    have c25b1 : (t193 != 4) = false := bne_eq_false_iff_eq.mpr c25
                    clear c25
                    by_cases c26 : t185 = 1
                    · rw [if_pos c26] at H
                      have c26b0 : (t185 == 1) = true := beq_iff_eq.mpr c26
                      have c26b1 : (t185 != 1) = false := bne_eq_false_iff_eq.mpr c26
                      clear c26
                      replace H := Option.bind_eq_some_iff.mp H
                      obtain ⟨t194, A270, H⟩ := H
                      replace H : (some t194) = some r := H
                      have A27 := Aside0.mk A270
                      clear A270
                      obtain rfl := Option.some.inj H
                      have q28 : ((ji20) : Int) ≤ ((t172.length : Int) : Int) := of_decide_eq_true (by first | (with_reducible assumption) | assumption)
                      obtain ⟨i028, hi028, _, hsz28, _⟩ := info_parts info5
                      have hroom28 : t172.length ≤ co12 := (Kd.R_reads' HO_5.out).2.1
                      have hC28 : Kd.C (Kd.int .u8) _ Ao12 t172.length t172 := (Kd.R_reads' HO_5.out).2.2
                      have hcut28 := cut_to (P := Try.prog) 23 5 .i64 Try.underlying23 hi028 Ao12 t172.length co12 (ji20) (of_decide_eq_true (by first | (with_reducible assumption) | assumption)) q28 hroom28
                      have hr28 := Kd.C_take (m := ((ji20) : Int).toNat) hC28 (by omega)
                      have hy28 : y187.length = ((ji20) : Int).toNat := (by rw [Ny187.out, List.length_take]; omega)
                      rw [← Ny187.out] at hr28
                      rw [← hy28] at hcut28
                      have HR190 := Aside0.mk hr28
                      have HC190 := Aside0.mk (show y187.length ≤ co12 from by omega)
                      clear hr28 hC28 hroom28 hi028 hsz28
                      have KY28 := Aside0.mk hy28
                      clear hy28
                      have KL28 := Aside0.mk (show ((ji20) : Int).toNat ≤ t172.length from by omega)
                      replace q28 := eq_true q28
                      go_wp2_with (first | ((with_reducible refine gate_callee (f := 19) rfl ?_); refine goesL_ (some 51) rfl rfl Try.func19 (by kernel_rfl) rfl #[.slice Ao12 y187.length co12] rfl (by (try simp only [List.map_toArray, List.map_cons, List.map_nil]); first | done | rfl | (simp only [List.length_drop, List.length_take]; rfl)) ?_; (with_reducible refine (num_ReadVar.calls kj6 _ _ y187 t191 t192 t193 _ ?side1 ?side2 A23.out).mono ?_); (case side1 => repeat (first | exact (by repeat (first | (with_reducible exact HR190.out) | (with_reducible refine Kd.C_alloc ?_ _) | (with_reducible refine Kd.C_drewN ?_ _) | (with_reducible refine Kd.C_drew ?_) | exact HR190.out)) | (with_reducible refine Kd.C_alloc ?_ _) | (with_reducible refine Kd.C_drewN ?_ _) | (with_reducible refine Kd.C_drew ?_))); (case side2 => exact HC190.out); rintro e w' ⟨rfl, ⟨nd, rfl⟩⟩; refine ⟨_, rfl, ?_⟩) | (go_at_call 14; (with_reducible refine (veneerlaw01_works.calls kj6  t194 _ A27.out).mono ?_); rintro e w29 ⟨rfl, hb⟩; have n0_ := Aside0.mk (Kd.R_below (by (with_reducible repeat (first | apply Kd.R_alloc | apply Kd.R_drewN | apply Kd.R_drew)); exact HO_5.out) hb); have n1_ := Aside0.mk (Kd.C_below (by repeat (first | (with_reducible exact HR190.out) | (with_reducible refine Kd.C_alloc ?_ _) | (with_reducible refine Kd.C_drewN ?_ _) | (with_reducible refine Kd.C_drew ?_) | exact HR190.out)) hb); have n2_ := Aside0.mk (below_step (by repeat (first | (with_reducible first | exact HB.out | apply below_alloc | apply pw_below_drewN | apply below_drew1) | exact HB.out)) hb); clear HO_5; clear HR190; clear HB; have HO_5 := n0_; have HR190 := n1_; have HB := n2_; clear n0_ n1_ n2_; (try clear hb); (try clear hb2); (try clear hk); (try clear hi)))
                      go_ret
                      exact ⟨by first | rfl | (simp [errW_none, errW_some] <;> rfl) | (simp only [← hji20]; first | rfl | (simp [errW_none, errW_some] <;> rfl)) | (simp [*, errW_none, errW_some] <;> rfl), by repeat (first | (with_reducible first | exact HB.out | apply below_alloc | apply pw_below_drewN | apply below_drew1) | exact HB.out)⟩
                    · rw [if_neg c26] at H
                      have c26b0 : (t185 == 1) = false := beq_eq_false_iff_ne.mpr c26
                      have c26b1 : (t185 != 1) = true := bne_iff_ne.mpr c26
                      obtain ⟨ji30, hji30⟩ : ∃ j_ : Int, (IntKind.u64.wrap (wrap64 (7 * (ji20)))) = j_ := ⟨_, rfl⟩
                      replace H : (if 0 ≤ (ji30) then (if a0 ≥ (shl .u64 1 (ji30)) then ((veneerlaw01_works.f kj6).bind fun t195 => (some t195)) else (some false)) else (none)) = some r := by first | (rw [hji30] at H; exact H) | (simp only [hji30] at H ⊢; exact H)
                      (try rw [hji30] at A23)
                      by_cases c31 : 0 ≤ (ji30)
                      · rw [if_pos c31] at H
                        have c31b0 := eq_true c31
                        have c31b1 : decide (0 ≤ (ji30)) = true := decide_eq_true c31
                        clear c31
                        obtain ⟨ji32, hji32⟩ : ∃ j_ : Int, (shl .u64 1 (ji30)) = j_ := ⟨_, rfl⟩
                        replace H : (if a0 ≥ (ji32) then ((veneerlaw01_works.f kj6).bind fun t195 => (some t195)) else (some false)) = some r := by first | (rw [hji32] at H; exact H) | (simp only [hji32] at H ⊢; exact H)
                        (try rw [hji32] at A23)
                        have hji32_ : (IntKind.u64.wrap (1 * 2 ^ min (ji30).toNat 64)) = ji32 := hji32
                        have hji32z : (ji30) ≤ 64 → (IntKind.u64.wrap (1 * 2 ^ (ji30).toNat)) = ji32 := shl_small hji32
                        have hji32u : (IntKind.u64.wrap (2 ^ min (ji30).toNat 64)) = ji32 := by have h_ := hji32_; rw [Int.one_mul] at h_; exact h_
                        have hji32v : (ji30) ≤ 64 → (IntKind.u64.wrap (2 ^ (ji30).toNat)) = ji32 := fun hle_ => by have h_ := hji32z hle_; rw [Int.one_mul] at h_; exact h_
                        by_cases c33 : a0 ≥ (ji32)
                        · rw [if_pos c33] at H
                          have c33b0 : decide ((ji32) ≤ a0) = true := decide_eq_true c33
                          clear c33
                          replace H := Option.bind_eq_some_iff.mp H
                          obtain ⟨t195, A340, H⟩ := H
                          replace H : (some t195) = some r := H
                          have A34 := Aside0.mk A340
                          clear A340
                          obtain rfl := Option.some.inj H
                          have q35 : ((ji20) : Int) ≤ ((t172.length : Int) : Int) := of_decide_eq_true (by first | (with_reducible assumption) | assumption)
                          obtain ⟨i035, hi035, _, hsz35, _⟩ := info_parts info5
                          have hroom35 : t172.length ≤ co12 := (Kd.R_reads' HO_5.out).2.1
                          have hC35 : Kd.C (Kd.int .u8) _ Ao12 t172.length t172 := (Kd.R_reads' HO_5.out).2.2
                          have hcut35 := cut_to (P := Try.prog) 23 5 .i64 Try.underlying23 hi035 Ao12 t172.length co12 (ji20) (of_decide_eq_true (by first | (with_reducible assumption) | assumption)) q35 hroom35
                          have hr35 := Kd.C_take (m := ((ji20) : Int).toNat) hC35 (by omega)
                          have hy35 : y187.length = ((ji20) : Int).toNat := (by rw [Ny187.out, List.length_take]; omega)
                          rw [← Ny187.out] at hr35
                          rw [← hy35] at hcut35
                          have HR190 := Aside0.mk hr35
                          have HC190 := Aside0.mk (show y187.length ≤ co12 from by omega)
                          clear hr35 hC35 hroom35 hi035 hsz35
                          have KY35 := Aside0.mk hy35
                          clear hy35
                          have KL35 := Aside0.mk (show ((ji20) : Int).toNat ≤ t172.length from by omega)
                          replace q35 := eq_true q35
                          go_wp2_with (first | ((with_reducible refine gate_callee (f := 19) rfl ?_); refine goesL_ (some 51) rfl rfl Try.func19 (by kernel_rfl) rfl #[.slice Ao12 y187.length co12] rfl (by (try simp only [List.map_toArray, List.map_cons, List.map_nil]); first | done | rfl | (simp only [List.length_drop, List.length_take]; rfl)) ?_; (with_reducible refine (num_ReadVar.calls kj6 _ _ y187 t191 t192 t193 _ ?side1 ?side2 A23.out).mono ?_); (case side1 => repeat (first | exact (by repeat (first | (with_reducible exact HR190.out) | (with_reducible refine Kd.C_alloc ?_ _) | (with_reducible refine Kd.C_drewN ?_ _) | (with_reducible refine Kd.C_drew ?_) | exact HR190.out)) | (with_reducible refine Kd.C_alloc ?_ _) | (with_reducible refine Kd.C_drewN ?_ _) | (with_reducible refine Kd.C_drew ?_))); (case side2 => exact HC190.out); rintro e w' ⟨rfl, ⟨nd, rfl⟩⟩; refine ⟨_, rfl, ?_⟩) | (go_at_call 14; (with_reducible refine (veneerlaw01_works.calls kj6  t195 _ A34.out).mono ?_); rintro e w36 ⟨rfl, hb⟩; have n0_ := Aside0.mk (Kd.R_below (by (with_reducible repeat (first | apply Kd.R_alloc | apply Kd.R_drewN | apply Kd.R_drew)); exact HO_5.out) hb); have n1_ := Aside0.mk (Kd.C_below (by repeat (first | (with_reducible exact HR190.out) | (with_reducible refine Kd.C_alloc ?_ _) | (with_reducible refine Kd.C_drewN ?_ _) | (with_reducible refine Kd.C_drew ?_) | exact HR190.out)) hb); have n2_ := Aside0.mk (below_step (by repeat (first | (with_reducible first | exact HB.out | apply below_alloc | apply pw_below_drewN | apply below_drew1) | exact HB.out)) hb); clear HO_5; clear HR190; clear HB; have HO_5 := n0_; have HR190 := n1_; have HB := n2_; clear n0_ n1_ n2_; (try clear hb); (try clear hb2); (try clear hk); (try clear hi)))
                          go_ret
                          exact ⟨by first | rfl | (simp [errW_none, errW_some] <;> rfl) | (simp only [← hji20, ← hji30, ← hji32]; first | rfl | (simp [errW_none, errW_some] <;> rfl)) | (simp [*, errW_none, errW_some] <;> rfl), by repeat (first | (with_reducible first | exact HB.out | apply below_alloc | apply pw_below_drewN | apply below_drew1) | exact HB.out)⟩
                        · rw [if_neg c33] at H
                          have c33b0 : decide ((ji32) ≤ a0) = false := decide_eq_false c33
                          clear c33
                          obtain rfl := Option.some.inj H
                          have q37 : ((ji20) : Int) ≤ ((t172.length : Int) : Int) := of_decide_eq_true (by first | (with_reducible assumption) | assumption)
                          obtain ⟨i037, hi037, _, hsz37, _⟩ := info_parts info5
                          have hroom37 : t172.length ≤ co12 := (Kd.R_reads' HO_5.out).2.1
                          have hC37 : Kd.C (Kd.int .u8) _ Ao12 t172.length t172 := (Kd.R_reads' HO_5.out).2.2
                          have hcut37 := cut_to (P := Try.prog) 23 5 .i64 Try.underlying23 hi037 Ao12 t172.length co12 (ji20) (of_decide_eq_true (by first | (with_reducible assumption) | assumption)) q37 hroom37
                          have hr37 := Kd.C_take (m := ((ji20) : Int).toNat) hC37 (by omega)
                          have hy37 : y187.length = ((ji20) : Int).toNat := (by rw [Ny187.out, List.length_take]; omega)
                          rw [← Ny187.out] at hr37
                          rw [← hy37] at hcut37
                          have HR190 := Aside0.mk hr37
                          have HC190 := Aside0.mk (show y187.length ≤ co12 from by omega)
                          clear hr37 hC37 hroom37 hi037 hsz37
                          have KY37 := Aside0.mk hy37
                          clear hy37
                          have KL37 := Aside0.mk (show ((ji20) : Int).toNat ≤ t172.length from by omega)
                          replace q37 := eq_true q37
                          go_wp2_with (first | ((with_reducible refine gate_callee (f := 19) rfl ?_); refine goesL_ (some 51) rfl rfl Try.func19 (by kernel_rfl) rfl #[.slice Ao12 y187.length co12] rfl (by (try simp only [List.map_toArray, List.map_cons, List.map_nil]); first | done | rfl | (simp only [List.length_drop, List.length_take]; rfl)) ?_; (with_reducible refine (num_ReadVar.calls kj6 _ _ y187 t191 t192 t193 _ ?side1 ?side2 A23.out).mono ?_); (case side1 => repeat (first | exact (by repeat (first | (with_reducible exact HR190.out) | (with_reducible refine Kd.C_alloc ?_ _) | (with_reducible refine Kd.C_drewN ?_ _) | (with_reducible refine Kd.C_drew ?_) | exact HR190.out)) | (with_reducible refine Kd.C_alloc ?_ _) | (with_reducible refine Kd.C_drewN ?_ _) | (with_reducible refine Kd.C_drew ?_))); (case side2 => exact HC190.out); rintro e w' ⟨rfl, ⟨nd, rfl⟩⟩; refine ⟨_, rfl, ?_⟩))
                          go_ret
                          exact ⟨by first | rfl | (simp [errW_none, errW_some] <;> rfl) | (simp only [← hji20, ← hji30, ← hji32]; first | rfl | (simp [errW_none, errW_some] <;> rfl)) | (simp [*, errW_none, errW_some] <;> rfl), by repeat (first | (with_reducible first | exact HB.out | apply below_alloc | apply pw_below_drewN | apply below_drew1) | exact HB.out)⟩
                      · rw [if_neg c31] at H
                        exact absurd H (by simp)
                  · rw [if_neg c25] at H
                    have c25b0 : (t193 == 4) = false := beq_eq_false_iff_ne.mpr c25
                    have c25b1 : (t193 != 4) = true := bne_iff_ne.mpr c25
                    obtain rfl := Option.some.inj H
                    have q38 : ((ji20) : Int) ≤ ((t172.length : Int) : Int) := of_decide_eq_true (by first | (with_reducible assumption) | assumption)
                    obtain ⟨i038, hi038, _, hsz38, _⟩ := info_parts info5
                    have hroom38 : t172.length ≤ co12 := (Kd.R_reads' HO_5.out).2.1
                    have hC38 : Kd.C (Kd.int .u8) _ Ao12 t172.length t172 := (Kd.R_reads' HO_5.out).2.2
                    have hcut38 := cut_to (P := Try.prog) 23 5 .i64 Try.underlying23 hi038 Ao12 t172.length co12 (ji20) (of_decide_eq_true (by first | (with_reducible assumption) | assumption)) q38 hroom38
                    have hr38 := Kd.C_take (m := ((ji20) : Int).toNat) hC38 (by omega)
                    have hy38 : y187.length = ((ji20) : Int).toNat := (by rw [Ny187.out, List.length_take]; omega)
                    rw [← Ny187.out] at hr38
                    rw [← hy38] at hcut38
                    have HR190 := Aside0.mk hr38
                    have HC190 := Aside0.mk (show y187.length ≤ co12 from by omega)
                    clear hr38 hC38 hroom38 hi038 hsz38
                    have KY38 := Aside0.mk hy38
                    clear hy38
                    have KL38 := Aside0.mk (show ((ji20) : Int).toNat ≤ t172.length from by omega)
                    replace q38 := eq_true q38
                    go_wp2_with (first | ((with_reducible refine gate_callee (f := 19) rfl ?_); refine goesL_ (some 51) rfl rfl Try.func19 (by kernel_rfl) rfl #[.slice Ao12 y187.length co12] rfl (by (try simp only [List.map_toArray, List.map_cons, List.map_nil]); first | done | rfl | (simp only [List.length_drop, List.length_take]; rfl)) ?_; (with_reducible refine (num_ReadVar.calls kj6 _ _ y187 t191 t192 t193 _ ?side1 ?side2 A23.out).mono ?_); (case side1 => repeat (first | exact (by repeat (first | (with_reducible exact HR190.out) | (with_reducible refine Kd.C_alloc ?_ _) | (with_reducible refine Kd.C_drewN ?_ _) | (with_reducible refine Kd.C_drew ?_) | exact HR190.out)) | (with_reducible refine Kd.C_alloc ?_ _) | (with_reducible refine Kd.C_drewN ?_ _) | (with_reducible refine Kd.C_drew ?_))); (case side2 => exact HC190.out); rintro e w' ⟨rfl, ⟨nd, rfl⟩⟩; refine ⟨_, rfl, ?_⟩))
                    go_ret
                    exact ⟨by first | rfl | (simp [errW_none, errW_some] <;> rfl) | (simp only [← hji20]; first | rfl | (simp [errW_none, errW_some] <;> rfl)) | (simp [*, errW_none, errW_some] <;> rfl), by repeat (first | (with_reducible first | exact HB.out | apply below_alloc | apply pw_below_drewN | apply below_drew1) | exact HB.out)⟩
                · rw [if_neg c24] at H
                  have c24b0 : (t185 == 10) = false := beq_eq_false_iff_ne.mpr c24
                  have c24b1 : (t185 != 10) = true := bne_iff_ne.mpr c24
                  obtain ⟨ji39, hji39⟩ : ∃ j_ : Int, (IntKind.u64.wrap (wrap64 (7 * t185))) = j_ := ⟨_, rfl⟩
                  replace H : (if 0 ≤ (ji39) then (if t193 = 4 then (if a0 < (shl .u64 1 (ji39)) then (if t185 = 1 then ((veneerlaw01_works.f kj6).bind fun t196 => (some t196)) else (if 0 ≤ (IntKind.u64.wrap (wrap64 (7 * (ji20)))) then (if a0 ≥ (shl .u64 1 (IntKind.u64.wrap (wrap64 (7 * (ji20))))) then ((veneerlaw01_works.f kj6).bind fun t197 => (some t197)) else (some false)) else (none))) else (some false)) else (some false)) else (none)) = some r := by first | (rw [hji39] at H; exact H) | (simp only [hji39] at H ⊢; exact H)
                  (try rw [hji39] at A23)
                  by_cases c40 : 0 ≤ (ji39)
                  · rw [if_pos c40] at H
                    have c40b0 := eq_true c40
                    have c40b1 : decide (0 ≤ (ji39)) = true := decide_eq_true c40
                    clear c40
                    obtain ⟨ji41, hji41⟩ : ∃ j_ : Int, (shl .u64 1 (ji39)) = j_ := ⟨_, rfl⟩
                    replace H : (if t193 = 4 then (if a0 < (ji41) then (if t185 = 1 then ((veneerlaw01_works.f kj6).bind fun t196 => (some t196)) else (if 0 ≤ (IntKind.u64.wrap (wrap64 (7 * (ji20)))) then (if a0 ≥ (shl .u64 1 (IntKind.u64.wrap (wrap64 (7 * (ji20))))) then ((veneerlaw01_works.f kj6).bind fun t197 => (some t197)) else (some false)) else (none))) else (some false)) else (some false)) = some r := by first | (rw [hji41] at H; exact H) | (simp only [hji41] at H ⊢; exact H)
                    (try rw [hji41] at A23)
                    have hji41_ : (IntKind.u64.wrap (1 * 2 ^ min (ji39).toNat 64)) = ji41 := hji41
                    have hji41z : (ji39) ≤ 64 → (IntKind.u64.wrap (1 * 2 ^ (ji39).toNat)) = ji41 := shl_small hji41
                    have hji41u : (IntKind.u64.wrap (2 ^ min (ji39).toNat 64)) = ji41 := by have h_ := hji41_; rw [Int.one_mul] at h_; exact h_
                    have hji41v : (ji39) ≤ 64 → (IntKind.u64.wrap (2 ^ (ji39).toNat)) = ji41 := fun hle_ => by have h_ := hji41z hle_; rw [Int.one_mul] at h_; exact h_
                    by_cases c42 : t193 = 4
                    · rw [if_pos c42] at H
                      have c42b0 : (t193 == 4) = true := beq_iff_eq.mpr c42
                      have c42b1 : (t193 != 4) = false := bne_eq_false_iff_eq.mpr c42
                      clear c42
                      by_cases c43 : a0 < (ji41)
                      · rw [if_pos c43] at H
                        have c43b0 : decide (a0 < (ji41)) = true := decide_eq_true c43
                        clear c43
                        by_cases c44 : t185 = 1
                        · rw [if_pos c44] at H
                          have c44b0 : (t185 == 1) = true := beq_iff_eq.mpr c44
                          have c44b1 : (t185 != 1) = false := bne_eq_false_iff_eq.mpr c44
                          clear c44
                          replace H := Option.bind_eq_some_iff.mp H
                          obtain ⟨t196, A450, H⟩ := H
                          replace H : (some t196) = some r := H
                          have A45 := Aside0.mk A450
                          clear A450
                          obtain rfl := Option.some.inj H
                          have q46 : ((ji20) : Int) ≤ ((t172.length : Int) : Int) := of_decide_eq_true (by first | (with_reducible assumption) | assumption)
                          obtain ⟨i046, hi046, _, hsz46, _⟩ := info_parts info5
                          have hroom46 : t172.length ≤ co12 := (Kd.R_reads' HO_5.out).2.1
                          have hC46 : Kd.C (Kd.int .u8) _ Ao12 t172.length t172 := (Kd.R_reads' HO_5.out).2.2
                          have hcut46 := cut_to (P := Try.prog) 23 5 .i64 Try.underlying23 hi046 Ao12 t172.length co12 (ji20) (of_decide_eq_true (by first | (with_reducible assumption) | assumption)) q46 hroom46
                          have hr46 := Kd.C_take (m := ((ji20) : Int).toNat) hC46 (by omega)
                          have hy46 : y187.length = ((ji20) : Int).toNat := (by rw [Ny187.out, List.length_take]; omega)
                          rw [← Ny187.out] at hr46
                          rw [← hy46] at hcut46
                          have HR190 := Aside0.mk hr46
                          have HC190 := Aside0.mk (show y187.length ≤ co12 from by omega)
                          clear hr46 hC46 hroom46 hi046 hsz46
                          have KY46 := Aside0.mk hy46
                          clear hy46
                          have KL46 := Aside0.mk (show ((ji20) : Int).toNat ≤ t172.length from by omega)
                          replace q46 := eq_true q46
                          go_wp2_with (first | ((with_reducible refine gate_callee (f := 19) rfl ?_); refine goesL_ (some 51) rfl rfl Try.func19 (by kernel_rfl) rfl #[.slice Ao12 y187.length co12] rfl (by (try simp only [List.map_toArray, List.map_cons, List.map_nil]); first | done | rfl | (simp only [List.length_drop, List.length_take]; rfl)) ?_; (with_reducible refine (num_ReadVar.calls kj6 _ _ y187 t191 t192 t193 _ ?side1 ?side2 A23.out).mono ?_); (case side1 => repeat (first | exact (by repeat (first | (with_reducible exact HR190.out) | (with_reducible refine Kd.C_alloc ?_ _) | (with_reducible refine Kd.C_drewN ?_ _) | (with_reducible refine Kd.C_drew ?_) | exact HR190.out)) | (with_reducible refine Kd.C_alloc ?_ _) | (with_reducible refine Kd.C_drewN ?_ _) | (with_reducible refine Kd.C_drew ?_))); (case side2 => exact HC190.out); rintro e w' ⟨rfl, ⟨nd, rfl⟩⟩; refine ⟨_, rfl, ?_⟩) | (go_at_call 14; (with_reducible refine (veneerlaw01_works.calls kj6  t196 _ A45.out).mono ?_); rintro e w47 ⟨rfl, hb⟩; have n0_ := Aside0.mk (Kd.R_below (by (with_reducible repeat (first | apply Kd.R_alloc | apply Kd.R_drewN | apply Kd.R_drew)); exact HO_5.out) hb); have n1_ := Aside0.mk (Kd.C_below (by repeat (first | (with_reducible exact HR190.out) | (with_reducible refine Kd.C_alloc ?_ _) | (with_reducible refine Kd.C_drewN ?_ _) | (with_reducible refine Kd.C_drew ?_) | exact HR190.out)) hb); have n2_ := Aside0.mk (below_step (by repeat (first | (with_reducible first | exact HB.out | apply below_alloc | apply pw_below_drewN | apply below_drew1) | exact HB.out)) hb); clear HO_5; clear HR190; clear HB; have HO_5 := n0_; have HR190 := n1_; have HB := n2_; clear n0_ n1_ n2_; (try clear hb); (try clear hb2); (try clear hk); (try clear hi)))
                          go_ret
                          exact ⟨by first | rfl | (simp [errW_none, errW_some] <;> rfl) | (simp only [← hji20, ← hji39, ← hji41]; first | rfl | (simp [errW_none, errW_some] <;> rfl)) | (simp [*, errW_none, errW_some] <;> rfl), by repeat (first | (with_reducible first | exact HB.out | apply below_alloc | apply pw_below_drewN | apply below_drew1) | exact HB.out)⟩
                        · rw [if_neg c44] at H
                          have c44b0 : (t185 == 1) = false := beq_eq_false_iff_ne.mpr c44
                          have c44b1 : (t185 != 1) = true := bne_iff_ne.mpr c44
                          obtain ⟨ji48, hji48⟩ : ∃ j_ : Int, (IntKind.u64.wrap (wrap64 (7 * (ji20)))) = j_ := ⟨_, rfl⟩
                          replace H : (if 0 ≤ (ji48) then (if a0 ≥ (shl .u64 1 (ji48)) then ((veneerlaw01_works.f kj6).bind fun t197 => (some t197)) else (some false)) else (none)) = some r := by first | (rw [hji48] at H; exact H) | (simp only [hji48] at H ⊢; exact H)
                          (try rw [hji48] at A23)
                          by_cases c49 : 0 ≤ (ji48)
                          · rw [if_pos c49] at H
                            have c49b0 := eq_true c49
                            have c49b1 : decide (0 ≤ (ji48)) = true := decide_eq_true c49
                            clear c49
                            obtain ⟨ji50, hji50⟩ : ∃ j_ : Int, (shl .u64 1 (ji48)) = j_ := ⟨_, rfl⟩
                            replace H : (if a0 ≥ (ji50) then ((veneerlaw01_works.f kj6).bind fun t197 => (some t197)) else (some false)) = some r := by first | (rw [hji50] at H; exact H) | (simp only [hji50] at H ⊢; exact H)
                            (try rw [hji50] at A23)
                            have hji50_ : (IntKind.u64.wrap (1 * 2 ^ min (ji48).toNat 64)) = ji50 := hji50
                            have hji50z : (ji48) ≤ 64 → (IntKind.u64.wrap (1 * 2 ^ (ji48).toNat)) = ji50 := shl_small hji50
                            have hji50u : (IntKind.u64.wrap (2 ^ min (ji48).toNat 64)) = ji50 := by have h_ := hji50_; rw [Int.one_mul] at h_; exact h_
                            have hji50v : (ji48) ≤ 64 → (IntKind.u64.wrap (2 ^ (ji48).toNat)) = ji50 := fun hle_ => by have h_ := hji50z hle_; rw [Int.one_mul] at h_; exact h_
                            by_cases c51 : a0 ≥ (ji50)
                            · rw [if_pos c51] at H
                              have c51b0 : decide ((ji50) ≤ a0) = true := decide_eq_true c51
                              clear c51
                              replace H := Option.bind_eq_some_iff.mp H
                              obtain ⟨t197, A520, H⟩ := H
                              replace H : (some t197) = some r := H
                              have A52 := Aside0.mk A520
                              clear A520
                              obtain rfl := Option.some.inj H
                              have q53 : ((ji20) : Int) ≤ ((t172.length : Int) : Int) := of_decide_eq_true (by first | (with_reducible assumption) | assumption)
                              obtain ⟨i053, hi053, _, hsz53, _⟩ := info_parts info5
                              have hroom53 : t172.length ≤ co12 := (Kd.R_reads' HO_5.out).2.1
                              have hC53 : Kd.C (Kd.int .u8) _ Ao12 t172.length t172 := (Kd.R_reads' HO_5.out).2.2
                              have hcut53 := cut_to (P := Try.prog) 23 5 .i64 Try.underlying23 hi053 Ao12 t172.length co12 (ji20) (of_decide_eq_true (by first | (with_reducible assumption) | assumption)) q53 hroom53
                              have hr53 := Kd.C_take (m := ((ji20) : Int).toNat) hC53 (by omega)
                              have hy53 : y187.length = ((ji20) : Int).toNat := (by rw [Ny187.out, List.length_take]; omega)
                              rw [← Ny187.out] at hr53
                              rw [← hy53] at hcut53
                              have HR190 := Aside0.mk hr53
                              have HC190 := Aside0.mk (show y187.length ≤ co12 from by omega)
                              clear hr53 hC53 hroom53 hi053 hsz53
                              have KY53 := Aside0.mk hy53
                              clear hy53
                              have KL53 := Aside0.mk (show ((ji20) : Int).toNat ≤ t172.length from by omega)
                              replace q53 := eq_true q53
                              go_wp2_with (first | ((with_reducible refine gate_callee (f := 19) rfl ?_); refine goesL_ (some 51) rfl rfl Try.func19 (by kernel_rfl) rfl #[.slice Ao12 y187.length co12] rfl (by (try simp only [List.map_toArray, List.map_cons, List.map_nil]); first | done | rfl | (simp only [List.length_drop, List.length_take]; rfl)) ?_; (with_reducible refine (num_ReadVar.calls kj6 _ _ y187 t191 t192 t193 _ ?side1 ?side2 A23.out).mono ?_); (case side1 => repeat (first | exact (by repeat (first | (with_reducible exact HR190.out) | (with_reducible refine Kd.C_alloc ?_ _) | (with_reducible refine Kd.C_drewN ?_ _) | (with_reducible refine Kd.C_drew ?_) | exact HR190.out)) | (with_reducible refine Kd.C_alloc ?_ _) | (with_reducible refine Kd.C_drewN ?_ _) | (with_reducible refine Kd.C_drew ?_))); (case side2 => exact HC190.out); rintro e w' ⟨rfl, ⟨nd, rfl⟩⟩; refine ⟨_, rfl, ?_⟩) | (go_at_call 14; (with_reducible refine (veneerlaw01_works.calls kj6  t197 _ A52.out).mono ?_); rintro e w54 ⟨rfl, hb⟩; have n0_ := Aside0.mk (Kd.R_below (by (with_reducible repeat (first | apply Kd.R_alloc | apply Kd.R_drewN | apply Kd.R_drew)); exact HO_5.out) hb); have n1_ := Aside0.mk (Kd.C_below (by repeat (first | (with_reducible exact HR190.out) | (with_reducible refine Kd.C_alloc ?_ _) | (with_reducible refine Kd.C_drewN ?_ _) | (with_reducible refine Kd.C_drew ?_) | exact HR190.out)) hb); have n2_ := Aside0.mk (below_step (by repeat (first | (with_reducible first | exact HB.out | apply below_alloc | apply pw_below_drewN | apply below_drew1) | exact HB.out)) hb); clear HO_5; clear HR190; clear HB; have HO_5 := n0_; have HR190 := n1_; have HB := n2_; clear n0_ n1_ n2_; (try clear hb); (try clear hb2); (try clear hk); (try clear hi)))
                              go_ret
                              exact ⟨by first | rfl | (simp [errW_none, errW_some] <;> rfl) | (simp only [← hji20, ← hji39, ← hji41, ← hji48, ← hji50]; first | rfl | (simp [errW_none, errW_some] <;> rfl)) | (simp [*, errW_none, errW_some] <;> rfl), by repeat (first | (with_reducible first | exact HB.out | apply below_alloc | apply pw_below_drewN | apply below_drew1) | exact HB.out)⟩
                            · rw [if_neg c51] at H
                              have c51b0 : decide ((ji50) ≤ a0) = false := decide_eq_false c51
                              clear c51
                              obtain rfl := Option.some.inj H
                              have q55 : ((ji20) : Int) ≤ ((t172.length : Int) : Int) := of_decide_eq_true (by first | (with_reducible assumption) | assumption)
                              obtain ⟨i055, hi055, _, hsz55, _⟩ := info_parts info5
                              have hroom55 : t172.length ≤ co12 := (Kd.R_reads' HO_5.out).2.1
                              have hC55 : Kd.C (Kd.int .u8) _ Ao12 t172.length t172 := (Kd.R_reads' HO_5.out).2.2
                              have hcut55 := cut_to (P := Try.prog) 23 5 .i64 Try.underlying23 hi055 Ao12 t172.length co12 (ji20) (of_decide_eq_true (by first | (with_reducible assumption) | assumption)) q55 hroom55
                              have hr55 := Kd.C_take (m := ((ji20) : Int).toNat) hC55 (by omega)
                              have hy55 : y187.length = ((ji20) : Int).toNat := (by rw [Ny187.out, List.length_take]; omega)
                              rw [← Ny187.out] at hr55
                              rw [← hy55] at hcut55
                              have HR190 := Aside0.mk hr55
                              have HC190 := Aside0.mk (show y187.length ≤ co12 from by omega)
                              clear hr55 hC55 hroom55 hi055 hsz55
                              have KY55 := Aside0.mk hy55
                              clear hy55
                              have KL55 := Aside0.mk (show ((ji20) : Int).toNat ≤ t172.length from by omega)
                              replace q55 := eq_true q55
                              go_wp2_with (first | ((with_reducible refine gate_callee (f := 19) rfl ?_); refine goesL_ (some 51) rfl rfl Try.func19 (by kernel_rfl) rfl #[.slice Ao12 y187.length co12] rfl (by (try simp only [List.map_toArray, List.map_cons, List.map_nil]); first | done | rfl | (simp only [List.length_drop, List.length_take]; rfl)) ?_; (with_reducible refine (num_ReadVar.calls kj6 _ _ y187 t191 t192 t193 _ ?side1 ?side2 A23.out).mono ?_); (case side1 => repeat (first | exact (by repeat (first | (with_reducible exact HR190.out) | (with_reducible refine Kd.C_alloc ?_ _) | (with_reducible refine Kd.C_drewN ?_ _) | (with_reducible refine Kd.C_drew ?_) | exact HR190.out)) | (with_reducible refine Kd.C_alloc ?_ _) | (with_reducible refine Kd.C_drewN ?_ _) | (with_reducible refine Kd.C_drew ?_))); (case side2 => exact HC190.out); rintro e w' ⟨rfl, ⟨nd, rfl⟩⟩; refine ⟨_, rfl, ?_⟩))
                              go_ret
                              exact ⟨by first | rfl | (simp [errW_none, errW_some] <;> rfl) | (simp only [← hji20, ← hji39, ← hji41, ← hji48, ← hji50]; first | rfl | (simp [errW_none, errW_some] <;> rfl)) | (simp [*, errW_none, errW_some] <;> rfl), by repeat (first | (with_reducible first | exact HB.out | apply below_alloc | apply pw_below_drewN | apply below_drew1) | exact HB.out)⟩
                          · rw [if_neg c49] at H
                            exact absurd H (by simp)
                      · rw [if_neg c43] at H
                        have c43b0 : decide (a0 < (ji41)) = false := decide_eq_false c43
                        clear c43
                        obtain rfl := Option.some.inj H
                        have q56 : ((ji20) : Int) ≤ ((t172.length : Int) : Int) := of_decide_eq_true (by first | (with_reducible assumption) | assumption)
                        obtain ⟨i056, hi056, _, hsz56, _⟩ := info_parts info5
                        have hroom56 : t172.length ≤ co12 := (Kd.R_reads' HO_5.out).2.1
                        have hC56 : Kd.C (Kd.int .u8) _ Ao12 t172.length t172 := (Kd.R_reads' HO_5.out).2.2
                        have hcut56 := cut_to (P := Try.prog) 23 5 .i64 Try.underlying23 hi056 Ao12 t172.length co12 (ji20) (of_decide_eq_true (by first | (with_reducible assumption) | assumption)) q56 hroom56
                        have hr56 := Kd.C_take (m := ((ji20) : Int).toNat) hC56 (by omega)
                        have hy56 : y187.length = ((ji20) : Int).toNat := (by rw [Ny187.out, List.length_take]; omega)
                        rw [← Ny187.out] at hr56
                        rw [← hy56] at hcut56
                        have HR190 := Aside0.mk hr56
                        have HC190 := Aside0.mk (show y187.length ≤ co12 from by omega)
                        clear hr56 hC56 hroom56 hi056 hsz56
                        have KY56 := Aside0.mk hy56
                        clear hy56
                        have KL56 := Aside0.mk (show ((ji20) : Int).toNat ≤ t172.length from by omega)
                        replace q56 := eq_true q56
                        go_wp2_with (first | ((with_reducible refine gate_callee (f := 19) rfl ?_); refine goesL_ (some 51) rfl rfl Try.func19 (by kernel_rfl) rfl #[.slice Ao12 y187.length co12] rfl (by (try simp only [List.map_toArray, List.map_cons, List.map_nil]); first | done | rfl | (simp only [List.length_drop, List.length_take]; rfl)) ?_; (with_reducible refine (num_ReadVar.calls kj6 _ _ y187 t191 t192 t193 _ ?side1 ?side2 A23.out).mono ?_); (case side1 => repeat (first | exact (by repeat (first | (with_reducible exact HR190.out) | (with_reducible refine Kd.C_alloc ?_ _) | (with_reducible refine Kd.C_drewN ?_ _) | (with_reducible refine Kd.C_drew ?_) | exact HR190.out)) | (with_reducible refine Kd.C_alloc ?_ _) | (with_reducible refine Kd.C_drewN ?_ _) | (with_reducible refine Kd.C_drew ?_))); (case side2 => exact HC190.out); rintro e w' ⟨rfl, ⟨nd, rfl⟩⟩; refine ⟨_, rfl, ?_⟩))
                        go_ret
                        exact ⟨by first | rfl | (simp [errW_none, errW_some] <;> rfl) | (simp only [← hji20, ← hji39, ← hji41]; first | rfl | (simp [errW_none, errW_some] <;> rfl)) | (simp [*, errW_none, errW_some] <;> rfl), by repeat (first | (with_reducible first | exact HB.out | apply below_alloc | apply pw_below_drewN | apply below_drew1) | exact HB.out)⟩
                    · rw [if_neg c42] at H
                      have c42b0 : (t193 == 4) = false := beq_eq_false_iff_ne.mpr c42
                      have c42b1 : (t193 != 4) = true := bne_iff_ne.mpr c42
                      obtain rfl := Option.some.inj H
                      have q57 : ((ji20) : Int) ≤ ((t172.length : Int) : Int) := of_decide_eq_true (by first | (with_reducible assumption) | assumption)
                      obtain ⟨i057, hi057, _, hsz57, _⟩ := info_parts info5
                      have hroom57 : t172.length ≤ co12 := (Kd.R_reads' HO_5.out).2.1
                      have hC57 : Kd.C (Kd.int .u8) _ Ao12 t172.length t172 := (Kd.R_reads' HO_5.out).2.2
                      have hcut57 := cut_to (P := Try.prog) 23 5 .i64 Try.underlying23 hi057 Ao12 t172.length co12 (ji20) (of_decide_eq_true (by first | (with_reducible assumption) | assumption)) q57 hroom57
                      have hr57 := Kd.C_take (m := ((ji20) : Int).toNat) hC57 (by omega)
                      have hy57 : y187.length = ((ji20) : Int).toNat := (by rw [Ny187.out, List.length_take]; omega)
                      rw [← Ny187.out] at hr57
                      rw [← hy57] at hcut57
                      have HR190 := Aside0.mk hr57
                      have HC190 := Aside0.mk (show y187.length ≤ co12 from by omega)
                      clear hr57 hC57 hroom57 hi057 hsz57
                      have KY57 := Aside0.mk hy57
                      clear hy57
                      have KL57 := Aside0.mk (show ((ji20) : Int).toNat ≤ t172.length from by omega)
                      replace q57 := eq_true q57
                      go_wp2_with (first | ((with_reducible refine gate_callee (f := 19) rfl ?_); refine goesL_ (some 51) rfl rfl Try.func19 (by kernel_rfl) rfl #[.slice Ao12 y187.length co12] rfl (by (try simp only [List.map_toArray, List.map_cons, List.map_nil]); first | done | rfl | (simp only [List.length_drop, List.length_take]; rfl)) ?_; (with_reducible refine (num_ReadVar.calls kj6 _ _ y187 t191 t192 t193 _ ?side1 ?side2 A23.out).mono ?_); (case side1 => repeat (first | exact (by repeat (first | (with_reducible exact HR190.out) | (with_reducible refine Kd.C_alloc ?_ _) | (with_reducible refine Kd.C_drewN ?_ _) | (with_reducible refine Kd.C_drew ?_) | exact HR190.out)) | (with_reducible refine Kd.C_alloc ?_ _) | (with_reducible refine Kd.C_drewN ?_ _) | (with_reducible refine Kd.C_drew ?_))); (case side2 => exact HC190.out); rintro e w' ⟨rfl, ⟨nd, rfl⟩⟩; refine ⟨_, rfl, ?_⟩))
                      go_ret
                      exact ⟨by first | rfl | (simp [errW_none, errW_some] <;> rfl) | (simp only [← hji20, ← hji39, ← hji41]; first | rfl | (simp [errW_none, errW_some] <;> rfl)) | (simp [*, errW_none, errW_some] <;> rfl), by repeat (first | (with_reducible first | exact HB.out | apply below_alloc | apply pw_below_drewN | apply below_drew1) | exact HB.out)⟩
                  · rw [if_neg c40] at H
                    exact absurd H (by simp)
              · rw [if_neg c22] at H
                exact absurd H (by simp)
            · rw [if_neg c21] at H
              exact absurd H (by simp)
    · rw [if_neg c5] at H
      exact absurd H (by simp)
  · rw [if_neg c4] at H
    exact absurd H (by simp)

/-- THE ONE PURE STATEMENT of veneerlaw01_NumVarBack: yours. -/
def veneerlaw01_NumVarBack.Pure : Prop := ∀ (a0 : Int) (l1 : List Int), (Lit.int .u64 a0).wf = true → l1.length ≤ maxLen → l1.length * 1 ≤ 140737488351232 → (∀ x ∈ l1, (Lit.int .u8 x).wf = true) → ∃ k, veneerlaw01_NumVarBack.f k a0 l1 = some true
theorem veneerlaw01_NumVarBack.walk (P : veneerlaw01_NumVarBack.Pure) (a0 : Int) (a1 : Option Addr) (len1 cap1 : Nat) (z1 : List Int) (w : World) (w0 : (Lit.int .u64 a0).wf = true) (w1 : (a1 = none ∧ len1 = 0 ∧ cap1 = 0 ∧ z1 = []) ∨ ∃ x, a1 = some x ∧ len1 ≤ cap1 ∧ cap1 ≤ maxLen ∧ z1.length = cap1 ∧ (∀ i, i < z1.length → w.cell? (x.add i) = some (.int .u8 (z1.getD i 0))) ∧ ∀ n ∈ z1, (Lit.int .u8 n).wf = true) (y1 : len1 * 1 ≤ 140737488351232) :
    Calls Try.prog 7 #[.int .u64 a0, .slice a1 len1 cap1] w fun e w' => e = .returned (.bool true) ∧ Below w.heap.size w w' := by
  obtain ⟨l1, rfl, hr1, hm1, hw1, hc1⟩ := ReadsInt.ofRowC w1
  obtain ⟨k, h⟩ := P a0 l1 w0 hm1 y1 hw1
  refine (veneerlaw01_NumVarBack.calls k a0 _ _ l1 true w (Kd.C_of_reads (d := (0 : Int)) (h1 := fun _ => rfl) hr1) hc1 h).mono ?_
  rintro e w' ⟨rfl, hd⟩
  exact ⟨rfl, hd⟩

end Go.Proofs.Ytnkmoigimkieeaa.Q
