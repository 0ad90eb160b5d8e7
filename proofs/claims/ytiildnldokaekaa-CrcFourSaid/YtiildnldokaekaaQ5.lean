/- The side of the machine, written by a program of this session (a scratch copy of the printer of the kit, turned): Lean functions with the answers of the Go functions, and the contracts that say so. No condition beyond what each theorem states. -/
import Derived.Test.YtiildnldokaekaaQ0
import Derived.Lib.SlBytesConst
import Derived.Test.YtiildnldokaekaaQ2
namespace Go.Proofs.Ytiildnldokaekaa.Q
open Go.RowKit Go.Proofs.YtiildnldokaekaaW.PrintWords Go.Proofs.YtiildnldokaekaaW.PrintLast Go.Proofs.YtiildnldokaekaaW.PrintMore
attribute [local go_sem] max2_int min2_int max_two min_two max_three min_three max_four min_four   -- for this text's walks alone
set_option linter.unusedVariables false
set_option linter.unusedSimpArgs false

/-! ### veneerlaw02_works: function 12 -/
def veneerlaw02_works.f (k : Nat)  : Option (Bool) := (crc_Sum.f k (([49, 50, 51, 52, 53, 54, 55, 56, 57] : List Int))).bind fun t108 => (some (t108 == 3421780262))
theorem veneerlaw02_works.mono : ∀ k, LeO (veneerlaw02_works.f k ) (veneerlaw02_works.f (k + 1) ) := by
  intro  k
  unfold veneerlaw02_works.f
  repeat' first
      | (with_reducible exact crc_Sum.mono _ _)
      | (with_reducible exact LeO.refl _)
      | (with_reducible exact LeO.none _)
      | (with_reducible refine LeO.ite ?_ ?_)
      | (with_reducible refine LeO.bind ?_ (fun _ => ?_))
      | exact crc_Sum.mono _ _
      | exact LeO.none _
      | refine LeO.ite ?_ ?_
      | refine LeO.bind ?_ (fun _ => ?_)
set_option maxHeartbeats 8000000 in
set_option maxRecDepth 100000 in
theorem veneerlaw02_works.calls (k : Nat)  (r : Bool) (w : World) (h : veneerlaw02_works.f k  = some r) :
    Calls Try.prog 12 #[] w fun e w' => e = .returned (.bool r) ∧ Below w.heap.size w w' := by
  have H : ((crc_Sum.f k (([49, 50, 51, 52, 53, 54, 55, 56, 57] : List Int))).bind fun t108 => (some (t108 == 3421780262))) = some r := h
  clear h
  obtain ⟨t108, A10, H⟩ := Option.bind_eq_some_iff.mp H
  obtain rfl := Option.some.inj H
  clear H
  have kc := fun (w : World) (C : Array Value) (n c : Nat) => Lib.run_convert_bytes_const (P := Try.prog) w 22 5 C n c Try.underlying22 Try.underlying5
  have hR : ReadsInt (w.alloc (.cells #[.int .u8 49, .int .u8 50, .int .u8 51, .int .u8 52, .int .u8 53, .int .u8 54, .int .u8 55, .int .u8 56, .int .u8 57] 5 (9, 10))) .u8 (some ⟨w.heap.size, 0, none⟩) ([49, 50, 51, 52, 53, 54, 55, 56, 57] : List Int).length ([49, 50, 51, 52, 53, 54, 55, 56, 57] : List Int) := by
    refine ⟨rfl, by decide, fun _ => ⟨_, rfl, fun j hj => ?_⟩⟩
    have hj9 : j < 9 := hj
    have ha : (⟨w.heap.size, 0, none⟩ : Addr).add j = ⟨w.heap.size, j, none⟩ := by unfold Addr.add; split <;> simp_all
    rw [ha, World.cell?_alloc_mark]
    have hc : j = 0 ∨ j = 1 ∨ j = 2 ∨ j = 3 ∨ j = 4 ∨ j = 5 ∨ j = 6 ∨ j = 7 ∨ j = 8 := by omega
    rcases hc with rfl | rfl | rfl | rfl | rfl | rfl | rfl | rfl | rfl <;> rfl
  have hcon := crc_Sum.calls k (some ⟨w.heap.size, 0, none⟩) 9 ([49, 50, 51, 52, 53, 54, 55, 56, 57] : List Int) t108 _ (Kd.C_of_reads (d := (0 : Int)) (h1 := fun _ => rfl) hR) (Nat.le_refl _) A10
  have hcon' := Aside0.mk hcon
  clear hcon A10 hR
  go_enter Try.func12, Try.ntmps12
  go_wp2_with (go_at_call 9; refine hcon'.out.mono ?_; rintro e w' ⟨rfl, ⟨nd, rfl⟩⟩)
  go_ret
  exact ⟨rfl, pw_below_drewN (below_alloc (Below.refl _ _) _) nd⟩

end Go.Proofs.Ytiildnldokaekaa.Q
