/- Of bytes of one length, four at most, no two unlike ones have one sum: the walk of the law. Condition: what comes in are bytes. -/
import Derived.Test.YtiildnldokaekaaCrcB
import Derived.Test.YtiildnldokaekaaQ5
import Derived.Test.YtiildnldokaekaaCrcWorks
import Derived.Deep.RegionHeld3
namespace Go.Proofs.Ytiildnldokaekaa.FourW
open Go.RowKit Go.Proofs.Ytiildnldokaekaa.Q Go.Proofs.YtiildnldokaekaaW.PrintWords Go.Proofs.YtiildnldokaekaaW.PrintLast Go.Proofs.YtiildnldokaekaaW.PrintMore
open Go.Proofs.Ytiildnldokaekaa.CrcA Go.Proofs.Ytiildnldokaekaa.CrcB Go.Proofs.Ytiildnldokaekaa.CrcWorks

/-- A box of four bytes, cut. -/
theorem reads4 (W : World) (B m : Nat) (x0 x1 x2 x3 : Int) (h4 : m ≤ 4) (hh : W.heap[B]? = some (.cells #[.int .u8 x0, .int .u8 x1, .int .u8 x2, .int .u8 x3] 30 (0, 0))) :
    Kd.C (Kd.int .u8) W (some ⟨B, 0, none⟩) (([x0, x1, x2, x3] : List Int).take m).length (([x0, x1, x2, x3] : List Int).take m) := by
  have hR : ReadsInt W .u8 (some ⟨B, 0, none⟩) ([x0, x1, x2, x3] : List Int).length [x0, x1, x2, x3] := by
    refine ⟨rfl, by simp, fun _ => ⟨_, rfl, fun j hj => ?_⟩⟩
    have hj4 : j < 4 := hj
    have ha : (⟨B, 0, none⟩ : Addr).add j = ⟨B, j, none⟩ := by unfold Addr.add; split <;> simp_all
    rw [ha]
    have hc : j = 0 ∨ j = 1 ∨ j = 2 ∨ j = 3 := by omega
    rcases hc with rfl | rfl | rfl | rfl <;> simp [World.cell?, hh]
  exact Kd.C_take (Kd.C_of_reads (d := (0 : Int)) (h1 := fun _ => rfl) hR) h4
theorem block_below {W W' : World} {B : Nat} {o : Obj} (h : W.heap[B]? = some o) (hB : B < W.heap.size) (hb : Below W.heap.size W W') : W'.heap[B]? = some o := (hb.block B hB).trans h

set_option maxHeartbeats 8000000 in
set_option maxRecDepth 100000 in
theorem four (a0 a1 a2 a3 b0 b1 b2 b3 n sa sb : Int) (m k : Nat) (w : World) (hm : wrap64 (1 + Int.tmod (wrap64 (Int.tmod n 4 + 4)) 4) = m) (h4 : m ≤ 4)
    (hsa : crc_Sum.f k (([a0, a1, a2, a3] : List Int).take m) = some sa) (hsb : crc_Sum.f k (([b0, b1, b2, b3] : List Int).take m) = some sb)
    (heq : ((sa == sb) == ((strOfNums (([a0, a1, a2, a3] : List Int).take m)).toList == (strOfNums (([b0, b1, b2, b3] : List Int).take m)).toList)) = true) (hw : veneerlaw02_works.f k = some true) :
    Calls Try.prog 5 #[.agg #[.int .u8 a0, .int .u8 a1, .int .u8 a2, .int .u8 a3], .agg #[.int .u8 b0, .int .u8 b1, .int .u8 b2, .int .u8 b3], .int .i64 n] w fun e w' => e = .returned (.bool true) ∧ Below w.heap.size w w' := by
  have HM := Aside0.mk hm
  clear hm
  go_enter Try.func5, Try.ntmps5
  go_upto_region 1 with (fail)
  go_cut [2] (fun v wc => v = .int .i64 (m : Int) ∧ (w.alloc (.cells #[.int .u8 a0, .int .u8 a1, .int .u8 a2, .int .u8 a3] 30)).alloc (.cells #[.int .u8 b0, .int .u8 b1, .int .u8 b2, .int .u8 b3] 30) = wc)
  case first =>
    clear heq
    go_wp2
    go_meet
    case rel => exact ⟨by rw [HM.out], rfl⟩
  obtain ⟨hv, hwc⟩ := hcut
  subst hv
  have hA : wc.heap[w.heap.size]? = some (.cells #[.int .u8 a0, .int .u8 a1, .int .u8 a2, .int .u8 a3] 30 (0, 0)) := by
    rw [← hwc, Below.heap_alloc _ _ _ (by simp)]
    exact heap_alloc_new w _
  have hB : wc.heap[w.heap.size + 1]? = some (.cells #[.int .u8 b0, .int .u8 b1, .int .u8 b2, .int .u8 b3] 30 (0, 0)) := by
    rw [← hwc]
    have := heap_alloc_new (w.alloc (.cells #[.int .u8 a0, .int .u8 a1, .int .u8 a2, .int .u8 a3] 30)) (.cells #[.int .u8 b0, .int .u8 b1, .int .u8 b2, .int .u8 b3] 30)
    simpa using this
  have hsz : wc.heap.size = w.heap.size + 2 := by rw [← hwc]; simp
  have hwb : Below w.heap.size w wc := by rw [← hwc]; exact below_alloc (below_alloc (Below.refl _ _) _) _
  have HWB := Aside0.mk hwb
  have hla : (([a0, a1, a2, a3] : List Int).take m).length = m := by rw [List.length_take]; simp; omega
  have hlb : (([b0, b1, b2, b3] : List Int).take m).length = m := by rw [List.length_take]; simp; omega
  generalize hga : ([a0, a1, a2, a3] : List Int).take m = la at *
  generalize hgb : ([b0, b1, b2, b3] : List Int).take m = lb at *
  have HCA : Aside0 (∀ w', Below wc.heap.size wc w' → Kd.C (Kd.int .u8) w' (some ⟨w.heap.size, 0, none⟩) m la) := ⟨fun w' hb => by
    have := reads4 w' w.heap.size m a0 a1 a2 a3 h4 (block_below hA (by omega) hb)
    rwa [hga, hla] at this⟩
  have HCB : Aside0 (∀ w', Below wc.heap.size wc w' → Kd.C (Kd.int .u8) w' (some ⟨w.heap.size + 1, 0, none⟩) m lb) := ⟨fun w' hb => by
    have := reads4 w' (w.heap.size + 1) m b0 b1 b2 b3 h4 (block_below hB (by omega) hb)
    rwa [hgb, hlb] at this⟩
  have HVA : Aside0 (∀ w', Below wc.heap.size wc w' → (convert 22 9 (.slice (some ⟨w.heap.size, 0, none⟩) m 4)).run Try.prog w' = .ok (.string (strOfNums la)) w') := ⟨fun w' hb => Kd.C_string Try.underlying22 Try.underlying5 Try.underlying9 (HCA.out w' hb)⟩
  have HVB : Aside0 (∀ w', Below wc.heap.size wc w' → (convert 22 9 (.slice (some ⟨w.heap.size + 1, 0, none⟩) m 4)).run Try.prog w' = .ok (.string (strOfNums lb)) w') := ⟨fun w' hb => Kd.C_string Try.underlying22 Try.underlying5 Try.underlying9 (HCB.out w' hb)⟩
  have HSA : Aside0 (∀ w', Below wc.heap.size wc w' → Calls Try.prog 9 #[.slice (some ⟨w.heap.size, 0, none⟩) m 4] w' fun e w'' => e = .returned (.int .u32 sa) ∧ Drawn0 w' w'') := ⟨fun w' hb => by
    have := crc_Sum.calls k (some ⟨w.heap.size, 0, none⟩) 4 la sa w' (by rw [hla]; exact HCA.out w' hb) (by omega) hsa
    rwa [hla] at this⟩
  have HSB : Aside0 (∀ w', Below wc.heap.size wc w' → Calls Try.prog 9 #[.slice (some ⟨w.heap.size + 1, 0, none⟩) m 4] w' fun e w'' => e = .returned (.int .u32 sb) ∧ Drawn0 w' w'') := ⟨fun w' hb => by
    have := crc_Sum.calls k (some ⟨w.heap.size + 1, 0, none⟩) 4 lb sb w' (by rw [hlb]; exact HCB.out w' hb) (by omega) hsb
    rwa [hlb] at this⟩
  have HW := Aside0.mk hw
  have hm0 : (0 : Int) ≤ (m : Int) := by omega
  have hm4 : (m : Int) ≤ 4 := by omega
  have hq1 : decide ((sa == sb) = ((strOfNums la).toList == (strOfNums lb).toList)) = true := by simpa using heq
  clear hA hB hsz hwb hla hlb hga hgb hsa hsb hw hwc HM
  have hS : Below wc.heap.size wc wc.drew := below_drew1 (Below.refl _ _)
  have HK : Aside0 (∀ w', Below wc.heap.size wc w' → Below wc.heap.size wc w' ∧ (convert 22 9 (.slice (some ⟨w.heap.size, 0, none⟩) m 4)).run Try.prog w' = .ok (.string (strOfNums la)) w' ∧ (convert 22 9 (.slice (some ⟨w.heap.size + 1, 0, none⟩) m 4)).run Try.prog w' = .ok (.string (strOfNums lb)) w') := ⟨fun w' h => ⟨h, HVA.out _ h, HVB.out _ h⟩⟩
  have HN : Aside0 (∀ n, Below wc.heap.size wc (wc.drewN n)) := ⟨fun n => pw_below_drewN (Below.refl _ _) n⟩
  go_wp2_with fail
  go_region_held3 (fun w' => Below wc.heap.size wc w' ∧ (convert 22 9 (.slice (some ⟨w.heap.size, 0, none⟩) m 4)).run Try.prog w' = .ok (.string (strOfNums la)) w' ∧ (convert 22 9 (.slice (some ⟨w.heap.size + 1, 0, none⟩) m 4)).run Try.prog w' = .ok (.string (strOfNums lb)) w') ((first | exact HK.out _ (HN.out _) | exact HK.out _ hS)) (first | (go_at_call 9; (with_reducible refine (HSA.out _ ?_).mono ?_); (first | exact HN.out _ | exact hS); rintro e w1 ⟨rfl, ⟨n1, rfl⟩⟩) | (go_at_call 9; (with_reducible refine (HSB.out _ ?_).mono ?_); (first | exact HN.out _ | exact hS); rintro e w1 ⟨rfl, ⟨n1, rfl⟩⟩) | (go_at_call 12; refine (veneerlaw02_works.calls k true _ HW.out).mono ?_; rintro e w2 ⟨rfl, hb⟩; have hS1 := below_step (HN.out _) hb; clear hS hb; have hS := hS1; clear hS1))
  all_goals go_wp2
  all_goals go_ret
  all_goals exact ⟨rfl, below_step HWB.out hS⟩

end Go.Proofs.Ytiildnldokaekaa.FourW
