/- The walk of Read where the sum is another one. Conditions: as it states. -/
import Derived.Test.YtmceiepphhlncaaReadA
namespace Go.Proofs.Ytmceiepphhlncaa.ReadW
open Go.RowKit Go.Proofs.YtmceiepphhlncaaW.PrintWords Go.Proofs.YtmceiepphhlncaaW.PrintLast Go.Proofs.YtmceiepphhlncaaW.PrintMore
set_option maxHeartbeats 4000000 in
set_option maxRecDepth 100000 in
/-- The sum is another one. -/
theorem read_bad (A : Option Addr) (cap : Nat) (l : List Int) (w : World) (hl : 4 ≤ l.length) (hlc : l.length ≤ cap) (hlen : (l.length : Int) ≤ 281474976710656) (hA : ∀ w', Below w.heap.size w w' → Kd.C (Kd.int .u8) w' A l.length l)
    (nn : Nat) (hnn : fourI (l.take 4) 4 = nn) (hn : nn ≤ 4096) (hs : 8 + nn ≤ l.length) (s : Int)
    (hsum : ∀ w', Below w.heap.size w w' → Calls Try.prog 18 #[.slice A (4 + nn) cap] w' fun e w'' => e = .returned (.int .u32 s) ∧ Drawn0 w' w'')
    (hne : ¬ fourI ((l.drop (4 + nn)).take 4) 4 = s) :
    Calls Try.prog 11 #[.slice A l.length cap] w fun e w' => e = .returned (.tuple #[.slice none 0 0, .int .i64 0, .int .i64 6]) ∧ Below w.heap.size w w' := by
  have hmf : ∀ (fn : Fn) (first cap : Array Value) (w : World), (Instr.makeFunc fn first cap).run Try.prog w = .ok (.func fn first cap) w := fun _ _ _ _ => rfl
  have hS := St.init w (.slice A l.length cap)
  have HF := Aside0.mk (four_some (w.heap.size + 1 + 1 + 1) A cap l 0 _ hS.r0 hS.r1 hS.zr (by omega) hlc hlen (hS.cont hA))
  have HS := Aside0.mk ((hS.step (((0 : Nat) : Int) + 4)).drewN 2)
  have HT := Aside0.mk (take_some (w.heap.size + 1 + 1 + 1) A l.length cap 4 nn _ HS.out.r0 HS.out.r1 HS.out.zr (by omega) hlc hlen)
  have HS2 := Aside0.mk ((HS.out.step (((4 : Nat) : Int) + nn)).drewN 2)
  have HS3 := Aside0.mk (HS2.out.put (.slice (cutAt A 4 nn) nn nn))
  have eR : ((4 : Nat) : Int) + nn = ((4 + nn : Nat) : Int) := by omega
  have HG : Aside0 (∀ w', (∃ n : Nat, w' = (((((((((((w.alloc (.cells #[.slice none 0 0] 22)).alloc (.cells #[.int .i64 0] 3)).alloc (.cells #[.int .i64 0] 23)).alloc (.cells #[.slice A l.length cap, .int .i64 0] 54)).setCell ⟨w.heap.size + 1 + 1 + 1, 1, none⟩ (.int .i64 (((0 : Nat) : Int) + 4))).drewN 2).setCell ⟨w.heap.size + 1 + 1 + 1, 1, none⟩ (.int .i64 (((4 : Nat) : Int) + nn))).drewN 2).setCell ⟨w.heap.size, 0, none⟩ (.slice (cutAt A 4 nn) nn nn)).drewN n))) →
      Calls Try.prog 21 #[.pointer (some ⟨w.heap.size + 1 + 1 + 1, 0, none⟩)] w' fun e w'' => e = .returned (.int .u32 (fourI ((l.drop (4 + nn)).take 4) 4)) ∧ St w w'' (.slice A l.length cap) (.slice (cutAt A 4 nn) nn nn) (.int .i64 0) (.int .i64 0) (((4 + nn : Nat) : Int) + 4)) := ⟨by
    rintro w' ⟨n, rfl⟩
    have hQ := HS3.out.drewN n
    rw [eR] at hQ ⊢
    refine (four_some (w.heap.size + 1 + 1 + 1) A cap l (4 + nn) _ hQ.r0 hQ.r1 hQ.zr (by omega) hlc hlen (hQ.cont hA)).mono ?_
    rintro e w'' ⟨rfl, rfl⟩
    exact ⟨rfl, (hQ.step _).drewN 2⟩⟩
  have HSum := Aside0.mk hsum
  clear hS hA hsum
  rw [List.drop_zero, hnn] at HF
  have hn1 : ¬ (4096 : Int) < (nn : Int) := by omega
  have hn2 : (nn : Int) ≤ 4096 := by omega
  have hb0 : (0 : Int) ≤ ((4 : Nat) : Int) + nn := by omega
  have hb1 : ((4 : Nat) : Int) + nn ≤ (cap : Int) := by omega
  have hb0' : (0 : Int) ≤ 4 + (nn : Int) := by omega
  have hb1' : 4 + (nn : Int) ≤ (cap : Int) := by omega
  have ht : (4 + (nn : Int)).toNat = 4 + nn := by omega
  have hcap : 4 + nn ≤ cap := by omega
  generalize hf4 : fourI ((l.drop (4 + nn)).take 4) 4 = f4 at *
  go_enter_defers Try.func11, Try.ntmps11
  go_wp2_with (first | (go_at_call 21; refine HF.out.mono ?_; rintro e w1 ⟨rfl, hw1⟩; rw [← hw1] at HS HS2 HS3 HT HG; clear hw1 HF) | (go_at_call 22; refine HT.out.mono ?_; rintro e w2 ⟨rfl, hw2⟩; rw [← hw2] at HS2 HS3 HG; have c0 := HS2.out.c0; have z0 := HS2.out.z0; have r1 := HS3.out.r1; clear hw2 HT))
  generalize w2.setCell ⟨w.heap.size, 0, none⟩ (.slice (cutAt A 4 nn) nn nn) = w3 at *
  clear c0 z0 r1
  go_region_held3 (fun w' => True) (trivial) (first | (go_at_call 21; refine (HG.out _ ⟨_, rfl⟩).mono ?_; rintro e w4 ⟨rfl, hst⟩) | (go_at_call 18; refine (HSum.out _ ?_).mono ?_; (first | exact hst.hb | exact pw_below_drewN hst.hb _); rintro e w5 ⟨rfl, ⟨n5, rfl⟩⟩))
  have HT5 := Aside0.mk (hst.drewN n5)
  have c0 := hst.c0
  have c1 := hst.c1
  have c2 := hst.c2
  have z0 := hst.z0
  have z1 := hst.z1
  have z2 := hst.z2
  clear hst HG HS HS2 HS3 HSum
  have hb : (f4 != s) = true := by simpa using hne
  go_wp2
  obtain ⟨wd, hwd, g0, g1, g2, hB⟩ := HT5.out.three (.slice none 0 0) (.int .i64 0) (.int .i64 6)
  rw [← hwd]
  exact leave g0 g1 g2 ⟨rfl, hB⟩ _ rfl rfl rfl
end Go.Proofs.Ytmceiepphhlncaa.ReadW
