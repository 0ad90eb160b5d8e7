/- The walks of (*reader).four and of the deferred closure of Read. Conditions: as each states. -/
import Derived.Test.YtmceiepphhlncaaTake
import Derived.LoopTactic
namespace Go.Proofs.Ytmceiepphhlncaa.ReadW
open Go.RowKit Go.Proofs.YtmceiepphhlncaaW.PrintWords Go.Proofs.YtmceiepphhlncaaW.PrintLast Go.Proofs.YtmceiepphhlncaaW.PrintMore
/-- What the first n bytes come to, the lowest first. -/
def fourI (q : List Int) : Nat → Int
  | 0 => 0
  | n + 1 => bits .or .u32 (fourI q n) (rd q n % 4294967296 * 2 ^ (8 * n) % 4294967296)
theorem cut_reads {A : Option Addr} {l : List Int} {w : World} (h : Kd.C (Kd.int .u8) w A l.length l) {at' n : Nat} (hn : at' + n ≤ l.length) :
    Kd.C (Kd.int .u8) w (cutAt A at' n) ((l.drop at').take n).length ((l.drop at').take n) := by
  by_cases h0 : n = 0
  · subst h0
    have := Kd.C_take (m := 0) h (Nat.zero_le _)
    simpa [cutAt] using this
  · have h1 := Kd.C_drop (m := at') (c := l.length + 1) h (by omega) (by omega)
    rw [if_neg (by omega)] at h1
    have h2 := Kd.C_take (m := n) h1 (by rw [List.length_drop]; omega)
    have e : (Kd.int .u8).sz = 1 := rfl
    rw [e, Nat.mul_one] at h2
    simpa [cutAt, h0] using h2
set_option maxHeartbeats 4000000 in
set_option maxRecDepth 100000 in
theorem four_some (B : Nat) (A : Option Addr) (cap : Nat) (l : List Int) (at' : Nat) (w : World) (h0 : w.cell? ⟨B, 0, none⟩ = some (.slice A l.length cap)) (h1 : w.cell? ⟨B, 1, none⟩ = some (.int .i64 (at' : Int))) (hf : w.frozen? ⟨B, 1, none⟩ = false)
    (hb1 : at' + 4 ≤ l.length) (hlc : l.length ≤ cap) (hlen : (l.length : Int) ≤ 281474976710656) (hc : ∀ w', Below B w w' → Kd.C (Kd.int .u8) w' A l.length l) :
    Calls Try.prog 21 #[.pointer (some ⟨B, 0, none⟩)] w fun e w' => e = .returned (.int .u32 (fourI ((l.drop at').take 4) 4)) ∧ w' = (w.setCell ⟨B, 1, none⟩ (.int .i64 ((at' : Int) + 4))).drewN 2 := by
  have HT : Aside0 (Calls Try.prog 22 #[.pointer (some ⟨B, 0, none⟩), .int .i64 4] w fun e w' => e = .returned (.slice (cutAt A at' 4) 4 4) ∧ w' = (w.setCell ⟨B, 1, none⟩ (.int .i64 ((at' : Int) + 4))).drewN 2) := ⟨take_some B A l.length cap at' 4 w h0 h1 hf (by omega) hlc hlen⟩
  have hw2 : Below B w ((w.setCell ⟨B, 1, none⟩ (.int .i64 ((at' : Int) + 4))).drewN 2) := by
    have h1 : Below B w (w.setCell ⟨B, 1, none⟩ (.int .i64 ((at' : Int) + 4))) := (Below.refl B w).setCell (p := ⟨B, 1, none⟩) (Nat.le_refl B) _
    exact pw_below_drewN h1 2
  have HC : Aside0 (Kd.C (Kd.int .u8) ((w.setCell ⟨B, 1, none⟩ (.int .i64 ((at' : Int) + 4))).drewN 2) (cutAt A at' 4) ((l.drop at').take 4).length ((l.drop at').take 4)) := ⟨cut_reads (hc _ hw2) (by omega)⟩
  have hq : ((l.drop at').take 4).length = 4 := by simp; omega
  clear h0 h1 hf hb1 hlc hlen hc hw2
  generalize hA : cutAt A at' 4 = A2 at *
  generalize hq2 : (l.drop at').take 4 = q at *
  rw [hq] at HC
  generalize hW : (w.setCell ⟨B, 1, none⟩ (.int .i64 ((at' : Int) + 4))).drewN 2 = w2 at *
  clear hA hq2 hW
  go_enter Try.func21, Try.ntmps21
  go_wp2_with (go_at_call 22; refine HT.out.mono ?_; rintro e w1 ⟨rfl, rfl⟩)
  go_loop [3, 9] (fun o i => ∃ k : Nat, k ≤ 4 ∧ i = .int .i64 k ∧ o = .int .u32 (fourI q k)) (fun _ i => 4 - (intOf i).toNat)
  case atStart => exact ⟨0, by omega, rfl, rfl⟩
  case round =>
    obtain ⟨k, hk, rfl, rfl⟩ := hrel
    by_cases hlt : k < 4
    · obtain ⟨ad, e, hx⟩ := Kd.at_int HC.out (k : Int) (by omega) (by omega)
      cases e
      simp only [Int.toNat_natCast] at hx
      have hi : (k : Int) < 4 := by omega
      have hi4 : (k : Int) < (4 : Nat) := by omega
      have h0 : (0 : Int) ≤ (k : Int) := by omega
      clear HT HC
      go_wp2
      refine ⟨⟨k + 1, by omega, by simp, ?_⟩, by simp [intOf]; omega⟩
      simp only [fourI]
    · have hi : ¬ (k : Int) < 4 := by omega
      obtain rfl : k = 4 := by omega
      go_wp2
      go_ret
      exact ⟨rfl, rfl⟩
set_option maxHeartbeats 4000000 in
set_option maxRecDepth 100000 in
theorem four_end (B : Nat) (A : Option Addr) (len cap : Nat) (at' : Int) (w : World) (h0 : w.cell? ⟨B, 0, none⟩ = some (.slice A len cap)) (h1 : w.cell? ⟨B, 1, none⟩ = some (.int .i64 at'))
    (hb : 0 ≤ (len : Int) - at') (hlen : (len : Int) - at' ≤ 281474976710656) (hn : 4 > len - at') :
    Calls Try.prog 21 #[.pointer (some ⟨B, 0, none⟩)] w fun e w' => e = .panicked [{ v := .iface 23 (.int .i64 4), recovered := false }] ∧ Drawn0 w w' := by
  have HT : Aside0 (Calls Try.prog 22 #[.pointer (some ⟨B, 0, none⟩), .int .i64 4] w fun e w' => e = .panicked [{ v := .iface 23 (.int .i64 4), recovered := false }] ∧ Drawn0 w w') := ⟨take_end B A len cap at' 4 w h0 h1 hb hlen hn⟩
  clear h0 h1 hb hlen hn
  go_enter Try.func21, Try.ntmps21
  go_wp2_with (go_at_call 22; refine HT.out.mono ?_; rintro e w1 ⟨rfl, hd⟩)
  exact ⟨rfl, rfl, hd⟩
/-- The deferred closure, where the frame panics. -/
theorem catch_panicking (p0 p1 p2 : Addr) (x0 x1 x2 : Value) (u : TypeId) (pv : Value) (older : List PanicEntry) (w : World) (c0 : w.cell? p0 = some x0) (c1 : w.cell? p1 = some x1) (c2 : w.cell? p2 = some x2)
    (z0 : w.frozen? p0 = false) (z1 : w.frozen? p1 = false) (z2 : w.frozen? p2 = false) (d01 : p0 ≠ p1) (d02 : p0 ≠ p2) (d12 : p1 ≠ p2) :
    CallsD Try.prog 20 #[.pointer (some p0), .pointer (some p1), .pointer (some p2)] (.panicking ({ v := .iface u pv, recovered := false } :: older)) w fun e u' w' =>
      e = .returned (.tuple #[]) ∧ u' = .panicking ({ v := .iface u pv, recovered := true } :: older) ∧ w' = ((w.setCell p0 (.slice none 0 0)).setCell p1 (.int .i64 0)).setCell p2 (.int .i64 4) := by
  refine callsD_of_wpS Try.func20 rfl fun c₀ cs hu => ?_
  apply wpS_seq
  apply wpS_region
  simp [wpOpsS, go_sem, recoverD, hu, Try.ntmps20, Exit.thenS]
  apply wpS_seq
  apply wpS_region
  simp [wpOpsS, go_sem, Exit.thenS]
  refine wpS_cond (t := true) (by simp [Act.eval, Array.replicate]) ?_
  simp only [if_true]
  have e1 : (w.setCell p0 (.slice none 0 0)).cell? p1 = some x1 := (World.cell?_setCell_other _ _ _ _ d01).trans c1
  have e2 : ((w.setCell p0 (.slice none 0 0)).setCell p1 (.int .i64 0)).cell? p2 = some x2 := (World.cell?_setCell_other _ _ _ _ d12).trans ((World.cell?_setCell_other _ _ _ _ d02).trans c2)
  apply wpS_region
  simp [wpOpsS, go_sem, c0, e1, e2, z0, z1, z2, bodyPostS, results, Try.results20]
  trace_state
theorem catch_idle (p0 p1 p2 : Addr) (w : World) :
    CallsD Try.prog 20 #[.pointer (some p0), .pointer (some p1), .pointer (some p2)] .returning w fun e u' w' => e = .returned (.tuple #[]) ∧ u' = .returning ∧ w' = w := by
  refine callsD_of_wpS Try.func20 rfl fun c₀ cs hu => ?_
  apply wpS_seq
  apply wpS_region
  simp [wpOpsS, go_sem, recoverD, hu, Try.ntmps20, Exit.thenS]
  apply wpS_seq
  apply wpS_region
  simp [wpOpsS, go_sem, Exit.thenS]
  refine wpS_cond (t := false) (by simp [Act.eval, Array.replicate]) ?_
  simp only [Bool.false_eq_true, if_false]
  refine wpS_of_wp (wp_skip ?_)
  cases c₀
  simp_all [bodyPostS, results, Try.results20]
end Go.Proofs.Ytmceiepphhlncaa.ReadW
