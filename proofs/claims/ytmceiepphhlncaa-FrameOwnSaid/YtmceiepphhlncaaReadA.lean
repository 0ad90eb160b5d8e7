/- The walks of Read that end in a refusal ahead of the sum. Conditions: as each states. -/
import Derived.Test.YtmceiepphhlncaaFourR
namespace Go.Proofs.Ytmceiepphhlncaa.ReadW
open Go.RowKit Go.Proofs.YtmceiepphhlncaaW.PrintWords Go.Proofs.YtmceiepphhlncaaW.PrintLast Go.Proofs.YtmceiepphhlncaaW.PrintMore
/-- What Read holds while it runs: its three results, and the reader behind them. -/
structure St (w wc : World) (s0 : Value) (x0 x1 x2 : Value) (a : Int) : Prop where
  c0 : wc.cell? ⟨w.heap.size, 0, none⟩ = some x0
  c1 : wc.cell? ⟨w.heap.size + 1, 0, none⟩ = some x1
  c2 : wc.cell? ⟨w.heap.size + 1 + 1, 0, none⟩ = some x2
  r0 : wc.cell? ⟨w.heap.size + 1 + 1 + 1, 0, none⟩ = some s0
  r1 : wc.cell? ⟨w.heap.size + 1 + 1 + 1, 1, none⟩ = some (.int .i64 a)
  z0 : wc.frozen? ⟨w.heap.size, 0, none⟩ = false
  z1 : wc.frozen? ⟨w.heap.size + 1, 0, none⟩ = false
  z2 : wc.frozen? ⟨w.heap.size + 1 + 1, 0, none⟩ = false
  zr : wc.frozen? ⟨w.heap.size + 1 + 1 + 1, 1, none⟩ = false
  hb : Below w.heap.size w wc
theorem St.init (w : World) (s0 : Value) :
    St w ((((w.alloc (.cells #[.slice none 0 0] 22)).alloc (.cells #[.int .i64 0] 3)).alloc (.cells #[.int .i64 0] 23)).alloc (.cells #[s0, .int .i64 0] 54)) s0 (.slice none 0 0) (.int .i64 0) (.int .i64 0) 0 := by
  refine ⟨by simp [go_sem], by simp [go_sem], by simp [go_sem], by simp [go_sem], by simp [go_sem], by simp [go_sem], by simp [go_sem], by simp [go_sem], by simp [go_sem], ?_⟩
  exact below_alloc (below_alloc (below_alloc (below_alloc (Below.refl _ _) _) _) _) _
theorem St.drewN {w wc : World} {s0 x0 x1 x2 : Value} {a : Int} (h : St w wc s0 x0 x1 x2 a) (n : Nat) : St w (wc.drewN n) s0 x0 x1 x2 a :=
  ⟨h.c0, h.c1, h.c2, h.r0, h.r1, h.z0, h.z1, h.z2, h.zr, pw_below_drewN h.hb n⟩
/-- The way out by the deferred closure, at a panic. -/
theorem St.out {w wc : World} {s0 x0 x1 x2 : Value} {a : Int} (h : St w wc s0 x0 x1 x2 a) (tmps : Array Value)
    (t2 : tmps[2]? = some (.pointer (some ⟨w.heap.size, 0, none⟩))) (t3 : tmps[3]? = some (.pointer (some ⟨w.heap.size + 1, 0, none⟩))) (t4 : tmps[4]? = some (.pointer (some ⟨w.heap.size + 1 + 1, 0, none⟩))) :
    bodyPostD Try.prog Try.f11 (fun e w' => e = .returned (.tuple #[.slice none 0 0, .int .i64 0, .int .i64 4]) ∧ Below w.heap.size w w') (Exit.panic [{ v := .iface 23 (.int .i64 4), recovered := false }])
      { tmps := tmps, defers := [{ target := Target.fn (Fn.func 20) #[.pointer (some ⟨w.heap.size, 0, none⟩), .pointer (some ⟨w.heap.size + 1, 0, none⟩), .pointer (some ⟨w.heap.size + 1 + 1, 0, none⟩)], args := #[] }] } wc := by
  refine leaves_cons (f := 20) (args := #[.pointer (some ⟨w.heap.size, 0, none⟩), .pointer (some ⟨w.heap.size + 1, 0, none⟩), .pointer (some ⟨w.heap.size + 1 + 1, 0, none⟩)]) (by simp) (by simp [go_sem]) ?_
  refine (catch_panicking ⟨w.heap.size, 0, none⟩ ⟨w.heap.size + 1, 0, none⟩ ⟨w.heap.size + 1 + 1, 0, none⟩ x0 x1 x2 23 _ [] wc h.c0 h.c1 h.c2 h.z0 h.z1 h.z2 (by simp) (by simp) (by simp)).mono ?_
  rintro e u' w'' ⟨rfl, rfl, rfl⟩
  have e1 : (wc.setCell ⟨w.heap.size, 0, none⟩ (.slice none 0 0)).cell? ⟨w.heap.size + 1, 0, none⟩ = some x1 := (World.cell?_setCell_other _ _ _ _ (by simp)).trans h.c1
  have e2 : ((wc.setCell ⟨w.heap.size, 0, none⟩ (.slice none 0 0)).setCell ⟨w.heap.size + 1, 0, none⟩ (.int .i64 0)).cell? ⟨w.heap.size + 1 + 1, 0, none⟩ = some x2 := (World.cell?_setCell_other _ _ _ _ (by simp)).trans ((World.cell?_setCell_other _ _ _ _ (by simp)).trans h.c2)
  have g2 := World.cell?_setCell_same _ _ (.int .i64 4) e2
  have g1 : (((wc.setCell ⟨w.heap.size, 0, none⟩ (.slice none 0 0)).setCell ⟨w.heap.size + 1, 0, none⟩ (.int .i64 0)).setCell ⟨w.heap.size + 1 + 1, 0, none⟩ (.int .i64 4)).cell? ⟨w.heap.size + 1, 0, none⟩ = some (.int .i64 0) := (World.cell?_setCell_other _ _ _ _ (by simp)).trans (World.cell?_setCell_same _ _ (.int .i64 0) e1)
  have g0 : (((wc.setCell ⟨w.heap.size, 0, none⟩ (.slice none 0 0)).setCell ⟨w.heap.size + 1, 0, none⟩ (.int .i64 0)).setCell ⟨w.heap.size + 1 + 1, 0, none⟩ (.int .i64 4)).cell? ⟨w.heap.size, 0, none⟩ = some (.slice none 0 0) := (World.cell?_setCell_other _ _ _ _ (by simp)).trans ((World.cell?_setCell_other _ _ _ _ (by simp)).trans (World.cell?_setCell_same _ _ (.slice none 0 0) h.c0))
  have hB : Below w.heap.size w (((wc.setCell ⟨w.heap.size, 0, none⟩ (.slice none 0 0)).setCell ⟨w.heap.size + 1, 0, none⟩ (.int .i64 0)).setCell ⟨w.heap.size + 1 + 1, 0, none⟩ (.int .i64 4)) := ((h.hb.setCell (p := ⟨w.heap.size, 0, none⟩) (Nat.le_refl _) _).setCell (p := ⟨w.heap.size + 1, 0, none⟩) (by simp) _).setCell (p := ⟨w.heap.size + 1 + 1, 0, none⟩) (by simp; omega) _
  generalize ((wc.setCell ⟨w.heap.size, 0, none⟩ (.slice none 0 0)).setCell ⟨w.heap.size + 1, 0, none⟩ (.int .i64 0)).setCell ⟨w.heap.size + 1 + 1, 0, none⟩ (.int .i64 4) = wd at *
  simp [Leaves, settle, results, Try.results11, go_sem, t2, t3, t4, g0, g1, g2, hB]
set_option maxHeartbeats 4000000 in
set_option maxRecDepth 100000 in
/-- No length. -/
theorem read_short (A : Option Addr) (cap : Nat) (l : List Int) (w : World) (hl : l.length < 4) :
    Calls Try.prog 11 #[.slice A l.length cap] w fun e w' => e = .returned (.tuple #[.slice none 0 0, .int .i64 0, .int .i64 4]) ∧ Below w.heap.size w w' := by
  have hmf : ∀ (fn : Fn) (first cap : Array Value) (w : World), (Instr.makeFunc fn first cap).run Try.prog w = .ok (.func fn first cap) w := fun _ _ _ _ => rfl
  have hS := St.init w (.slice A l.length cap)
  have HF := Aside0.mk (four_end (w.heap.size + 1 + 1 + 1) A l.length cap 0 _ hS.r0 hS.r1 (by omega) (by omega) (by omega))
  have HS := Aside0.mk hS
  clear hS
  go_enter_defers Try.func11, Try.ntmps11
  go_wp2_with (go_at_call 21; refine HF.out.mono ?_; rintro e w1 ⟨rfl, ⟨n1, rfl⟩⟩)
  exact (HS.out.drewN n1).out _ rfl rfl rfl
theorem St.step {w wc : World} {s0 x0 x1 x2 : Value} {a : Int} (h : St w wc s0 x0 x1 x2 a) (b : Int) : St w (wc.setCell ⟨w.heap.size + 1 + 1 + 1, 1, none⟩ (.int .i64 b)) s0 x0 x1 x2 b := by
  refine ⟨?_, ?_, ?_, ?_, World.cell?_setCell_same _ _ _ h.r1, by simpa [go_sem] using h.z0, by simpa [go_sem] using h.z1, by simpa [go_sem] using h.z2, by simpa [go_sem] using h.zr, h.hb.setCell (p := ⟨w.heap.size + 1 + 1 + 1, 1, none⟩) (by simp only []; omega) _⟩
  · exact (World.cell?_setCell_other _ _ _ _ (by simp)).trans h.c0
  · exact (World.cell?_setCell_other _ _ _ _ (by simp)).trans h.c1
  · exact (World.cell?_setCell_other _ _ _ _ (by simp)).trans h.c2
  · exact (World.cell?_setCell_other _ _ _ _ (by simp)).trans h.r0
theorem St.put {w wc : World} {s0 x0 x1 x2 : Value} {a : Int} (h : St w wc s0 x0 x1 x2 a) (v : Value) : St w (wc.setCell ⟨w.heap.size, 0, none⟩ v) s0 v x1 x2 a := by
  refine ⟨World.cell?_setCell_same _ _ _ h.c0, ?_, ?_, ?_, ?_, by simpa [go_sem] using h.z0, by simpa [go_sem] using h.z1, by simpa [go_sem] using h.z2, by simpa [go_sem] using h.zr, h.hb.setCell (p := ⟨w.heap.size, 0, none⟩) (Nat.le_refl _) _⟩
  · exact (World.cell?_setCell_other _ _ _ _ (by simp)).trans h.c1
  · exact (World.cell?_setCell_other _ _ _ _ (by simp)).trans h.c2
  · exact (World.cell?_setCell_other _ _ _ _ (by simp)).trans h.r0
  · exact (World.cell?_setCell_other _ _ _ _ (by simp)).trans h.r1
theorem St.cont {w wc : World} {s0 x0 x1 x2 : Value} {a : Int} (h : St w wc s0 x0 x1 x2 a) {A : Option Addr} {l : List Int} (hA : ∀ w', Below w.heap.size w w' → Kd.C (Kd.int .u8) w' A l.length l) :
    ∀ w', Below (w.heap.size + 1 + 1 + 1) wc w' → Kd.C (Kd.int .u8) w' A l.length l :=
  fun w' hb => hA w' (h.hb.trans ⟨hb.os, hb.tape, hb.output, hb.size, fun k hk => hb.block k (by omega)⟩)
/-- The way out by the deferred closure, at a return. -/
theorem leave {w wd : World} {v0 v1 v2 : Value} {R : Ending → World → Prop} (g0 : wd.cell? ⟨w.heap.size, 0, none⟩ = some v0) (g1 : wd.cell? ⟨w.heap.size + 1, 0, none⟩ = some v1) (g2 : wd.cell? ⟨w.heap.size + 1 + 1, 0, none⟩ = some v2)
    (hR : R (.returned (.tuple #[v0, v1, v2])) wd) (tmps : Array Value)
    (t2 : tmps[2]? = some (.pointer (some ⟨w.heap.size, 0, none⟩))) (t3 : tmps[3]? = some (.pointer (some ⟨w.heap.size + 1, 0, none⟩))) (t4 : tmps[4]? = some (.pointer (some ⟨w.heap.size + 1 + 1, 0, none⟩))) :
    bodyPostD Try.prog Try.f11 R Exit.ret
      { tmps := tmps, defers := [{ target := Target.fn (Fn.func 20) #[.pointer (some ⟨w.heap.size, 0, none⟩), .pointer (some ⟨w.heap.size + 1, 0, none⟩), .pointer (some ⟨w.heap.size + 1 + 1, 0, none⟩)], args := #[] }] } wd := by
  refine leaves_cons (f := 20) (args := #[.pointer (some ⟨w.heap.size, 0, none⟩), .pointer (some ⟨w.heap.size + 1, 0, none⟩), .pointer (some ⟨w.heap.size + 1 + 1, 0, none⟩)]) (by simp) (by simp [go_sem]) ?_
  refine (catch_idle ⟨w.heap.size, 0, none⟩ ⟨w.heap.size + 1, 0, none⟩ ⟨w.heap.size + 1 + 1, 0, none⟩ wd).mono ?_
  rintro e u' w'' ⟨rfl, rfl, rfl⟩
  simp [Leaves, settle, results, Try.results11, go_sem, t2, t3, t4, g0, g1, g2, hR]
/-- Behind the three stores of a return. -/
theorem St.three {w wc : World} {s0 x0 x1 x2 : Value} {a : Int} (h : St w wc s0 x0 x1 x2 a) (v0 v1 v2 : Value) :
    ∃ wd, wd = ((wc.setCell ⟨w.heap.size, 0, none⟩ v0).setCell ⟨w.heap.size + 1, 0, none⟩ v1).setCell ⟨w.heap.size + 1 + 1, 0, none⟩ v2 ∧
      wd.cell? ⟨w.heap.size, 0, none⟩ = some v0 ∧ wd.cell? ⟨w.heap.size + 1, 0, none⟩ = some v1 ∧ wd.cell? ⟨w.heap.size + 1 + 1, 0, none⟩ = some v2 ∧ Below w.heap.size w wd := by
  have e1 : (wc.setCell ⟨w.heap.size, 0, none⟩ v0).cell? ⟨w.heap.size + 1, 0, none⟩ = some x1 := (World.cell?_setCell_other _ _ _ _ (by simp)).trans h.c1
  have e2 : ((wc.setCell ⟨w.heap.size, 0, none⟩ v0).setCell ⟨w.heap.size + 1, 0, none⟩ v1).cell? ⟨w.heap.size + 1 + 1, 0, none⟩ = some x2 := (World.cell?_setCell_other _ _ _ _ (by simp)).trans ((World.cell?_setCell_other _ _ _ _ (by simp)).trans h.c2)
  refine ⟨_, rfl, ?_, ?_, World.cell?_setCell_same _ _ _ e2, ((h.hb.setCell (p := ⟨w.heap.size, 0, none⟩) (Nat.le_refl _) _).setCell (p := ⟨w.heap.size + 1, 0, none⟩) (by simp) _).setCell (p := ⟨w.heap.size + 1 + 1, 0, none⟩) (by simp only []; omega) _⟩
  · exact (World.cell?_setCell_other _ _ _ _ (by simp)).trans ((World.cell?_setCell_other _ _ _ _ (by simp)).trans (World.cell?_setCell_same _ _ _ h.c0))
  · exact (World.cell?_setCell_other _ _ _ _ (by simp)).trans (World.cell?_setCell_same _ _ _ e1)
set_option maxHeartbeats 4000000 in
set_option maxRecDepth 100000 in
/-- Too long a length. -/
theorem read_big (A : Option Addr) (cap : Nat) (l : List Int) (w : World) (hl : 4 ≤ l.length) (hlc : l.length ≤ cap) (hlen : (l.length : Int) ≤ 281474976710656) (hA : ∀ w', Below w.heap.size w w' → Kd.C (Kd.int .u8) w' A l.length l)
    (hn : 4096 < fourI (l.take 4) 4) :
    Calls Try.prog 11 #[.slice A l.length cap] w fun e w' => e = .returned (.tuple #[.slice none 0 0, .int .i64 0, .int .i64 3]) ∧ Below w.heap.size w w' := by
  have hmf : ∀ (fn : Fn) (first cap : Array Value) (w : World), (Instr.makeFunc fn first cap).run Try.prog w = .ok (.func fn first cap) w := fun _ _ _ _ => rfl
  have hS := St.init w (.slice A l.length cap)
  have HF := Aside0.mk (four_some (w.heap.size + 1 + 1 + 1) A cap l 0 _ hS.r0 hS.r1 hS.zr (by omega) hlc hlen (hS.cont hA))
  have HS := Aside0.mk ((hS.step (((0 : Nat) : Int) + 4)).drewN 2)
  clear hS hA
  rw [List.drop_zero] at HF
  generalize fourI (l.take 4) 4 = nn at *
  go_enter_defers Try.func11, Try.ntmps11
  go_wp2_with (go_at_call 21; refine HF.out.mono ?_; rintro e w1 ⟨rfl, hw1⟩; rw [← hw1] at HS; have c0 := HS.out.c0; have c1 := HS.out.c1; have c2 := HS.out.c2; have z0 := HS.out.z0; have z1 := HS.out.z1; have z2 := HS.out.z2; clear hw1 HF)
  obtain ⟨wd, hwd, g0, g1, g2, hB⟩ := HS.out.three (.slice none 0 0) (.int .i64 0) (.int .i64 3)
  rw [← hwd]
  exact leave g0 g1 g2 ⟨rfl, hB⟩ _ rfl rfl rfl
set_option maxHeartbeats 4000000 in
set_option maxRecDepth 100000 in
/-- The body is not there. -/
theorem read_cut (A : Option Addr) (cap : Nat) (l : List Int) (w : World) (hl : 4 ≤ l.length) (hlc : l.length ≤ cap) (hlen : (l.length : Int) ≤ 281474976710656) (hA : ∀ w', Below w.heap.size w w' → Kd.C (Kd.int .u8) w' A l.length l)
    (nn : Nat) (hnn : fourI (l.take 4) 4 = nn) (hn : nn ≤ 4096) (hs : l.length < 4 + nn) :
    Calls Try.prog 11 #[.slice A l.length cap] w fun e w' => e = .returned (.tuple #[.slice none 0 0, .int .i64 0, .int .i64 4]) ∧ Below w.heap.size w w' := by
  have hmf : ∀ (fn : Fn) (first cap : Array Value) (w : World), (Instr.makeFunc fn first cap).run Try.prog w = .ok (.func fn first cap) w := fun _ _ _ _ => rfl
  have hS := St.init w (.slice A l.length cap)
  have HF := Aside0.mk (four_some (w.heap.size + 1 + 1 + 1) A cap l 0 _ hS.r0 hS.r1 hS.zr (by omega) hlc hlen (hS.cont hA))
  have HS := Aside0.mk ((hS.step (((0 : Nat) : Int) + 4)).drewN 2)
  have HT := Aside0.mk (take_end (w.heap.size + 1 + 1 + 1) A l.length cap 4 (nn : Int) _ HS.out.r0 HS.out.r1 (by omega) (by omega) (by omega))
  clear hS hA
  rw [List.drop_zero, hnn] at HF
  have hn1 : ¬ (4096 : Int) < (nn : Int) := by omega
  have hn2 : (nn : Int) ≤ 4096 := by omega
  go_enter_defers Try.func11, Try.ntmps11
  go_wp2_with (first | (go_at_call 21; refine HF.out.mono ?_; rintro e w1 ⟨rfl, hw1⟩; rw [← hw1] at HS HT; clear hw1 HF) | (go_at_call 22; refine HT.out.mono ?_; rintro e w2 ⟨rfl, ⟨n1, rfl⟩⟩))
  exact (HS.out.drewN n1).out _ rfl rfl rfl
end Go.Proofs.Ytmceiepphhlncaa.ReadW
