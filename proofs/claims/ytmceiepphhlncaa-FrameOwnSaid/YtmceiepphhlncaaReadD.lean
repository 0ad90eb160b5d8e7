/- The walk of Read where the bytes begin with a frame. Conditions: as it states. -/
import Derived.Test.YtmceiepphhlncaaReadA
import Derived.Deep.RegionWith
import Derived.Deep.RegionHeld3
set_option linter.unusedSimpArgs false
set_option linter.unusedVariables false
namespace Go.Proofs.Ytmceiepphhlncaa.ReadW
open Go.RowKit Go.Proofs.YtmceiepphhlncaaW.PrintWords Go.Proofs.YtmceiepphhlncaaW.PrintLast Go.Proofs.YtmceiepphhlncaaW.PrintMore
theorem St.grown {w W w1 : World} {s0 x0 x1 x2 : Value} {a : Int} (h : St w W s0 x0 x1 x2 a) {row : Option Nat} (hg : W.grownBy w1 row) (hr : ∀ k, row = some k → w.heap.size + 1 + 1 + 1 < k) : St w w1 s0 x0 x1 x2 a := by
  have hlt := World.block_lt_of_cell? _ _ h.r0
  simp only at hlt
  have hne : ∀ j, j ≤ w.heap.size + 1 + 1 + 1 → some j ≠ row := fun j hj he => by have := hr j he.symm; omega
  have fz : ∀ j i, j ≤ w.heap.size + 1 + 1 + 1 → w1.frozen? ⟨j, i, none⟩ = W.frozen? ⟨j, i, none⟩ := fun j i hj => World.grownBy.frozen_far hg _ (by simp only; omega) (hne j hj)
  have hs := h.hb.size
  exact ⟨hg.cell h.c0 (hne _ (by simp only; omega)), hg.cell h.c1 (hne _ (by simp only; omega)), hg.cell h.c2 (hne _ (by simp only; omega)), hg.cell h.r0 (hne _ (by simp only; omega)), hg.cell h.r1 (hne _ (by simp only; omega)), (fz _ _ (by omega)).trans h.z0, (fz _ _ (by omega)).trans h.z1, (fz _ _ (by omega)).trans h.z2, (fz _ _ (by omega)).trans h.zr,
    h.hb.grown hg (by omega) (fun k hk => by have := hr k hk; omega)⟩
theorem St.lt {w W : World} {s0 x0 x1 x2 : Value} {a : Int} (h : St w W s0 x0 x1 x2 a) : w.heap.size + 1 + 1 + 1 < W.heap.size := World.block_lt_of_cell? _ _ h.r0
/-- An empty literal. -/
theorem lit_row (w W : World) (hs : w.heap.size + 1 + 1 + 1 < W.heap.size) : Kd.R (Kd.int .u8) 5 (W.alloc (.cells #[] 5)) w.heap.size (fun k => w.heap.size + 1 + 1 + 1 < k) (.slice (some ⟨W.heap.size, 0, none⟩) 0 0) ([] : List Int) := by
  refine ⟨fun k hk => ?_, ?_⟩
  · have : W.heap.size = k := by simpa [Value.ownBlock] using hk
    omega
  · exact OwnRow.lit (ps := ([] : List Int)) (inner := []) W w.heap.size (Reps.none _ _) (by omega) (by simp)
theorem cut_row {A : Option Addr} {l : List Int} {w : World} (h : Kd.C (Kd.int .u8) w A l.length l) {n : Nat} (hn : 4 + n ≤ l.length) :
    ReadsRow ((Kd.int .u8).K w) 1 w (cutAt A 4 n) n ((l.drop 4).take n) := by
  have h1 := cut_reads h hn
  have e : ((l.drop 4).take n).length = n := by simp; omega
  rw [e] at h1
  exact h1
set_option maxHeartbeats 4000000 in
set_option maxRecDepth 100000 in
/-- A frame. -/
theorem read_ok (A : Option Addr) (cap : Nat) (l : List Int) (w : World) (hl : 4 ≤ l.length) (hlc : l.length ≤ cap) (hlen : (l.length : Int) ≤ 281474976710656) (hA : ∀ w', Below w.heap.size w w' → Kd.C (Kd.int .u8) w' A l.length l)
    (nn : Nat) (hnn : fourI (l.take 4) 4 = nn) (hn : nn ≤ 4096) (hs : 8 + nn ≤ l.length) (s : Int)
    (hsum : ∀ w', Below w.heap.size w w' → Calls Try.prog 18 #[.slice A (4 + nn) cap] w' fun e w'' => e = .returned (.int .u32 s) ∧ Drawn0 w' w'')
    (heq : fourI ((l.drop (4 + nn)).take 4) 4 = s) :
    Calls Try.prog 11 #[.slice A l.length cap] w fun e w' => ∃ v0, e = .returned (.tuple #[v0, .int .i64 ((8 + nn : Nat) : Int), .int .i64 0]) ∧ Kd.R (Kd.int .u8) 5 w' w.heap.size (fun _ => True) v0 ((l.drop 4).take nn) ∧ Below w.heap.size w w' := by
  have hmf : ∀ (fn : Fn) (first cap : Array Value) (w : World), (Instr.makeFunc fn first cap).run Try.prog w = .ok (.func fn first cap) w := fun _ _ _ _ => rfl
  have hS := St.init w (.slice A l.length cap)
  have HF := Aside0.mk (four_some (w.heap.size + 1 + 1 + 1) A cap l 0 _ hS.r0 hS.r1 hS.zr (by omega) hlc hlen (hS.cont hA))
  have HS := Aside0.mk ((hS.step (((0 : Nat) : Int) + 4)).drewN 2)
  have HT := Aside0.mk (take_some (w.heap.size + 1 + 1 + 1) A l.length cap 4 nn _ HS.out.r0 HS.out.r1 HS.out.zr (by omega) hlc hlen)
  have HS2 := Aside0.mk ((HS.out.step (((4 : Nat) : Int) + nn)).drewN 2)
  have HS3 := Aside0.mk (HS2.out.put (.slice (cutAt A 4 nn) nn nn))
  have eR : ((4 : Nat) : Int) + nn = ((4 + nn : Nat) : Int) := by omega
  have HG : Aside0 (∀ w', (∃ n : Nat, w' = (((((((((((w.alloc (.cells #[.slice none 0 0] 22)).alloc (.cells #[.int .i64 0] 3)).alloc (.cells #[.int .i64 0] 23)).alloc (.cells #[.slice A l.length cap, .int .i64 0] 54)).setCell ⟨w.heap.size + 1 + 1 + 1, 1, none⟩ (.int .i64 (((0 : Nat) : Int) + 4))).drewN 2).setCell ⟨w.heap.size + 1 + 1 + 1, 1, none⟩ (.int .i64 (((4 : Nat) : Int) + nn))).drewN 2).setCell ⟨w.heap.size, 0, none⟩ (.slice (cutAt A 4 nn) nn nn)).drewN n))) →
      Calls Try.prog 21 #[.pointer (some ⟨w.heap.size + 1 + 1 + 1, 0, none⟩)] w' fun e w'' => e = .returned (.int .u32 (fourI ((l.drop (4 + nn)).take 4) 4)) ∧ St w w'' (.slice A l.length cap) (.slice (cutAt A 4 nn) nn nn) (.int .i64 0) (.int .i64 0) (((4 + nn : Nat) : Int) + 4)) := ⟨by
    rintro w' ⟨n, rfl⟩
    have hQ := HS3.out.drewN n
    rw [eR] at hQ ⊢
    refine (four_some (w.heap.size + 1 + 1 + 1) A cap l (4 + nn) _ hQ.r0 hQ.r1 hQ.zr (by omega) hlc hlen (hQ.cont hA)).mono ?_
    rintro e w'' ⟨rfl, rfl⟩
    exact ⟨rfl, (hQ.step _).drewN 2⟩⟩
  have HSum := Aside0.mk hsum
  have hA0 := Aside0.mk hA
  clear hS hA hsum
  rw [List.drop_zero, hnn] at HF
  have hn1 : ¬ (4096 : Int) < (nn : Int) := by omega
  have hn2 : (nn : Int) ≤ 4096 := by omega
  have hb0 : (0 : Int) ≤ ((4 : Nat) : Int) + nn := by omega
  have hb1 : ((4 : Nat) : Int) + nn ≤ (cap : Int) := by omega
  have hb0' : (0 : Int) ≤ 4 + (nn : Int) := by omega
  have hb1' : 4 + (nn : Int) ≤ (cap : Int) := by omega
  have ht : (4 + (nn : Int)).toNat = 4 + nn := by omega
  have hcap : 4 + nn ≤ cap := by omega
  generalize hf4 : fourI ((l.drop (4 + nn)).take 4) 4 = f4 at *
  go_enter_defers Try.func11, Try.ntmps11
  go_wp2_with (first | (go_at_call 21; refine HF.out.mono ?_; rintro e w1 ⟨rfl, hw1⟩; rw [← hw1] at HS HS2 HS3 HT HG; clear hw1 HF) | (go_at_call 22; refine HT.out.mono ?_; rintro e w2 ⟨rfl, hw2⟩; rw [← hw2] at HS2 HS3 HG; have c0 := HS2.out.c0; have z0 := HS2.out.z0; have r1 := HS3.out.r1; clear hw2 HT))
  generalize w2.setCell ⟨w.heap.size, 0, none⟩ (.slice (cutAt A 4 nn) nn nn) = w3 at *
  clear c0 z0 r1
  go_region_held3 (fun w' => True) (trivial) (first | (go_at_call 21; refine (HG.out _ ⟨_, rfl⟩).mono ?_; rintro e w4 ⟨rfl, hst⟩) | (go_at_call 18; refine (HSum.out _ ?_).mono ?_; (first | exact hst.hb | exact pw_below_drewN hst.hb _); rintro e w5 ⟨rfl, ⟨n5, rfl⟩⟩))
  have HT6 : Aside0 (St w (w4.drewN n5).drew (.slice A l.length cap) (.slice (cutAt A 4 nn) nn nn) (.int .i64 0) (.int .i64 0) (((4 + nn : Nat) : Int) + 4)) := ⟨hst.drewN (n5 + 1)⟩
  clear hst HG HS HS2 HS3 HSum
  have hb : (f4 != s) = false := by simpa using heq
  clear hf4 heq hmf
  go_wp2
  clear eR ht
  refine wp_region_noPanic ?_
  refine wp_region_held_drew (S := (fun w' => w'.cell? ⟨w.heap.size + 1 + 1 + 1, 1, none⟩ = some (.int .i64 (((4 + nn : Nat) : Int) + 4)))) (by kernel_rfl) HT6.out.r1 (fun hHeld => ?_)
  generalize (w4.drewN n5).drew = w6 at *
  have c0 := HT6.out.c0
  refine wpAnyH_take (i := 3) (v := ?_) rfl (by kernel_rfl) (by kernel_rfl) (by kernel_rfl) (fun _ _ _ h => h) (Or.inl ⟨by rfl, ?_⟩) (by assumption) ?_
  rotate_left
  · intro w hSw; (try dsimp only at hSw); go_simp
    with_reducible rfl
  refine wpAnyH_take (i := 4) (v := ?_) rfl (by kernel_rfl) (by kernel_rfl) (by kernel_rfl) (fun _ _ _ h => h) (Or.inl ⟨by rfl, ?_⟩) (by assumption) ?_
  rotate_left
  · intro w hSw; (try dsimp only at hSw); go_simp
    with_reducible rfl
  refine wpAnyH_take (i := 5) (v := ?_) rfl (by kernel_rfl) (by kernel_rfl) (by kernel_rfl) (fun _ _ _ h => h) (Or.inl ⟨by rfl, ?_⟩) (by assumption) ?_
  rotate_left
  · intro w hSw; (try dsimp only at hSw); go_simp
    with_reducible rfl
  refine wpAnyH_take (i := 6) (v := ?_) rfl (by kernel_rfl) (by kernel_rfl) (by kernel_rfl) (fun _ _ _ h => h) (Or.inl ⟨by rfl, ?_⟩) (by assumption) ?_
  rotate_left
  · intro w hSw; (try dsimp only at hSw); go_simp
    with_reducible rfl
  refine wpAnyH_ready (rs := [0, 1]) (by kernel_rfl) (by simp) ?_
  have c0a : (w6.alloc (.cells #[] 5)).cell? ⟨w.heap.size, 0, none⟩ = some (.slice (cutAt A 4 nn) nn nn) := (World.cell?_alloc_some w6 _ _ (by simp [c0])).trans c0
  have hSa : (w6.alloc (.cells #[] 5)).cell? ⟨w.heap.size + 1 + 1 + 1, 1, none⟩ = some (.int .i64 (((4 + nn : Nat) : Int) + 4)) := (World.cell?_alloc_some w6 _ _ (by simp [hHeld])).trans hHeld
  have HRow := Aside0.mk (lit_row w w6 HT6.out.lt)
  have HRead := Aside0.mk (cut_row (hA0.out _ (below_alloc HT6.out.hb (.cells #[] 5))) (n := nn) (by omega))
  have HBa := Aside0.mk (below_alloc HT6.out.hb (.cells #[] 5))
  have HTa := Aside0.mk (HT6.out.grown (World.grownBy_alloc w6 (.cells #[] 5) none) (by simp))
  refine AllReadyH.cons rfl (fun K hK => ?_) (AllReadyH.cons rfl (fun K hK => ?_) AllReadyH.nil)
  · go_simp
    refine hK.out _ _ hSa (fun hHeld => ?_)
    clear hK K
    try simp only [Act.put, List.setIfInBounds_toArray, List.set_cons_zero, List.set_cons_succ]
    refine wpAnyH_ready (rs := [1]) (by kernel_rfl) (by simp) ?_
    refine AllReadyH.cons rfl (fun K hK => ?_) AllReadyH.nil
    go_simp
    refine hK.out _ _ hSa (fun hHeld => ?_)
    clear hK K
    try simp only [Act.put, List.setIfInBounds_toArray, List.set_cons_zero, List.set_cons_succ]
    refine wpAnyH_ready (rs := [2]) (by kernel_rfl) (by simp) ?_
    refine AllReadyH.cons rfl (fun K hK => ?_) AllReadyH.nil
    refine Kd.R_append_rows_step (Kd.int .u8) (w0 := w) w.heap.size (by rfl) (.tmp 31) (.tmp 32) 22 5 (.int .u8 0) 1 (by rfl) Try.underlying22 (by kernel_rfl) rfl (by decide) (by decide) (.slice (some ⟨w6.heap.size, 0, none⟩) 0 0) ([] : List Int) ((l.drop 4).take nn) (cutAt A 4 nn) nn nn (fun k => w.heap.size + 1 + 1 + 1 < k) (fun _ => False) (by rfl) (by rfl) HRow.out HRead.out (fun _ _ h => h) (fun _ h => h.elim) (fun k hk => by have := HTa.out.lt; omega) HBa.out (by have := HTa.out.lt; omega) (by simp only [List.length_nil]; omega) ?_
    intro v1 w7 hR1 hB1 hg1 hat1
    rw [List.nil_append] at hR1
    obtain ⟨A1, cp1, hv1⟩ := Kd.R_slice hR1
    rw [show ((l.drop 4).take nn).length = nn by simp; omega] at hv1
    subst hv1
    have hS7 := HTa.out.grown hg1 (fun k hk => by have h1 := HT6.out.lt; simp [Value.ownBlock] at hk; omega)
    have HR1 := Aside0.mk hR1
    have HS7 := Aside0.mk hS7
    have d0 := hS7.c0
    have d1 := hS7.c1
    have d2 := hS7.c2
    have y0 := hS7.z0
    have y1 := hS7.z1
    have y2 := hS7.z2
    have q1 := hS7.r1
    clear hR1 hS7 hB1 hg1 hat1 hHeld c0a hSa HRow HRead HBa HTa HT6 c0
    refine hK.out _ _ q1 (fun hHeld => ?_)
    clear hK K
    try simp only [Act.put, List.setIfInBounds_toArray, List.set_cons_zero, List.set_cons_succ]
    refine wpAnyH_ready (rs := [7]) (by kernel_rfl) (by simp) ?_
    refine AllReadyH.cons rfl (fun K hK => ?_) AllReadyH.nil
    go_simp
    refine hK.out _ _ ((World.cell?_setCell_other _ _ _ _ (by simp)).trans q1) (fun hHeld => ?_)
    clear hK K
    try simp only [Act.put, List.setIfInBounds_toArray, List.set_cons_zero, List.set_cons_succ]
    refine wpAnyH_ready (rs := [8]) (by kernel_rfl) (by simp) ?_
    refine AllReadyH.cons rfl (fun K hK => ?_) AllReadyH.nil
    have p1 : (w7.setCell ⟨w.heap.size, 0, none⟩ (.slice A1 nn cp1)).cell? ⟨w.heap.size + 1, 0, none⟩ = some (.int .i64 0) := (World.cell?_setCell_other _ _ _ _ (by simp)).trans d1
    go_simp
    refine hK.out _ _ ((World.cell?_setCell_other _ _ _ _ (by simp)).trans ((World.cell?_setCell_other _ _ _ _ (by simp)).trans q1)) (fun hHeld => ?_)
    clear hK K
    try simp only [Act.put, List.setIfInBounds_toArray, List.set_cons_zero, List.set_cons_succ]
    refine wpAnyH_ready (rs := [9]) (by kernel_rfl) (by simp) ?_
    refine AllReadyH.cons rfl (fun K hK => ?_) AllReadyH.nil
    have p2 : ((w7.setCell ⟨w.heap.size, 0, none⟩ (.slice A1 nn cp1)).setCell ⟨w.heap.size + 1, 0, none⟩ (.int .i64 (4 + (nn : Int) + 4))).cell? ⟨w.heap.size + 1 + 1, 0, none⟩ = some (.int .i64 0) := (World.cell?_setCell_other _ _ _ _ (by simp)).trans ((World.cell?_setCell_other _ _ _ _ (by simp)).trans d2)
    go_simp
    refine hK.out _ _ ((World.cell?_setCell_other _ _ _ _ (by simp)).trans ((World.cell?_setCell_other _ _ _ _ (by simp)).trans ((World.cell?_setCell_other _ _ _ _ (by simp)).trans q1))) (fun hHeld => ?_)
    clear hK K
    refine wpAnyH_done (by kernel_rfl) ?_ _
    refine NoPanic.normal ?_
    clear hHeld q1 d0 d1 d2 y0 y1 y2 p1 p2
    have e8 : ((8 + nn : Nat) : Int) = 4 + (nn : Int) + 4 := by omega
    obtain ⟨wd, hwd, g0, g1, g2, hB⟩ := HS7.out.three (.slice A1 nn cp1) (.int .i64 (4 + (nn : Int) + 4)) (.int .i64 0)
    have hRd : Kd.R (Kd.int .u8) 5 wd w.heap.size (fun _ => True) (.slice A1 nn cp1) ((l.drop 4).take nn) := by
      rw [hwd]
      exact Kd.R_mono (Kd.R_far (Kd.R_far (Kd.R_far HR1.out (fun k hk => by simp only; omega) _) (fun k hk => by simp only; omega) _) (fun k hk => by simp only; omega) _) (fun _ _ => trivial)
    rw [← hwd]
    go_wp2
    exact leave g0 g1 g2 ⟨_, by rw [e8], hRd, hB⟩ _ rfl rfl rfl
  · have c0 := HT6.out.c0
    go_simp
    refine hK.out _ _ hHeld (fun hHeld => ?_)
    clear hK K
    try simp only [Act.put, List.setIfInBounds_toArray, List.set_cons_zero, List.set_cons_succ]
    refine wpAnyH_ready (rs := [0]) (by kernel_rfl) (by simp) ?_
    refine AllReadyH.cons rfl (fun K hK => ?_) AllReadyH.nil
    go_simp
    refine hK.out _ _ hSa (fun hHeld => ?_)
    clear hK K
    try simp only [Act.put, List.setIfInBounds_toArray, List.set_cons_zero, List.set_cons_succ]
    refine wpAnyH_ready (rs := [2]) (by kernel_rfl) (by simp) ?_
    refine AllReadyH.cons rfl (fun K hK => ?_) AllReadyH.nil
    refine Kd.R_append_rows_step (Kd.int .u8) (w0 := w) w.heap.size (by rfl) (.tmp 31) (.tmp 32) 22 5 (.int .u8 0) 1 (by rfl) Try.underlying22 (by kernel_rfl) rfl (by decide) (by decide) (.slice (some ⟨w6.heap.size, 0, none⟩) 0 0) ([] : List Int) ((l.drop 4).take nn) (cutAt A 4 nn) nn nn (fun k => w.heap.size + 1 + 1 + 1 < k) (fun _ => False) (by rfl) (by rfl) HRow.out HRead.out (fun _ _ h => h) (fun _ h => h.elim) (fun k hk => by have := HTa.out.lt; omega) HBa.out (by have := HTa.out.lt; omega) (by simp only [List.length_nil]; omega) ?_
    intro v1 w7 hR1 hB1 hg1 hat1
    rw [List.nil_append] at hR1
    obtain ⟨A1, cp1, hv1⟩ := Kd.R_slice hR1
    rw [show ((l.drop 4).take nn).length = nn by simp; omega] at hv1
    subst hv1
    have hS7 := HTa.out.grown hg1 (fun k hk => by have h1 := HT6.out.lt; simp [Value.ownBlock] at hk; omega)
    have HR1 := Aside0.mk hR1
    have HS7 := Aside0.mk hS7
    have d0 := hS7.c0
    have d1 := hS7.c1
    have d2 := hS7.c2
    have y0 := hS7.z0
    have y1 := hS7.z1
    have y2 := hS7.z2
    have q1 := hS7.r1
    clear hR1 hS7 hB1 hg1 hat1 hHeld c0a hSa HRow HRead HBa HTa HT6 c0
    refine hK.out _ _ q1 (fun hHeld => ?_)
    clear hK K
    try simp only [Act.put, List.setIfInBounds_toArray, List.set_cons_zero, List.set_cons_succ]
    refine wpAnyH_ready (rs := [7]) (by kernel_rfl) (by simp) ?_
    refine AllReadyH.cons rfl (fun K hK => ?_) AllReadyH.nil
    go_simp
    refine hK.out _ _ ((World.cell?_setCell_other _ _ _ _ (by simp)).trans q1) (fun hHeld => ?_)
    clear hK K
    try simp only [Act.put, List.setIfInBounds_toArray, List.set_cons_zero, List.set_cons_succ]
    refine wpAnyH_ready (rs := [8]) (by kernel_rfl) (by simp) ?_
    refine AllReadyH.cons rfl (fun K hK => ?_) AllReadyH.nil
    have p1 : (w7.setCell ⟨w.heap.size, 0, none⟩ (.slice A1 nn cp1)).cell? ⟨w.heap.size + 1, 0, none⟩ = some (.int .i64 0) := (World.cell?_setCell_other _ _ _ _ (by simp)).trans d1
    go_simp
    refine hK.out _ _ ((World.cell?_setCell_other _ _ _ _ (by simp)).trans ((World.cell?_setCell_other _ _ _ _ (by simp)).trans q1)) (fun hHeld => ?_)
    clear hK K
    try simp only [Act.put, List.setIfInBounds_toArray, List.set_cons_zero, List.set_cons_succ]
    refine wpAnyH_ready (rs := [9]) (by kernel_rfl) (by simp) ?_
    refine AllReadyH.cons rfl (fun K hK => ?_) AllReadyH.nil
    have p2 : ((w7.setCell ⟨w.heap.size, 0, none⟩ (.slice A1 nn cp1)).setCell ⟨w.heap.size + 1, 0, none⟩ (.int .i64 (4 + (nn : Int) + 4))).cell? ⟨w.heap.size + 1 + 1, 0, none⟩ = some (.int .i64 0) := (World.cell?_setCell_other _ _ _ _ (by simp)).trans ((World.cell?_setCell_other _ _ _ _ (by simp)).trans d2)
    go_simp
    refine hK.out _ _ ((World.cell?_setCell_other _ _ _ _ (by simp)).trans ((World.cell?_setCell_other _ _ _ _ (by simp)).trans ((World.cell?_setCell_other _ _ _ _ (by simp)).trans q1))) (fun hHeld => ?_)
    clear hK K
    refine wpAnyH_done (by kernel_rfl) ?_ _
    refine NoPanic.normal ?_
    clear hHeld q1 d0 d1 d2 y0 y1 y2 p1 p2
    have e8 : ((8 + nn : Nat) : Int) = 4 + (nn : Int) + 4 := by omega
    obtain ⟨wd, hwd, g0, g1, g2, hB⟩ := HS7.out.three (.slice A1 nn cp1) (.int .i64 (4 + (nn : Int) + 4)) (.int .i64 0)
    have hRd : Kd.R (Kd.int .u8) 5 wd w.heap.size (fun _ => True) (.slice A1 nn cp1) ((l.drop 4).take nn) := by
      rw [hwd]
      exact Kd.R_mono (Kd.R_far (Kd.R_far (Kd.R_far HR1.out (fun k hk => by simp only; omega) _) (fun k hk => by simp only; omega) _) (fun k hk => by simp only; omega) _) (fun _ _ => trivial)
    rw [← hwd]
    go_wp2
    exact leave g0 g1 g2 ⟨_, by rw [e8], hRd, hB⟩ _ rfl rfl rfl
end Go.Proofs.Ytmceiepphhlncaa.ReadW
