/- The walk of Read where the sum is not there. Conditions: as it states. -/
import Derived.Test.YtmceiepphhlncaaReadA
import Derived.Deep.RegionWith
namespace Go.Proofs.Ytmceiepphhlncaa.ReadW
open Go.RowKit Go.Proofs.YtmceiepphhlncaaW.PrintWords Go.Proofs.YtmceiepphhlncaaW.PrintLast Go.Proofs.YtmceiepphhlncaaW.PrintMore
/-- What the drawn region says where four gives up: no word of the frame beyond what a return reads. -/
def TQ (w w3 : World) : Exit → Act → World → Prop
  | .panic c, a, w' => c = [{ v := .iface 23 (.int .i64 4), recovered := false }] ∧ (∃ n : Nat, w' = w3.drewN n) ∧
      a.defers = [{ target := Target.fn (Fn.func 20) #[.pointer (some ⟨w.heap.size, 0, none⟩), .pointer (some ⟨w.heap.size + 1, 0, none⟩), .pointer (some ⟨w.heap.size + 1 + 1, 0, none⟩)], args := #[] }] ∧
      a.tmps[2]? = some (.pointer (some ⟨w.heap.size, 0, none⟩)) ∧ a.tmps[3]? = some (.pointer (some ⟨w.heap.size + 1, 0, none⟩)) ∧ a.tmps[4]? = some (.pointer (some ⟨w.heap.size + 1 + 1, 0, none⟩))
  | _, _, _ => False
theorem TQ_put {w w3 : World} {c : List PanicEntry} {a : Act} {d : Nat} {v : Value} {w' : World} (hd : 4 < d) (h : TQ w w3 (.panic c) (a.put (some d) v) w') : TQ w w3 (.panic c) a w' := by
  obtain ⟨h1, h2, h3, h4, h5, h6⟩ := h
  refine ⟨h1, h2, by simpa [Act.put] using h3, ?_, ?_, ?_⟩
  · simpa [Act.put, Array.getElem?_setIfInBounds, show d ≠ 2 by omega] using h4
  · simpa [Act.put, Array.getElem?_setIfInBounds, show d ≠ 3 by omega] using h5
  · simpa [Act.put, Array.getElem?_setIfInBounds, show d ≠ 4 by omega] using h6
set_option maxHeartbeats 4000000 in
set_option maxRecDepth 100000 in
/-- The sum is not there. -/
theorem read_torn (A : Option Addr) (cap : Nat) (l : List Int) (w : World) (hl : 4 ≤ l.length) (hlc : l.length ≤ cap) (hlen : (l.length : Int) ≤ 281474976710656) (hA : ∀ w', Below w.heap.size w w' → Kd.C (Kd.int .u8) w' A l.length l)
    (nn : Nat) (hnn : fourI (l.take 4) 4 = nn) (hn : nn ≤ 4096) (hs1 : 4 + nn ≤ l.length) (hs : l.length < 8 + nn) :
    Calls Try.prog 11 #[.slice A l.length cap] w fun e w' => e = .returned (.tuple #[.slice none 0 0, .int .i64 0, .int .i64 4]) ∧ Below w.heap.size w w' := by
  have hmf : ∀ (fn : Fn) (first cap : Array Value) (w : World), (Instr.makeFunc fn first cap).run Try.prog w = .ok (.func fn first cap) w := fun _ _ _ _ => rfl
  have hS := St.init w (.slice A l.length cap)
  have HF := Aside0.mk (four_some (w.heap.size + 1 + 1 + 1) A cap l 0 _ hS.r0 hS.r1 hS.zr (by omega) hlc hlen (hS.cont hA))
  have HS := Aside0.mk ((hS.step (((0 : Nat) : Int) + 4)).drewN 2)
  have HT := Aside0.mk (take_some (w.heap.size + 1 + 1 + 1) A l.length cap 4 nn _ HS.out.r0 HS.out.r1 HS.out.zr (by omega) hlc hlen)
  have HS2 := Aside0.mk ((HS.out.step (((4 : Nat) : Int) + nn)).drewN 2)
  have HS3 := Aside0.mk (HS2.out.put (.slice (cutAt A 4 nn) nn nn))
  have HG := Aside0.mk (fun n : Nat => four_end (w.heap.size + 1 + 1 + 1) A l.length cap (((4 : Nat) : Int) + nn) _ (HS3.out.drewN n).r0 (HS3.out.drewN n).r1 (by omega) (by omega) (by omega))
  have HP := Aside0.mk (fun n : Nat => (HS3.out.drewN n).out)
  clear hS hA
  rw [List.drop_zero, hnn] at HF
  have hn1 : ¬ (4096 : Int) < (nn : Int) := by omega
  have hn2 : (nn : Int) ≤ 4096 := by omega
  have hb0 : (0 : Int) ≤ ((4 : Nat) : Int) + nn := by omega
  have hb1 : ((4 : Nat) : Int) + nn ≤ (cap : Int) := by omega
  have hb2 : ((4 : Nat) : Int) + nn ≤ (l.length : Int) := by omega
  go_enter_defers Try.func11, Try.ntmps11
  go_wp2_with (first | (go_at_call 21; refine HF.out.mono ?_; rintro e w1 ⟨rfl, hw1⟩; rw [← hw1] at HS HS2 HS3 HT HG HP; clear hw1 HF) | (go_at_call 22; refine HT.out.mono ?_; rintro e w2 ⟨rfl, hw2⟩; rw [← hw2] at HS2 HS3 HG HP; have c0 := HS2.out.c0; have z0 := HS2.out.z0; have r1 := HS3.out.r1; clear hw2 HT))
  generalize w2.setCell ⟨w.heap.size, 0, none⟩ (.slice (cutAt A 4 nn) nn nn) = w3 at *
  clear c0 z0 r1 HS HS2 HS3
  have hb0' : (0 : Int) ≤ 4 + (nn : Int) := by omega
  have hb1' : 4 + (nn : Int) ≤ (cap : Int) := by omega
  refine Code.wp_mono (Q := TQ w w3) ?imp ?main
  case main =>
    refine wp_region_any (by kernel_rfl) ?_
    try (change wpAny _ _ _ _ _ _ _ (World.drew _))
    refine wpAny_take (i := 0) (v := ?_) rfl (by kernel_rfl) (by kernel_rfl) (by kernel_rfl) (fun _ _ _ h => TQ_put (by decide) h) (Or.inl ⟨by rfl, ?_⟩) ?_
    rotate_left
    · intro w; go_simp
      with_reducible rfl
    refine wpAny_take (i := 2) (v := ?_) rfl (by kernel_rfl) (by kernel_rfl) (by kernel_rfl) (fun _ _ _ h => TQ_put (by decide) h) (Or.inl ⟨by rfl, ?_⟩) ?_
    rotate_left
    · intro w; go_simp
      with_reducible rfl
    refine wpAny_take (i := 3) (v := ?_) rfl (by kernel_rfl) (by kernel_rfl) (by kernel_rfl) (fun _ _ _ h => TQ_put (by decide) h) (Or.inl ⟨by rfl, ?_⟩) ?_
    rotate_left
    · intro w; go_simp
      with_reducible rfl
    refine wpAny_take (i := 4) (v := ?_) rfl (by kernel_rfl) (by kernel_rfl) (by kernel_rfl) (fun _ _ _ h => TQ_put (by decide) h) (Or.inl ⟨by rfl, ?_⟩) ?_
    rotate_left
    · intro w; go_simp
      with_reducible rfl
    refine wpAny_ready (rs := [1]) (by kernel_rfl) (by simp) ?_
    refine AllReady.cons rfl (fun K hK => ?_) AllReady.nil
    go_simp
    go_wp2_with (go_at_call 21; refine (HG.out 1).mono ?_; rintro e w4 ⟨rfl, ⟨n4, rfl⟩⟩)
    exact ⟨rfl, ⟨_, rfl⟩, rfl, rfl, rfl, rfl⟩
  case imp =>
    intro e a w' h
    cases e with
    | panic c =>
      obtain ⟨rfl, ⟨n, rfl⟩, h3, h4, h5, h6⟩ := h
      obtain ⟨tm, df⟩ := a
      simp only at h3 h4 h5 h6
      subst h3
      exact HP.out n tm h4 h5 h6
    | _ => exact (h : False).elim
end Go.Proofs.Ytmceiepphhlncaa.ReadW
