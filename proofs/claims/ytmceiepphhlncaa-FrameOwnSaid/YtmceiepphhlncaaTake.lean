/- The walk of (*reader).take, where the bytes are enough and where they are not. Condition: the reader lies in one block, its place within the bytes. -/
import Derived.Test.YtmceiepphhlncaaChecked
import Derived.Test.YtmceiepphhlncaaWWords
import Derived.Test.YtmceiepphhlncaaWLast
import Derived.Test.YtmceiepphhlncaaWMore
import Derived.WalkKit
import Derived.WalkSpells
import Derived.WalkLawsBesides
import Derived.Defers
import Derived.Recover
import Derived.Laws.Pointers
import Derived.Deep.RegionHeld3
namespace Go.Proofs.Ytmceiepphhlncaa.ReadW
open Go.RowKit Go.Proofs.YtmceiepphhlncaaW.PrintWords Go.Proofs.YtmceiepphhlncaaW.PrintLast Go.Proofs.YtmceiepphhlncaaW.PrintMore
/-- Where n elements from at on begin. -/
def cutAt (A : Option Addr) (at' n : Nat) : Option Addr := if n = 0 then A else A.map (fun x => x.add at')
set_option maxHeartbeats 1000000 in
set_option maxRecDepth 100000 in
theorem take_end (B : Nat) (A : Option Addr) (len cap : Nat) (at' n : Int) (w : World) (h0 : w.cell? ⟨B, 0, none⟩ = some (.slice A len cap)) (h1 : w.cell? ⟨B, 1, none⟩ = some (.int .i64 at'))
    (hb : 0 ≤ (len : Int) - at') (hlen : (len : Int) - at' ≤ 281474976710656) (hn : n > len - at') :
    Calls Try.prog 22 #[.pointer (some ⟨B, 0, none⟩), .int .i64 n] w fun e w' => e = .panicked [{ v := .iface 23 (.int .i64 4), recovered := false }] ∧ Drawn0 w w' := by
  have e1 : IntKind.i64.wrap ((len : Int) - at') < n := by simp only [IntKind.wrap_i64]; omega
  have e0 : ¬ n ≤ IntKind.i64.wrap ((len : Int) - at') := by omega
  go_enter Try.func22, Try.ntmps22
  go_wp2
  go_region_held3 (fun w' => w'.cell? ⟨B, 0, none⟩ = some (.slice A len cap) ∧ w'.cell? ⟨B, 1, none⟩ = some (.int .i64 at')) (go_keep) (first | fail)
  all_goals go_wp2
  all_goals exact ⟨rfl, rfl, by repeat (first | exact Drawn0.refl _ | apply Drawn0.step)⟩
set_option maxHeartbeats 1000000 in
set_option maxRecDepth 100000 in
theorem take_some (B : Nat) (A : Option Addr) (len cap : Nat) (at' n : Nat) (w : World) (h0 : w.cell? ⟨B, 0, none⟩ = some (.slice A len cap)) (h1 : w.cell? ⟨B, 1, none⟩ = some (.int .i64 (at' : Int))) (hf : w.frozen? ⟨B, 1, none⟩ = false)
    (hb1 : at' + n ≤ len) (hlc : len ≤ cap) (hlen : (len : Int) ≤ 281474976710656) :
    Calls Try.prog 22 #[.pointer (some ⟨B, 0, none⟩), .int .i64 (n : Int)] w fun e w' => e = .returned (.slice (cutAt A at' n) n n) ∧ w' = (w.setCell ⟨B, 1, none⟩ (.int .i64 ((at' : Int) + n))).drewN 2 := by
  have e1 : ¬ IntKind.i64.wrap ((len : Int) - at') < n := by simp only [IntKind.wrap_i64]; omega
  have e0 : n ≤ IntKind.i64.wrap ((len : Int) - at') := by omega
  have e2 : wrap64 ((at' : Int) + n) = (at' : Int) + n := by unfold wrap64; omega
  have e2' : IntKind.i64.wrap ((at' : Int) + n) = (at' : Int) + n := by simp only [IntKind.wrap_i64]; omega
  have e3 : wrap64 ((at' : Int) + n - n) = at' := by unfold wrap64; omega
  have e3' : IntKind.i64.wrap ((at' : Int) + n - n) = at' := by simp only [IntKind.wrap_i64]; omega
  have e4 : wrap64 (at' : Int) = at' := by unfold wrap64; omega
  have e4' : IntKind.i64.wrap (at' : Int) = at' := by simp only [IntKind.wrap_i64]; omega
  have s7 : (at' : Int) + n ≤ (at' : Int) + n := by omega
  have s0 : (0 : Int) ≤ (at' : Int) := by omega
  have s1 : (at' : Int) ≤ (at' : Int) + n := by omega
  have s2 : (at' : Int) + n ≤ (cap : Int) := by omega
  have s3 : (0 : Int) ≤ (at' : Int) + n := by omega
  have s4 : at' ≤ at' + n := by omega
  have s5 : at' + n ≤ cap := by omega
  have s6 : (0 : Int) ≤ (n : Int) := by omega
  have g0 : (w.setCell ⟨B, 1, none⟩ (.int .i64 ((at' : Int) + n))).cell? ⟨B, 0, none⟩ = some (.slice A len cap) := by rw [World.cell?_setCell_other _ _ _ _ (by simp)]; exact h0
  have g1 : (w.setCell ⟨B, 1, none⟩ (.int .i64 ((at' : Int) + n))).cell? ⟨B, 1, none⟩ = some (.int .i64 ((at' : Int) + n)) := World.cell?_setCell_same _ _ _ h1
  go_enter Try.func22, Try.ntmps22
  go_wp2
  go_region_held3 (fun w' => w'.cell? ⟨B, 0, none⟩ = some (.slice A len cap) ∧ w'.cell? ⟨B, 1, none⟩ = some (.int .i64 at')) (go_keep) (first | fail)
  all_goals go_wp2
  go_region_held3 (fun w' => w'.cell? ⟨B, 0, none⟩ = some (.slice A len cap) ∧ w'.cell? ⟨B, 1, none⟩ = some (.int .i64 ((at' : Int) + n))) (go_keep) (first | fail)
  all_goals go_wp2
  · obtain rfl : n = 0 := by omega
    go_ret
    exact ⟨rfl, rfl⟩
  · have hn0 : n ≠ 0 := by omega
    have ht : ((at' : Int) + n).toNat - at' = n := by omega
    rw [ht]
    go_ret
    exact ⟨by simp [cutAt, hn0], rfl⟩
end Go.Proofs.Ytmceiepphhlncaa.ReadW
