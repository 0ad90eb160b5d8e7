/- A slice of slices of bytes that comes in, opened: its rows as lists. Condition: it reads as the statement says. -/
import Derived.Test.YtmceiepphhlncaaRows
import Derived.Test.YtmceiepphhlncaaQ0
import Derived.Test.YtmceiepphhlncaaCrcB
import Derived.Deep.Matrix
import Derived.WalkKit
import Derived.ProofKit
import Derived.OpenShut
namespace Go.Proofs.Ytmceiepphhlncaa.RowsArg
open Go.ChangeShapes Go.WideShapes Go.ChangeAt Go.RowKit Go.Proofs.YtmceiepphhlncaaW.PrintWords
open Go.Proofs.Ytmceiepphhlncaa.CrcB

theorem arg_rows {H : Type} {enc : TypeId × Value → H} {W : World} {a : Option Addr} {len cap : Nat} {d : DataW H} {ps : List MemPlace} (h : DataW.Trod enc Try.prog W 0 (fun _ => true) true 38 (.slice a len cap) d ps) :
    ∃ xs : List (List Int), xs.length = len ∧ len ≤ cap ∧ Kd.C (Kd.slice 5 (Kd.int .u8)) W a len xs ∧ ∀ f ∈ xs, Byt f := by
  obtain ⟨fuel, hf⟩ := h
  rcases Deep.open_int_rows Try.underlying38 Try.underlying22 Try.underlying5 (by kernel_rfl) (by kernel_rfl) hf with ⟨hcs, _⟩ | ⟨x, l, c, A, L, C, Z, hcs, _, hl, hm, _, hr⟩
  · simp [Value.cells] at hcs
    obtain ⟨rfl, rfl, rfl⟩ := hcs
    exact ⟨[], rfl, Nat.le_refl _, ⟨rfl, by omega, fun h => absurd h (by omega)⟩, by simp⟩
  · simp [Value.cells] at hcs
    obtain ⟨rfl, rfl, rfl⟩ := hcs
    have hmax : maxLen ≤ 9223372036854775807 := by simp only [maxLen]; omega
    refine ⟨(List.range len).map fun r => (Z r).take (L r), by simp, hl, ⟨by simp, by omega, fun _ => ⟨x, rfl, fun j p hj => ?_⟩⟩, ?_⟩
    · obtain ⟨hjl, hp⟩ := List.getElem?_eq_some_iff.1 hj
      rw [List.length_map, List.length_range] at hjl
      rw [List.getElem_map, List.getElem_range] at hp
      obtain ⟨hc, r1, r2, r3, r4, r5, r6⟩ := hr j (by omega)
      have hpl : p.length = L j := by rw [← hp, List.length_take]; omega
      refine ⟨[.slice (A j) (L j) (C j)], rfl, ⟨A j, C j, by rw [hpl], by omega, ?_⟩, fun i u hu => ?_⟩
      · refine Kd.C_of_reads (d := (0 : Int)) ⟨rfl, by omega, fun hn => ?_⟩
        cases hA : A j with
        | none => have := r5 hA; omega
        | some ad =>
          refine ⟨ad, rfl, fun q hq => ?_⟩
          rw [(r6 ad hA).2 q (by omega), ← hp]
          congr 2
          rw [List.getD_eq_getElem?_getD, List.getD_eq_getElem?_getD, List.getElem?_take, if_pos (by omega)]
      · match i, hu with
        | 0, hu =>
          simp only [List.getElem?_cons_zero, Option.some.injEq] at hu
          subst hu
          show W.cell? (x.add (j * 1 + 0)) = _
          rw [Nat.mul_one, Nat.add_zero]
          exact hc
        | i + 1, hu => simp at hu
    · intro f hf
      obtain ⟨r, hrr, rfl⟩ := List.mem_map.1 hf
      have hrl : r < len := List.mem_range.1 hrr
      obtain ⟨_, _, _, _, r4, _, _⟩ := hr r (by omega)
      exact fun y m => u8_wf (r4 y (List.mem_of_mem_take m))
end Go.Proofs.Ytmceiepphhlncaa.RowsArg
