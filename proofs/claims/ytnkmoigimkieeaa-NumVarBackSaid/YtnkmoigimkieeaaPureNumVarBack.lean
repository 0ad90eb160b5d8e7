/- What is written by sevens is read again, whatever stands behind it, and has the bytes that it needs; with its last byte cut off it is not read: what the law computes is true at every number and row of bytes. No condition beyond the bound of every row of bytes. -/
import Derived.Test.YtnkmoigimkieeaaQ15
import Derived.Test.YtnkmoigimkieeaaNumSevB
import Derived.Test.YtnkmoigimkieeaaNumWorks
namespace Go.Proofs.Ytnkmoigimkieeaa.Pure
open Go.RowKit Go.Proofs.Ytnkmoigimkieeaa.Q Go.Proofs.YtnkmoigimkieeaaW.PrintWords Go.Proofs.YtnkmoigimkieeaaW.PrintLast
open Go.Proofs.Ytnkmoigimkieeaa.NumA Go.Proofs.Ytnkmoigimkieeaa.NumFix Go.Proofs.Ytnkmoigimkieeaa.NumSev Go.Proofs.Ytnkmoigimkieeaa.NumWorks

theorem shl_one (n : Nat) (hn : n ≤ 9) : shl .u64 1 (IntKind.u64.wrap (wrap64 (7 * (n : Int)))) = 128 ^ n := by
  have e1 : wrap64 (7 * (n : Int)) = 7 * (n : Int) := by unfold wrap64; omega
  have e2 : IntKind.u64.wrap (7 * (n : Int)) = 7 * (n : Int) := by rw [wrap_u64]; omega
  have hp := p128_pos n
  have hq := p128_le n hn
  rw [e1, e2, shl7 1 n hn, Int.one_mul, Int.emod_eq_of_lt (by omega) (by omega)]
theorem count_fits (n : Nat) : 0 ≤ IntKind.u64.wrap (wrap64 (7 * (n : Int))) := by rw [wrap_u64]; omega
theorem byt_append {x y : List Int} (hx : Byt x) (hy : Byt y) : Byt (x ++ y) := fun z m => by
  rcases List.mem_append.1 m with m | m
  · exact hx z m
  · exact hy z m
theorem byt_take {x : List Int} (hx : Byt x) (n : Nat) : Byt (x.take n) := fun z m => hx z (List.mem_of_mem_take m)
theorem varBack_j0 (a : Int) (a0 : 0 ≤ a) (a1 : a < 18446744073709551616) (k : Nat) (hk : 30 ≤ k) : veneerlaw01_NumVarBack.j0 (k + 1) a (varL 10 a) ((varL 10 a).length : Int) false = some true := by
  have hw := works_ge k hk
  have hl := varL_length 10 a
  have hp := varL_pos 10 a (by omega)
  have hn := varL_needs 10 a a0 (by have := pow10; omega) (by omega)
  have hc := readVar_cut a a0
  have hb := varL_byt 10 a a0
  generalize hx : varL 10 a = x at *
  obtain ⟨n, hxn⟩ : ∃ n, x.length = n := ⟨_, rfl⟩
  rw [hxn] at hl hp hn hc ⊢
  have e1 : wrap64 ((n : Int) - 1) = ((n - 1 : Nat) : Int) := by unfold wrap64; omega
  simp only [veneerlaw01_NumVarBack.j0]
  rw [if_neg (by decide), e1, if_pos (by omega), if_pos (by omega), Int.toNat_natCast, readVar_of _ (byt_take hb _) (by rw [List.length_take]; omega) k hk, hc]
  simp only [Option.bind_some, if_true]
  have hge : ¬ n = 1 → a ≥ shl .u64 1 (IntKind.u64.wrap (wrap64 (7 * ((n - 1 : Nat) : Int)))) := fun h => by
    rw [shl_one (n - 1) (by omega)]
    exact hn.2 h
  by_cases h10 : n = 10
  · subst h10
    rw [if_pos (show ((10 : Nat) : Int) = 10 from rfl), if_neg (by decide), if_pos (count_fits _), if_pos (hge (by omega)), hw]
    rfl
  · rw [if_neg (show ¬ (n : Int) = 10 by omega), if_pos (count_fits _), shl_one n (by omega), if_pos hn.1]
    by_cases h1 : n = 1
    · rw [if_pos (show (n : Int) = 1 by omega), hw]
      rfl
    · rw [if_neg (show ¬ (n : Int) = 1 by omega), if_pos (count_fits _), if_pos (hge h1), hw]
      rfl
theorem NumVarBack : veneerlaw01_NumVarBack.Pure := by
  intro a l h0 hm hb hx
  obtain ⟨a0, a1⟩ := u64_wf h0
  have hl : Byt l := fun x m => u8_wf (hx x m)
  obtain ⟨k, hk⟩ : ∃ k : Nat, 30 ≤ k := ⟨30, Nat.le_refl _⟩
  refine ⟨k + 1, ?_⟩
  have hv := varL_length 10 a
  have hp := varL_pos 10 a (by omega)
  have hj := varBack_j0 a a0 a1 k hk
  have hr := readVar_of _ (byt_append (varL_byt 10 a a0) hl) (by rw [List.length_append]; omega) (k + 1) (by omega)
  rw [readVar_back a l a0 a1] at hr
  unfold veneerlaw01_NumVarBack.f
  rw [var_of a a0 a1 (k + 1) (by omega)]
  generalize veneerlaw01_NumVarBack.j0 (k + 1) = J at *
  generalize varL 10 a = x at *
  simp only [Option.bind_some, List.nil_append, List.length_nil]
  rw [if_pos (by omega), if_pos (by omega), hr]
  simp only [Option.bind_some, if_true]
  rw [if_neg (by omega), decide_eq_false (by omega)]
  exact hj

end Go.Proofs.Ytnkmoigimkieeaa.Pure
