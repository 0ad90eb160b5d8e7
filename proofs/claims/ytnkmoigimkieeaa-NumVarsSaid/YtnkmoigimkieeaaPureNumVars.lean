/- Any number's sevens are the document's bytes; any bytes are read as it says, or refused: what the law computes is true at every number and row of bytes. No condition beyond the bound of every row of bytes. -/
import Derived.Test.YtnkmoigimkieeaaQ14
import Derived.Test.YtnkmoigimkieeaaNumSev
import Derived.Test.YtnkmoigimkieeaaNumWorks
namespace Go.Proofs.Ytnkmoigimkieeaa.Pure
open Go.RowKit Go.Proofs.Ytnkmoigimkieeaa.Q Go.Proofs.YtnkmoigimkieeaaW.PrintWords Go.Proofs.YtnkmoigimkieeaaW.PrintLast
open Go.Proofs.Ytnkmoigimkieeaa.NumA Go.Proofs.Ytnkmoigimkieeaa.NumFix Go.Proofs.Ytnkmoigimkieeaa.NumSev Go.Proofs.Ytnkmoigimkieeaa.NumWorks

theorem refVar_l0 : ∀ (d k : Nat) (v : Int) (acc : List Int), 0 ≤ v → v < 18446744073709551616 → v < 128 ^ (d + 1) → d + 1 < k → acc.length + d < 140737488355328 →
    veneerref01_Var.l0 k v acc = some (acc ++ varL (d + 1) v)
  | 0, k, v, acc, v0, v1, hv, hk, ha => by
    obtain ⟨k, rfl⟩ : ∃ m, k = m + 1 := ⟨k - 1, by omega⟩
    simp only [veneerref01_Var.l0, varL]
    rw [if_neg (show ¬ v > 127 by omega), if_neg (show ¬ 128 ≤ v by omega), if_pos (by omega), show v % 256 = v by omega]
  | d + 1, k, v, acc, v0, v1, hv, hk, ha => by
    obtain ⟨k, rfl⟩ : ∃ m, k = m + 1 := ⟨k - 1, by omega⟩
    have hd := div_lt_pow v (d + 1) hv
    rw [varL]
    simp only [veneerref01_Var.l0]
    by_cases h : 128 ≤ v
    · have e1 : IntKind.u64.wrap (Int.tdiv v 128) = v / 128 := by rw [wrap_u64, Int.tdiv_eq_ediv_of_nonneg v0]; omega
      have e2 : IntKind.u64.wrap ((Int.tmod v 128) + 128) % 256 = v % 128 + 128 := by rw [wrap_u64, Int.tmod_eq_emod_of_nonneg v0]; omega
      rw [if_pos (show v > 127 by omega), if_pos h, if_pos (by omega), e1, e2, refVar_l0 d k (v / 128) _ (by omega) (by omega) hd (by omega) (by rw [List.length_append]; simp; omega)]
      simp
    · rw [if_neg (show ¬ v > 127 by omega), if_neg h, if_pos (by omega), show v % 256 = v by omega]
theorem refVar_of (v : Int) (v0 : 0 ≤ v) (v1 : v < 18446744073709551616) (k : Nat) (hk : 12 ≤ k) : veneerref01_Var.f k v = some (varL 10 v) := by
  unfold veneerref01_Var.f
  have := pow10
  rw [refVar_l0 9 k v [] v0 v1 (by omega) (by omega) (by simp)]
  rfl
theorem weight_next (i : Nat) : IntKind.u64.wrap ((128 ^ i % 18446744073709551616) * 128) = 128 ^ (i + 1) % 18446744073709551616 := by
  rw [wrap_u64, Int.pow_succ]
  omega
theorem digit_of (l : List Int) (hl : Byt l) (i : Nat) (hi : i ≤ 9) (h9 : i = 9 → rd l i ≤ 1) :
    IntKind.u64.wrap (sv l i + (IntKind.u64.wrap ((IntKind.u64.wrap (Int.tmod (rd l i) 128)) * (128 ^ i % 18446744073709551616)))) = sv l (i + 1) := by
  have hr := rd_byt hl i
  have hs := sv_range l i
  have c0 : 0 ≤ rd l i % 128 := by omega
  have c1 : rd l i % 128 < 128 := by omega
  have hf := digit_fits (rd l i % 128) i hi c0 c1 (fun h => by have := h9 h; omega)
  have hp := p128_pos i
  have hq := p128_le i hi
  simp only [wrap_u64, sv]
  rw [Int.tmod_eq_emod_of_nonneg hr.1, show rd l i % 128 % 18446744073709551616 = rd l i % 128 by omega, Int.emod_eq_of_lt (by omega) (show (128 : Int) ^ i < 18446744073709551616 by omega)]
  omega
theorem refReadVar_l0 (l : List Int) (hl : Byt l) (hb : l.length ≤ 140737488355328) : ∀ (d k i : Nat), i + d = 10 → 2 * d < k →
    veneerref01_ReadVar.l0 k l (sv l i) (128 ^ i % 18446744073709551616) i = some (rvR l d i)
  | 0, k, i, h, hk => by
    obtain ⟨k, rfl⟩ : ∃ m, k = m + 1 := ⟨k - 1, by omega⟩
    simp only [veneerref01_ReadVar.l0, rvR]
    rw [if_neg (by omega)]
  | d + 1, k, i, h, hk => by
    obtain ⟨k, rfl⟩ : ∃ m, k = m + 2 := ⟨k - 2, by omega⟩
    have hr := rd_byt hl i
    simp only [veneerref01_ReadVar.l0, rvR]
    rw [if_pos (show (i : Int) < 10 by omega)]
    by_cases h1 : l.length ≤ i
    · rw [if_pos h1, if_pos (show (i : Int) ≥ l.length by omega)]
    · rw [if_neg h1, if_neg (show ¬ (i : Int) ≥ l.length by omega)]
      have hj : ∀ b, (b = true ↔ i = 9 ∧ rd l i > 1) → veneerref01_ReadVar.j1 (k + 1) l (sv l i) (128 ^ i % 18446744073709551616) i b = some (if i = 9 ∧ rd l i > 1 then (0, 0, 5) else if rd l i < 128 then (if rd l i = 0 ∧ 0 < i then (0, 0, 5) else (sv l (i + 1), ((i + 1 : Nat) : Int), 0)) else rvR l d (i + 1)) := by
        intro b hbb
        simp only [veneerref01_ReadVar.j1]
        by_cases h2 : i = 9 ∧ rd l i > 1
        · rw [if_pos h2, if_pos (hbb.2 h2)]
        · have e2 : wrap64 ((i : Int) + 1) = ((i + 1 : Nat) : Int) := by unfold wrap64; omega
          rw [if_neg h2, if_neg (fun x => h2 (hbb.1 x)), if_pos (show 0 ≤ (i : Int) by omega), if_pos (show (i : Int) < l.length by omega), digit_of l hl i (by omega) (fun x => by omega), e2, weight_next]
          by_cases h3 : rd l i < 128
          · rw [if_pos h3, if_pos h3]
            by_cases h4 : rd l i = 0
            · rw [if_pos h4]
              by_cases h5 : 0 < i
              · rw [if_pos (show (i : Int) > 0 by omega), if_pos ⟨h4, h5⟩]
              · rw [if_neg (show ¬ (i : Int) > 0 by omega), if_neg (fun x => h5 x.2)]
            · rw [if_neg h4, if_neg (fun x => h4 x.1)]
          · rw [if_neg h3, if_neg h3]
            exact refReadVar_l0 l hl hb d k (i + 1) (by omega) (by omega)
      by_cases h9 : i = 9
      · rw [if_pos (show (i : Int) = 9 by omega), if_pos (show 0 ≤ (i : Int) by omega), if_pos (show (i : Int) < l.length by omega)]
        exact hj _ (by rw [decide_eq_true_eq]; exact ⟨fun x => ⟨h9, x⟩, fun x => x.2⟩)
      · rw [if_neg (show ¬ (i : Int) = 9 by omega)]
        exact hj _ ⟨fun x => absurd x (by decide), fun x => absurd x.1 h9⟩
theorem refReadVar_of (l : List Int) (hl : Byt l) (hb : l.length ≤ 140737488355328) (k : Nat) (hk : 30 ≤ k) : veneerref01_ReadVar.f k l = some (rvR l 10 0) := by
  unfold veneerref01_ReadVar.f
  have h := refReadVar_l0 l hl hb 10 k 0 (by omega) (by omega)
  exact h
theorem NumVars : veneerlaw01_NumVars.Pure := by
  intro a l h0 hm hb hx
  obtain ⟨a0, a1⟩ := u64_wf h0
  have hl : Byt l := fun x m => u8_wf (hx x m)
  obtain ⟨k, hk⟩ : ∃ k : Nat, 30 ≤ k := ⟨30, Nat.le_refl _⟩
  refine ⟨k, ?_⟩
  have hw := works_ge k hk
  unfold veneerlaw01_NumVars.f
  simp only [Option.bind_some, List.nil_append, List.length_nil]
  rw [if_pos (by omega), readVar_of l hl (by omega) k hk, refReadVar_of l hl (by omega) k hk, var_of a a0 a1 k (by omega), refVar_of a a0 a1 k (by omega), hw]
  simp

end Go.Proofs.Ytnkmoigimkieeaa.Pure
