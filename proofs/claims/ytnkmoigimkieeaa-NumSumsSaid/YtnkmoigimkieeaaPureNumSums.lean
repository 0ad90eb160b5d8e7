/- Any sum, difference and product is the exact one, or refused just where that is none of 64 bits: the law answers true at every pair of numbers. No condition. -/
import Derived.Test.YtnkmoigimkieeaaSumsW
import Derived.Test.YtnkmoigimkieeaaNumArith
import Derived.Test.YtnkmoigimkieeaaNumWorks
namespace Go.Proofs.Ytnkmoigimkieeaa.Pure
open Go.RowKit Go.Proofs.Ytnkmoigimkieeaa.Q Go.Proofs.YtnkmoigimkieeaaW.PrintWords Go.Proofs.YtnkmoigimkieeaaW.PrintLast
open Go.Proofs.Ytnkmoigimkieeaa.NumA Go.Proofs.Ytnkmoigimkieeaa.NumArith Go.Proofs.Ytnkmoigimkieeaa.NumWorks Go.Proofs.Ytnkmoigimkieeaa.SumsWalk

theorem half_mul (x y : Int) (x0 : 0 ≤ x) (x1 : x ≤ 4294967295) (y0 : 0 ≤ y) (y1 : y ≤ 4294967295) : 0 ≤ x * y ∧ x * y ≤ 18446744065119617025 := by
  refine ⟨Int.mul_nonneg x0 y0, ?_⟩
  have h1 : x * y ≤ 4294967295 * y := Int.mul_le_mul_of_nonneg_right x1 y0
  omega
theorem wide_of (a b : Int) (a0 : 0 ≤ a) (a1 : a < 18446744073709551616) (b0 : 0 ≤ b) (b1 : b < 18446744073709551616) :
    veneerref01_Wide.f a b = some (a * b / 18446744073709551616, a * b % 18446744073709551616) := by
  unfold veneerref01_Wide.f
  rw [Int.tdiv_eq_ediv_of_nonneg a0, Int.tdiv_eq_ediv_of_nonneg b0, Int.tmod_eq_emod_of_nonneg a0, Int.tmod_eq_emod_of_nonneg b0]
  have ea : a = (a / 4294967296) * 4294967296 + a % 4294967296 := by omega
  have eb : b = (b / 4294967296) * 4294967296 + b % 4294967296 := by omega
  have p0 : 0 ≤ a / 4294967296 := by omega
  have p1 : a / 4294967296 ≤ 4294967295 := by omega
  have q0 : 0 ≤ a % 4294967296 := by omega
  have q1 : a % 4294967296 ≤ 4294967295 := by omega
  have r0 : 0 ≤ b / 4294967296 := by omega
  have r1 : b / 4294967296 ≤ 4294967295 := by omega
  have s0 : 0 ≤ b % 4294967296 := by omega
  have s1 : b % 4294967296 ≤ 4294967295 := by omega
  generalize a / 4294967296 = p at *
  generalize a % 4294967296 = q at *
  generalize b / 4294967296 = r at *
  generalize b % 4294967296 = s at *
  subst ea eb
  have e : (p * 4294967296 + q) * (r * 4294967296 + s) = p * r * 18446744073709551616 + (p * s + q * r) * 4294967296 + q * s := by
    rw [Int.add_mul, Int.mul_add, Int.mul_add]
    have h1 : p * 4294967296 * (r * 4294967296) = p * r * 18446744073709551616 := by
      rw [Int.mul_assoc p, Int.mul_left_comm 4294967296 r, ← Int.mul_assoc p r, show (4294967296 * 4294967296 : Int) = 18446744073709551616 by decide]
    have h2 : p * 4294967296 * s = p * s * 4294967296 := by rw [Int.mul_assoc, Int.mul_comm 4294967296 s, ← Int.mul_assoc]
    have h3 : q * (r * 4294967296) = q * r * 4294967296 := by rw [← Int.mul_assoc]
    rw [h1, h2, h3]
    omega
  have w1 : ∀ x : Int, 0 ≤ x → x < 18446744073709551616 → IntKind.u64.wrap x = x := fun x h h' => by rw [wrap_u64]; omega
  rw [e, w1 p p0 (by omega), w1 r r0 (by omega)]
  have hpr := half_mul p r p0 p1 r0 r1
  have hps := half_mul p s p0 p1 s0 s1
  have hqr := half_mul q r q0 q1 r0 r1
  have hqs := half_mul q s q0 q1 s0 s1
  generalize p * r = pr at *
  generalize p * s = ps at *
  generalize q * r = qr at *
  generalize q * s = qs at *
  rw [w1 qs hqs.1 (by omega), w1 pr hpr.1 (by omega), w1 ps hps.1 (by omega), w1 qr hqr.1 (by omega)]
  rw [Int.tdiv_eq_ediv_of_nonneg hqs.1, Int.tmod_eq_emod_of_nonneg hqs.1]
  have l0 : 0 ≤ qs / 4294967296 := by omega
  rw [w1 (qs / 4294967296) l0 (by omega), w1 (ps + qs / 4294967296) (by omega) (by omega)]
  have m0 : 0 ≤ ps + qs / 4294967296 := by omega
  rw [Int.tdiv_eq_ediv_of_nonneg m0, Int.tmod_eq_emod_of_nonneg m0]
  have n0 : 0 ≤ qr + (ps + qs / 4294967296) % 4294967296 := by omega
  rw [w1 (qr + (ps + qs / 4294967296) % 4294967296) n0 (by omega)]
  rw [Int.tdiv_eq_ediv_of_nonneg n0, Int.tmod_eq_emod_of_nonneg n0]
  simp only [wrap_u64]
  congr 2 <;> omega
theorem NumSums_calls (a b : Int) (w : World) (w0 : (Lit.int .u64 a).wf = true) (w1 : (Lit.int .u64 b).wf = true) :
    Calls Try.prog 11 #[.int .u64 a, .int .u64 b] w fun e w' => e = .returned (.bool true) ∧ Below w.heap.size w w' := by
  obtain ⟨a0, a1⟩ := u64_wf w0
  obtain ⟨b0, b1⟩ := u64_wf w1
  obtain ⟨k, hk⟩ : ∃ k : Nat, 30 ≤ k := ⟨30, Nat.le_refl _⟩
  have h5 := works_ge (k + 1) (by omega)
  have h1 := add_of a b a0 a1 b0 b1
  have h2 := sub_of a b a0 a1 b0 b1
  have h3 := mul_of a b a0 a1 b0 b1 k
  have h4 := wide_of a b a0 a1 b0 b1
  have hp : 0 ≤ a * b := Int.mul_nonneg a0 b0
  have ew : IntKind.u64.wrap (18446744073709551615 - b) = 18446744073709551615 - b := by rw [wrap_u64]; omega
  generalize a * b = P at *
  by_cases c1 : a + b < 18446744073709551616
  · rw [if_pos c1] at h1
    have hs : decide (a ≤ IntKind.u64.wrap (18446744073709551615 - b)) = true := decide_eq_true (by omega)
    have hs2 : (IntKind.u64.wrap (a + b - b) != a) = false := by rw [bne_eq_false_iff_eq, wrap_u64]; omega
    by_cases c2 : b ≤ a
    · rw [if_pos c2] at h2
      have hd : decide (b ≤ a) = true := decide_eq_true c2
      have hd' : decide (a < b) = false := decide_eq_false (by omega)
      have hd2 : (IntKind.u64.wrap (a - b + b) != a) = false := by rw [bne_eq_false_iff_eq, wrap_u64]; omega
      by_cases c3 : P < 18446744073709551616
      · rw [if_pos c3] at h3
        rw [show P % 18446744073709551616 = P by omega] at h4
        exact way000 (k + 1) a b _ _ _ _ w h1 h2 h3 h4 h5 hs hs2 hd hd' hd2 (decide_eq_false (by omega))
      · rw [if_neg c3] at h3
        exact way001 (k + 1) a b _ _ _ _ w h1 h2 h3 h4 h5 hs hs2 hd hd' hd2 (decide_eq_true (by omega))
    · rw [if_neg c2] at h2
      have hd : decide (b ≤ a) = false := decide_eq_false c2
      have hd' : decide (a < b) = true := decide_eq_true (by omega)
      by_cases c3 : P < 18446744073709551616
      · rw [if_pos c3] at h3
        rw [show P % 18446744073709551616 = P by omega] at h4
        exact way010 (k + 1) a b _ _ _ w h1 h2 h3 h4 h5 hs hs2 hd hd' (decide_eq_false (by omega))
      · rw [if_neg c3] at h3
        exact way011 (k + 1) a b _ _ _ w h1 h2 h3 h4 h5 hs hs2 hd hd' (decide_eq_true (by omega))
  · rw [if_neg c1] at h1
    have hs : decide (a ≤ IntKind.u64.wrap (18446744073709551615 - b)) = false := decide_eq_false (by omega)
    by_cases c2 : b ≤ a
    · rw [if_pos c2] at h2
      have hd : decide (b ≤ a) = true := decide_eq_true c2
      have hd' : decide (a < b) = false := decide_eq_false (by omega)
      have hd2 : (IntKind.u64.wrap (a - b + b) != a) = false := by rw [bne_eq_false_iff_eq, wrap_u64]; omega
      by_cases c3 : P < 18446744073709551616
      · rw [if_pos c3] at h3
        rw [show P % 18446744073709551616 = P by omega] at h4
        exact way100 (k + 1) a b _ _ _ w h1 h2 h3 h4 h5 hs hd hd' hd2 (decide_eq_false (by omega))
      · rw [if_neg c3] at h3
        exact way101 (k + 1) a b _ _ _ w h1 h2 h3 h4 h5 hs hd hd' hd2 (decide_eq_true (by omega))
    · rw [if_neg c2] at h2
      have hd : decide (b ≤ a) = false := decide_eq_false c2
      have hd' : decide (a < b) = true := decide_eq_true (by omega)
      by_cases c3 : P < 18446744073709551616
      · rw [if_pos c3] at h3
        rw [show P % 18446744073709551616 = P by omega] at h4
        exact way110 (k + 1) a b _ _ w h1 h2 h3 h4 h5 hs hd hd' (decide_eq_false (by omega))
      · rw [if_neg c3] at h3
        exact way111 (k + 1) a b _ _ w h1 h2 h3 h4 h5 hs hd hd' (decide_eq_true (by omega))

end Go.Proofs.Ytnkmoigimkieeaa.Pure
