/- Rows of bytes: when two have the same string; which is the greater one; numbers as bytes of one width, the highest first. No condition beyond what each theorem states. -/
import Derived.Test.YtnkmoigimkieeaaNumA
import Derived.Lib.Bytes
namespace Go.Proofs.Ytnkmoigimkieeaa.NumA
open Go.RowKit Go.Lib

def Byt (xs : List Int) : Prop := ∀ x ∈ xs, 0 ≤ x ∧ x < 256
theorem u8_inj {a b : Int} (a0 : 0 ≤ a) (a1 : a < 256) (b0 : 0 ≤ b) (b1 : b < 256) (h : UInt8.ofNat a.toNat = UInt8.ofNat b.toNat) : a = b := by
  have h1 := congrArg UInt8.toNat h
  simp only [UInt8.toNat_ofNat'] at h1
  omega
theorem bytesOf_inj : ∀ {xs ys : List Int}, Byt xs → Byt ys → bytesOf xs = bytesOf ys → xs = ys
  | [], [], _, _, _ => rfl
  | [], _ :: _, _, _, h => by simp [bytesOf] at h
  | _ :: _, [], _, _, h => by simp [bytesOf] at h
  | a :: xs, b :: ys, hx, hy, h => by
    simp only [bytesOf, List.map_cons, List.cons.injEq] at h
    have ha := hx a (by simp)
    have hb := hy b (by simp)
    rw [u8_inj ha.1 ha.2 hb.1 hb.2 h.1, bytesOf_inj (fun x m => hx x (by simp [m])) (fun x m => hy x (by simp [m])) h.2]
/-- Two rows of bytes have one string just where they are one. -/
theorem str_eq_iff {xs ys : List Int} (hx : Byt xs) (hy : Byt ys) : (strOfNums xs).toList = (strOfNums ys).toList ↔ xs = ys := by
  rw [strOfNums_toList, strOfNums_toList]
  exact ⟨bytesOf_inj hx hy, fun h => by rw [h]⟩
def less : List Int → List Int → Bool
  | _, [] => false
  | [], _ :: _ => true
  | a :: x, b :: y => decide (a < b) || (decide (a = b) && less x y)
theorem bytesLess_less : ∀ {xs ys : List Int}, Byt xs → Byt ys → Op.bytesLess (bytesOf xs) (bytesOf ys) = less xs ys
  | [], [], _, _ => rfl
  | [], _ :: _, _, _ => rfl
  | _ :: _, [], _, _ => rfl
  | a :: xs, b :: ys, hx, hy => by
    have ha := hx a (by simp)
    have hb := hy b (by simp)
    have ih := bytesLess_less (xs := xs) (ys := ys) (fun x m => hx x (by simp [m])) (fun x m => hy x (by simp [m]))
    simp only [bytesOf, List.map_cons, Op.bytesLess, less] at ih ⊢
    rw [ih]
    congr 1
    · rw [decide_eq_decide, UInt8.lt_iff_toNat_lt, UInt8.toNat_ofNat', UInt8.toNat_ofNat']
      omega
    · congr 1
      rw [Bool.eq_iff_iff, beq_iff_eq, decide_eq_true_eq]
      exact ⟨u8_inj ha.1 ha.2 hb.1 hb.2, fun h => by rw [h]⟩

/-- The n lowest digits to the base 256, the highest first. -/
def fixL (v : Int) : Nat → List Int
  | 0 => []
  | n + 1 => (v / 256 ^ n % 256) :: fixL v n
theorem fixL_length (v : Int) : ∀ n, (fixL v n).length = n
  | 0 => rfl
  | n + 1 => by simp [fixL, fixL_length v n]
theorem fixL_byt (v : Int) : ∀ n, Byt (fixL v n)
  | 0 => fun x m => by simp [fixL] at m
  | n + 1 => fun x m => by
    simp only [fixL, List.mem_cons] at m
    rcases m with rfl | m
    · omega
    · exact fixL_byt v n x m
theorem pow256_pos (n : Nat) : (0 : Int) < 256 ^ n := Int.pow_pos (by decide)
theorem emod_pow_succ (v : Int) (n : Nat) : v % 256 ^ (n + 1) = 256 ^ n * (v / 256 ^ n % 256) + v % 256 ^ n := by
  have hp := pow256_pos n
  rw [Int.pow_succ]
  have h1 := Int.mul_ediv_add_emod v (256 ^ n)
  have h2 := Int.mul_ediv_add_emod (v / 256 ^ n) 256
  have h3 := Int.emod_nonneg v (Int.ne_of_gt hp)
  have h4 := Int.emod_lt_of_pos v hp
  generalize (256 : Int) ^ n = P at *
  generalize v / P = q at *
  have h5 : 0 ≤ q % 256 := by omega
  have h6 : q % 256 < 256 := by omega
  have key : v = (P * (q % 256) + v % P) + (P * 256) * (q / 256) := by
    rw [← h2] at h1
    rw [Int.mul_add] at h1
    rw [Int.mul_assoc P 256 (q / 256)]
    omega
  have hlt : P * (q % 256) + v % P < P * 256 := by
    have : P * (q % 256) ≤ P * 255 := Int.mul_le_mul_of_nonneg_left (by omega) (by omega)
    have e : P * 256 = P * 255 + P := by omega
    omega
  have hge : 0 ≤ P * (q % 256) + v % P := by
    have : 0 ≤ P * (q % 256) := Int.mul_nonneg (by omega) h5
    omega
  rw [key, Int.add_mul_emod_self_left, Int.emod_eq_of_lt hge hlt, ← key]
theorem less_fixL (a b : Int) : ∀ n, less (fixL a n) (fixL b n) = decide (a % 256 ^ n < b % 256 ^ n)
  | 0 => by simp [fixL, less]
  | n + 1 => by
    have hp := pow256_pos n
    simp only [fixL, less]
    rw [less_fixL a b n, emod_pow_succ a n, emod_pow_succ b n]
    have a3 := Int.emod_nonneg a (Int.ne_of_gt hp)
    have a4 := Int.emod_lt_of_pos a hp
    have b3 := Int.emod_nonneg b (Int.ne_of_gt hp)
    have b4 := Int.emod_lt_of_pos b hp
    generalize (256 : Int) ^ n = P at *
    generalize a / P % 256 = x at *
    generalize b / P % 256 = y at *
    rw [Bool.eq_iff_iff]
    simp only [Bool.or_eq_true, Bool.and_eq_true, decide_eq_true_eq]
    constructor
    · rintro (h | ⟨h, h'⟩)
      · have : P * (x + 1) ≤ P * y := Int.mul_le_mul_of_nonneg_left (by omega) (by omega)
        rw [Int.mul_add] at this
        omega
      · rw [h]; omega
    · intro h
      rcases Int.lt_trichotomy x y with h1 | h1 | h1
      · exact .inl h1
      · right; rw [h1] at h; exact ⟨h1, by omega⟩
      · exfalso
        have : P * (y + 1) ≤ P * x := Int.mul_le_mul_of_nonneg_left (by omega) (by omega)
        rw [Int.mul_add] at this
        omega
theorem fixL_inj {a b : Int} : ∀ n, fixL a n = fixL b n → a % 256 ^ n = b % 256 ^ n
  | 0, _ => by simp
  | n + 1, h => by
    simp only [fixL, List.cons.injEq] at h
    rw [emod_pow_succ a n, emod_pow_succ b n, h.1, fixL_inj n h.2]
end Go.Proofs.Ytnkmoigimkieeaa.NumA
