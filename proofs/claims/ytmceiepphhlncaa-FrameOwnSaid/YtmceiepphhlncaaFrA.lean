/- Frames over rows of bytes: numbers in four bytes, the lowest first; what Frame and Read answer, told plainly. Condition: what is read are bytes, no more than a machine holds. -/
import Derived.Test.YtmceiepphhlncaaQRead
import Derived.Test.YtmceiepphhlncaaQFrame
import Derived.Test.YtmceiepphhlncaaQWorks
import Derived.Test.YtmceiepphhlncaaCrcB
import Derived.Lib.Bytes
namespace Go.Proofs.Ytmceiepphhlncaa.Fr
open Go.RowKit Go.Proofs.Ytmceiepphhlncaa.Q Go.Proofs.YtmceiepphhlncaaW.PrintWords Go.Proofs.YtmceiepphhlncaaW.PrintLast
open Go.Proofs.Ytmceiepphhlncaa.CrcA Go.Proofs.Ytmceiepphhlncaa.CrcB Go.Proofs.Ytmceiepphhlncaa.ReadW

theorem Byt.app {a b : List Int} (ha : Byt a) (hb : Byt b) : Byt (a ++ b) := fun x m => by
  rcases List.mem_append.1 m with m | m
  · exact ha x m
  · exact hb x m
theorem Byt.take {a : List Int} (ha : Byt a) (n : Nat) : Byt (a.take n) := fun x m => ha x (List.mem_of_mem_take m)
theorem Byt.drop {a : List Int} (ha : Byt a) (n : Nat) : Byt (a.drop n) := fun x m => ha x (List.mem_of_mem_drop m)
theorem Byt.nil : Byt [] := fun x m => by simp at m

/-! ### Strings of bytes -/
theorem u8_inj {a b : Int} (a0 : 0 ≤ a) (a1 : a < 256) (b0 : 0 ≤ b) (b1 : b < 256) (h : UInt8.ofNat a.toNat = UInt8.ofNat b.toNat) : a = b := by
  have h1 := congrArg UInt8.toNat h
  simp only [UInt8.toNat_ofNat'] at h1
  omega
theorem bytesOf_inj : ∀ {xs ys : List Int}, Byt xs → Byt ys → Go.Lib.bytesOf xs = Go.Lib.bytesOf ys → xs = ys
  | [], [], _, _, _ => rfl
  | [], _ :: _, _, _, h => by simp [Go.Lib.bytesOf] at h
  | _ :: _, [], _, _, h => by simp [Go.Lib.bytesOf] at h
  | a :: xs, b :: ys, hx, hy, h => by
    simp only [Go.Lib.bytesOf, List.map_cons, List.cons.injEq] at h
    have ha := hx a (by simp)
    have hb := hy b (by simp)
    rw [u8_inj ha.1 ha.2 hb.1 hb.2 h.1, bytesOf_inj (fun x m => hx x (by simp [m])) (fun x m => hy x (by simp [m])) h.2]
theorem str_iff {xs ys : List Int} (hx : Byt xs) (hy : Byt ys) : (strOfNums xs).toList = (strOfNums ys).toList ↔ xs = ys := by
  rw [Go.Lib.strOfNums_toList, Go.Lib.strOfNums_toList]
  exact ⟨bytesOf_inj hx hy, fun h => by rw [h]⟩

/-! ### Numbers in four bytes -/
def low (v : Int) : List Int := [v % 256, v / 256 % 256, v / 65536 % 256, v / 16777216 % 256]
theorem low_length (v : Int) : (low v).length = 4 := rfl
theorem low_byt (v : Int) : Byt (low v) := fun x m => by
  simp only [low, List.mem_cons, List.not_mem_nil, or_false] at m
  omega
def num4 (l : List Int) : Int := rd l 0 + 256 * rd l 1 + 65536 * rd l 2 + 16777216 * rd l 3
theorem num4_low (v : Int) (h0 : 0 ≤ v) (h1 : v < 4294967296) (t : List Int) : num4 (low v ++ t) = v := by
  show v % 256 + 256 * (v / 256 % 256) + 65536 * (v / 65536 % 256) + 16777216 * (v / 16777216 % 256) = v
  omega
theorem num4_range {l : List Int} (hl : Byt l) : 0 ≤ num4 l ∧ num4 l < 4294967296 := by
  have h0 : 0 ≤ rd l 0 ∧ rd l 0 < 256 := rd_byt hl 0
  have h1 : 0 ≤ rd l 1 ∧ rd l 1 < 256 := rd_byt hl 1
  have h2 : 0 ≤ rd l 2 ∧ rd l 2 < 256 := rd_byt hl 2
  have h3 : 0 ≤ rd l 3 ∧ rd l 3 < 256 := rd_byt hl 3
  unfold num4
  omega
theorem num4_take (l : List Int) : num4 (l.take 4) = num4 l := by
  rcases l with _ | ⟨a, _ | ⟨b, _ | ⟨c, _ | ⟨d, t⟩⟩⟩⟩ <;> rfl
theorem low_num4 {l : List Int} (hl : Byt l) (h : 4 ≤ l.length) : low (num4 l) = l.take 4 := by
  rcases l with _ | ⟨a, _ | ⟨b, _ | ⟨c, _ | ⟨d, t⟩⟩⟩⟩ <;> (try simp at h)
  have ha := hl a (by simp)
  have hb := hl b (by simp)
  have hc := hl c (by simp)
  have hd := hl d (by simp)
  have e : num4 (a :: b :: c :: d :: t) = a + 256 * b + 65536 * c + 16777216 * d := rfl
  rw [e]
  simp only [low, List.take_succ_cons, List.take_zero, List.cons.injEq, and_true]
  omega
theorem or_comm32 (x y : Int) : bits .or .u32 x y = bits .or .u32 y x := by
  have h : ∀ x y : Int, bits .or .u32 x y = IntKind.u32.wrap ((BitVec.ofInt 32 x ||| BitVec.ofInt 32 y : BitVec 32).toNat : Int) := fun _ _ => rfl
  rw [h, h, BitVec.or_comm]
theorem or32 (a x : Int) (i : Nat) (a0 : 0 ≤ a) (a1 : a < 2 ^ i) (x0 : 0 ≤ x) (x1 : x < 4294967296) (xm : x % 2 ^ i = 0) (hai : a < 4294967296) : bits .or .u32 a x = x + a := by
  rw [or_comm32]
  exact bits_join .u32 32 (by decide) (fun n a b => by rw [wrap_u32]; omega) i x a (by omega) (by omega) (by omega) a0 (by omega) (by omega)
theorem fourI_num4 {q : List Int} (hq : Byt q) : fourI q 4 = num4 q := by
  have h0 : 0 ≤ rd q 0 ∧ rd q 0 < 256 := rd_byt hq 0
  have h1 : 0 ≤ rd q 1 ∧ rd q 1 < 256 := rd_byt hq 1
  have h2 : 0 ≤ rd q 2 ∧ rd q 2 < 256 := rd_byt hq 2
  have h3 : 0 ≤ rd q 3 ∧ rd q 3 < 256 := rd_byt hq 3
  unfold num4
  show bits .or .u32 (bits .or .u32 (bits .or .u32 (bits .or .u32 0 (rd q 0 % 4294967296 * 1 % 4294967296)) (rd q 1 % 4294967296 * 256 % 4294967296)) (rd q 2 % 4294967296 * 65536 % 4294967296)) (rd q 3 % 4294967296 * 16777216 % 4294967296) = _
  generalize rd q 0 = a at *
  generalize rd q 1 = b at *
  generalize rd q 2 = c at *
  generalize rd q 3 = d at *
  rw [show a % 4294967296 * 1 % 4294967296 = a by omega, show b % 4294967296 * 256 % 4294967296 = b * 256 by omega, show c % 4294967296 * 65536 % 4294967296 = c * 65536 by omega, show d % 4294967296 * 16777216 % 4294967296 = d * 16777216 by omega]
  rw [or32 0 a 0 (by omega) (by omega) (by omega) (by omega) (by omega) (by omega), or32 (a + 0) (b * 256) 8 (by omega) (by omega) (by omega) (by omega) (by omega) (by omega), or32 (b * 256 + (a + 0)) (c * 65536) 16 (by omega) (by omega) (by omega) (by omega) (by omega) (by omega), or32 _ (d * 16777216) 24 (by omega) (by omega) (by omega) (by omega) (by omega) (by omega)]
  omega

/-! ### What Frame and Read answer -/
def csum (l : List Int) : Int := enc (more 0#32 l)
theorem csum_range (l : List Int) : 0 ≤ csum l ∧ csum l < 4294967296 := enc_range _
/-- A frame. -/
def fr (l : List Int) : List Int := (low (l.length : Int) ++ l) ++ low (csum (low (l.length : Int) ++ l))
theorem fr_length (l : List Int) : (fr l).length = l.length + 8 := by simp [fr, low_length]; omega
theorem fr_byt {l : List Int} (hl : Byt l) : Byt (fr l) := Byt.app (Byt.app (low_byt _) hl) (low_byt _)
def frR (l : List Int) : List Int × Int := if 4096 < l.length then ([], 3) else (fr l, 0)
theorem frame_low_of (v : Int) : frame_low.f v = some (low v) := rfl
theorem Frame_of (l : List Int) (hl : Byt l) (k : Nat) (hk : 41100 ≤ k) : frame_Frame.f k l = some (frR l) := by
  unfold frame_Frame.f frR
  by_cases h : 4096 < l.length
  · rw [if_pos (show (l.length : Int) > 4096 by omega), if_pos h]
  · have hB : Byt (low (l.length : Int) ++ l) := Byt.app (low_byt _) hl
    have hn : (low (l.length : Int) ++ l).length = 4 + l.length := by rw [List.length_append, low_length]
    rw [if_neg (show ¬ (l.length : Int) > 4096 by omega), if_neg h, show (l.length : Int) % 4294967296 = l.length by omega, frame_low_of, Option.bind_some, low_length, if_pos (by omega), Option.bind_some,
      sum_of _ hB (by omega) k (by omega), Option.bind_some, frame_low_of, Option.bind_some, low_length, if_pos (by omega)]
    rfl
def rdR (l : List Int) : List Int × Int × Int :=
  if l.length < 4 then ([], 0, 4) else
  if 4096 < num4 l then ([], 0, 3) else
  if l.length < 8 + (num4 l).toNat then ([], 0, 4) else
  if num4 (l.drop (4 + (num4 l).toNat)) = csum (l.take (4 + (num4 l).toNat)) then ((l.drop 4).take (num4 l).toNat, ((8 + (num4 l).toNat : Nat) : Int), 0)
  else ([], 0, 6)
theorem Read_of (l : List Int) (hl : Byt l) (hb : l.length ≤ 281474976710656) (k : Nat) (hk : 41100 ≤ k) : frame_Read.f k l = some (rdR l) := by
  unfold frame_Read.f rdR
  rw [if_neg (by omega), fourI_num4 (Byt.take hl 4), num4_take]
  by_cases h1 : l.length < 4
  · rw [if_pos h1, if_pos h1]
  rw [if_neg h1, if_neg h1]
  by_cases h2 : 4096 < num4 l
  · rw [if_pos h2, if_pos h2]
  rw [if_neg h2, if_neg h2]
  by_cases h3 : l.length < 8 + (num4 l).toNat
  · rw [if_pos h3, if_pos h3]
  rw [if_neg h3, if_neg h3]
  have hn := num4_range hl
  have hlen : (l.take (4 + (num4 l).toNat)).length = 4 + (num4 l).toNat := by rw [List.length_take]; omega
  rw [sum_of _ (Byt.take hl _) (by omega) k (by omega), Option.bind_some, fourI_num4 (Byt.take (Byt.drop hl _) 4), num4_take]
  show (if num4 (l.drop (4 + (num4 l).toNat)) = csum (l.take (4 + (num4 l).toNat)) then _ else _) = _
  by_cases h4 : num4 (l.drop (4 + (num4 l).toNat)) = csum (l.take (4 + (num4 l).toNat))
  · rw [if_pos h4, if_pos h4]
  · rw [if_neg h4, if_neg h4]
theorem fr_num4 (l : List Int) (hn : l.length ≤ 4096) (t : List Int) : num4 (fr l ++ t) = l.length := by
  unfold fr
  rw [List.append_assoc, List.append_assoc, num4_low _ (by omega) (by omega)]
/-- What is framed is read. -/
theorem rdR_fr (l : List Int) (hn : l.length ≤ 4096) (t : List Int) : rdR (fr l ++ t) = (l, ((l.length + 8 : Nat) : Int), 0) := by
  have hl := fr_length l
  have e : num4 (fr l ++ t) = l.length := fr_num4 l hn t
  have e1 : (low (l.length : Int) ++ l).length = 4 + l.length := by rw [List.length_append, low_length]
  have ea : fr l ++ t = (low (l.length : Int) ++ l) ++ (low (csum (low (l.length : Int) ++ l)) ++ t) := by unfold fr; rw [List.append_assoc]
  have et : (fr l ++ t).take (4 + l.length) = low (l.length : Int) ++ l := by rw [ea, ← e1, List.take_left]
  have ed : (fr l ++ t).drop (4 + l.length) = low (csum (low (l.length : Int) ++ l)) ++ t := by rw [ea, ← e1, List.drop_left]
  have hc := csum_range (low (l.length : Int) ++ l)
  unfold rdR
  rw [e, Int.toNat_natCast, if_neg (by rw [List.length_append]; omega), if_neg (by omega), if_neg (by rw [List.length_append]; omega), et, ed, num4_low _ hc.1 hc.2, if_pos rfl]
  have eb : ((fr l ++ t).drop 4).take l.length = l := by
    rw [ea, List.append_assoc, List.drop_left' (by rfl), List.take_left]
  rw [eb, Nat.add_comm]
theorem works_ge (k : Nat) (h : 41100 ≤ k) : veneerlaw04_works.f k = some true := by
  unfold veneerlaw04_works.f
  rw [Frame_of [] Byt.nil k h, Option.bind_some]
  decide +kernel
end Go.Proofs.Ytmceiepphhlncaa.Fr
