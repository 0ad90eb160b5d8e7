/- What the document's frames answer over rows of bytes: the same as the program's. Condition: what is read are bytes, no more than a machine holds. -/
import Derived.Test.YtmceiepphhlncaaFrA
import Derived.Test.YtmceiepphhlncaaQRefFrame
import Derived.Test.YtmceiepphhlncaaQRefRead
namespace Go.Proofs.Ytmceiepphhlncaa.Fr
open Go.RowKit Go.Proofs.Ytmceiepphhlncaa.Q Go.Proofs.YtmceiepphhlncaaW.PrintWords Go.Proofs.YtmceiepphhlncaaW.PrintLast
open Go.Proofs.Ytmceiepphhlncaa.CrcA Go.Proofs.Ytmceiepphhlncaa.CrcB Go.Proofs.Ytmceiepphhlncaa.ReadW

theorem u8_back (x : Int) (h0 : 0 ≤ x) (h1 : x < 256) : ((UInt8.ofNat x.toNat).toNat : Int) = x := by
  rw [UInt8.toNat_ofNat']
  omega
theorem bt_str {l : List Int} (hl : Byt l) (i : Nat) : bt (strOfNums l) (i : Int) = rd l i := by
  unfold bt rd
  rw [Int.toNat_natCast]
  by_cases h : i < l.length
  · have h1 : i < (strOfNums l).size := by rw [strOfNums_size]; exact h
    rw [dif_pos h1, List.getD_eq_getElem?_getD, List.getElem?_eq_getElem h, Option.getD_some]
    have hx := hl _ (List.getElem_mem h)
    have e : (strOfNums l)[i] = UInt8.ofNat (l[i]).toNat := by simp [strOfNums, ByteArray.getElem_eq_getElem_data]
    rw [e, u8_back _ hx.1 hx.2]
  · rw [dif_neg (by rw [strOfNums_size]; exact h), List.getD_eq_getElem?_getD, List.getElem?_eq_none (by omega)]
    rfl
theorem ints_str {l : List Int} (hl : Byt l) : ints (strOfNums l) = l := by
  unfold ints
  rw [strOfNums_data, List.map_map]
  conv => rhs; rw [← List.map_id l]
  refine List.map_congr_left fun x m => ?_
  exact u8_back x (hl x m).1 (hl x m).2
theorem str_append (a b : List Int) : strOfNums a ++ strOfNums b = strOfNums (a ++ b) := by
  apply ByteArray.ext
  rw [ByteArray.data_append]
  simp [strOfNums]
theorem str_extract (l : List Int) (i j : Nat) : (strOfNums l).extract i j = strOfNums ((l.take j).drop i) := by
  apply ByteArray.ext
  rw [ByteArray.data_extract]
  apply Array.toList_inj.1
  simp [strOfNums, List.map_take, List.map_drop, List.extract_eq_take_drop, List.drop_take]
theorem number_of {l : List Int} (hl : Byt l) (h : 4 ≤ l.length) : veneerref04_number.f (strOfNums l) 0 = some (num4 l) := by
  have h0 : 0 ≤ rd l 0 ∧ rd l 0 < 256 := rd_byt hl 0
  have h1 : 0 ≤ rd l 1 ∧ rd l 1 < 256 := rd_byt hl 1
  have h2 : 0 ≤ rd l 2 ∧ rd l 2 < 256 := rd_byt hl 2
  have h3 : 0 ≤ rd l 3 ∧ rd l 3 < 256 := rd_byt hl 3
  have b0 : bt (strOfNums l) 0 = rd l 0 := bt_str hl 0
  have b1 : bt (strOfNums l) 1 = rd l 1 := bt_str hl 1
  have b2 : bt (strOfNums l) 2 = rd l 2 := bt_str hl 2
  have b3 : bt (strOfNums l) 3 = rd l 3 := bt_str hl 3
  unfold veneerref04_number.f num4
  rw [show wrap64 (0 + 1) = 1 by unfold wrap64; omega, show wrap64 (0 + 2) = 2 by unfold wrap64; omega, show wrap64 (0 + 3) = 3 by unfold wrap64; omega, strOfNums_size, b0, b1, b2, b3]
  rw [if_pos (by omega), if_pos (by omega), if_pos (by omega), if_pos (by omega), if_pos (by omega), if_pos (by omega), if_pos (by omega), if_pos (by omega)]
  generalize rd l 0 = a at *
  generalize rd l 1 = b at *
  generalize rd l 2 = c at *
  generalize rd l 3 = d at *
  congr 1
  unfold wrap64
  omega
theorem four_of (v : Int) (h0 : 0 ≤ v) (h1 : v < 4294967296) : veneerref04_four.f v = some (strOfNums (low v)) := by
  unfold veneerref04_four.f low
  have e1 : Int.tmod v 256 % 256 = v % 256 := by rw [Int.tmod_eq_emod_of_nonneg h0]; omega
  have e2 : ∀ d : Int, 0 < d → d ≤ 16777216 → wrap64 (Int.tdiv v d) = v / d := fun d hd hd2 => by
    rw [Int.tdiv_eq_ediv_of_nonneg h0]
    have h2 : 0 ≤ v / d := Int.ediv_nonneg h0 (by omega)
    have h3 : v / d ≤ v := Int.ediv_le_self _ h0
    unfold wrap64
    omega
  rw [e1, e2 256 (by omega) (by omega), e2 65536 (by omega) (by omega), e2 16777216 (by omega) (by omega), Int.tmod_eq_emod_of_nonneg (by omega), Int.tmod_eq_emod_of_nonneg (by omega)]
  have e3 : ∀ x : Int, x % 256 % 256 = x % 256 := fun x => by omega
  rw [e3, e3]
theorem Of_of (l : List Int) (hl : Byt l) (hn : l.length ≤ 4096) (k : Nat) (hk : 41100 ≤ k) : veneerref04_Of.f k (strOfNums l) = some (strOfNums (fr l)) := by
  have hB : Byt (low (l.length : Int) ++ l) := Byt.app (low_byt _) hl
  have hn' : (low (l.length : Int) ++ l).length = 4 + l.length := by rw [List.length_append, low_length]
  have hc := csum_range (low (l.length : Int) ++ l)
  unfold veneerref04_Of.f
  rw [strOfNums_size, four_of _ (by omega) (by omega), Option.bind_some, strOfNums_size, low_length, if_pos (by omega), str_append, ints_str hB, refMore_of 0 _ hB (by omega) k (by omega), Option.bind_some]
  show (if 0 ≤ csum (low (l.length : Int) ++ l) ∧ csum (low (l.length : Int) ++ l) < 4294967296 then _ else _) = _
  rw [if_pos hc]
  show ((veneerref04_four.f (csum (low (l.length : Int) ++ l))).bind _) = _
  rw [four_of _ hc.1 hc.2, Option.bind_some, str_append]
  rfl
theorem str_nil : strOfNums [] = (⟨#[]⟩ : ByteArray) := rfl
theorem RefFrame_of (l : List Int) (hl : Byt l) (k : Nat) (hk : 41100 ≤ k) : veneerref04_Frame.f k (strOfNums l) = some (strOfNums (frR l).1, (frR l).2) := by
  unfold veneerref04_Frame.f frR
  rw [strOfNums_size]
  by_cases h : 4096 < l.length
  · rw [if_pos (show (l.length : Int) > 4096 by omega), if_pos h]
    rfl
  · rw [if_neg (show ¬ (l.length : Int) > 4096 by omega), if_neg h, Of_of l hl (by omega) k hk]
    rfl
theorem low_inj {a b : Int} (a0 : 0 ≤ a) (a1 : a < 4294967296) (b0 : 0 ≤ b) (b1 : b < 4294967296) (h : low a = low b) : a = b := by
  have h1 := num4_low a a0 a1 []
  rw [h, num4_low b b0 b1 []] at h1
  exact h1.symm
theorem fr_iff {l : List Int} (hl : Byt l) {n : Nat} (h8 : 8 + n ≤ l.length) (hn : num4 l = n) : fr ((l.take (4 + n)).drop 4) = l.take (n + 8) ↔ num4 (l.drop (4 + n)) = csum (l.take (4 + n)) := by
  have e0 : (l.take 4) ++ (l.take (4 + n)).drop 4 = l.take (4 + n) := by
    have h := List.take_append_drop 4 (l.take (4 + n))
    rwa [List.take_take, Nat.min_eq_left (by omega)] at h
  have e1 : ((l.take (4 + n)).drop 4).length = n := by rw [List.length_drop, List.length_take]; omega
  have e2 : l.take (n + 8) = l.take (4 + n) ++ (l.drop (4 + n)).take 4 := by rw [show n + 8 = (4 + n) + 4 by omega, List.take_add]
  have e3 : (l.drop (4 + n)).take 4 = low (num4 (l.drop (4 + n))) := (low_num4 (Byt.drop hl _) (by rw [List.length_drop]; omega)).symm
  unfold fr
  rw [e1, ← hn, low_num4 hl (by omega), e0, e2, e3, List.append_right_inj]
  have r1 := num4_range (Byt.drop hl (4 + n))
  have r2 := csum_range (l.take (4 + n))
  exact ⟨fun h => (low_inj r2.1 r2.2 r1.1 r1.2 h).symm, fun h => by rw [h]⟩
theorem RefRead_of (l : List Int) (hl : Byt l) (hb : l.length ≤ 281474976710656) (k : Nat) (hk : 41100 ≤ k) : veneerref04_Read.f k (strOfNums l) = some (strOfNums (rdR l).1, (rdR l).2.1, (rdR l).2.2) := by
  unfold veneerref04_Read.f rdR
  rw [strOfNums_size]
  by_cases h1 : l.length < 4
  · rw [if_pos (by omega), if_pos h1]
    rfl
  rw [if_neg (by omega), if_neg h1, number_of hl (by omega), Option.bind_some]
  have hr := num4_range hl
  by_cases h2 : 4096 < num4 l
  · rw [if_pos h2, if_pos h2]
    rfl
  rw [if_neg (by omega), if_neg h2]
  obtain ⟨n, hn⟩ : ∃ n : Nat, num4 l = n := ⟨_, (Int.toNat_of_nonneg hr.1).symm⟩
  have ht : (num4 l).toNat = n := by rw [hn]; rfl
  rw [ht, hn]
  have w1 : wrap64 ((l.length : Int) - 4) = (l.length : Int) - 4 := by unfold wrap64; omega
  have w2 : wrap64 ((n : Int) + 4) = (n : Int) + 4 := by unfold wrap64; omega
  have w3 : wrap64 (4 + (n : Int)) = ((4 + n : Nat) : Int) := by unfold wrap64; omega
  have w4 : wrap64 ((n : Int) + 8) = ((n + 8 : Nat) : Int) := by unfold wrap64; omega
  rw [w1, w2, w3, w4]
  by_cases h3 : l.length < 8 + n
  · rw [if_pos (by omega), if_pos h3]
    rfl
  rw [if_neg (by omega), if_neg h3, if_pos (by omega), if_pos (by omega), Int.toNat_natCast, Int.toNat_natCast, str_extract, str_extract]
  have hB1 : Byt ((l.take (4 + n)).drop 4) := Byt.drop (Byt.take hl _) _
  have e1 : ((l.take (4 + n)).drop 4).length = n := by rw [List.length_drop, List.length_take]; omega
  rw [Of_of _ hB1 (by omega) k hk, Option.bind_some, if_pos (by omega), if_pos (by omega)]
  have e4 : (l.take (4 + n)).drop 4 = (l.drop 4).take n := by rw [List.drop_take, Nat.add_sub_cancel_left]
  by_cases h4 : num4 (l.drop (4 + n)) = csum (l.take (4 + n))
  · have h5 := (fr_iff hl (by omega) hn).2 h4
    rw [if_pos h4, if_pos ((str_iff (fr_byt hB1) (Byt.drop (Byt.take hl _) _)).2 (by rw [List.drop_zero]; exact h5)), e4, Nat.add_comm]
  · have h5 := fun h => h4 ((fr_iff hl (by omega) hn).1 h)
    rw [if_neg h4, if_neg (fun h => h5 (by have := (str_iff (fr_byt hB1) (Byt.drop (Byt.take hl _) _)).1 h; rwa [List.drop_zero] at this))]
    rfl
end Go.Proofs.Ytmceiepphhlncaa.Fr
