/- A sum goes on over parts, however bytes are cut; joined by their sums alone the parts have the same one: the walk of the law. Condition: what comes in are bytes and whole numbers. -/
import Derived.Test.YtiildnldokaekaaPartsA
import Derived.Test.YtiildnldokaekaaQ5
import Derived.Test.YtiildnldokaekaaCrcWorks
import Derived.LoopTactic
namespace Go.Proofs.Ytiildnldokaekaa.PartsW
open Go.RowKit Go.Proofs.Ytiildnldokaekaa.Q Go.Proofs.YtiildnldokaekaaW.PrintWords Go.Proofs.YtiildnldokaekaaW.PrintLast Go.Proofs.YtiildnldokaekaaW.PrintMore
open Go.Proofs.Ytiildnldokaekaa.CrcA Go.Proofs.Ytiildnldokaekaa.CrcB Go.Proofs.Ytiildnldokaekaa.CrcWorks

theorem place (cs : List Int) (k n : Nat) (hn : n ≤ 2000) :
    ∃ m : Nat, m ≤ n ∧ (k < cs.length ∧ k < 20 → Int.tmod (wrap64 (wrap64 (Int.tmod (cs.getD k 0) ((n : Int) + 1) + (n : Int)) + 1)) ((n : Int) + 1) = m) ∧ (¬ (k < cs.length ∧ k < 20) → m = n) := by
  by_cases h : k < cs.length ∧ k < 20
  · generalize cs.getD k 0 = c
    have hb : -((n : Int) + 1) < Int.tmod c ((n : Int) + 1) ∧ Int.tmod c ((n : Int) + 1) < (n : Int) + 1 := by
      rcases Int.lt_or_le c 0 with h | h
      · have e : Int.tmod c ((n : Int) + 1) = -(Int.tmod (-c) ((n : Int) + 1)) := by
          have := Int.neg_tmod (-c) ((n : Int) + 1)
          rwa [Int.neg_neg] at this
        rw [e, Int.tmod_eq_emod_of_nonneg (by omega)]
        have h1 := Int.emod_nonneg (-c) (show (n : Int) + 1 ≠ 0 by omega)
        have h2 := Int.emod_lt_of_pos (-c) (show (0 : Int) < (n : Int) + 1 by omega)
        omega
      · rw [Int.tmod_eq_emod_of_nonneg h]
        have h1 := Int.emod_nonneg c (show (n : Int) + 1 ≠ 0 by omega)
        have h2 := Int.emod_lt_of_pos c (show (0 : Int) < (n : Int) + 1 by omega)
        omega
    generalize Int.tmod c ((n : Int) + 1) = r at hb
    rw [show wrap64 (wrap64 (r + (n : Int)) + 1) = r + (n : Int) + 1 by unfold wrap64; omega, Int.tmod_eq_emod_of_nonneg (by omega)]
    have h1 := Int.emod_nonneg (r + (n : Int) + 1) (show (n : Int) + 1 ≠ 0 by omega)
    have h2 := Int.emod_lt_of_pos (r + (n : Int) + 1) (show (0 : Int) < (n : Int) + 1 by omega)
    exact ⟨((r + (n : Int) + 1) % ((n : Int) + 1)).toNat, by omega, fun _ => by omega, fun x => absurd h x⟩
  · exact ⟨n, Nat.le_refl _, fun x => absurd x h, fun _ => rfl⟩

set_option maxHeartbeats 8000000 in
set_option maxRecDepth 100000 in
theorem parts (A0 A1 : Option Addr) (c0 c1 : Nat) (L l cs : List Int) (hl0 : l = L.take 2000) (w : World) (hR : Kd.C (Kd.int .u8) w A0 L.length L) (hC : L.length ≤ c0)
    (hR1 : Kd.C (Kd.int .i64) w A1 cs.length cs) (hL : Byt L) (hn1 : cs.length ≤ 140737488355328) :
    Calls Try.prog 8 #[.slice A0 L.length c0, .slice A1 cs.length c1] w fun e w' => e = .returned (.bool true) ∧ Below w.heap.size w w' := by
  have hlen : l.length = min 2000 L.length := by rw [hl0, List.length_take]
  have hr0 : Kd.C (Kd.int .u8) w A0 l.length l := by
    rw [hl0, List.length_take]
    have hq := Kd.C_take (m := min 2000 L.length) hR (by omega)
    rw [List.length_take, ← List.take_eq_take_min, show min (min 2000 L.length) L.length = min 2000 L.length by omega] at hq
    exact hq
  have hc0 : l.length ≤ c0 := by omega
  have hl : Byt l := fun z m => hL z (List.mem_of_mem_take (by rw [← hl0]; exact m))
  have HLEN := Aside0.mk hlen
  have HCC := Aside0.mk hC
  have HR0 := Aside0.mk hr0
  have HC0 := Aside0.mk hc0
  have HL := Aside0.mk hl
  have HR1 := Aside0.mk hR1
  clear hl0 hlen hR hC hr0 hc0 hl hL hR1
  have HN : Aside0 (crc_Sum.f 30 [] = some (enc (more 0#32 []))) := ⟨sum_of [] (fun x m => by simp at m) (by simp) 30 (by simp)⟩
  go_enter Try.func8, Try.ntmps8
  go_upto_if 15 with (fail)
  go_cut [0] (fun v0 wc => v0 = .slice A0 l.length c0 ∧ w = wc)
  case first =>
    have hlen := HLEN.out
    have hC := HCC.out
    by_cases hLL : 2000 < L.length
    · have d0 : decide (2000 < (L.length : Int)) = true := decide_eq_true (by omega)
      have d0n : decide (2000 < L.length) = true := decide_eq_true hLL
      obtain ⟨i0, hi0, _, _, _⟩ := info_parts info5
      have hcut0 := cut_to (P := Try.prog) 22 5 .i64 Try.underlying22 hi0 A0 L.length c0 2000 (by decide) (by omega) hC
      have HE := Aside0.mk (show l.length = 2000 by omega)
      clear hlen hC
      go_wp2
      go_meet
      case rel => exact ⟨by rw [HE.out], rfl⟩
    · have d0 : decide (2000 < (L.length : Int)) = false := decide_eq_false (by omega)
      have d0n : decide (2000 < L.length) = false := decide_eq_false hLL
      have HE := Aside0.mk (show l.length = L.length by omega)
      clear hlen hC
      go_wp2
      go_meet
      case rel => exact ⟨by rw [HE.out], rfl⟩
  obtain ⟨hv0, hwc⟩ := hcut
  subst hv0
  subst hwc
  go_wp2_with (first | (go_at_call 9; refine (crc_Sum.calls 30 none 0 [] _ _ (Kd.C_nil _ _) (Nat.zero_le _) HN.out).mono ?_; rintro e w' ⟨rfl, ⟨nd, rfl⟩⟩))
  go_loopw [5, 6, 7, 8] (fun s j r i wr => ∃ (k : Nat) (pre rest : List Int) (A' : Option Addr) (c' : Nat), i = .int .i64 k ∧ s = .int .u32 (enc (more 0#32 pre)) ∧ j = .int .u32 (enc (more 0#32 pre)) ∧ r = .slice A' rest.length c' ∧ Aside0 (k ≤ 21 ∧ k ≤ cs.length + 1) ∧ Aside0 (pre ++ rest = l) ∧ Aside0 (Kd.C (Kd.int .u8) wr A' rest.length rest) ∧ Aside0 (rest.length ≤ c') ∧ Aside0 (k = 21 ∨ k = cs.length + 1 → rest = []) ∧ Aside0 (Below w.heap.size w wr)) (fun _ _ _ i _ => 22 - (intOf i).toNat)
  case atStart => exact ⟨0, [], l, A0, c0, rfl, rfl, rfl, rfl, ⟨by omega⟩, ⟨rfl⟩, ⟨Kd.C_drewN HR0.out _⟩, HC0, ⟨by omega⟩, ⟨pw_below_drewN (Below.refl _ _) _⟩⟩
  case round =>
    obtain ⟨k, pre, rest, A', c', rfl, rfl, rfl, rfl, HK, HP, HR, HC, HE, HB⟩ := hrel
    have HRL : Aside0 (rest.length ≤ 2000) := ⟨by
      have h1 := HLEN.out
      have h2 : (pre ++ rest).length = l.length := by rw [HP.out]
      rw [List.length_append] at h2
      omega⟩
    by_cases hgo : k ≤ cs.length ∧ k ≤ 20
    · have b1 : decide ((k : Int) ≤ (cs.length : Int)) = true := decide_eq_true (by omega)
      have b1n : decide (k ≤ cs.length) = true := decide_eq_true hgo.1
      have b2 : decide ((k : Int) ≤ 20) = true := decide_eq_true (by omega)
      have b2n : decide (k ≤ 20) = true := decide_eq_true hgo.2
      have HGO := Aside0.mk hgo
      clear hgo
      obtain ⟨m, hm, hin, hout⟩ := place cs k rest.length HRL.out
      have HM := Aside0.mk hm
      have HOUT := Aside0.mk hout
      clear hm hout
      by_cases hk : k < cs.length ∧ k < 20
      · have b3 : decide ((k : Int) < (cs.length : Int)) = true := decide_eq_true (by omega)
        have b3n : decide (k < cs.length) = true := decide_eq_true hk.1
        have b4 : decide ((k : Int) < 20) = true := decide_eq_true (by omega)
        have b4n : decide (k < 20) = true := decide_eq_true hk.2
        have HIN := Aside0.mk (hin hk)
        have HKL := Aside0.mk hk.1
        clear hin hk
        go_upto_if 40 with (fail)
        go_cut [9] (fun v wc => v = .int .i64 (m : Int) ∧ wr = wc)
        case first =>
          have hkl := HKL.out
          have p1 : ((0 : Int) ≤ (k : Int)) = True := eq_true (by omega)
          have p2 : ((k : Int) < (cs.length : Int)) = True := eq_true (by omega)
          have p2n : (k < cs.length) = True := eq_true hkl
          obtain ⟨ad, had, hcell⟩ := ReadsOf.at_ (Kd.reads_of_C (enc := Value.int .i64) (d := (0 : Int)) (h1 := fun _ => rfl) (Kd.C_below HR1.out HB.out)) (k : Int) (by omega) (by omega)
          clear hkl
          subst had
          rw [Int.toNat_natCast] at hcell
          simp only [rdOf, Int.toNat_natCast] at hcell
          have hin := HIN.out
          generalize cs.getD k 0 = cv at hcell hin
          clear HIN
          have HIN := Aside0.mk hin
          clear hin
          have hrl := HRL.out
          have hz : ((rest.length : Int) + 1 == 0) = false := beq_eq_false_iff_ne.mpr (by omega)
          go_wp2
          go_meet
          case rel => exact ⟨by rw [HIN.out], rfl⟩
        obtain ⟨hv9, hwc⟩ := hcut
        subst hv9
        subst hwc
        obtain ⟨part, hpart⟩ : ∃ part, part = rest.take m := ⟨_, rfl⟩
        obtain ⟨rst, hrst⟩ : ∃ rst, rst = rest.drop m := ⟨_, rfl⟩
        have hpl : part.length = m := by rw [hpart, List.length_take]; have := HM.out; omega
        have hrsl : rst.length = rest.length - m := by rw [hrst, List.length_drop]
        obtain ⟨i0, hi0, _, hsz0, _⟩ := info_parts info5
        have hcut1 := cut_to (P := Try.prog) 22 5 .i64 Try.underlying22 hi0 A' rest.length c' (m : Int) (by omega) (by have := HM.out; omega) HC.out
        have hcut2 := cut_from (P := Try.prog) 22 5 .i64 Try.underlying22 hi0 1 hsz0 A' rest.length c' (m : Int) (by omega) (by have := HM.out; omega)
        rw [Int.toNat_natCast] at hcut1 hcut2
        rw [← hrsl] at hcut2
        have hC1 := Kd.C_take (m := m) HR.out HM.out
        have hC2 := Kd.C_drop (m := m) (c := c') HR.out HM.out HC.out
        rw [← hpart] at hC1
        rw [← hrst] at hC2
        have hB2 : rst.length ≤ c' - m := by have := HC.out; have := HM.out; omega
        have hsz : (Kd.int .u8).sz = 1 := rfl
        rw [hsz] at hC2
        generalize (if c' = m then A' else A'.map (·.add (m * 1))) = A2 at hcut2 hC2
        have HP1 := Aside0.mk hC1
        have HP2 := Aside0.mk hC2
        have HB2 := Aside0.mk hB2
        have HPL := Aside0.mk hpl
        have HRS := Aside0.mk hrsl
        have HPA := Aside0.mk hpart
        have HRA := Aside0.mk hrst
        rw [← hpl] at hcut1
        have hpm : ((m : Int)) = (part.length : Int) := by rw [hpl]
        have HJB : Aside0 (Byt part ∧ part.length ≤ 2000) := ⟨⟨fun z hz => HL.out z (by rw [← HP.out]; exact List.mem_append_right _ (List.mem_of_mem_take (by rw [← HPA.out]; exact hz))), by have := HRL.out; have := HM.out; omega⟩⟩
        obtain ⟨kj, hkj⟩ := join_part pre part (by have := HJB.out.2; omega)
        have HMO : Aside0 (crc_More.f 20100 (enc (more 0#32 pre)) part = some (enc (more 0#32 (pre ++ part)))) := ⟨more_part pre part HJB.out.1 (by have := HJB.out.2; omega) _ (by have := HJB.out.2; omega)⟩
        have HSU : Aside0 (crc_Sum.f 20100 part = some (enc (more 0#32 part))) := ⟨sum_of part HJB.out.1 (by have := HJB.out.2; omega) _ (by have := HJB.out.2; omega)⟩
        have HJO := Aside0.mk hkj
        have HPC : Aside0 (part.length ≤ c') := ⟨by have := HC.out; have := HM.out; omega⟩
        clear hpart hrst hpl hrsl hC1 hC2 hB2 hsz hkj hi0 hsz0
        rw [hpm] at hcut2 ⊢
        clear hpm
        have hkb : (k : Int) ≤ 20 := by have := HGO.out; omega
        go_wp2_with (first | (go_at_call 11; refine (crc_More.calls 20100 _ _ _ part _ _ (Kd.C_drewN HP1.out 0) HPC.out HMO.out).mono ?_; rintro e w' ⟨rfl, ⟨n1, rfl⟩⟩) | (go_at_call 9; refine (crc_Sum.calls 20100 _ _ part _ _ (Kd.C_drewN HP1.out _) HPC.out HSU.out).mono ?_; rintro e w' ⟨rfl, ⟨n2, rfl⟩⟩) | (go_at_call 13; refine (crc_Join.calls kj _ _ _ _ _ _ HJO.out).mono ?_; rintro e w2 ⟨rfl, hb⟩))
        refine ⟨⟨k + 1, pre ++ part, rst, A2, c' - m, by simp, rfl, rfl, rfl, ⟨by have := HGO.out; omega⟩, ⟨by rw [HPA.out, HRA.out, List.append_assoc, List.take_append_drop]; exact HP.out⟩, ⟨Kd.C_below HP2.out (below_step (pw_below_drewN (Below.refl _ _) (n1 + n2)) hb)⟩, HB2, ⟨fun x => ?_⟩, ⟨below_step (pw_below_drewN HB.out (n1 + n2)) hb⟩⟩, ?_⟩
        · have h1 := HOUT.out (by omega)
          have h2 := HRS.out
          exact List.eq_nil_of_length_eq_zero (by omega)
        · simp [intOf]
          omega
      · have hout0 := HOUT.out
        by_cases hk1 : k < cs.length
        · have hk2 : ¬ k < 20 := fun x => hk ⟨hk1, x⟩
          have b3 : decide ((k : Int) < (cs.length : Int)) = true := decide_eq_true (by omega)
          have b3n : decide (k < cs.length) = true := decide_eq_true hk1
          have b4 : decide ((k : Int) < 20) = false := decide_eq_false (by omega)
          have b4n : decide (k < 20) = false := decide_eq_false hk2
          clear hk1 hk2
          have HIN := Aside0.mk (hout0 hk)
          clear hin hk hout0
          go_upto_if 40 with (fail)
          go_cut [9] (fun v wc => v = .int .i64 (m : Int) ∧ wr = wc)
          case first =>
            go_wp2
            go_meet
            case rel => exact ⟨by rw [HIN.out], rfl⟩
          obtain ⟨hv9, hwc⟩ := hcut
          subst hv9
          subst hwc
          obtain ⟨part, hpart⟩ : ∃ part, part = rest.take m := ⟨_, rfl⟩
          obtain ⟨rst, hrst⟩ : ∃ rst, rst = rest.drop m := ⟨_, rfl⟩
          have hpl : part.length = m := by rw [hpart, List.length_take]; have := HM.out; omega
          have hrsl : rst.length = rest.length - m := by rw [hrst, List.length_drop]
          obtain ⟨i0, hi0, _, hsz0, _⟩ := info_parts info5
          have hcut1 := cut_to (P := Try.prog) 22 5 .i64 Try.underlying22 hi0 A' rest.length c' (m : Int) (by omega) (by have := HM.out; omega) HC.out
          have hcut2 := cut_from (P := Try.prog) 22 5 .i64 Try.underlying22 hi0 1 hsz0 A' rest.length c' (m : Int) (by omega) (by have := HM.out; omega)
          rw [Int.toNat_natCast] at hcut1 hcut2
          rw [← hrsl] at hcut2
          have hC1 := Kd.C_take (m := m) HR.out HM.out
          have hC2 := Kd.C_drop (m := m) (c := c') HR.out HM.out HC.out
          rw [← hpart] at hC1
          rw [← hrst] at hC2
          have hB2 : rst.length ≤ c' - m := by have := HC.out; have := HM.out; omega
          have hsz : (Kd.int .u8).sz = 1 := rfl
          rw [hsz] at hC2
          generalize (if c' = m then A' else A'.map (·.add (m * 1))) = A2 at hcut2 hC2
          have HP1 := Aside0.mk hC1
          have HP2 := Aside0.mk hC2
          have HB2 := Aside0.mk hB2
          have HPL := Aside0.mk hpl
          have HRS := Aside0.mk hrsl
          have HPA := Aside0.mk hpart
          have HRA := Aside0.mk hrst
          rw [← hpl] at hcut1
          have hpm : ((m : Int)) = (part.length : Int) := by rw [hpl]
          have HJB : Aside0 (Byt part ∧ part.length ≤ 2000) := ⟨⟨fun z hz => HL.out z (by rw [← HP.out]; exact List.mem_append_right _ (List.mem_of_mem_take (by rw [← HPA.out]; exact hz))), by have := HRL.out; have := HM.out; omega⟩⟩
          obtain ⟨kj, hkj⟩ := join_part pre part (by have := HJB.out.2; omega)
          have HMO : Aside0 (crc_More.f 20100 (enc (more 0#32 pre)) part = some (enc (more 0#32 (pre ++ part)))) := ⟨more_part pre part HJB.out.1 (by have := HJB.out.2; omega) _ (by have := HJB.out.2; omega)⟩
          have HSU : Aside0 (crc_Sum.f 20100 part = some (enc (more 0#32 part))) := ⟨sum_of part HJB.out.1 (by have := HJB.out.2; omega) _ (by have := HJB.out.2; omega)⟩
          have HJO := Aside0.mk hkj
          have HPC : Aside0 (part.length ≤ c') := ⟨by have := HC.out; have := HM.out; omega⟩
          clear hpart hrst hpl hrsl hC1 hC2 hB2 hsz hkj hi0 hsz0
          rw [hpm] at hcut2 ⊢
          clear hpm
          have hkb : (k : Int) ≤ 20 := by have := HGO.out; omega
          go_wp2_with (first | (go_at_call 11; refine (crc_More.calls 20100 _ _ _ part _ _ (Kd.C_drewN HP1.out 0) HPC.out HMO.out).mono ?_; rintro e w' ⟨rfl, ⟨n1, rfl⟩⟩) | (go_at_call 9; refine (crc_Sum.calls 20100 _ _ part _ _ (Kd.C_drewN HP1.out _) HPC.out HSU.out).mono ?_; rintro e w' ⟨rfl, ⟨n2, rfl⟩⟩) | (go_at_call 13; refine (crc_Join.calls kj _ _ _ _ _ _ HJO.out).mono ?_; rintro e w2 ⟨rfl, hb⟩))
          refine ⟨⟨k + 1, pre ++ part, rst, A2, c' - m, by simp, rfl, rfl, rfl, ⟨by have := HGO.out; omega⟩, ⟨by rw [HPA.out, HRA.out, List.append_assoc, List.take_append_drop]; exact HP.out⟩, ⟨Kd.C_below HP2.out (below_step (pw_below_drewN (Below.refl _ _) (n1 + n2)) hb)⟩, HB2, ⟨fun x => ?_⟩, ⟨below_step (pw_below_drewN HB.out (n1 + n2)) hb⟩⟩, ?_⟩
          · have h1 := HOUT.out (by omega)
            have h2 := HRS.out
            exact List.eq_nil_of_length_eq_zero (by omega)
          · simp [intOf]
            omega
        · have b3 : decide ((k : Int) < (cs.length : Int)) = false := decide_eq_false (by omega)
          have b3n : decide (k < cs.length) = false := decide_eq_false hk1
          clear hk1
          have HIN := Aside0.mk (hout0 hk)
          clear hin hk hout0
          go_upto_if 40 with (fail)
          go_cut [9] (fun v wc => v = .int .i64 (m : Int) ∧ wr = wc)
          case first =>
            go_wp2
            go_meet
            case rel => exact ⟨by rw [HIN.out], rfl⟩
          obtain ⟨hv9, hwc⟩ := hcut
          subst hv9
          subst hwc
          obtain ⟨part, hpart⟩ : ∃ part, part = rest.take m := ⟨_, rfl⟩
          obtain ⟨rst, hrst⟩ : ∃ rst, rst = rest.drop m := ⟨_, rfl⟩
          have hpl : part.length = m := by rw [hpart, List.length_take]; have := HM.out; omega
          have hrsl : rst.length = rest.length - m := by rw [hrst, List.length_drop]
          obtain ⟨i0, hi0, _, hsz0, _⟩ := info_parts info5
          have hcut1 := cut_to (P := Try.prog) 22 5 .i64 Try.underlying22 hi0 A' rest.length c' (m : Int) (by omega) (by have := HM.out; omega) HC.out
          have hcut2 := cut_from (P := Try.prog) 22 5 .i64 Try.underlying22 hi0 1 hsz0 A' rest.length c' (m : Int) (by omega) (by have := HM.out; omega)
          rw [Int.toNat_natCast] at hcut1 hcut2
          rw [← hrsl] at hcut2
          have hC1 := Kd.C_take (m := m) HR.out HM.out
          have hC2 := Kd.C_drop (m := m) (c := c') HR.out HM.out HC.out
          rw [← hpart] at hC1
          rw [← hrst] at hC2
          have hB2 : rst.length ≤ c' - m := by have := HC.out; have := HM.out; omega
          have hsz : (Kd.int .u8).sz = 1 := rfl
          rw [hsz] at hC2
          generalize (if c' = m then A' else A'.map (·.add (m * 1))) = A2 at hcut2 hC2
          have HP1 := Aside0.mk hC1
          have HP2 := Aside0.mk hC2
          have HB2 := Aside0.mk hB2
          have HPL := Aside0.mk hpl
          have HRS := Aside0.mk hrsl
          have HPA := Aside0.mk hpart
          have HRA := Aside0.mk hrst
          rw [← hpl] at hcut1
          have hpm : ((m : Int)) = (part.length : Int) := by rw [hpl]
          have HJB : Aside0 (Byt part ∧ part.length ≤ 2000) := ⟨⟨fun z hz => HL.out z (by rw [← HP.out]; exact List.mem_append_right _ (List.mem_of_mem_take (by rw [← HPA.out]; exact hz))), by have := HRL.out; have := HM.out; omega⟩⟩
          obtain ⟨kj, hkj⟩ := join_part pre part (by have := HJB.out.2; omega)
          have HMO : Aside0 (crc_More.f 20100 (enc (more 0#32 pre)) part = some (enc (more 0#32 (pre ++ part)))) := ⟨more_part pre part HJB.out.1 (by have := HJB.out.2; omega) _ (by have := HJB.out.2; omega)⟩
          have HSU : Aside0 (crc_Sum.f 20100 part = some (enc (more 0#32 part))) := ⟨sum_of part HJB.out.1 (by have := HJB.out.2; omega) _ (by have := HJB.out.2; omega)⟩
          have HJO := Aside0.mk hkj
          have HPC : Aside0 (part.length ≤ c') := ⟨by have := HC.out; have := HM.out; omega⟩
          clear hpart hrst hpl hrsl hC1 hC2 hB2 hsz hkj hi0 hsz0
          rw [hpm] at hcut2 ⊢
          clear hpm
          have hkb : (k : Int) ≤ 20 := by have := HGO.out; omega
          go_wp2_with (first | (go_at_call 11; refine (crc_More.calls 20100 _ _ _ part _ _ (Kd.C_drewN HP1.out 0) HPC.out HMO.out).mono ?_; rintro e w' ⟨rfl, ⟨n1, rfl⟩⟩) | (go_at_call 9; refine (crc_Sum.calls 20100 _ _ part _ _ (Kd.C_drewN HP1.out _) HPC.out HSU.out).mono ?_; rintro e w' ⟨rfl, ⟨n2, rfl⟩⟩) | (go_at_call 13; refine (crc_Join.calls kj _ _ _ _ _ _ HJO.out).mono ?_; rintro e w2 ⟨rfl, hb⟩))
          refine ⟨⟨k + 1, pre ++ part, rst, A2, c' - m, by simp, rfl, rfl, rfl, ⟨by have := HGO.out; omega⟩, ⟨by rw [HPA.out, HRA.out, List.append_assoc, List.take_append_drop]; exact HP.out⟩, ⟨Kd.C_below HP2.out (below_step (pw_below_drewN (Below.refl _ _) (n1 + n2)) hb)⟩, HB2, ⟨fun x => ?_⟩, ⟨below_step (pw_below_drewN HB.out (n1 + n2)) hb⟩⟩, ?_⟩
          · have h1 := HOUT.out (by omega)
            have h2 := HRS.out
            exact List.eq_nil_of_length_eq_zero (by omega)
          · simp [intOf]
            omega
    · have hrest : rest = [] := HE.out (by have := HK.out; omega)
      subst hrest
      have hpre : pre = l := by have := HP.out; rwa [List.append_nil] at this
      subst hpre
      have HLL : Aside0 (crc_Sum.f 20100 pre = some (enc (more 0#32 pre))) := ⟨sum_of pre HL.out (by have := HLEN.out; omega) _ (by have := HLEN.out; omega)⟩
      have hgo' : ¬ (k ≤ cs.length ∧ k ≤ 20) := hgo
      by_cases hk1 : k ≤ cs.length
      · have hk2 : ¬ k ≤ 20 := fun x => hgo ⟨hk1, x⟩
        have b1 : decide ((k : Int) ≤ (cs.length : Int)) = true := decide_eq_true (by omega)
        have b1n : decide (k ≤ cs.length) = true := decide_eq_true hk1
        have b2 : decide ((k : Int) ≤ 20) = false := decide_eq_false (by omega)
        have b2n : decide (k ≤ 20) = false := decide_eq_false hk2
        clear hk1 hk2 hgo hgo'
        go_wp2_with (first | (go_at_call 9; refine (crc_Sum.calls 20100 _ _ pre _ _ (Kd.C_below HR0.out HB.out) HC0.out HLL.out).mono ?_; rintro e w' ⟨rfl, ⟨n2, rfl⟩⟩) | (go_at_call 12; refine (veneerlaw02_works.calls 120 true _ works_at).mono ?_; rintro e w2 ⟨rfl, hb⟩))
        go_ret
        exact ⟨rfl, below_step (pw_below_drewN HB.out n2) hb⟩
      · have b1 : decide ((k : Int) ≤ (cs.length : Int)) = false := decide_eq_false (by omega)
        have b1n : decide (k ≤ cs.length) = false := decide_eq_false hk1
        clear hk1 hgo hgo'
        go_wp2_with (first | (go_at_call 9; refine (crc_Sum.calls 20100 _ _ pre _ _ (Kd.C_below HR0.out HB.out) HC0.out HLL.out).mono ?_; rintro e w' ⟨rfl, ⟨n2, rfl⟩⟩) | (go_at_call 12; refine (veneerlaw02_works.calls 120 true _ works_at).mono ?_; rintro e w2 ⟨rfl, hb⟩))
        go_ret
        exact ⟨rfl, below_step (pw_below_drewN HB.out n2) hb⟩

end Go.Proofs.Ytiildnldokaekaa.PartsW
namespace Go.Proofs.Ytiildnldokaekaa.Q
open Go.RowKit Go.Proofs.YtiildnldokaekaaW.PrintWords Go.Proofs.YtiildnldokaekaaW.PrintLast Go.Proofs.YtiildnldokaekaaW.PrintMore
open Go.Proofs.Ytiildnldokaekaa.CrcB

theorem veneerlaw02_CrcParts.walk (a0 : Option Addr) (len0 cap0 : Nat) (z0 : List Int) (a1 : Option Addr) (len1 cap1 : Nat) (z1 : List Int) (w : World)
    (w0 : (a0 = none ∧ len0 = 0 ∧ cap0 = 0 ∧ z0 = []) ∨ ∃ x, a0 = some x ∧ len0 ≤ cap0 ∧ cap0 ≤ maxLen ∧ z0.length = cap0 ∧ (∀ i, i < z0.length → w.cell? (x.add i) = some (.int .u8 (z0.getD i 0))) ∧ ∀ n ∈ z0, (Lit.int .u8 n).wf = true) (_y0 : len0 * 1 ≤ 140737488351232)
    (w1 : (a1 = none ∧ len1 = 0 ∧ cap1 = 0 ∧ z1 = []) ∨ ∃ x, a1 = some x ∧ len1 ≤ cap1 ∧ cap1 ≤ maxLen ∧ z1.length = cap1 ∧ (∀ i, i < z1.length → w.cell? (x.add i) = some (.int .i64 (z1.getD i 0))) ∧ ∀ n ∈ z1, (Lit.int .i64 n).wf = true) (y1 : len1 * 8 ≤ 140737488351232) :
    Calls Try.prog 8 #[.slice a0 len0 cap0, .slice a1 len1 cap1] w fun e w' => e = .returned (.bool true) ∧ Below w.heap.size w w' := by
  obtain ⟨l0, rfl, hr0, hm0, hw0, hc0⟩ := ReadsInt.ofRowC w0
  obtain ⟨l1, rfl, hr1, hm1, hw1, hc1⟩ := ReadsInt.ofRowC w1
  exact PartsW.parts a0 a1 cap0 cap1 l0 _ l1 rfl w (Kd.C_of_reads (d := (0 : Int)) (h1 := fun _ => rfl) hr0) hc0 (Kd.C_of_reads (d := (0 : Int)) (h1 := fun _ => rfl) hr1) (fun x m => u8_wf (hw0 x m)) (by omega)

end Go.Proofs.Ytiildnldokaekaa.Q
