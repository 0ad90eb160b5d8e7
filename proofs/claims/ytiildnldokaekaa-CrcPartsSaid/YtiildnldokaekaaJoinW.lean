/- The sum of two parts by their sums: the walk of crc.Join, where the length is from 0 to 65536. Condition: that length; and that the rounds come to R. -/
import Derived.Test.YtiildnldokaekaaOfW
import Derived.Deep.MidRow
import Derived.LoopTactic
namespace Go.Proofs.Ytiildnldokaekaa.JoinW
open Go.RowKit Go.Proofs.YtiildnldokaekaaW.PrintWords Go.Proofs.YtiildnldokaekaaW.PrintLast Go.Proofs.YtiildnldokaekaaW.PrintMore

/-- A block whose first 32 cells are these words, none frozen. -/
def Arr (w : World) (g : Nat) (ss : List Int) : Prop := ss.length = 32 ∧ ∀ i : Nat, i < 32 → w.cell? ⟨g, i, none⟩ = some (.int .u32 (ss.getD i 0)) ∧ w.frozen? ⟨g, i, none⟩ = false
section
variable {w w' : World} {g : Nat} {ss : List Int}
theorem Arr.cell (h : Arr w g ss) (i : Nat) (hi : i < 32) : w.cell? ⟨g, i, none⟩ = some (.int .u32 (ss.getD i 0)) := (h.2 i hi).1
theorem Arr.frozen (h : Arr w g ss) (i : Nat) (hi : i < 32) : w.frozen? ⟨g, i, none⟩ = false := (h.2 i hi).2
theorem Arr.lt (h : Arr w g ss) : g < w.heap.size := World.block_lt_of_cell? w _ (h.cell 0 (by decide))
theorem Arr.alloc (h : Arr w g ss) (o : Obj) : Arr (w.alloc o) g ss :=
  ⟨h.1, fun i hi => ⟨by rw [World.cell?_alloc_lt _ _ _ h.lt]; exact h.cell i hi, by rw [World.frozen?_alloc_past _ _ _ h.lt]; exact h.frozen i hi⟩⟩
theorem Arr.set_ (h : Arr w g ss) (k : Nat) (hk : k < 32) (v : Int) : Arr (w.setCell ⟨g, k, none⟩ (.int .u32 v)) g (ss.set k v) := by
  refine ⟨by rw [List.length_set]; exact h.1, fun i hi => ⟨?_, by rw [World.frozen?_setCell]; exact h.frozen i hi⟩⟩
  have hl := h.1
  by_cases e : i = k
  · subst e
    rw [World.cell?_setCell_same _ _ _ (h.cell i hi)]
    simp [List.getD_eq_getElem?_getD, hl, hi]
  · rw [World.cell?_setCell_other _ _ _ _ (fun x => e (by injection x with _ y; exact y.symm)), h.cell i hi]
    rw [List.getD_eq_getElem?_getD, List.getD_eq_getElem?_getD, List.getElem?_set_ne (fun x : k = i => e x.symm)]
theorem Arr.far (h : Arr w g ss) {p : Addr} (hp : g ≠ p.block) (u : Value) : Arr (w.setCell p u) g ss :=
  ⟨h.1, fun i hi => ⟨by rw [World.cell?_setCell_other _ _ _ _ (fun x => hp (by rw [x]))]; exact h.cell i hi, by rw [World.frozen?_setCell]; exact h.frozen i hi⟩⟩
theorem Arr.new (w : World) (C : Array Value) (ss : List Int) (hl : ss.length = 32) (hC : C = (ss.map (Value.int .u32)).toArray) : Arr (w.alloc (.cells C 43)) w.heap.size ss := by
  subst hC
  refine ⟨hl, fun i hi => ⟨?_, ?_⟩⟩
  · rw [World.cell?_alloc_mark]
    simp [List.getD_eq_getElem?_getD, List.getElem?_eq_getElem (show i < ss.length by omega)]
  · have hn := heap_alloc_new w (.cells (ss.map (Value.int .u32)).toArray 43)
    simp only [World.frozen?, hn]
    simp
theorem Arr.range (h : Arr w g ss) : w.rangeAt g 0 (ss.map (Value.int .u32)) := fun j v hv => by
  have hl := h.1
  rw [List.getElem?_map] at hv
  obtain ⟨x, hx, rfl⟩ := Option.map_eq_some_iff.1 hv
  have hj : j < ss.length := (List.getElem?_eq_some_iff.1 hx).1
  rw [Nat.zero_add, h.cell j (by omega), List.getD_eq_getElem?_getD, hx]
  rfl
theorem Arr.there (h : Arr w g ss) : w.there g 0 32 := fun j hj => by
  rw [Nat.zero_add, h.cell j hj, h.frozen j hj]
  exact ⟨rfl, rfl⟩
theorem Arr.put (h : Arr w g ss) (tt : List Int) (ht : tt.length = 32) : Arr (w.setCells g 0 (tt.map (Value.int .u32))) g tt := by
  refine ⟨ht, fun i hi => ⟨?_, by rw [World.frozen?_setCells]; exact h.frozen i hi⟩⟩
  have h1 := World.rangeAt_setCells_same w g 0 (tt.map (Value.int .u32)) (by rw [List.length_map, ht]; exact h.there) i (.int .u32 (tt.getD i 0)) (by
    rw [List.getElem?_map, List.getElem?_eq_getElem (show i < tt.length by omega), List.getD_eq_getElem?_getD, List.getElem?_eq_getElem (show i < tt.length by omega)]; rfl)
  rwa [Nat.zero_add] at h1
end
theorem below_setCells {w : World} (g : Nat) (hg : w.heap.size ≤ g) : ∀ (vs : List Value) (o : Nat) (wr : World), Below w.heap.size w wr → Below w.heap.size w (wr.setCells g o vs)
  | [], _, _, h => h
  | _ :: r, o, _, h => below_setCells g hg r (o + 1) _ (below_set h hg)

/-- The step of one bit 0, its first k words laid. -/
def firstK : Nat → List Int
  | 0 => 3988292384 :: List.replicate 31 0
  | k + 1 => if k = 0 then firstK k else (firstK k).set k (2 ^ (k - 1) % 4294967296)
theorem firstK_length : ∀ k, (firstK k).length = 32
  | 0 => rfl
  | k + 1 => by
    simp only [firstK]
    split
    · exact firstK_length k
    · rw [List.length_set]; exact firstK_length k
/-- The step, squared; its first k words. -/
def firstT (ss : List Int) : Nat → List Int
  | 0 => List.replicate 32 0
  | k + 1 => (firstT ss k).set k (ofI ss (ss.getD k 0) 32)
theorem firstT_length (ss : List Int) : ∀ k, (firstT ss k).length = 32
  | 0 => rfl
  | k + 1 => by simp only [firstT, List.length_set]; exact firstT_length ss k
/-- The rounds of Join. -/
def jl : Nat → Int → Int → List Int → Option Int
  | 0, _, _, _ => none
  | f + 1, a, m, ss => if m > 0 then jl f (if m % 2 = 1 then ofI ss a 32 else a) (m / 2) (firstT ss 32) else some a
theorem and_one (x : Int) (h0 : 0 ≤ x) (h1 : x < 18446744073709551616) : bits .and .u64 x 1 = x % 2 := by
  obtain ⟨n, rfl⟩ := Int.eq_ofNat_of_zero_le h0
  have h := (bits_nat .u64 64 (by decide) (fun m a b => by simp [IntKind.wrap, IntKind.bits, IntKind.signed]; omega) n 1 (by omega) (by decide)).1
  rw [show ((1 : Nat) : Int) = 1 from rfl] at h
  rw [h, Nat.and_one_is_mod]
  omega
theorem info43 : (Try.prog.info? 43).map (·.size) = some 32 := by kernel_rfl

set_option maxHeartbeats 4000000 in
set_option maxRecDepth 100000 in
theorem join_ok (a b n R : Int) (w : World) (h0 : 0 ≤ n) (h1 : n ≤ 65536) (HR : Aside0 (∃ f, jl f a (n * 8) (firstK 32) = some R)) :
    Calls Try.prog 13 #[.int .u32 a, .int .u32 b, .int .i64 n] w fun e w' => e = .returned (.tuple #[.int .u32 (bits .xor .u32 R b), .int .i64 0]) ∧ Below w.heap.size w w' := by
  have d0 : decide (n < 0) = false := decide_eq_false (by omega)
  have d1 : decide (65536 < n) = false := decide_eq_false (by omega)
  have HI := Aside0.mk info43
  go_enter Try.func13, Try.ntmps13
  go_wp2
  have HA : Aside0 (Arr (w.alloc (.cells #[.int .u32 3988292384, .int .u32 0, .int .u32 0, .int .u32 0, .int .u32 0, .int .u32 0, .int .u32 0, .int .u32 0, .int .u32 0, .int .u32 0, .int .u32 0, .int .u32 0, .int .u32 0, .int .u32 0, .int .u32 0, .int .u32 0, .int .u32 0, .int .u32 0, .int .u32 0, .int .u32 0, .int .u32 0, .int .u32 0, .int .u32 0, .int .u32 0, .int .u32 0, .int .u32 0, .int .u32 0, .int .u32 0, .int .u32 0, .int .u32 0, .int .u32 0, .int .u32 0] 43)) w.heap.size (firstK 1)) := ⟨Arr.new w _ _ rfl rfl⟩
  have HB : Aside0 (Below w.heap.size w (w.alloc (.cells #[.int .u32 3988292384, .int .u32 0, .int .u32 0, .int .u32 0, .int .u32 0, .int .u32 0, .int .u32 0, .int .u32 0, .int .u32 0, .int .u32 0, .int .u32 0, .int .u32 0, .int .u32 0, .int .u32 0, .int .u32 0, .int .u32 0, .int .u32 0, .int .u32 0, .int .u32 0, .int .u32 0, .int .u32 0, .int .u32 0, .int .u32 0, .int .u32 0, .int .u32 0, .int .u32 0, .int .u32 0, .int .u32 0, .int .u32 0, .int .u32 0, .int .u32 0, .int .u32 0] 43))) := ⟨below_alloc (Below.refl _ _) _⟩
  go_loopw [9] (fun i wr => ∃ k : Nat, 1 ≤ k ∧ k ≤ 32 ∧ i = .int .i64 k ∧ Aside0 (Arr wr w.heap.size (firstK k)) ∧ Aside0 (Below w.heap.size w wr)) (fun i _ => 32 - (intOf i).toNat)
  case atStart => exact ⟨1, by omega, by omega, rfl, HA, HB⟩
  case round =>
    clear HA HB
    obtain ⟨k, hk1, hk, rfl, HA, HB⟩ := hrel
    by_cases hlt : k < 32
    · have hcell := HA.out.cell k hlt
      have hfr := HA.out.frozen k hlt
      have hi : (k : Int) < 32 := by omega
      have h0 : (0 : Int) ≤ (k : Int) := by omega
      have hi1 : (0 : Int) ≤ (k : Int) - 1 := by omega
      go_wp2
      refine ⟨⟨k + 1, by omega, by omega, by simp, ⟨?_⟩, ⟨?_⟩⟩, by simp [intOf]; omega⟩
      · have := HA.out.set_ k hlt (2 ^ (k - 1) % 4294967296)
        simp only [firstK]
        rw [if_neg (by omega)]
        exact this
      · exact below_set HB.out (Nat.le_refl _)
    · have hi : ¬ (k : Int) < 32 := by omega
      obtain rfl : k = 32 := by omega
      clear hk1 hk hlt
      go_wp2
      go_loopw [0, 10] (fun v m wr => ∃ (a' m' : Int) (ss : List Int), v = .int .u32 a' ∧ m = .int .u64 m' ∧ 0 ≤ m' ∧ m' ≤ 524288 ∧ Aside0 (∃ f, jl f a' m' ss = some R) ∧ Aside0 (Arr wr w.heap.size ss) ∧ Aside0 (Below w.heap.size w wr)) (fun _ m _ => (intOf m).toNat)
      case atStart => exact ⟨a, n * 8, _, rfl, rfl, by omega, by omega, HR, HA, HB⟩
      case round =>
        clear HA HB hi
        obtain ⟨a', m', ss, rfl, rfl, m0, m1, HJ, HA, HB⟩ := hrel
        rename World => wo
        by_cases hm : 0 < m'
        · have hb2 := and_one m' m0 (by omega)
          have HSZ := Aside0.mk HA.out.lt
          by_cases hodd : m' % 2 = 1
          · have hbit : (bits .and .u64 m' 1 == 1) = true := by rw [hb2, hodd]; rfl
            have HJ2 : Aside0 (∃ f, jl f (ofI ss a' 32) (m' / 2) (firstT ss 32) = some R) := ⟨by
              obtain ⟨f, hf⟩ := HJ.out
              cases f with
              | zero => simp [jl] at hf
              | succ f => simp only [jl] at hf; rw [if_pos (by omega), if_pos hodd] at hf; exact ⟨f, hf⟩⟩
            clear hb2 hodd HJ
            go_wp2_with (first | (go_at_call 16; refine (of_calls w.heap.size ss _ _ (fun i hi => HA.out.cell i hi)).mono ?_; rintro e w1 ⟨rfl, rfl⟩))
            have HA2 : Aside0 (Arr (wo.alloc (.cells #[.int .u32 0, .int .u32 0, .int .u32 0, .int .u32 0, .int .u32 0, .int .u32 0, .int .u32 0, .int .u32 0, .int .u32 0, .int .u32 0, .int .u32 0, .int .u32 0, .int .u32 0, .int .u32 0, .int .u32 0, .int .u32 0, .int .u32 0, .int .u32 0, .int .u32 0, .int .u32 0, .int .u32 0, .int .u32 0, .int .u32 0, .int .u32 0, .int .u32 0, .int .u32 0, .int .u32 0, .int .u32 0, .int .u32 0, .int .u32 0, .int .u32 0, .int .u32 0] 43)) w.heap.size ss) := ⟨HA.out.alloc _⟩
            have HT : Aside0 (Arr (wo.alloc (.cells #[.int .u32 0, .int .u32 0, .int .u32 0, .int .u32 0, .int .u32 0, .int .u32 0, .int .u32 0, .int .u32 0, .int .u32 0, .int .u32 0, .int .u32 0, .int .u32 0, .int .u32 0, .int .u32 0, .int .u32 0, .int .u32 0, .int .u32 0, .int .u32 0, .int .u32 0, .int .u32 0, .int .u32 0, .int .u32 0, .int .u32 0, .int .u32 0, .int .u32 0, .int .u32 0, .int .u32 0, .int .u32 0, .int .u32 0, .int .u32 0, .int .u32 0, .int .u32 0] 43)) wo.heap.size (firstT ss 0)) := ⟨Arr.new wo _ _ rfl rfl⟩
            have HB2 : Aside0 (Below w.heap.size w (wo.alloc (.cells #[.int .u32 0, .int .u32 0, .int .u32 0, .int .u32 0, .int .u32 0, .int .u32 0, .int .u32 0, .int .u32 0, .int .u32 0, .int .u32 0, .int .u32 0, .int .u32 0, .int .u32 0, .int .u32 0, .int .u32 0, .int .u32 0, .int .u32 0, .int .u32 0, .int .u32 0, .int .u32 0, .int .u32 0, .int .u32 0, .int .u32 0, .int .u32 0, .int .u32 0, .int .u32 0, .int .u32 0, .int .u32 0, .int .u32 0, .int .u32 0, .int .u32 0, .int .u32 0] 43))) := ⟨below_alloc HB.out _⟩
            clear HA HB
            go_loopw [42] (fun v wi => ∃ k : Nat, k ≤ 32 ∧ v = .int .i64 k ∧ Aside0 (Arr wi w.heap.size ss) ∧ Aside0 (Arr wi wo.heap.size (firstT ss k)) ∧ Aside0 (Below w.heap.size w wi)) (fun v _ => 32 - (intOf v).toNat)
            case atStart => exact ⟨0, by omega, rfl, HA2, HT, HB2⟩
            case round =>
              clear HA2 HT HB2
              obtain ⟨k, hk, rfl, HA, HT, HB⟩ := hrel
              by_cases hlt : k < 32
              · have hcell := HA.out.cell k hlt
                have hcellt := HT.out.cell k hlt
                have hfrt := HT.out.frozen k hlt
                have hi : (k : Int) < 32 := by omega
                have h0 : (0 : Int) ≤ (k : Int) := by omega
                go_wp2_with (first | (go_at_call 16; refine (of_calls w.heap.size ss _ _ (fun i hi => HA.out.cell i hi)).mono ?_; rintro e w1 ⟨rfl, rfl⟩))
                refine ⟨⟨k + 1, by omega, by simp, ⟨?_⟩, ⟨?_⟩, ⟨?_⟩⟩, by simp [intOf]; omega⟩
                · exact HA.out.far (Nat.ne_of_lt HSZ.out) _
                · have := HT.out.set_ k hlt (ofI ss (ss.getD k 0) 32)
                  simp only [List.getD_eq_getElem?_getD] at this
                  simp only [firstT, List.getD_eq_getElem?_getD]
                  exact this
                · exact below_set HB.out (Nat.le_of_lt HSZ.out)
              · have hi : ¬ (k : Int) < 32 := by omega
                obtain rfl : k = 32 := by omega
                clear hlt hk
                obtain ⟨tt, ht⟩ : ∃ tt : List Int, tt = firstT ss 32 := ⟨_, rfl⟩
                have htl : tt.length = 32 := by rw [ht]; exact firstT_length ss 32
                rw [← ht] at HT HJ2
                have HSI : Aside0 ((tt.map (Value.int .u32)).length = 32) := ⟨by rw [List.length_map]; exact htl⟩
                have HTL := Aside0.mk htl
                clear ht htl
                go_upto_region 20 with (fail)
                refine wp_region_lit ?_
                refine wpList_load_mid rfl 43 (.tmp 11) rfl wo.heap.size 0 rfl (tt.map (Value.int .u32)) _ HT.out.range Try.underlying43 rfl (by rw [HSI.out]; exact HI.out) ?_
                refine wpList_store_mid rfl 43 (.tmp 8) (.tmp 52) rfl w.heap.size 0 (tt.map (Value.int .u32)).toArray rfl rfl (by show wr.there w.heap.size 0 ((tt.map (Value.int .u32)).length); rw [HSI.out]; exact HA.out.there) (by show _ = some ((tt.map (Value.int .u32)).length); rw [HSI.out]; exact HI.out) (all_oneCell_toArray (by intro v hv; obtain ⟨x, _, rfl⟩ := List.mem_map.1 hv; rfl)) ?_
                have HA3 := Aside0.mk (HA.out.put tt HTL.out)
                have HB3 := Aside0.mk (below_setCells w.heap.size (Nat.le_refl _) (tt.map (Value.int .u32)) 0 wr HB.out)
                show wpList _ _ _ _ _ (wr.setCells w.heap.size 0 (tt.map (Value.int .u32)))
                generalize wr.setCells w.heap.size 0 (tt.map (Value.int .u32)) = wz at HA3 HB3 ⊢
                clear HA HT HB HI HSI
                go_wp2
                exact ⟨⟨_, _, tt, rfl, rfl, by omega, by omega, HJ2, HA3, HB3⟩, by simp [intOf]; omega⟩
          · have hbit : (bits .and .u64 m' 1 == 1) = false := by rw [hb2, beq_eq_false_iff_ne]; exact hodd
            have HJ2 : Aside0 (∃ f, jl f a' (m' / 2) (firstT ss 32) = some R) := ⟨by
              obtain ⟨f, hf⟩ := HJ.out
              cases f with
              | zero => simp [jl] at hf
              | succ f => simp only [jl] at hf; rw [if_pos (by omega), if_neg hodd] at hf; exact ⟨f, hf⟩⟩
            clear hb2 hodd HJ
            go_wp2_with (first | (go_at_call 16; refine (of_calls w.heap.size ss _ _ (fun i hi => HA.out.cell i hi)).mono ?_; rintro e w1 ⟨rfl, rfl⟩))
            have HA2 : Aside0 (Arr (wo.alloc (.cells #[.int .u32 0, .int .u32 0, .int .u32 0, .int .u32 0, .int .u32 0, .int .u32 0, .int .u32 0, .int .u32 0, .int .u32 0, .int .u32 0, .int .u32 0, .int .u32 0, .int .u32 0, .int .u32 0, .int .u32 0, .int .u32 0, .int .u32 0, .int .u32 0, .int .u32 0, .int .u32 0, .int .u32 0, .int .u32 0, .int .u32 0, .int .u32 0, .int .u32 0, .int .u32 0, .int .u32 0, .int .u32 0, .int .u32 0, .int .u32 0, .int .u32 0, .int .u32 0] 43)) w.heap.size ss) := ⟨HA.out.alloc _⟩
            have HT : Aside0 (Arr (wo.alloc (.cells #[.int .u32 0, .int .u32 0, .int .u32 0, .int .u32 0, .int .u32 0, .int .u32 0, .int .u32 0, .int .u32 0, .int .u32 0, .int .u32 0, .int .u32 0, .int .u32 0, .int .u32 0, .int .u32 0, .int .u32 0, .int .u32 0, .int .u32 0, .int .u32 0, .int .u32 0, .int .u32 0, .int .u32 0, .int .u32 0, .int .u32 0, .int .u32 0, .int .u32 0, .int .u32 0, .int .u32 0, .int .u32 0, .int .u32 0, .int .u32 0, .int .u32 0, .int .u32 0] 43)) wo.heap.size (firstT ss 0)) := ⟨Arr.new wo _ _ rfl rfl⟩
            have HB2 : Aside0 (Below w.heap.size w (wo.alloc (.cells #[.int .u32 0, .int .u32 0, .int .u32 0, .int .u32 0, .int .u32 0, .int .u32 0, .int .u32 0, .int .u32 0, .int .u32 0, .int .u32 0, .int .u32 0, .int .u32 0, .int .u32 0, .int .u32 0, .int .u32 0, .int .u32 0, .int .u32 0, .int .u32 0, .int .u32 0, .int .u32 0, .int .u32 0, .int .u32 0, .int .u32 0, .int .u32 0, .int .u32 0, .int .u32 0, .int .u32 0, .int .u32 0, .int .u32 0, .int .u32 0, .int .u32 0, .int .u32 0] 43))) := ⟨below_alloc HB.out _⟩
            clear HA HB
            go_loopw [42] (fun v wi => ∃ k : Nat, k ≤ 32 ∧ v = .int .i64 k ∧ Aside0 (Arr wi w.heap.size ss) ∧ Aside0 (Arr wi wo.heap.size (firstT ss k)) ∧ Aside0 (Below w.heap.size w wi)) (fun v _ => 32 - (intOf v).toNat)
            case atStart => exact ⟨0, by omega, rfl, HA2, HT, HB2⟩
            case round =>
              clear HA2 HT HB2
              obtain ⟨k, hk, rfl, HA, HT, HB⟩ := hrel
              by_cases hlt : k < 32
              · have hcell := HA.out.cell k hlt
                have hcellt := HT.out.cell k hlt
                have hfrt := HT.out.frozen k hlt
                have hi : (k : Int) < 32 := by omega
                have h0 : (0 : Int) ≤ (k : Int) := by omega
                go_wp2_with (first | (go_at_call 16; refine (of_calls w.heap.size ss _ _ (fun i hi => HA.out.cell i hi)).mono ?_; rintro e w1 ⟨rfl, rfl⟩))
                refine ⟨⟨k + 1, by omega, by simp, ⟨?_⟩, ⟨?_⟩, ⟨?_⟩⟩, by simp [intOf]; omega⟩
                · exact HA.out.far (Nat.ne_of_lt HSZ.out) _
                · have := HT.out.set_ k hlt (ofI ss (ss.getD k 0) 32)
                  simp only [List.getD_eq_getElem?_getD] at this
                  simp only [firstT, List.getD_eq_getElem?_getD]
                  exact this
                · exact below_set HB.out (Nat.le_of_lt HSZ.out)
              · have hi : ¬ (k : Int) < 32 := by omega
                obtain rfl : k = 32 := by omega
                clear hlt hk
                obtain ⟨tt, ht⟩ : ∃ tt : List Int, tt = firstT ss 32 := ⟨_, rfl⟩
                have htl : tt.length = 32 := by rw [ht]; exact firstT_length ss 32
                rw [← ht] at HT HJ2
                have HSI : Aside0 ((tt.map (Value.int .u32)).length = 32) := ⟨by rw [List.length_map]; exact htl⟩
                have HTL := Aside0.mk htl
                clear ht htl
                go_upto_region 20 with (fail)
                refine wp_region_lit ?_
                refine wpList_load_mid rfl 43 (.tmp 11) rfl wo.heap.size 0 rfl (tt.map (Value.int .u32)) _ HT.out.range Try.underlying43 rfl (by rw [HSI.out]; exact HI.out) ?_
                refine wpList_store_mid rfl 43 (.tmp 8) (.tmp 52) rfl w.heap.size 0 (tt.map (Value.int .u32)).toArray rfl rfl (by show wr.there w.heap.size 0 ((tt.map (Value.int .u32)).length); rw [HSI.out]; exact HA.out.there) (by show _ = some ((tt.map (Value.int .u32)).length); rw [HSI.out]; exact HI.out) (all_oneCell_toArray (by intro v hv; obtain ⟨x, _, rfl⟩ := List.mem_map.1 hv; rfl)) ?_
                have HA3 := Aside0.mk (HA.out.put tt HTL.out)
                have HB3 := Aside0.mk (below_setCells w.heap.size (Nat.le_refl _) (tt.map (Value.int .u32)) 0 wr HB.out)
                show wpList _ _ _ _ _ (wr.setCells w.heap.size 0 (tt.map (Value.int .u32)))
                generalize wr.setCells w.heap.size 0 (tt.map (Value.int .u32)) = wz at HA3 HB3 ⊢
                clear HA HT HB HI HSI
                go_wp2
                exact ⟨⟨_, _, tt, rfl, rfl, by omega, by omega, HJ2, HA3, HB3⟩, by simp [intOf]; omega⟩
        · have hm' : ¬ 0 < m' := hm
          obtain rfl : a' = R := by
            obtain ⟨f, hf⟩ := HJ.out
            cases f with
            | zero => simp [jl] at hf
            | succ f => simp only [jl] at hf; rw [if_neg (by omega)] at hf; exact Option.some.inj hf
          go_wp2
          go_ret2
          exact ⟨rfl, HB.out⟩

set_option maxHeartbeats 4000000 in
set_option maxRecDepth 100000 in
theorem join_no (a b n : Int) (w : World) (h : n < 0 ∨ 65536 < n) :
    Calls Try.prog 13 #[.int .u32 a, .int .u32 b, .int .i64 n] w fun e w' => e = .returned (.tuple #[.int .u32 0, .int .i64 2]) ∧ Below w.heap.size w w' := by
  rcases Int.lt_or_le n 0 with h0 | h0
  · have d0 : decide (n < 0) = true := decide_eq_true h0
    clear h
    go_enter Try.func13, Try.ntmps13
    go_wp2
    go_ret2
    exact ⟨rfl, Below.refl _ _⟩
  · have d0 : decide (n < 0) = false := decide_eq_false (by omega)
    have d1 : decide (65536 < n) = true := decide_eq_true (by omega)
    clear h
    go_enter Try.func13, Try.ntmps13
    go_wp2
    go_ret2
    exact ⟨rfl, Below.refl _ _⟩

end Go.Proofs.Ytiildnldokaekaa.JoinW
