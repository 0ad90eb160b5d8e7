/- append of bytes to a row of bytes of the call's own, where both together are a little more than half of what a slice may bear. Conditions: as it states. -/
import Derived.Test.YtmceiepphhlncaaQ0
namespace Go.Proofs.Ytmceiepphhlncaa.RowBig
open Go.RowKit Go.Proofs.YtmceiepphhlncaaW.PrintWords

theorem growBy_le (need : Nat) : ∀ (r c : Nat), c < need + (need + 768) / 4 → Builtin.growBy need r c ≤ need + (need + 768) / 4
  | 0, c, h => by unfold Builtin.growBy; omega
  | r + 1, c, h => by
    unfold Builtin.growBy
    by_cases hc : c ≥ need
    · rw [if_pos hc]; omega
    · rw [if_neg hc]
      exact growBy_le need r _ (by omega)
theorem cap_fits {need old : Nat} (h : old < need) (hb : need ≤ 140738562097152) : Builtin.nextslicecap need old ≤ 281474976710656 := by
  unfold Builtin.nextslicecap
  by_cases h1 : need > 2 * old
  · rw [if_pos h1]; omega
  · rw [if_neg h1]
    by_cases h2 : old < 256
    · rw [if_pos h2]; omega
    · rw [if_neg h2]
      have := growBy_le need 4 old (by omega)
      omega
/-- A row of bytes that was laid anew, behind what was drawn. -/
theorem new_row {W : World} {base : Nat} (hbase : base ≤ W.heap.size) (n c : Nat) (l : List Int) (t : List Value) (hn : n = l.length) (hnc : n ≤ c) (hc : c ≤ maxLen) (ht : n + t.length = c) (arr : Array Value) (ha : arr.toList = encs (Value.int .u8) l ++ t) :
    (W.drew.alloc (.cells arr 5)).ownsRow base 5 1 (.slice (some ⟨W.heap.size, 0, none⟩) n c) l.length (encs (Value.int .u8) l) := by
  subst hn
  have hs : arr.size = c := by rw [← Array.length_toList, ha, List.length_append, encs_length]; exact ht
  refine ⟨by rw [encs_length, Nat.mul_one], .inr ⟨W.heap.size, c, arr, rfl, hbase, heap_alloc_new W.drew _, hnc, hc, by rw [hs, Nat.mul_one], ?_⟩⟩
  rw [ha, Nat.mul_one, List.take_left' (encs_length l)]
section
variable {P : Program} {ops : Array Oper} {rest : List Oper} {o : Oper} {a : Act} {Q : Exit → Act → World → Prop}
theorem R_append_big {w0 W : World} (base : Nat) (hgd : o.guard = none) (s x : Operand) (t : TypeId) (z : Value) (bytes : Nat)
    (ho : o.op = .call { callee := .builtin .append, args := #[s, x], argTypes := #[t, t] })
    (ht : P.underlying t = some (.slice 5)) (hinfo : (P.info? 5).map (fun i => (i.zero, i.size, i.bytes)) = some (some z, 1, bytes)) (hz : z.cells.size = 1) (hb1 : bytes = 1)
    (v : Value) (xs ys : List Int) (A : Option Addr) (m c : Nat) (ok : Nat → Prop) (hs : a.eval s = v) (hx : a.eval x = .slice A m c)
    (HO : (Kd.int .u8).R 5 W base ok v xs) (HR : (Kd.int .u8).C W A m ys) (hfresh : ∀ k, W.heap.size ≤ k → ok k)
    (HB : Below base w0 W) (hbase : base ≤ W.heap.size) (hn : xs.length ≤ 140737488355328) (hl : xs.length + m ≤ 140738562097152)
    (h : ∀ v1 w1, (Kd.int .u8).R 5 w1 base ok v1 (xs ++ ys) → Below base w0 w1 → W.grownBy w1 v.ownBlock → (v1.ownBlock = v.ownBlock ∨ ∃ b, v1.ownBlock = some b ∧ W.heap.size ≤ b) → wpList P ops Q rest (a.put o.dst v1) w1) :
    wpList P ops Q (o :: rest) a W := by
  subst hb1
  by_cases hsmall : xs.length + m ≤ 140737488355328
  · exact Kd.R_append_rows (Kd.int .u8) base hgd s x t 5 z 1 ho ht hinfo hz (by decide) (by omega) v xs ys A m c ok (fun _ => False) hs hx HO HR (fun _ _ h => h) (fun _ h => h.elim) hfresh HB hbase (by omega) h
  obtain ⟨i0, hi, hzz⟩ := Option.map_eq_some_iff.1 hinfo
  simp only [Prod.mk.injEq] at hzz
  obtain ⟨hz0, hz1, hz2⟩ := hzz
  have hr := Kd.reads_of_C (enc := Value.int .u8) (d := (0 : Int)) HR
  have hm : ys.length = m := hr.1
  obtain ⟨ad, rfl, hcell⟩ := hr.2.2 (by omega)
  have hown := Kd.own_of_R HO
  have hok := HO.1
  have hnews : ∀ j u, (encs (Value.int .u8) ys)[j]? = some u → W.cell? (ad.add j) = some u := by
    intro j u hu
    have hj : j < ys.length := by
      rcases Nat.lt_or_ge j ys.length with h | h
      · exact h
      · rw [List.getElem?_eq_none (by rw [encs_length]; exact h)] at hu
        cases hu
    rw [encs_get (d := (0 : Int)) ys j hj] at hu
    cases hu
    exact hcell j (by omega)
  have hyl : (encs (Value.int .u8) ys).length = m * i0.size := by rw [encs_length, hm, hz1, Nat.mul_one]
  have hmax : (9223372036854775807 : Nat) ≤ maxLen := by simp only [maxLen]; omega
  have fin : ∀ v1 w1, (Builtin.append_ #[t, t] o.type #[v, .slice (some ad) m c]).run P W = .ok v1 w1 → w1.ownsRow base 5 1 v1 (xs ++ ys).length (encs (Value.int .u8) (xs ++ ys)) → W.grownBy w1 v.ownBlock → (v1.ownBlock = v.ownBlock ∨ v1.ownBlock = some W.heap.size) → wpList P ops Q (o :: rest) a W := by
    intro v1 w1 hrun h1 hg hat
    refine wpList_plain hgd fun K hK => ?_
    unfold Oper.wp execOp
    simp only [ho, resolve, invoke, builtin, Sem.run_bind, Sem.run_pure, Result.andThen_ok, List.map_toArray, List.map_cons, List.map_nil, hs, hx, hrun]
    refine hK _ _ (h v1 w1 (Kd.R_of_own h1 fun k hk => ?_) (HB.grown hg hbase (own_base hown)) hg ?_)
    · rcases hat with hat | hat
      · exact hok k (hat ▸ hk)
      · rw [hat] at hk
        cases hk
        exact hfresh _ (Nat.le_refl _)
    · rcases hat with hat | hat
      · exact .inl hat
      · exact .inr ⟨_, hat, Nat.le_refl _⟩
  have hzl : ∀ q, (Builtin.zeroCells z.cells q).toList.length = q := fun q => by rw [Array.length_toList, size_zeroCells, hz, Nat.mul_one]
  have hgrow : ∀ arr : Array Value, W.grownBy (W.drew.alloc (.cells arr 5)) v.ownBlock := fun arr => ⟨rfl, rfl, rfl, by simp, fun k hk _ => Below.heap_alloc W.drew _ k hk⟩
  rcases hown.2 with ⟨rfl, h0⟩ | ⟨g, cap, cur, rfl, hbg, hg, hnc, hcm, hcs, htake⟩
  · obtain rfl : xs = [] := List.eq_nil_of_length_eq_zero h0
    have hrun := run_append_nil (P := P) W t o.type 5 i0 z ht hi hz0 ad m c (encs (Value.int .u8) ys) hyl hnews (by omega) (by simp only [List.length_nil] at hl; omega) (by simp only [List.length_nil] at hl; rw [hz2]; omega)
    refine fin _ _ hrun ?_ (hgrow _) (.inr rfl)
    have hge := grownCap_ge W m 0 5
    refine new_row hbase m _ ([] ++ ys) (Builtin.zeroCells z.cells (grownCap W m 0 5 - m)).toList (by simp [hm]) hge (grownCap_le_maxLen W m 0 5 (by simp only [List.length_nil] at hl; omega)) (by rw [hzl]; omega) _ ?_
    simp
  · by_cases hroom : xs.length + m ≤ cap
    · have hfit : xs.length * i0.size + (encs (Value.int .u8) ys).length ≤ cur.size := by rw [hcs, hyl, hz1]; omega
      have hrun := run_append_room (P := P) W t o.type 5 i0 ht hi g xs.length cap cur hg ad m c (encs (Value.int .u8) ys) hyl hnews (by intro u hu; simp only [encs, List.mem_map] at hu; obtain ⟨q, _, rfl⟩ := hu; rfl) hroom hfit
      refine fin _ _ hrun ?_ ⟨rfl, rfl, rfl, by simp, fun k _ hk => setRow_other W g k _ (fun e => hk (by simp [Value.ownBlock, e]))⟩ (.inl (by simp [Value.ownBlock]))
      rw [Nat.mul_one] at htake
      refine ⟨by rw [encs_length, Nat.mul_one], .inr ⟨g, cap, _, by rw [List.length_append, hm], hbg, setRow_heap W g cur _ 5 _ hg, by rw [List.length_append, hm]; exact hroom, hcm, ?_, ?_⟩⟩
      · simp only [List.size_toArray, List.length_append, List.length_take, List.length_drop, Array.length_toList, encs_length, hz1]
        omega
      · rw [hz1, Nat.mul_one, Nat.mul_one, htake, encs_append]
        exact List.take_left' (by rw [List.length_append, encs_length, encs_length, List.length_append])
    · have hrun := run_append_grow (P := P) W t o.type 5 i0 z ht hi hz0 ⟨g, 0, none⟩ xs.length cap (encs (Value.int .u8) xs) (by rw [encs_length, hz1, Nat.mul_one]) (hown.cells (g := g) rfl) ad m c (encs (Value.int .u8) ys) hyl hnews (by omega) (by omega) (by rw [hz2, Nat.mul_one]; exact cap_fits (by omega) hl)
      refine fin _ _ hrun ?_ (hgrow _) (.inr rfl)
      have hge := grownCap_ge W (xs.length + m) cap 5
      refine new_row hbase (xs.length + m) _ (xs ++ ys) (Builtin.zeroCells z.cells (grownCap W (xs.length + m) cap 5 - (xs.length + m))).toList (by rw [List.length_append, hm]) hge (grownCap_le_maxLen W _ cap 5 (by omega)) (by rw [hzl]; omega) _ ?_
      rw [encs_append]
      simp
end
end Go.Proofs.Ytmceiepphhlncaa.RowBig
