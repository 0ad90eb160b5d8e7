/- Rows of bytes of one's own that are written and appended to: what stays as it was. No condition beyond what each theorem states. -/
import Derived.Test.YtmceiepphhlncaaQ0
namespace Go.Proofs.Ytmceiepphhlncaa.OwnR
open Go.RowKit Go.Proofs.YtmceiepphhlncaaW.PrintWords

/-- One row: nil, or a block of bytes of its own between two places of the heap. -/
def RowOk (w : World) (B0 B1 : Nat) (A : Option Addr) (l c : Nat) : Prop :=
  (A = none ∧ l = 0 ∧ c = 0) ∨ ∃ g cur, A = some ⟨g, 0, none⟩ ∧ B0 ≤ g ∧ g < B1 ∧ w.heap[g]? = some (.cells cur 5 (0, 0)) ∧ l ≤ c ∧ l ≤ 1048576 ∧ cur.size = c ∧ ∀ j, j < l → ∃ x : Int, cur[j]? = some (Value.int .u8 x)
/-- A row of such rows. -/
def Arows (w : World) (B0 B1 : Nat) (Ao : Option Addr) (n : Nat) : Prop :=
  ∀ i, i < n → ∃ G ocur A l c, Ao = some ⟨G, 0, none⟩ ∧ B0 ≤ G ∧ G < B1 ∧ w.heap[G]? = some (.cells ocur 22 (0, 0)) ∧ ocur[i]? = some (.slice A l c) ∧ RowOk w B0 B1 A l c
/-- All but the blocks between the two places is as it was. -/
structure Kp (w2 w : World) (B0 B1 : Nat) : Prop where
  os : w.os = w2.os
  tape : w.tape = w2.tape
  output : w.output = w2.output
  size : w2.heap.size ≤ w.heap.size
  block : ∀ k, k < w2.heap.size → (k < B0 ∨ B1 ≤ k) → w.heap[k]? = w2.heap[k]?
theorem Kp.refl (w : World) (B0 B1 : Nat) : Kp w w B0 B1 := ⟨rfl, rfl, rfl, Nat.le_refl _, fun _ _ _ => rfl⟩
theorem Kp.trans {a b c : World} {B0 B1 : Nat} (h : Kp a b B0 B1) (k : Kp b c B0 B1) : Kp a c B0 B1 :=
  ⟨k.os.trans h.os, k.tape.trans h.tape, k.output.trans h.output, Nat.le_trans h.size k.size, fun i hi ho => (k.block i (Nat.lt_of_lt_of_le hi h.size) ho).trans (h.block i hi ho)⟩
theorem Kp.of_below {w w1 : World} {B0 B1 : Nat} (h : Below w.heap.size w w1) : Kp w w1 B0 B1 := ⟨h.os, h.tape, h.output, h.size, fun k hk _ => h.block k hk⟩
theorem RowOk.keep {w w1 : World} {B0 B1 : Nat} {A : Option Addr} {l c : Nat} (h : RowOk w B0 B1 A l c) (hk : ∀ k, B0 ≤ k → k < B1 → w1.heap[k]? = w.heap[k]?) : RowOk w1 B0 B1 A l c := by
  rcases h with h | ⟨g, cur, h1, h2, h3, h4, h5⟩
  · exact .inl h
  · exact .inr ⟨g, cur, h1, h2, h3, (hk g h2 h3).trans h4, h5⟩
theorem Arows.keep {w w1 : World} {B0 B1 : Nat} {Ao : Option Addr} {n : Nat} (h : Arows w B0 B1 Ao n) (hk : ∀ k, B0 ≤ k → k < B1 → w1.heap[k]? = w.heap[k]?) : Arows w1 B0 B1 Ao n := fun i hi => by
  obtain ⟨G, ocur, A, l, c, h1, h2, h3, h4, h5, h6⟩ := h i hi
  exact ⟨G, ocur, A, l, c, h1, h2, h3, (hk G h2 h3).trans h4, h5, RowOk.keep h6 hk⟩
/-- A block of bytes is written: bytes stay bytes. -/
theorem RowOk.write {w w1 : World} {B0 B1 : Nat} {A : Option Addr} {l c : Nat} (h : RowOk w B0 B1 A l c) {g : Nat} {cur cur1 : Array Value} (hg : w.heap[g]? = some (.cells cur 5 (0, 0))) (hg1 : w1.heap[g]? = some (.cells cur1 5 (0, 0)))
    (hs : cur1.size = cur.size) (hb : ∀ j : Nat, (∃ x : Int, cur[j]? = some (Value.int .u8 x)) → ∃ y : Int, cur1[j]? = some (Value.int .u8 y)) (hk : ∀ k, B0 ≤ k → k < B1 → k ≠ g → w1.heap[k]? = w.heap[k]?) : RowOk w1 B0 B1 A l c := by
  rcases h with h | ⟨g', cur', h1, h2, h3, h4, h5, h6, h7, h8⟩
  · exact .inl h
  · by_cases he : g' = g
    · subst he
      rw [hg] at h4
      injection h4 with h4
      injection h4 with h4
      subst h4
      exact .inr ⟨g', cur1, h1, h2, h3, hg1, h5, h6, hs.trans h7, fun j hj => hb j (h8 j hj)⟩
    · exact .inr ⟨g', cur', h1, h2, h3, (hk g' h2 h3 he).trans h4, h5, h6, h7, h8⟩
theorem Arows.write {w w1 : World} {B0 B1 : Nat} {Ao : Option Addr} {n : Nat} (h : Arows w B0 B1 Ao n) {g : Nat} {cur cur1 : Array Value} (hg : w.heap[g]? = some (.cells cur 5 (0, 0))) (hg1 : w1.heap[g]? = some (.cells cur1 5 (0, 0)))
    (hs : cur1.size = cur.size) (hb : ∀ j : Nat, (∃ x : Int, cur[j]? = some (Value.int .u8 x)) → ∃ y : Int, cur1[j]? = some (Value.int .u8 y)) (hk : ∀ k, B0 ≤ k → k < B1 → k ≠ g → w1.heap[k]? = w.heap[k]?) : Arows w1 B0 B1 Ao n := fun i hi => by
  obtain ⟨G, ocur, A, l, c, h1, h2, h3, h4, h5, h6⟩ := h i hi
  have hne : G ≠ g := by
    rintro rfl
    rw [hg] at h4
    injection h4 with h4
    injection h4 with _ h4
    cases h4
  exact ⟨G, ocur, A, l, c, h1, h2, h3, (hk G h2 h3 hne).trans h4, h5, RowOk.write h6 hg hg1 hs hb hk⟩
/-- A cell of the outer row. -/
def Outer (w : World) (ad : Addr) (i : Nat) (u : Value) : Prop := ∃ G cs, ad = ⟨G, 0, none⟩ ∧ w.heap[G]? = some (.cells cs 22 (0, 0)) ∧ cs[i]? = some u
theorem Outer.cell {w : World} {ad : Addr} {i : Nat} {u : Value} (h : Outer w ad i u) : w.cell? (ad.add i) = some u := by
  obtain ⟨G, cs, rfl, h1, h2⟩ := h
  rw [add_plain, blk_cell h1]
  exact h2
theorem Outer.alloc {w : World} {ad : Addr} {i : Nat} {u : Value} (h : Outer w ad i u) (o : Obj) : Outer (w.alloc o) ad i u := by
  obtain ⟨G, cs, rfl, h1, h2⟩ := h
  exact ⟨G, cs, rfl, blk_alloc h1 o, h2⟩
/-- The row at an index, as a walk reads it. -/
theorem Arows.at_ {w : World} {B0 B1 : Nat} {Ao : Option Addr} {n : Nat} (h : Arows w B0 B1 Ao n) (i : Nat) (hi : i < n) : ∃ ad A l c, Ao = some ad ∧ Outer w ad i (.slice A l c) ∧ RowOk w B0 B1 A l c ∧ l ≤ 1048576 := by
  obtain ⟨G, ocur, A, l, c, h1, h2, h3, h4, h5, h6⟩ := h i hi
  refine ⟨_, A, l, c, h1, ⟨G, ocur, rfl, h4, h5⟩, h6, ?_⟩
  rcases h6 with ⟨_, h, _⟩ | ⟨_, _, _, _, _, _, _, h, _⟩ <;> omega
/-- A cell of a row, as a walk reads and writes it. -/
theorem RowOk.at_ {w : World} {B0 B1 : Nat} {A : Option Addr} {l c : Nat} (h : RowOk w B0 B1 A l c) (j : Nat) (hj : j < l) : ∃ ad, ∃ x : Int, A = some ad ∧ w.cell? (ad.add j) = some (Value.int .u8 x) ∧ w.frozen? (ad.add j) = false ∧
    ∀ y : Int, RowOk (w.setCell (ad.add j) (.int .u8 y)) B0 B1 A l c ∧ Kp w (w.setCell (ad.add j) (.int .u8 y)) B0 B1 ∧ (∀ Ao n, Arows w B0 B1 Ao n → Arows (w.setCell (ad.add j) (.int .u8 y)) B0 B1 Ao n) ∧
      ∀ (ad' : Addr) (i : Nat) (u : Value), Outer w ad' i u → Outer (w.setCell (ad.add j) (.int .u8 y)) ad' i u := by
  rcases h with ⟨_, h, _⟩ | ⟨g, cur, h1, h2, h3, h4, h5, h6, h7, h8⟩
  · omega
  obtain ⟨x, hx⟩ := h8 j hj
  refine ⟨_, x, h1, ?_, ?_, fun y => ?_⟩
  · rw [add_plain, blk_cell h4]; exact hx
  · rw [add_plain]; exact blk_frozen h4 j
  rw [add_plain]
  have hne : ∀ k, k ≠ g → (w.setCell ⟨g, j, none⟩ (.int .u8 y)).heap[k]? = w.heap[k]? := fun k hk => Below.heap_setCell w ⟨g, j, none⟩ _ k hk
  have hset := blk_set h4 j (.int .u8 y)
  have hb : ∀ q : Nat, (∃ x : Int, cur[q]? = some (Value.int .u8 x)) → ∃ y' : Int, (cur.setIfInBounds j (.int .u8 y))[q]? = some (Value.int .u8 y') := by
    rintro q ⟨z, hz⟩
    by_cases hq : j = q
    · subst hq
      refine ⟨y, ?_⟩
      have : j < cur.size := (Array.getElem?_eq_some_iff.1 hz).1
      simp [this]
    · exact ⟨z, by rw [Array.getElem?_setIfInBounds_ne hq]; exact hz⟩
  have hb0 := (Below.refl 0 w).setCell (p := ⟨g, j, none⟩) (Nat.zero_le _) (.int .u8 y)
  refine ⟨RowOk.write (Or.inr ⟨g, cur, h1, h2, h3, h4, h5, h6, h7, h8⟩) h4 hset (by simp) hb (fun k _ _ hk => hne k hk), ⟨hb0.os, hb0.tape, hb0.output, hb0.size, fun k _ hk => hne k (by omega)⟩, fun Ao n hA => hA.write h4 hset (by simp) hb (fun k _ _ hk => hne k hk), ?_⟩
  rintro ad' i u ⟨G, cs, rfl, hcs, hu⟩
  have hGg : G ≠ g := by
    rintro rfl
    rw [h4] at hcs
    injection hcs with hcs
    injection hcs with _ hcs
    cases hcs
  exact ⟨G, cs, rfl, (hne G hGg).trans hcs, hu⟩
/-- An append whose run is known. -/
theorem wpList_append_run {P : Program} {ops : Array Oper} {rest : List Oper} {o : Oper} {a : Act} {Q : Exit → Act → World → Prop} {W w1 : World} {v1 : Value} (hgd : o.guard = none) (s x : Operand) (t : TypeId)
    (ho : o.op = .call { callee := .builtin .append, args := #[s, x], argTypes := #[t, t] }) (v u : Value) (hs : a.eval s = v) (hx : a.eval x = u) (hrun : (Builtin.append_ #[t, t] o.type #[v, u]).run P W = .ok v1 w1)
    (h : wpList P ops Q rest (a.put o.dst v1) w1) : wpList P ops Q (o :: rest) a W := by
  refine wpList_plain hgd fun K hK => ?_
  unfold Oper.wp execOp
  simp only [ho, resolve, invoke, builtin, Sem.run_bind, Sem.run_pure, Result.andThen_ok, List.map_toArray, List.map_cons, List.map_nil, hs, hx, hrun]
  exact hK _ _ h
section
variable {P : Program}
/-- append of three bytes to such a row, its answer thrown away. -/
theorem RowOk.append {w : World} {B0 B1 : Nat} {A : Option Addr} {l c : Nat} (h : RowOk w B0 B1 A l c) (hB : B1 ≤ w.heap.size) (ty : TypeId) (z : Value) (ht : P.underlying 22 = some (.slice 5)) (hinfo : (P.info? 5).map (fun i => (i.zero, i.size, i.bytes)) = some (some z, 1, 1)) (a : Addr)
    (ha : ∀ j u, ([Value.int .u8 1, Value.int .u8 2, Value.int .u8 3] : List Value)[j]? = some u → w.cell? (a.add j) = some u) :
    ∃ v1 w1, (Builtin.append_ #[22, 22] ty #[.slice A l c, .slice (some a) 3 3]).run P w = .ok v1 w1 ∧ Kp w w1 B0 B1 ∧ ∀ Ao n, Arows w B0 B1 Ao n → Arows w1 B0 B1 Ao n := by
  obtain ⟨i0, hi, hzz⟩ := Option.map_eq_some_iff.1 hinfo
  simp only [Prod.mk.injEq] at hzz
  obtain ⟨hz0, hz1, hz2⟩ := hzz
  have hnl : ([Value.int .u8 1, Value.int .u8 2, Value.int .u8 3] : List Value).length = 3 * i0.size := by rw [hz1]; rfl
  have fresh : ∀ arr : Array Value, Kp w (w.drew.alloc (.cells arr 5)) B0 B1 ∧ ∀ Ao n, Arows w B0 B1 Ao n → Arows (w.drew.alloc (.cells arr 5)) B0 B1 Ao n := fun arr => by
    have hb : ∀ k, k < w.heap.size → (w.drew.alloc (.cells arr 5)).heap[k]? = w.heap[k]? := fun k hk => Below.heap_alloc w.drew _ k hk
    exact ⟨⟨rfl, rfl, rfl, by simp, fun k hk _ => hb k hk⟩, fun Ao n hA => hA.keep fun k _ h2 => hb k (by omega)⟩
  rcases h with ⟨rfl, rfl, rfl⟩ | ⟨g, cur, rfl, h2, h3, h4, h5, h6, h7, h8⟩
  · exact ⟨_, _, run_append_nil (P := P) w 22 ty 5 i0 z ht hi hz0 a 3 3 _ hnl ha (by omega) (by omega) (by rw [hz2]; omega), fresh _⟩
  · by_cases hroom : l + 3 ≤ c
    · have hrun := run_append_room (P := P) w 22 ty 5 i0 ht hi g l c cur h4 a 3 3 _ hnl ha (by intro u hu; simp at hu; rcases hu with rfl | rfl | rfl <;> rfl) hroom (by rw [hz1, h7]; show l * 1 + 3 ≤ c; omega)
      have hset := setRow_heap w g cur (cur.toList.take (l * i0.size) ++ [Value.int .u8 1, Value.int .u8 2, Value.int .u8 3] ++ cur.toList.drop (l * i0.size + ([Value.int .u8 1, Value.int .u8 2, Value.int .u8 3] : List Value).length)).toArray 5 (0, 0) h4
      have hsz : (cur.toList.take (l * i0.size) ++ [Value.int .u8 1, Value.int .u8 2, Value.int .u8 3] ++ cur.toList.drop (l * i0.size + ([Value.int .u8 1, Value.int .u8 2, Value.int .u8 3] : List Value).length)).toArray.size = cur.size := by
        simp only [List.size_toArray, List.length_append, List.length_take, List.length_drop, Array.length_toList, hz1, List.length_cons, List.length_nil]
        omega
      refine ⟨_, _, hrun, ⟨rfl, rfl, rfl, by simp [World.setRow], fun k _ hk => setRow_other w g k _ (by omega)⟩, fun Ao n hA => hA.write h4 hset hsz ?_ (fun k _ _ hk => setRow_other w g k _ hk)⟩
      rintro j ⟨x, hx⟩
      have hjs : j < cur.size := (Array.getElem?_eq_some_iff.1 hx).1
      rw [List.getElem?_toArray, hz1, Nat.mul_one]
      simp only [List.length_cons, List.length_nil]
      have htl : (cur.toList.take l).length = l := by rw [List.length_take, Array.length_toList]; omega
      rcases Nat.lt_or_ge j l with hj | hj
      · refine ⟨x, ?_⟩
        rw [List.append_assoc, List.getElem?_append_left (by omega), List.getElem?_take, if_pos hj, Array.getElem?_toList]
        exact hx
      · rcases Nat.lt_or_ge j (l + 3) with hj3 | hj3
        · rw [List.append_assoc, List.getElem?_append_right (by omega), htl, List.getElem?_append_left (by simp; omega)]
          obtain h0 | h0 | h0 : j - l = 0 ∨ j - l = 1 ∨ j - l = 2 := by omega
          · exact ⟨1, by rw [h0]; rfl⟩
          · exact ⟨2, by rw [h0]; rfl⟩
          · exact ⟨3, by rw [h0]; rfl⟩
        · refine ⟨x, ?_⟩
          rw [List.getElem?_append_right (by simp [htl]; omega), List.getElem?_drop, Array.getElem?_toList]
          rw [← hx]
          congr 1
          simp only [List.length_append, htl, List.length_cons, List.length_nil]
          omega
    · have holds : ∀ j u, (cur.toList.take l)[j]? = some u → w.cell? ((⟨g, 0, none⟩ : Addr).add j) = some u := by
        intro j u hu
        rw [add_plain, blk_cell h4]
        rw [List.getElem?_take] at hu
        split at hu
        · rw [← Array.getElem?_toList]; exact hu
        · cases hu
      have htl : (cur.toList.take l).length = l * i0.size := by rw [List.length_take, Array.length_toList, hz1]; omega
      exact ⟨_, _, run_append_grow (P := P) w 22 ty 5 i0 z ht hi hz0 ⟨g, 0, none⟩ l c (cur.toList.take l) htl holds a 3 3 _ hnl ha (by omega) (by omega) (growslice_fits (by omega) (by rw [hz2]; omega)), fresh _⟩
end
/-- What was told, as such rows. -/
theorem Arows.of_R {w : World} {B0 : Nat} {ok : Nat → Prop} {v : Value} {xs : List (List Int)} (h : (Kd.slice 5 (Kd.int .u8)).R 22 w B0 ok v xs) (hs : ∀ x ∈ xs, x.length ≤ 1048576) :
    ∃ Ao co, v = .slice Ao xs.length co ∧ Arows w B0 w.heap.size Ao xs.length := by
  obtain ⟨_, cs, hown, hr⟩ := h
  rcases hown.2 with ⟨rfl, hn⟩ | ⟨G, cap, cur, rfl, hb, hh, hnc, hcm, hcs, htake⟩
  · exact ⟨none, 0, by rw [hn], fun i hi => by omega⟩
  · refine ⟨_, cap, rfl, fun i hi => ?_⟩
    have h1 := hr.2 i _ (List.getElem?_eq_getElem hi)
    obtain ⟨u, hu, hR⟩ := h1
    have hcl : cs.length = xs.length := by have := hr.1; rw [this]; show xs.length * 1 = _; omega
    have hu' : cs[i]? = some u := by
      have h2 : ((cs.drop (i * 1)).take 1)[0]? = some u := by
        have : (Kd.slice 5 (Kd.int .u8)).sz = 1 := rfl
        rw [this] at hu
        rw [hu]; rfl
      rw [List.getElem?_take, if_pos (by omega), List.getElem?_drop, Nat.mul_one, Nat.add_zero] at h2
      exact h2
    have hcu : cur[i]? = some u := by
      have : (Kd.slice 5 (Kd.int .u8)).sz = 1 := rfl
      rw [← htake, this, List.getElem?_take, if_pos (by omega), Array.getElem?_toList] at hu'
      exact hu'
    have hlt : G < w.heap.size := (Array.getElem?_eq_some_iff.1 hh).1
    have hown2 := Kd.own_of_R hR
    have hxl := hs _ (List.getElem_mem hi)
    rcases hown2.2 with ⟨rfl, hn2⟩ | ⟨g, cap2, cur2, rfl, hb2, hh2, hnc2, hcm2, hcs2, htake2⟩
    · exact ⟨G, cur, _, _, _, rfl, hb, hlt, hh, hcu, .inl ⟨rfl, rfl, rfl⟩⟩
    · refine ⟨G, cur, _, _, _, rfl, hb, hlt, hh, hcu, .inr ⟨g, cur2, rfl, hb2, (Array.getElem?_eq_some_iff.1 hh2).1, hh2, hnc2, hxl, by rw [hcs2, Nat.mul_one], fun j hj => ?_⟩⟩
      rw [Nat.mul_one] at htake2
      have h3 : (encs (Value.int .u8) xs[i])[j]? = cur2[j]? := by rw [← htake2, List.getElem?_take, if_pos hj, Array.getElem?_toList]
      rw [← h3, encs_get (d := (0 : Int)) _ j hj]
      exact ⟨_, rfl⟩
end Go.Proofs.Ytmceiepphhlncaa.OwnR
