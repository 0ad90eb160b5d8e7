/- Any sum, difference and product is the exact one, or refused just where that is none of 64 bits: the walk of the law, one theorem for each of its eight ways, out of what the callees answer. No condition beyond what each theorem states. -/
import Derived.Test.YtnkmoigimkieeaaQ4
import Derived.Test.YtnkmoigimkieeaaQ22
import Derived.Test.YtnkmoigimkieeaaQ23
import Derived.Test.YtnkmoigimkieeaaQ24
import Derived.Test.YtnkmoigimkieeaaQ25
namespace Go.Proofs.Ytnkmoigimkieeaa.SumsWalk
open Go.RowKit Go.Proofs.Ytnkmoigimkieeaa.Q Go.Proofs.YtnkmoigimkieeaaW.PrintWords Go.Proofs.YtnkmoigimkieeaaW.PrintLast Go.Proofs.YtnkmoigimkieeaaW.PrintMore

set_option maxHeartbeats 4000000 in
set_option maxRecDepth 100000 in
theorem way000 (k : Nat) (a b s d hi lo : Int) (w : World) (h1 : num_Add.f a b = some (s, 0)) (h2 : num_Sub.f a b = some (d, 0)) (h3 : num_Mul.f k a b = some (lo, 0)) (h4 : veneerref01_Wide.f a b = some (hi, lo)) (h5 : veneerlaw01_works.f k = some true)
    (hs : decide (a ≤ IntKind.u64.wrap (18446744073709551615 - b)) = true) (hs2 : (IntKind.u64.wrap (s - b) != a) = false) (hd : decide (b ≤ a) = true) (hd' : decide (a < b) = false) (hd2 : (IntKind.u64.wrap (d + b) != a) = false) (hh : decide (0 < hi) = false) :
    Calls Try.prog 11 #[.int .u64 a, .int .u64 b] w fun e w' => e = .returned (.bool true) ∧ Below w.heap.size w w' := by
  have H1 := Aside0.mk h1
  have H2 := Aside0.mk h2
  have H3 := Aside0.mk h3
  have H4 := Aside0.mk h4
  have H5 := Aside0.mk h5
  clear h1 h2 h3 h4 h5
  go_enter Try.func11, Try.ntmps11
  go_wp2_with (first | (go_at_call 26; refine (num_Add.calls _ _ _ _ _ H1.out).mono ?_; rintro e w' ⟨rfl, ⟨n1, rfl⟩⟩) | (go_at_call 27; refine (num_Sub.calls _ _ _ _ _ H2.out).mono ?_; rintro e w' ⟨rfl, ⟨n2, rfl⟩⟩) | (go_at_call 28; refine (num_Mul.calls k _ _ _ _ _ H3.out).mono ?_; rintro e w' ⟨rfl, ⟨n3, rfl⟩⟩) | (go_at_call 29; refine (veneerref01_Wide.calls _ _ _ _ _ H4.out).mono ?_; rintro e w' ⟨rfl, ⟨n4, rfl⟩⟩) | (go_at_call 14; refine (veneerlaw01_works.calls k true _ H5.out).mono ?_; rintro e w' ⟨rfl, hb⟩))
  go_ret
  exact ⟨rfl, by first | exact hb | exact (pw_below_drewN (Below.refl _ _) _).trans (hb.mono (by simp)) | exact (pw_below_drewN (Below.refl _ _) _).trans hb⟩

set_option maxHeartbeats 4000000 in
set_option maxRecDepth 100000 in
theorem way001 (k : Nat) (a b s d hi lo : Int) (w : World) (h1 : num_Add.f a b = some (s, 0)) (h2 : num_Sub.f a b = some (d, 0)) (h3 : num_Mul.f k a b = some (0, 3)) (h4 : veneerref01_Wide.f a b = some (hi, lo)) (h5 : veneerlaw01_works.f k = some true)
    (hs : decide (a ≤ IntKind.u64.wrap (18446744073709551615 - b)) = true) (hs2 : (IntKind.u64.wrap (s - b) != a) = false) (hd : decide (b ≤ a) = true) (hd' : decide (a < b) = false) (hd2 : (IntKind.u64.wrap (d + b) != a) = false) (hh : decide (0 < hi) = true) :
    Calls Try.prog 11 #[.int .u64 a, .int .u64 b] w fun e w' => e = .returned (.bool true) ∧ Below w.heap.size w w' := by
  have H1 := Aside0.mk h1
  have H2 := Aside0.mk h2
  have H3 := Aside0.mk h3
  have H4 := Aside0.mk h4
  have H5 := Aside0.mk h5
  clear h1 h2 h3 h4 h5
  go_enter Try.func11, Try.ntmps11
  go_wp2_with (first | (go_at_call 26; refine (num_Add.calls _ _ _ _ _ H1.out).mono ?_; rintro e w' ⟨rfl, ⟨n1, rfl⟩⟩) | (go_at_call 27; refine (num_Sub.calls _ _ _ _ _ H2.out).mono ?_; rintro e w' ⟨rfl, ⟨n2, rfl⟩⟩) | (go_at_call 28; refine (num_Mul.calls k _ _ _ _ _ H3.out).mono ?_; rintro e w' ⟨rfl, ⟨n3, rfl⟩⟩) | (go_at_call 29; refine (veneerref01_Wide.calls _ _ _ _ _ H4.out).mono ?_; rintro e w' ⟨rfl, ⟨n4, rfl⟩⟩) | (go_at_call 14; refine (veneerlaw01_works.calls k true _ H5.out).mono ?_; rintro e w' ⟨rfl, hb⟩))
  go_ret
  exact ⟨rfl, by first | exact hb | exact (pw_below_drewN (Below.refl _ _) _).trans (hb.mono (by simp)) | exact (pw_below_drewN (Below.refl _ _) _).trans hb⟩

set_option maxHeartbeats 4000000 in
set_option maxRecDepth 100000 in
theorem way010 (k : Nat) (a b s hi lo : Int) (w : World) (h1 : num_Add.f a b = some (s, 0)) (h2 : num_Sub.f a b = some (0, 3)) (h3 : num_Mul.f k a b = some (lo, 0)) (h4 : veneerref01_Wide.f a b = some (hi, lo)) (h5 : veneerlaw01_works.f k = some true)
    (hs : decide (a ≤ IntKind.u64.wrap (18446744073709551615 - b)) = true) (hs2 : (IntKind.u64.wrap (s - b) != a) = false) (hd : decide (b ≤ a) = false) (hd' : decide (a < b) = true)  (hh : decide (0 < hi) = false) :
    Calls Try.prog 11 #[.int .u64 a, .int .u64 b] w fun e w' => e = .returned (.bool true) ∧ Below w.heap.size w w' := by
  have H1 := Aside0.mk h1
  have H2 := Aside0.mk h2
  have H3 := Aside0.mk h3
  have H4 := Aside0.mk h4
  have H5 := Aside0.mk h5
  clear h1 h2 h3 h4 h5
  go_enter Try.func11, Try.ntmps11
  go_wp2_with (first | (go_at_call 26; refine (num_Add.calls _ _ _ _ _ H1.out).mono ?_; rintro e w' ⟨rfl, ⟨n1, rfl⟩⟩) | (go_at_call 27; refine (num_Sub.calls _ _ _ _ _ H2.out).mono ?_; rintro e w' ⟨rfl, ⟨n2, rfl⟩⟩) | (go_at_call 28; refine (num_Mul.calls k _ _ _ _ _ H3.out).mono ?_; rintro e w' ⟨rfl, ⟨n3, rfl⟩⟩) | (go_at_call 29; refine (veneerref01_Wide.calls _ _ _ _ _ H4.out).mono ?_; rintro e w' ⟨rfl, ⟨n4, rfl⟩⟩) | (go_at_call 14; refine (veneerlaw01_works.calls k true _ H5.out).mono ?_; rintro e w' ⟨rfl, hb⟩))
  go_ret
  exact ⟨rfl, by first | exact hb | exact (pw_below_drewN (Below.refl _ _) _).trans (hb.mono (by simp)) | exact (pw_below_drewN (Below.refl _ _) _).trans hb⟩

set_option maxHeartbeats 4000000 in
set_option maxRecDepth 100000 in
theorem way011 (k : Nat) (a b s hi lo : Int) (w : World) (h1 : num_Add.f a b = some (s, 0)) (h2 : num_Sub.f a b = some (0, 3)) (h3 : num_Mul.f k a b = some (0, 3)) (h4 : veneerref01_Wide.f a b = some (hi, lo)) (h5 : veneerlaw01_works.f k = some true)
    (hs : decide (a ≤ IntKind.u64.wrap (18446744073709551615 - b)) = true) (hs2 : (IntKind.u64.wrap (s - b) != a) = false) (hd : decide (b ≤ a) = false) (hd' : decide (a < b) = true)  (hh : decide (0 < hi) = true) :
    Calls Try.prog 11 #[.int .u64 a, .int .u64 b] w fun e w' => e = .returned (.bool true) ∧ Below w.heap.size w w' := by
  have H1 := Aside0.mk h1
  have H2 := Aside0.mk h2
  have H3 := Aside0.mk h3
  have H4 := Aside0.mk h4
  have H5 := Aside0.mk h5
  clear h1 h2 h3 h4 h5
  go_enter Try.func11, Try.ntmps11
  go_wp2_with (first | (go_at_call 26; refine (num_Add.calls _ _ _ _ _ H1.out).mono ?_; rintro e w' ⟨rfl, ⟨n1, rfl⟩⟩) | (go_at_call 27; refine (num_Sub.calls _ _ _ _ _ H2.out).mono ?_; rintro e w' ⟨rfl, ⟨n2, rfl⟩⟩) | (go_at_call 28; refine (num_Mul.calls k _ _ _ _ _ H3.out).mono ?_; rintro e w' ⟨rfl, ⟨n3, rfl⟩⟩) | (go_at_call 29; refine (veneerref01_Wide.calls _ _ _ _ _ H4.out).mono ?_; rintro e w' ⟨rfl, ⟨n4, rfl⟩⟩) | (go_at_call 14; refine (veneerlaw01_works.calls k true _ H5.out).mono ?_; rintro e w' ⟨rfl, hb⟩))
  go_ret
  exact ⟨rfl, by first | exact hb | exact (pw_below_drewN (Below.refl _ _) _).trans (hb.mono (by simp)) | exact (pw_below_drewN (Below.refl _ _) _).trans hb⟩

set_option maxHeartbeats 4000000 in
set_option maxRecDepth 100000 in
theorem way100 (k : Nat) (a b d hi lo : Int) (w : World) (h1 : num_Add.f a b = some (0, 3)) (h2 : num_Sub.f a b = some (d, 0)) (h3 : num_Mul.f k a b = some (lo, 0)) (h4 : veneerref01_Wide.f a b = some (hi, lo)) (h5 : veneerlaw01_works.f k = some true)
    (hs : decide (a ≤ IntKind.u64.wrap (18446744073709551615 - b)) = false)  (hd : decide (b ≤ a) = true) (hd' : decide (a < b) = false) (hd2 : (IntKind.u64.wrap (d + b) != a) = false) (hh : decide (0 < hi) = false) :
    Calls Try.prog 11 #[.int .u64 a, .int .u64 b] w fun e w' => e = .returned (.bool true) ∧ Below w.heap.size w w' := by
  have H1 := Aside0.mk h1
  have H2 := Aside0.mk h2
  have H3 := Aside0.mk h3
  have H4 := Aside0.mk h4
  have H5 := Aside0.mk h5
  clear h1 h2 h3 h4 h5
  go_enter Try.func11, Try.ntmps11
  go_wp2_with (first | (go_at_call 26; refine (num_Add.calls _ _ _ _ _ H1.out).mono ?_; rintro e w' ⟨rfl, ⟨n1, rfl⟩⟩) | (go_at_call 27; refine (num_Sub.calls _ _ _ _ _ H2.out).mono ?_; rintro e w' ⟨rfl, ⟨n2, rfl⟩⟩) | (go_at_call 28; refine (num_Mul.calls k _ _ _ _ _ H3.out).mono ?_; rintro e w' ⟨rfl, ⟨n3, rfl⟩⟩) | (go_at_call 29; refine (veneerref01_Wide.calls _ _ _ _ _ H4.out).mono ?_; rintro e w' ⟨rfl, ⟨n4, rfl⟩⟩) | (go_at_call 14; refine (veneerlaw01_works.calls k true _ H5.out).mono ?_; rintro e w' ⟨rfl, hb⟩))
  go_ret
  exact ⟨rfl, by first | exact hb | exact (pw_below_drewN (Below.refl _ _) _).trans (hb.mono (by simp)) | exact (pw_below_drewN (Below.refl _ _) _).trans hb⟩

set_option maxHeartbeats 4000000 in
set_option maxRecDepth 100000 in
theorem way101 (k : Nat) (a b d hi lo : Int) (w : World) (h1 : num_Add.f a b = some (0, 3)) (h2 : num_Sub.f a b = some (d, 0)) (h3 : num_Mul.f k a b = some (0, 3)) (h4 : veneerref01_Wide.f a b = some (hi, lo)) (h5 : veneerlaw01_works.f k = some true)
    (hs : decide (a ≤ IntKind.u64.wrap (18446744073709551615 - b)) = false)  (hd : decide (b ≤ a) = true) (hd' : decide (a < b) = false) (hd2 : (IntKind.u64.wrap (d + b) != a) = false) (hh : decide (0 < hi) = true) :
    Calls Try.prog 11 #[.int .u64 a, .int .u64 b] w fun e w' => e = .returned (.bool true) ∧ Below w.heap.size w w' := by
  have H1 := Aside0.mk h1
  have H2 := Aside0.mk h2
  have H3 := Aside0.mk h3
  have H4 := Aside0.mk h4
  have H5 := Aside0.mk h5
  clear h1 h2 h3 h4 h5
  go_enter Try.func11, Try.ntmps11
  go_wp2_with (first | (go_at_call 26; refine (num_Add.calls _ _ _ _ _ H1.out).mono ?_; rintro e w' ⟨rfl, ⟨n1, rfl⟩⟩) | (go_at_call 27; refine (num_Sub.calls _ _ _ _ _ H2.out).mono ?_; rintro e w' ⟨rfl, ⟨n2, rfl⟩⟩) | (go_at_call 28; refine (num_Mul.calls k _ _ _ _ _ H3.out).mono ?_; rintro e w' ⟨rfl, ⟨n3, rfl⟩⟩) | (go_at_call 29; refine (veneerref01_Wide.calls _ _ _ _ _ H4.out).mono ?_; rintro e w' ⟨rfl, ⟨n4, rfl⟩⟩) | (go_at_call 14; refine (veneerlaw01_works.calls k true _ H5.out).mono ?_; rintro e w' ⟨rfl, hb⟩))
  go_ret
  exact ⟨rfl, by first | exact hb | exact (pw_below_drewN (Below.refl _ _) _).trans (hb.mono (by simp)) | exact (pw_below_drewN (Below.refl _ _) _).trans hb⟩

set_option maxHeartbeats 4000000 in
set_option maxRecDepth 100000 in
theorem way110 (k : Nat) (a b hi lo : Int) (w : World) (h1 : num_Add.f a b = some (0, 3)) (h2 : num_Sub.f a b = some (0, 3)) (h3 : num_Mul.f k a b = some (lo, 0)) (h4 : veneerref01_Wide.f a b = some (hi, lo)) (h5 : veneerlaw01_works.f k = some true)
    (hs : decide (a ≤ IntKind.u64.wrap (18446744073709551615 - b)) = false)  (hd : decide (b ≤ a) = false) (hd' : decide (a < b) = true)  (hh : decide (0 < hi) = false) :
    Calls Try.prog 11 #[.int .u64 a, .int .u64 b] w fun e w' => e = .returned (.bool true) ∧ Below w.heap.size w w' := by
  have H1 := Aside0.mk h1
  have H2 := Aside0.mk h2
  have H3 := Aside0.mk h3
  have H4 := Aside0.mk h4
  have H5 := Aside0.mk h5
  clear h1 h2 h3 h4 h5
  go_enter Try.func11, Try.ntmps11
  go_wp2_with (first | (go_at_call 26; refine (num_Add.calls _ _ _ _ _ H1.out).mono ?_; rintro e w' ⟨rfl, ⟨n1, rfl⟩⟩) | (go_at_call 27; refine (num_Sub.calls _ _ _ _ _ H2.out).mono ?_; rintro e w' ⟨rfl, ⟨n2, rfl⟩⟩) | (go_at_call 28; refine (num_Mul.calls k _ _ _ _ _ H3.out).mono ?_; rintro e w' ⟨rfl, ⟨n3, rfl⟩⟩) | (go_at_call 29; refine (veneerref01_Wide.calls _ _ _ _ _ H4.out).mono ?_; rintro e w' ⟨rfl, ⟨n4, rfl⟩⟩) | (go_at_call 14; refine (veneerlaw01_works.calls k true _ H5.out).mono ?_; rintro e w' ⟨rfl, hb⟩))
  go_ret
  exact ⟨rfl, by first | exact hb | exact (pw_below_drewN (Below.refl _ _) _).trans (hb.mono (by simp)) | exact (pw_below_drewN (Below.refl _ _) _).trans hb⟩

set_option maxHeartbeats 4000000 in
set_option maxRecDepth 100000 in
theorem way111 (k : Nat) (a b hi lo : Int) (w : World) (h1 : num_Add.f a b = some (0, 3)) (h2 : num_Sub.f a b = some (0, 3)) (h3 : num_Mul.f k a b = some (0, 3)) (h4 : veneerref01_Wide.f a b = some (hi, lo)) (h5 : veneerlaw01_works.f k = some true)
    (hs : decide (a ≤ IntKind.u64.wrap (18446744073709551615 - b)) = false)  (hd : decide (b ≤ a) = false) (hd' : decide (a < b) = true)  (hh : decide (0 < hi) = true) :
    Calls Try.prog 11 #[.int .u64 a, .int .u64 b] w fun e w' => e = .returned (.bool true) ∧ Below w.heap.size w w' := by
  have H1 := Aside0.mk h1
  have H2 := Aside0.mk h2
  have H3 := Aside0.mk h3
  have H4 := Aside0.mk h4
  have H5 := Aside0.mk h5
  clear h1 h2 h3 h4 h5
  go_enter Try.func11, Try.ntmps11
  go_wp2_with (first | (go_at_call 26; refine (num_Add.calls _ _ _ _ _ H1.out).mono ?_; rintro e w' ⟨rfl, ⟨n1, rfl⟩⟩) | (go_at_call 27; refine (num_Sub.calls _ _ _ _ _ H2.out).mono ?_; rintro e w' ⟨rfl, ⟨n2, rfl⟩⟩) | (go_at_call 28; refine (num_Mul.calls k _ _ _ _ _ H3.out).mono ?_; rintro e w' ⟨rfl, ⟨n3, rfl⟩⟩) | (go_at_call 29; refine (veneerref01_Wide.calls _ _ _ _ _ H4.out).mono ?_; rintro e w' ⟨rfl, ⟨n4, rfl⟩⟩) | (go_at_call 14; refine (veneerlaw01_works.calls k true _ H5.out).mono ?_; rintro e w' ⟨rfl, hb⟩))
  go_ret
  exact ⟨rfl, by first | exact hb | exact (pw_below_drewN (Below.refl _ _) _).trans (hb.mono (by simp)) | exact (pw_below_drewN (Below.refl _ _) _).trans hb⟩

end Go.Proofs.Ytnkmoigimkieeaa.SumsWalk
