/- Layer 9: the chapter's examples. -/
import Derived.Test.YtcgjopjjmgpobaaNtMore
namespace Go.Proofs.Ytcgjopjjmgpobaa
open Go.RowKit
set_option linter.unusedVariables false

def nx1 : Nt := ⟨4, 0, 1, 9, 0, 0, 0, 0⟩
def nx2 : Nt := ⟨3, 0, 9, 0, 0, 0, 0, 0⟩
def nx3 : Nt := ⟨4, 0, 10, 0, 0, 0, 0, 0⟩
def nx4 : Nt := ⟨4, 0, 9, 0, 0, 0, 0, 0⟩
set_option maxHeartbeats 1000000 in
set_option maxRecDepth 100000 in
theorem c_lives09 (w : World) : Calls Try.prog 34 #[] w fun e w' => e = .returned (.bool true) ∧ Below w.heap.size w w' := by
  have a1 : ntErr [] nx1 = 0 := by decide
  have a2 : ntErr [nx1] nx2 = 1 := by decide
  have a3 : ntErr [nx1] nx3 = 1 := by decide
  have a4 : ntErr [nx1] nx4 = 0 := by decide
  have b1 := ntAdd_ok a1
  have b2 := ntAdd_no (l := [nx1]) (n := nx2) (by rw [a2]; decide)
  have b3 := ntAdd_no (l := [nx1]) (n := nx3) (by rw [a3]; decide)
  have b4 := ntAdd_ok a4
  have d1 : ntDropped 9 [nx1, nx4] = (0, true) := by decide
  have d2 : ntDropped 4 [nx1, nx4] = (0, false) := by decide
  have B1 := Lib.hid b1
  have B2 := Lib.hid b2
  have B3 := Lib.hid b3
  have B4 := Lib.hid b4
  have A1 := Lib.hid a1
  have A2 := Lib.hid a2
  have A3 := Lib.hid a3
  have A4 := Lib.hid a4
  have D1 := Lib.hid d1
  have D2 := Lib.hid d2
  clear a1 a2 a3 a4 b1 b2 b3 b4 d1 d2
  go_enter Try.func34, Try.ntmps34
  go_wp2_with fail
  refine (c_New _).mono ?_
  rintro e w' ⟨rfl, rfl⟩
  have n0 := NLx.new (Below.refl w.heap.size w) w.heap.size rfl
  have N0 := Lib.hid n0
  clear n0
  go_wp2_with fail
  refine (c_Addx nx1 _ _ _ _ _ N0.out (by decide) (by decide)).mono ?_
  rintro e w1 ⟨rfl, v1, n1⟩
  rw [A1.out]
  rw [B1.out] at n1
  have N1 := Lib.hid n1
  clear n1
  go_wp2_with fail
  refine (c_Addx nx2 _ _ _ _ _ N1.out (by decide) (by decide)).mono ?_
  rintro e w2 ⟨rfl, v2, n2⟩
  rw [List.nil_append, A2.out]
  rw [List.nil_append, B2.out] at n2
  have N2 := Lib.hid n2
  clear n2
  go_wp2_with fail
  refine (c_Addx nx3 _ _ _ _ _ N2.out (by decide) (by decide)).mono ?_
  rintro e w3 ⟨rfl, v3, n3⟩
  rw [A3.out]
  rw [B3.out] at n3
  have N3 := Lib.hid n3
  clear n3
  go_wp2_with fail
  refine (c_Addx nx4 _ _ _ _ _ N3.out (by decide) (by decide)).mono ?_
  rintro e w4 ⟨rfl, v4, n4⟩
  rw [A4.out]
  rw [B4.out] at n4
  have N4 := Lib.hid n4
  clear n4
  go_wp2_with fail
  refine (c_Of _ _ _ _ _ N4.out.nl.head N4.out.nl.lt N4.out.arr (by decide)).mono ?_
  rintro e w5 ⟨⟨v5, rfl, hf⟩, hb5⟩
  have N5 := Lib.hid (N4.out.go hb5)
  have hA := Lib.hid hf.arr
  clear hf
  go_wp2_with fail
  refine (c_Dropped _ _ _ _ _ N5.out.nl.head N5.out.arr (by decide)).mono ?_
  rintro e w6 ⟨rfl, hb6⟩
  have N6 := Lib.hid (N5.out.go hb6)
  rw [show [nx1] ++ [nx4] = [nx1, nx4] from rfl, D1.out]
  go_wp2_with fail
  refine (c_Dropped _ _ _ _ _ N6.out.nl.head N6.out.arr (by decide)).mono ?_
  rintro e w7 ⟨rfl, hb7⟩
  have N7 := Lib.hid (N6.out.go hb7)
  rw [show [nx1] ++ [nx4] = [nx1, nx4] from rfl, D2.out]
  have e5 : ntOf ([nx1] ++ [nx4]) 9 = [nx4] := rfl
  rw [e5] at hA
  obtain ⟨b, o, cp, rfl, hcp, hm, hlt, hx⟩ := hA.out.open (by decide) (by decide)
  have hat5 := ntAt_row hx 0 (by decide)
  have hat7 := (hat5.below hb6 hlt).below hb7 (Nat.lt_of_lt_of_le hlt hb6.size)
  obtain ⟨q0, q1, q2, q3, q4, q5, q6, q7⟩ := hat7.all
  simp only [Nat.zero_mul, Nat.add_zero, List.getElem_cons_zero, nx4] at q0 q1 q2 q3 q4 q5 q6 q7
  obtain ⟨ao, cp7, rfl, -, -⟩ := N7.out.arr.shape
  have hc7 := N7.out.nl.head
  have HB := Lib.hid N7.out.below
  clear hat5 hat7 hx e5 hA hb5 hb6 hb7 N0 N1 N2 N3 N4 N5 N6 N7
  go_wp2_with (first | (go_at_call 36; refine (c_Count _ ao 2 cp7 _ hc7).mono ?_; rintro e w8 ⟨rfl, rfl⟩) | (go_at_call_of 39 (5 : Int); refine (viaC (c_Name 5 _ (by decide) (by decide))).mono ?_; rintro e w8 ⟨rfl, m1, rfl⟩; rw [show ntName 5 = ⟨#[115, 119, 97, 112]⟩ from rfl]) | (go_at_call 39; refine (viaC (c_Name 10 _ (by decide) (by decide))).mono ?_; rintro e w8 ⟨rfl, m2, rfl⟩; rw [show ntName 10 = ⟨#[63]⟩ from rfl]))
  go_ret
  exact ⟨rfl, below_via (below_via HB.out _) _⟩
end Go.Proofs.Ytcgjopjjmgpobaa
