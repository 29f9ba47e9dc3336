/- Layer 14, plain: what a Look computes. Layer 12: the stripes of places, however many. Layer 14: the program's Look: its struct; over, again, on, lines 3 and 5. Layer 14: the program's Look: line 1. Layer 14: the program's Look: lines 2 and 6. Layer 14: the program's Look: line 6. Layer 14: the program's Look: line 4: the tags of a place. Layer 14: the program's Look: line 4: the item of a slot. Layer 14: the program's Look: a step; what it got. -/
import Derived.Test.YtifkfhnbkjkakaaGreatDoorZrSp
import Derived.Test.YtifkfhnbkjkakaaGreatDoorZrGoA
import Derived.Test.YtifkfhnbkjkakaaGreatDoorZrFiA
namespace Go.Proofs.YtifkfhnbkjkakaaGreatDoor
set_option linter.unusedSimpArgs false
set_option linter.unusedVariables false
section
structure Lkm where
 ln : Nat
 left : Int
 tab : Int
 all : List (Int × Int)
 vs : List (Int × Int)
 pos : Nat
 sl : List Int
 ref : Int
 ep : Int
 pt : Int
 fl : Bool
def lkAgain (s : AW) (z : Lkm) : AW × Lkm :=
 if z.left = 0 then (s, { z with ln := 0, fl := true }) else (awNote 6 0 0 0 0 (z.left - 1) s, { z with left := z.left - 1, ln := 1 })
end
section
open Go.RowKit
theorem Sls.arr {w : World} {O : Om} {g size n : Nat} {v : Value} {xs : List Value} (h : Sls w O g size v n xs) (hs : 0 < size) : Arr w v n size xs := by
 obtain ⟨ao, c, rfl, h2, h3, h4, h5⟩ := h.ex
 refine ⟨h4, ao, c, rfl, h2, h3, fun j u hu => ?_⟩
 rcases h5 with ⟨rfl, rfl, rfl⟩ | ⟨b, o, cs, rfl, q1, q2, q3⟩
 · have := (List.getElem?_eq_some_iff.1 hu).1; omega
 · exact ⟨b, o, rfl, q1.lt, h.c j u hu⟩
end
section
open Go.RowKit
theorem Sls.set {w : World} {O : Om} {g size n cp b o : Nat} {xs : List Value} (h : Sls w O g size (.slice (some ⟨b, o, none⟩) n cp) n xs) (j : Nat) (u : Value) (hj : j < xs.length) : Sls (w.setCell ⟨b, o + j, none⟩ u) O g size (.slice (some ⟨b, o, none⟩) n cp) n (xs.set j u) := by
 obtain ⟨ao, c, he, h2, h3, h4, h5⟩ := h.ex
 cases he
 rcases h5 with ⟨hn, -⟩ | ⟨b', o', cs, e, q1, q2, q3⟩
 · cases hn
 · cases e
   have hm : n * size ≤ cp * size := Nat.mul_le_mul_right _ h2
   refine ⟨_, cp, rfl, h2, h3, by rw [List.length_set]; exact h4, .inr ⟨b, o, cs.set (o + j) u, rfl, q1.set _ _ (by omega), by rw [List.length_set]; exact q2, ?_⟩⟩
   rw [List.drop_set, if_neg (by omega), List.take_set, q3, Nat.add_sub_cancel_left]
end
end Go.Proofs.YtifkfhnbkjkakaaGreatDoor
