/- Layer 14, plain: what a Look computes. Layer 12: the stripes of places, however many. Layer 14: the program's Look: its struct; over, again, on, lines 3 and 5. Layer 14: the program's Look: line 1. Layer 14: the program's Look: lines 2 and 6. Layer 14: the program's Look: line 6. Layer 14: the program's Look: line 4: the tags of a place. Layer 14: the program's Look: line 4: the item of a slot. Layer 14: the program's Look: a step; what it got. -/
import Derived.Test.YtifkfhnbkjkakaaGreatDoorZcSp
import Derived.Test.YtifkfhnbkjkakaaGreatDoorZcGoA
import Derived.Test.YtifkfhnbkjkakaaGreatDoorZcFiA
namespace Go.Proofs.YtifkfhnbkjkakaaGreatDoor
set_option linter.unusedSimpArgs false
set_option linter.unusedVariables false
section
structure Lkm where
 ln : Nat
 left : Int
 tab : Int
 all : List (Int × Int)
 vs : List (Int × Int)
 pos : Nat
 sl : List Int
 ref : Int
 ep : Int
 pt : Int
 fl : Bool
end
section
open Go.RowKit
structure Lw (w0 : World) (O0 : Om) (wS : World) (OS : Om) (w : World) (O : Om) (B : Wb) (f : Cf) (s : AW) (k X : Nat) (cs : List Value) : Prop where
 m : Me k (k + 3) w0 O0 w O B f s k X cs
 x : Ext (SX k (k + 2)) OS wS O w
end
end Go.Proofs.YtifkfhnbkjkakaaGreatDoor
