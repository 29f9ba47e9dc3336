/- Layers 15, 25, plain: what a Find, and a Store in a world of one table with room, compute. -/
import Derived.Test.YtifkfhnbkjkakaaGreatDoorZrWyA
import Derived.Test.YtifkfhnbkjkakaaGreatDoorZrBaH
namespace Go.Proofs.YtifkfhnbkjkakaaGreatDoor
set_option linter.unusedSimpArgs false
set_option linter.unusedVariables false
inductive Fl where
 | tb
 | tg (b q : Int)
 | im (b q s : Int)
structure Fdm where
 left : List Fl
 word : Int
 p : Spt
 ref : Int
def fdNew : Fdm := ⟨[.tb], 0, sp20, 0⟩
def twHas (w tag : Int) : List Int := [0, 1, 2, 3].filter fun s => decide (twTag w s = tag)
def kyH (k : ByteArray) : Int := fnvHash k.data.toList
def fdHit (it : List It) (r : Int) (k : ByteArray) : Bool := decide (1 ≤ r) && match it[(r - 1).toNat]? with
 | some x => decide (x.key = k)
 | none => false
def fdStep (key : ByteArray) (x : AW × Fdm) : AW × Fdm :=
 match x.2.left with
 | [] => x
 | .tb :: r => (awLoad 2 x.1, ⟨r ++ (plPlaces (kyH key) (x.1.M 2)).map fun p => .tg p.1 p.2, x.1.M 2, x.2.p, x.2.ref⟩)
 | .tg b q :: r => (awLoad (plTags b q) x.1, ⟨(twHas (x.1.M (plTags b q)) (fnvTag (kyH key))).map (.im b q) ++ r, x.2.word, x.2.p, x.2.ref⟩)
 | .im b q s :: r => (awLoad (plItem b q s) x.1, if fdHit x.1.it (x.1.M (plItem b q s)) key then ⟨[], x.2.word, ⟨b, q, s⟩, x.1.M (plItem b q s)⟩ else ⟨r, x.2.word, x.2.p, x.2.ref⟩)
structure Clm where
 verb : Int
 key : ByteArray
 val : ByteArray
 fl : Int
 exp : Int
 id : Int
 by_ : Int
structure Stm where
 ln : Nat
 tk : Tkm
 fd : Fdm
 ml : List Int
 rm : Rmm
 pu : Otm
 p : Spt
 ref : Int
 id : Int
 an : Int
 nu : Int
 ep : Int
 pt : Int
def stZ : Stm := ⟨0, ⟨1, 0, false⟩, fdNew, [], ⟨0, 0, 0, 0, wy0, ho0, sp20, false⟩, ⟨0, 0⟩, sp20, 0, 0, 0, 0, 0, 0⟩
def stNew : Stm := { stZ with ln := 1 }
def stOver (z : Stm) : Bool := z.ln == 0
def stVer (p : Spt) : List Int := [plVersion p.b p.q]
def stIt (c : Clm) (id ep : Int) : It := ⟨c.key, c.val, c.fl, id, epDies ep c.exp, epGen ep⟩
def awItem (x : It) (s : AW) : AW := ⟨s.M, s.n, s.la, s.tk, s.ho, s.it ++ [x], s.nt⟩
def stDecide (c : Clm) (was : It) (ep : Int) : Option Int :=
 if (c.verb = 4 ∧ epAlive was.dies was.gen ep = true) ∨ (c.verb = 5 ∧ epAlive was.dies was.gen ep = false) then some 2
 else if c.verb = 6 ∧ epAlive was.dies was.gen ep = false then some 4
 else if c.verb = 6 ∧ was.id ≠ c.id then some 3
 else none
def stStep (t : Nat) (c : Clm) (mo : Int) (x : AW × Stm) : AW × Stm :=
 let s := x.1
 let z := x.2
 match z.ln with
 | 1 => let y := tkStep t s z.tk; (y.1, { z with tk := y.2, ln := if y.2.ln = 0 then 2 else 1 })
 | 2 => (awLoad 2 s, { z with ln := 3, fd := fdNew })
 | 3 =>
   let y := fdStep c.key (s, z.fd)
   (y.1, match y.2.left with
     | [] => if 0 < y.2.ref then { z with fd := y.2, ln := 4, p := y.2.p, ref := y.2.ref, ml := stVer y.2.p } else { z with fd := y.2, ln := if c.verb = 5 ∨ c.verb = 6 then 10 else 11 }
     | _ :: _ => { z with fd := y.2 })
 | 4 => (awAdd (z.ml.headD 0) 1 s, { z with ml := z.ml.tail, ln := if z.ml.tail = [] then 5 else 4 })
 | 5 => (awLoad 8 s, match stDecide c (itAt s.it z.ref) (s.M 8) with
    | some k => { z with ep := s.M 8, pt := s.n + 1, an := k, nu := 0, ln := 8, ml := stVer z.p }
    | none => { z with ep := s.M 8, pt := s.n + 1, ln := 6 })
 | 6 => (awItem (stIt c ((s.M 7 + 1) % 18446744073709551616) z.ep) (awAdd 7 1 s), { z with ln := 7, ref := s.it.length + 1, id := (s.M 7 + 1) % 18446744073709551616 })
 | 7 => (awStore z.p.item z.ref s, { z with ln := 8, an := 1, nu := z.id, ml := stVer z.p })
 | 8 => (awAdd (z.ml.headD 0) 1 s, { z with ml := z.ml.tail, ln := if z.ml.tail = [] then 9 else 8 })
 | 9 => (awGive s, { z with ln := 0 })
 | 10 => (awLoad 8 s, { z with ep := s.M 8, pt := s.n + 1, an := if c.verb = 6 then 4 else 2, nu := 0, ln := 9 })
 | 11 => (awLoad 6 s, { z with ln := 12 })
 | 12 => (awLoad 2 s, { z with ln := 13, rm := rmNew (plOld (s.M 2)) (kyH c.key) })
 | 13 => let y := rmStep mo (s, z.rm); (y.1, if y.2.ln = 0 then { z with rm := y.2, p := y.2.p, ln := 14, ml := stVer y.2.p } else { z with rm := y.2 })
 | 14 => (awAdd (z.ml.headD 0) 1 s, { z with ml := z.ml.tail, ln := if z.ml.tail = [] then 15 else 14 })
 | 15 => (awLoad 8 s, { z with ep := s.M 8, pt := s.n + 1, ln := 16 })
 | 16 => (awItem (stIt c ((s.M 7 + 1) % 18446744073709551616) z.ep) (awAdd 7 1 s), { z with ln := 17, ref := s.it.length + 1, id := (s.M 7 + 1) % 18446744073709551616, pu := ⟨0, 0⟩ })
 | 17 => let y := putStep z.p (fnvTag (kyH c.key)) z.ref s z.pu; (y.1, { z with pu := y.2, ln := if y.2.ln = 3 then 18 else 17 })
 | 18 => (awAdd 6 1 s, { z with ln := 8, an := 1, nu := z.id, ml := stVer z.p })
 | _ => x
def stRun (t : Nat) (c : Clm) (s : AW) : Nat × (AW × Stm) := runN stOver (stStep t c 16) 200000 (s, stNew)
def kA : ByteArray := ⟨#[97]⟩
def cl1 : Clm := ⟨3, kA, ⟨#[53]⟩, 0, 0, 0, 0⟩
def cl2 : Clm := ⟨4, kA, ⟨#[]⟩, 0, 0, 0, 0⟩
def cl3 : Clm := ⟨6, kA, ⟨#[]⟩, 0, 0, 2, 0⟩
def cl4 : Clm := ⟨6, kA, ⟨#[]⟩, 0, 0, 1, 0⟩
def u1 : Nat × (AW × Stm) := stRun 3 cl1 (aw0 2)
def u2 : Nat × (AW × Stm) := stRun 3 cl2 u1.2.1
def u3 : Nat × (AW × Stm) := stRun 3 cl3 u2.2.1
def u4 : Nat × (AW × Stm) := stRun 3 cl4 u3.2.1
end Go.Proofs.YtifkfhnbkjkakaaGreatDoor
