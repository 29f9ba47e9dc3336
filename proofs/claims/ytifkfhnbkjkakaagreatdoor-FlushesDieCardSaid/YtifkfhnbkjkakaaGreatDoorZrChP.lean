/- Layer 26, plain: what a Change computes in a world of one table with room for a record. -/
import Derived.Test.YtifkfhnbkjkakaaGreatDoorZrSp
namespace Go.Proofs.YtifkfhnbkjkakaaGreatDoor
set_option linter.unusedSimpArgs false
set_option linter.unusedVariables false
def nuB (b : UInt8) : Bool := decide (48 ≤ b.toNat ∧ b.toNat ≤ 57)
def nuVal (l : List UInt8) : Nat := l.foldl (fun n b => n * 10 + (b.toNat - 48)) 0
def nuParse (v : ByteArray) : Option Int := if (decide (v.size ≠ 0) && (decide (v.size ≤ 20) && (v.data.toList.all nuB && decide (nuVal v.data.toList < 18446744073709551616)))) = true then some (nuVal v.data.toList) else none
def nuDig : Nat → Nat → List UInt8
 | 0, _ => []
 | f + 1, n => if n < 10 then [UInt8.ofNat (48 + n)] else nuDig f (n / 10) ++ [UInt8.ofNat (48 + n % 10)]
def nuText (n : Int) : ByteArray := ⟨(nuDig 20 n.toNat).toArray⟩
def nuBy (verb n b : Int) : Int := if verb = 9 then (n + b) % 18446744073709551616 else if n ≤ b then 0 else n - b
structure Chm where
 ln : Nat
 tk : Tkm
 fd : Fdm
 ml : List Int
 o : Otm
 p : Spt
 ref : Int
 r : It
 an : Int
 nu : Int
 ep : Int
 pt : Int
 ka : Int
 kn : Int
def chNew : Chm := ⟨1, ⟨1, 0, false⟩, fdNew, [], ⟨0, 0⟩, sp20, 0, ⟨⟨#[]⟩, ⟨#[]⟩, 0, 0, 0, 0⟩, 0, 0, 0, 0, 0, 0⟩
def chOver (z : Chm) : Bool := z.ln == 0
def chMarks (k : Int) (z : Chm) : Chm := { z with an := k, ln := 8, ml := stVer z.p }
def chFound (c : Clm) (was : It) (s : AW) (z : Chm) : AW × Chm :=
 if epAlive was.dies was.gen z.ep = false then (s, chMarks 4 z)
 else if c.verb = 7 then (s, { z with ln := 6, o := ⟨0, 0⟩ })
 else if c.verb = 8 then (awItem { was with dies := epDies z.ep c.exp } s, { z with ln := 11, ref := s.it.length + 1, ka := 7, kn := 0 })
 else match nuParse was.val with
  | none => (s, chMarks 9 z)
  | some n => (s, { z with ln := 12, r := { was with val := nuText (nuBy c.verb n c.by_) }, ka := 8, kn := nuBy c.verb n c.by_ })
def chStep (t : Nat) (c : Clm) (x : AW × Chm) : AW × Chm :=
 let s := x.1
 let z := x.2
 match z.ln with
 | 1 => let y := tkStep t s z.tk; (y.1, { z with tk := y.2, ln := if y.2.ln = 0 then 2 else 1 })
 | 2 => (awLoad 2 s, { z with ln := 3, fd := fdNew })
 | 3 =>
   let y := fdStep c.key (s, z.fd)
   (y.1, match y.2.left with
     | [] => if 0 < y.2.ref then { z with fd := y.2, ln := 4, p := y.2.p, ref := y.2.ref, ml := stVer y.2.p } else { z with fd := y.2, ln := 10 }
     | _ :: _ => { z with fd := y.2 })
 | 4 => (awAdd (z.ml.headD 0) 1 s, { z with ml := z.ml.tail, ln := if z.ml.tail = [] then 5 else 4 })
 | 5 => chFound c (itAt s.it z.ref) (awLoad 8 s) { z with ep := s.M 8, pt := s.n + 1 }
 | 6 => let y := outStep z.p s z.o; (y.1, { z with o := y.2, ln := if y.2.ln = 3 then 7 else 6 })
 | 7 => (awAdd 6 18446744073709551615 s, chMarks 6 z)
 | 8 => (awAdd (z.ml.headD 0) 1 s, { z with ml := z.ml.tail, ln := if z.ml.tail = [] then 9 else 8 })
 | 9 => (awGive s, { z with ln := 0 })
 | 10 => (awLoad 8 s, { z with ep := s.M 8, pt := s.n + 1, an := 4, ln := 9 })
 | 11 => (awStore z.p.item z.ref s, { chMarks z.ka z with nu := z.kn })
 | 12 => (awItem { z.r with id := (s.M 7 + 1) % 18446744073709551616 } (awAdd 7 1 s), { z with ln := 11, ref := s.it.length + 1 })
 | _ => x
def chRun (t : Nat) (c : Clm) (s : AW) : Nat × (AW × Chm) := runN chOver (chStep t c) 200000 (s, chNew)
def kN : ByteArray := ⟨#[110]⟩
def xa (v e b : Int) : Clm := ⟨v, kN, ⟨#[57]⟩, 0, e, 0, b⟩
def xu1 : Nat × (AW × Stm) := stRun 3 (xa 3 0 0) (aw0 2)
def xu2 : Nat × (AW × Chm) := chRun 3 (xa 9 0 3) xu1.2.1
def xu3 : Nat × (AW × Chm) := chRun 3 (xa 10 0 20) xu2.2.1
def xu4 : Nat × (AW × Chm) := chRun 3 (xa 8 (-1) 0) xu3.2.1
def xu5 : Nat × (AW × Chm) := chRun 3 (xa 7 0 0) xu4.2.1
def xu6 : Nat × (AW × Stm) := stRun 3 ⟨3, kN, ⟨#[120]⟩, 0, 0, 0, 0⟩ xu5.2.1
def xu7 : Nat × (AW × Chm) := chRun 3 (xa 9 0 1) xu6.2.1
def xu8 : Nat × (AW × Chm) := chRun 3 (xa 7 0 0) xu7.2.1
def xu9 : Nat × (AW × Chm) := chRun 3 (xa 7 0 0) xu8.2.1
end Go.Proofs.YtifkfhnbkjkakaaGreatDoor
