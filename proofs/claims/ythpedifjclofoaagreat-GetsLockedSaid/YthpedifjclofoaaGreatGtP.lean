/- Layer 28, plain: what a Get computes. -/
import Derived.Test.YthpedifjclofoaaGreatLkA
import Derived.Test.YthpedifjclofoaaGreatTcP
namespace Go.Proofs.YthpedifjclofoaaGreat
set_option linter.unusedSimpArgs false
set_option linter.unusedVariables false
/-- A Get: 0 over, 1 begins, 2 its Look, 3 its Take, 4 its Find, 5 the load of the epoch, 6 its Give, 7 its Touch. -/
structure Gtm where
  ln : Nat
  lk : Lkm
  tk : Tkm
  fd : Fdm
  tc : Tc
  ref : Int
  ep : Int
  pt : Int
  an : Int
  im : It
def tk0 : Tkm := ⟨1, 0, false⟩
def gtNew : Gtm := ⟨1, lkNew 0, tk0, fdNew, tcNew 0, 0, 0, 0, 0, it0⟩
def gtOver (z : Gtm) : Bool := z.ln == 0
/-- Line 6: what is told. -/
def gtTells (it : List It) (z : Gtm) : Gtm :=
  if (itIs it z.ref && epAlive (itAt it z.ref).dies (itAt it z.ref).gen z.ep) = true then
    { z with an := 11, im := itAt it z.ref, ln := if plRef z.ref = 0 then 0 else 7, tc := tcNew (plRef z.ref) }
  else { z with an := 12, im := it0, ln := 0 }
/-- Behind a step of its Look. -/
def gtLook (it : List It) (l : Lkm) (z : Gtm) : Gtm :=
  if l.ln = 0 then (if l.fl = true then { z with lk := l, ln := 3, tk := tk0 } else gtTells it { z with lk := l, ref := l.ref, ep := l.ep, pt := l.pt })
  else { z with lk := l, ln := 2 }
def gtStep (t : Nat) (key : ByteArray) (tries : Int) (x : AW × Gtm) : AW × Gtm :=
  let s := x.1
  let z := x.2
  match z.ln with
  | 1 => let y := lkStep key (s, lkNew tries); (y.1, gtLook y.1.it y.2 z)
  | 2 => let y := lkStep key (s, z.lk); (y.1, gtLook y.1.it y.2 z)
  | 3 => let y := tkStep t s z.tk; if y.2.ln = 0 then (awNote 7 0 0 0 0 0 y.1, { z with tk := y.2, ln := 4, fd := fdNew }) else (y.1, { z with tk := y.2 })
  | 4 =>
    let y := fdStep key (s, z.fd)
    (y.1, match y.2.left with
      | [] => { z with fd := y.2, ref := y.2.ref, ln := 5 }
      | _ :: _ => { z with fd := y.2 })
  | 5 => (awLoad 8 s, { z with ep := s.M 8, pt := s.n + 1, ln := 6 })
  | 6 => (awGive s, gtTells s.it z)
  | 7 => let y := tcStep ⟨s.M, s.n, s.la, z.tc⟩; (awOf y s, { z with tc := y.t, ln := if y.t.at_ = 0 then 0 else 7 })
  | _ => x
def gtRun (t : Nat) (key : ByteArray) (m : Nat) (s : AW) : Nat × (AW × Gtm) := runN gtOver (gtStep t key 3) m (s, gtNew)
def vz1 : Nat × (AW × Gtm) := gtRun 4 kA 99 (aw0 2)
def vz2 : Nat × (AW × Stm) := stRun 3 cl1 vz1.2.1
def vz3 : Nat × (AW × Gtm) := gtRun 4 kA 99 vz2.2.1
theorem vz_an : (vz1.2.2.ln = 0 ∧ vz1.2.2.an = 12) ∧ vz2.2.2.ln = 0 ∧ (vz3.2.2.ln = 0 ∧ vz3.2.2.an = 11) ∧ vz3.2.1.M (plRef 1) = 1 := by decide +kernel
end Go.Proofs.YthpedifjclofoaaGreat
