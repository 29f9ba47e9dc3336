/- Layers 17, 18, 20, plain: what Hops, a Room and a Move compute on a world. -/
import Derived.Test.YtlcibfpibklbdaaGreatWyP
import Derived.Test.YtlcibfpibklbdaaGreatBaE
namespace Go.Proofs.YtlcibfpibklbdaaGreat
set_option linter.unusedSimpArgs false
open Go.RowKit
set_option linter.unusedVariables false

/-- A Put's lines: none, where it is none. -/
def ptNew (tg rf : Int) : Otm := if 1 ≤ tg ∧ tg ≤ 255 ∧ 1 ≤ rf then ⟨0, 0⟩ else ⟨3, 0⟩
/-- Hops: their line, the spot that an item leaves, their way, its tag, its item; what is left of the first Mark, of the Out, the Put, the second Mark. -/
structure Hom where
  ln : Int
  k : Int
  way : List Spt
  tag : Int
  ref : Int
  m1 : List Int
  o : Otm
  u : Otm
  m2 : List Int
def sp20 : Spt := ⟨0, 0, 0⟩
def hoAt (l : List Spt) (i : Int) : Spt := if i < 0 then sp20 else l.getD i.toNat sp20
def Hom.s (z : Hom) : Spt := hoAt z.way z.k
def Hom.t (z : Hom) : Spt := hoAt z.way (z.k + 1)
def hoNew (l : List Spt) : Hom := ⟨if 2 ≤ l.length then 1 else 0, (l.length : Int) - 2, l, 0, 0, [], ⟨3, 0⟩, ⟨3, 0⟩, []⟩
def hoOn (z : Hom) : Hom :=
  if z.ln = 3 ∧ z.m1 = [] then ⟨4, z.k, z.way, z.tag, z.ref, z.m1, z.o, z.u, z.m2⟩
  else if z.ln = 4 ∧ otOver z.o = true then ⟨if otOver z.u = true then 6 else 5, z.k, z.way, z.tag, z.ref, z.m1, z.o, z.u, z.m2⟩
  else if z.ln = 5 ∧ otOver z.u = true then ⟨6, z.k, z.way, z.tag, z.ref, z.m1, z.o, z.u, z.m2⟩
  else if z.ln = 6 ∧ z.m2 = [] then ⟨if z.k - 1 < 0 then 0 else 1, z.k - 1, z.way, z.tag, z.ref, z.m1, z.o, z.u, z.m2⟩
  else z
def hoStep (x : AW × Hom) : AW × Hom :=
  if x.2.ln = 1 then (awLoad x.2.s.tags x.1, ⟨2, x.2.k, x.2.way, twTag (x.1.M x.2.s.tags) x.2.s.s, x.2.ref, x.2.m1, x.2.o, x.2.u, x.2.m2⟩)
  else if x.2.ln = 2 then (awLoad x.2.s.item x.1, ⟨3, x.2.k, x.2.way, x.2.tag, wrap64 (x.1.M x.2.s.item), mk2 x.2.s x.2.t, ⟨0, 0⟩, ptNew x.2.tag (wrap64 (x.1.M x.2.s.item)), mk2 x.2.s x.2.t⟩)
  else if x.2.ln = 3 then (awAdd (x.2.m1.headD 0) 1 x.1, hoOn ⟨3, x.2.k, x.2.way, x.2.tag, x.2.ref, x.2.m1.tail, x.2.o, x.2.u, x.2.m2⟩)
  else if x.2.ln = 4 then ((outStep x.2.s x.1 x.2.o).1, hoOn ⟨4, x.2.k, x.2.way, x.2.tag, x.2.ref, x.2.m1, (outStep x.2.s x.1 x.2.o).2, x.2.u, x.2.m2⟩)
  else if x.2.ln = 5 then ((putStep x.2.t x.2.tag x.2.ref x.1 x.2.u).1, hoOn ⟨5, x.2.k, x.2.way, x.2.tag, x.2.ref, x.2.m1, x.2.o, (putStep x.2.t x.2.tag x.2.ref x.1 x.2.u).2, x.2.m2⟩)
  else if x.2.ln = 6 then (awAdd (x.2.m2.headD 0) 1 x.1, hoOn ⟨6, x.2.k, x.2.way, x.2.tag, x.2.ref, x.2.m1, x.2.o, x.2.u, x.2.m2.tail⟩)
  else x
/-- A Room: its line, bits, the key's buckets, its Way, its Hops, the slot. -/
structure Rmm where
  ln : Int
  b : Int
  a : Int
  c : Int
  wy : Wym
  ho : Hom
  p : Spt
  is : Bool
def wy0 : Wym := ⟨0, [], 0, 0, 0, []⟩
def ho0 : Hom := ⟨0, 0, [], 0, 0, [], ⟨3, 0⟩, ⟨3, 0⟩, []⟩
def rmNew (b h : Int) : Rmm := if 1 ≤ b ∧ b ≤ 12 then ⟨1, b, fnvBucket h b, fnvOther (fnvBucket h b) (fnvTag h) b, wy0, ho0, sp20, false⟩ else ⟨0, 0, 0, 0, wy0, ho0, sp20, false⟩
def rmTg (s : AW) (z : Rmm) (q : Int) : Int := s.M (plTags z.b q)
def rmIn (z : Rmm) (p : Spt) : Rmm := ⟨0, z.b, z.a, z.c, z.wy, z.ho, p, true⟩
def rmSearch (mo : Int) (z : Rmm) : Rmm := ⟨3, z.b, z.a, z.c, wyNew z.b z.a z.c mo, z.ho, z.p, z.is⟩
/-- A way was found, or none. -/
def rmFound (z : Rmm) : Rmm := match z.wy.way with
  | [] => ⟨0, z.b, z.a, z.c, z.wy, z.ho, z.p, z.is⟩
  | p :: l => ⟨if 2 ≤ (p :: l).length then 4 else 0, z.b, z.a, z.c, z.wy, hoNew (p :: l), p, if 2 ≤ (p :: l).length then z.is else true⟩
def rmStep (mo : Int) (x : AW × Rmm) : AW × Rmm :=
  if x.2.ln = 1 then (awLoad (plTags x.2.b x.2.a) x.1, if 0 ≤ twFree (rmTg x.1 x.2 x.2.a) then rmIn x.2 ⟨x.2.b, x.2.a, twFree (rmTg x.1 x.2 x.2.a)⟩ else if x.2.c = x.2.a then rmSearch mo x.2 else ⟨2, x.2.b, x.2.a, x.2.c, x.2.wy, x.2.ho, x.2.p, x.2.is⟩)
  else if x.2.ln = 2 then (awLoad (plTags x.2.b x.2.c) x.1, if 0 ≤ twFree (rmTg x.1 x.2 x.2.c) then rmIn x.2 ⟨x.2.b, x.2.c, twFree (rmTg x.1 x.2 x.2.c)⟩ else rmSearch mo x.2)
  else if x.2.ln = 3 then
    if (wyStep (x.1, x.2.wy)).2.ln = 0 then
      (if (wyStep (x.1, x.2.wy)).2.way = [] then awNote 3 0 0 0 0 0 (wyStep (x.1, x.2.wy)).1 else (wyStep (x.1, x.2.wy)).1, rmFound ⟨3, x.2.b, x.2.a, x.2.c, (wyStep (x.1, x.2.wy)).2, x.2.ho, x.2.p, x.2.is⟩)
    else ((wyStep (x.1, x.2.wy)).1, ⟨3, x.2.b, x.2.a, x.2.c, (wyStep (x.1, x.2.wy)).2, x.2.ho, x.2.p, x.2.is⟩)
  else if x.2.ln = 4 then ((hoStep (x.1, x.2.ho)).1, ⟨if (hoStep (x.1, x.2.ho)).2.ln = 0 then 0 else 4, x.2.b, x.2.a, x.2.c, x.2.wy, (hoStep (x.1, x.2.ho)).2, x.2.p, if (hoStep (x.1, x.2.ho)).2.ln = 0 then true else x.2.is⟩)
  else x
/-- A Move: its line, how many are lost, the new table's bits, its slot, its tag, its item, its Room, the new slot; what is left of the Mark, of the Out, of the Put. -/
structure Mvm where
  ln : Int
  lost : Int
  now : Int
  p : Spt
  tag : Int
  ref : Int
  rm : Rmm
  d : Spt
  m : List Int
  o : Otm
  u : Otm
def rm0 : Rmm := ⟨0, 0, 0, 0, wy0, ho0, sp20, false⟩
def mvNew (t q : Int) : Mvm := if plNow t = 0 ∨ q < 0 ∨ fnvSize (plOld t) ≤ q then ⟨0, 0, plNow t, ⟨plOld t, q, 0⟩, 0, 0, rm0, sp20, [], ⟨3, 0⟩, ⟨3, 0⟩⟩ else ⟨1, 0, plNow t, ⟨plOld t, q, 0⟩, 0, 0, rm0, sp20, [], ⟨3, 0⟩, ⟨3, 0⟩⟩
def mvNext (z : Mvm) : Mvm := ⟨if z.p.s + 1 = 4 then 0 else 1, z.lost, z.now, ⟨z.p.b, z.p.q, z.p.s + 1⟩, z.tag, z.ref, z.rm, z.d, [], z.o, z.u⟩
/-- The key of an item's record. -/
def itKey (it : List It) (r : Int) : List UInt8 := if 1 ≤ r then match it[(r - 1).toNat]? with
  | none => []
  | some x => x.key.data.toList else []
def mv7 (z : Mvm) : Mvm := ⟨7, z.lost, z.now, z.p, z.tag, z.ref, z.rm, z.d, mk2 z.p z.d, z.o, z.u⟩
def mvStep (mo : Int) (x : AW × Mvm) : AW × Mvm :=
  if x.2.ln = 1 then (awLoad x.2.p.tags x.1, if twTag (x.1.M x.2.p.tags) x.2.p.s = 0 then mvNext ⟨1, x.2.lost, x.2.now, x.2.p, 0, x.2.ref, x.2.rm, x.2.d, x.2.m, x.2.o, x.2.u⟩ else ⟨2, x.2.lost, x.2.now, x.2.p, twTag (x.1.M x.2.p.tags) x.2.p.s, x.2.ref, x.2.rm, x.2.d, x.2.m, x.2.o, x.2.u⟩)
  else if x.2.ln = 2 then (awLoad x.2.p.item x.1, ⟨3, x.2.lost, x.2.now, x.2.p, x.2.tag, wrap64 (x.1.M x.2.p.item), rmNew x.2.now (fnvHash (itKey x.1.it (wrap64 (x.1.M x.2.p.item)))), x.2.d, x.2.m, x.2.o, x.2.u⟩)
  else if x.2.ln = 3 then
    ((rmStep mo (x.1, x.2.rm)).1,
      if (rmStep mo (x.1, x.2.rm)).2.ln = 0 then
        if (rmStep mo (x.1, x.2.rm)).2.is = true then ⟨4, x.2.lost, x.2.now, x.2.p, x.2.tag, x.2.ref, (rmStep mo (x.1, x.2.rm)).2, (rmStep mo (x.1, x.2.rm)).2.p, mk2 x.2.p (rmStep mo (x.1, x.2.rm)).2.p, ⟨0, 0⟩, ptNew x.2.tag x.2.ref⟩
        else ⟨8, x.2.lost, x.2.now, x.2.p, x.2.tag, x.2.ref, (rmStep mo (x.1, x.2.rm)).2, sp20, [x.2.p.ver], ⟨0, 0⟩, x.2.u⟩
      else ⟨3, x.2.lost, x.2.now, x.2.p, x.2.tag, x.2.ref, (rmStep mo (x.1, x.2.rm)).2, x.2.d, x.2.m, x.2.o, x.2.u⟩)
  else if x.2.ln = 4 then (awAdd (x.2.m.headD 0) 1 x.1, ⟨if x.2.m.tail = [] then 5 else 4, x.2.lost, x.2.now, x.2.p, x.2.tag, x.2.ref, x.2.rm, x.2.d, x.2.m.tail, x.2.o, x.2.u⟩)
  else if x.2.ln = 5 then ((outStep x.2.p x.1 x.2.o).1,
    if otOver (outStep x.2.p x.1 x.2.o).2 = true then
      if otOver x.2.u = true then mv7 ⟨5, x.2.lost, x.2.now, x.2.p, x.2.tag, x.2.ref, x.2.rm, x.2.d, x.2.m, (outStep x.2.p x.1 x.2.o).2, x.2.u⟩
      else ⟨6, x.2.lost, x.2.now, x.2.p, x.2.tag, x.2.ref, x.2.rm, x.2.d, x.2.m, (outStep x.2.p x.1 x.2.o).2, x.2.u⟩
    else ⟨5, x.2.lost, x.2.now, x.2.p, x.2.tag, x.2.ref, x.2.rm, x.2.d, x.2.m, (outStep x.2.p x.1 x.2.o).2, x.2.u⟩)
  else if x.2.ln = 6 then ((putStep x.2.d x.2.tag x.2.ref x.1 x.2.u).1,
    if otOver (putStep x.2.d x.2.tag x.2.ref x.1 x.2.u).2 = true then mv7 ⟨6, x.2.lost, x.2.now, x.2.p, x.2.tag, x.2.ref, x.2.rm, x.2.d, x.2.m, x.2.o, (putStep x.2.d x.2.tag x.2.ref x.1 x.2.u).2⟩
    else ⟨6, x.2.lost, x.2.now, x.2.p, x.2.tag, x.2.ref, x.2.rm, x.2.d, x.2.m, x.2.o, (putStep x.2.d x.2.tag x.2.ref x.1 x.2.u).2⟩)
  else if x.2.ln = 7 then (awAdd (x.2.m.headD 0) 1 x.1, if x.2.m.tail = [] then mvNext x.2 else ⟨7, x.2.lost, x.2.now, x.2.p, x.2.tag, x.2.ref, x.2.rm, x.2.d, x.2.m.tail, x.2.o, x.2.u⟩)
  else if x.2.ln = 8 then (awAdd x.2.p.ver 1 x.1, ⟨9, x.2.lost, x.2.now, x.2.p, x.2.tag, x.2.ref, x.2.rm, x.2.d, [], ⟨0, 0⟩, x.2.u⟩)
  else if x.2.ln = 9 then
    (if x.2.o.ln = 1 then awNote 1 x.2.ref x.2.p.b x.2.p.q x.2.p.s 0 (outStep x.2.p x.1 x.2.o).1 else (outStep x.2.p x.1 x.2.o).1,
      ⟨if x.2.o.ln = 2 then 10 else 9, x.2.lost, x.2.now, x.2.p, x.2.tag, x.2.ref, x.2.rm, x.2.d, if x.2.o.ln = 2 then [x.2.p.ver] else [], (outStep x.2.p x.1 x.2.o).2, x.2.u⟩)
  else if x.2.ln = 10 then (awAdd x.2.p.ver 1 x.1, ⟨11, x.2.lost, x.2.now, x.2.p, x.2.tag, x.2.ref, x.2.rm, x.2.d, [], x.2.o, x.2.u⟩)
  else if x.2.ln = 11 then (awNote 2 x.2.ref x.2.p.b x.2.p.q x.2.p.s 0 (awAdd 6 18446744073709551615 x.1), mvNext ⟨11, x.2.lost + 1, x.2.now, x.2.p, x.2.tag, x.2.ref, x.2.rm, x.2.d, x.2.m, x.2.o, x.2.u⟩)
  else x
def mvOver (z : Mvm) : Bool := z.ln == 0
end Go.Proofs.YtlcibfpibklbdaaGreat
