/- Layers 16, 17, 18, 20, plain: what a Way, Hops, a Room and a Move compute on a world. Layers 17, 18, 20, plain: what Hops, a Room and a Move compute on a world. A slice of an owner, from anywhere in its block: what is cut off its head, what is appended to it. -/
import Derived.Test.YtifkfhnbkjkakaaGreatDoorZrBaD
import Derived.Test.YtifkfhnbkjkakaaGreatDoorZrBaE
import Derived.ArgAppend
namespace Go.Proofs.YtifkfhnbkjkakaaGreatDoor
set_option linter.unusedSimpArgs false
set_option linter.unusedVariables false
section
open Go.RowKit
structure Wnd where
 q : Int
 fr : Int
 sl : Int
structure Wym where
 ln : Int
 l : List Wnd
 i : Nat
 b : Int
 mo : Int
 way : List Spt
def wyHas (l : List Wnd) (q : Int) : Bool := l.any fun n => n.q == q
def wyNode (l : List Wnd) (n : Wnd) : List Wnd := if wyHas l n.q then l else l ++ [n]
def wyAdd (mo : Int) (l : List Wnd) (n : Wnd) : List Wnd := if (l.length : Int) < mo then wyNode l n else l
def wyGrow (b mo : Int) (i : Nat) (q tg : Int) : Nat → List Wnd → List Wnd
 | 0, l => l
 | k + 1, l => wyAdd mo (wyGrow b mo i q tg k l) ⟨fnvOther q (twTag tg k) b, i, k⟩
def wyPath (b : Int) (l : List Wnd) : Nat → Int → Int → List Spt → List Spt
 | 0, _, _, acc => acc
 | f + 1, i, s, acc => if i < 0 then acc else match l[i.toNat]? with
   | none => acc
   | some n => wyPath b l f n.fr n.sl (⟨b, n.q, s⟩ :: acc)
def wyQ (z : Wym) : Int := match z.l[z.i]? with
 | none => 0
 | some n => n.q
def wyNew (b a c mo : Int) : Wym := if 0 ≤ a ∧ a < fnvSize b ∧ 0 ≤ c ∧ c < fnvSize b then ⟨1, wyNode [⟨a, -1, 0⟩] ⟨c, -1, 0⟩, 0, b, mo, []⟩ else ⟨0, [], 0, 0, 0, []⟩
def wyTg (s : AW) (z : Wym) : Int := s.M (plTags z.b (wyQ z))
def wyStep (x : AW × Wym) : AW × Wym :=
 if x.2.ln = 0 then x
 else if 0 ≤ twFree (wyTg x.1 x.2) then (awLoad (plTags x.2.b (wyQ x.2)) x.1, ⟨0, x.2.l, x.2.i, x.2.b, x.2.mo, wyPath x.2.b x.2.l (x.2.i + 1) x.2.i (twFree (wyTg x.1 x.2)) []⟩)
 else (awLoad (plTags x.2.b (wyQ x.2)) x.1, ⟨if x.2.i + 1 = (wyGrow x.2.b x.2.mo x.2.i (wyQ x.2) (wyTg x.1 x.2) 4 x.2.l).length then 0 else 1, wyGrow x.2.b x.2.mo x.2.i (wyQ x.2) (wyTg x.1 x.2) 4 x.2.l, x.2.i + 1, x.2.b, x.2.mo, []⟩)
end
section
open Go.RowKit
def ptNew (tg rf : Int) : Otm := if 1 ≤ tg ∧ tg ≤ 255 ∧ 1 ≤ rf then ⟨0, 0⟩ else ⟨3, 0⟩
structure Hom where
 ln : Int
 k : Int
 way : List Spt
 tag : Int
 ref : Int
 m1 : List Int
 o : Otm
 u : Otm
 m2 : List Int
def sp20 : Spt := ⟨0, 0, 0⟩
def hoAt (l : List Spt) (i : Int) : Spt := if i < 0 then sp20 else l.getD i.toNat sp20
def Hom.s (z : Hom) : Spt := hoAt z.way z.k
def Hom.t (z : Hom) : Spt := hoAt z.way (z.k + 1)
def hoNew (l : List Spt) : Hom := ⟨if 2 ≤ l.length then 1 else 0, (l.length : Int) - 2, l, 0, 0, [], ⟨3, 0⟩, ⟨3, 0⟩, []⟩
def hoOn (z : Hom) : Hom :=
 if z.ln = 3 ∧ z.m1 = [] then ⟨4, z.k, z.way, z.tag, z.ref, z.m1, z.o, z.u, z.m2⟩
 else if z.ln = 4 ∧ otOver z.o = true then ⟨if otOver z.u = true then 6 else 5, z.k, z.way, z.tag, z.ref, z.m1, z.o, z.u, z.m2⟩
 else if z.ln = 5 ∧ otOver z.u = true then ⟨6, z.k, z.way, z.tag, z.ref, z.m1, z.o, z.u, z.m2⟩
 else if z.ln = 6 ∧ z.m2 = [] then ⟨if z.k - 1 < 0 then 0 else 1, z.k - 1, z.way, z.tag, z.ref, z.m1, z.o, z.u, z.m2⟩
 else z
def hoStep (x : AW × Hom) : AW × Hom :=
 if x.2.ln = 1 then (awLoad x.2.s.tags x.1, ⟨2, x.2.k, x.2.way, twTag (x.1.M x.2.s.tags) x.2.s.s, x.2.ref, x.2.m1, x.2.o, x.2.u, x.2.m2⟩)
 else if x.2.ln = 2 then (awLoad x.2.s.item x.1, ⟨3, x.2.k, x.2.way, x.2.tag, wrap64 (x.1.M x.2.s.item), mk2 x.2.s x.2.t, ⟨0, 0⟩, ptNew x.2.tag (wrap64 (x.1.M x.2.s.item)), mk2 x.2.s x.2.t⟩)
 else if x.2.ln = 3 then (awAdd (x.2.m1.headD 0) 1 x.1, hoOn ⟨3, x.2.k, x.2.way, x.2.tag, x.2.ref, x.2.m1.tail, x.2.o, x.2.u, x.2.m2⟩)
 else if x.2.ln = 4 then ((outStep x.2.s x.1 x.2.o).1, hoOn ⟨4, x.2.k, x.2.way, x.2.tag, x.2.ref, x.2.m1, (outStep x.2.s x.1 x.2.o).2, x.2.u, x.2.m2⟩)
 else if x.2.ln = 5 then ((putStep x.2.t x.2.tag x.2.ref x.1 x.2.u).1, hoOn ⟨5, x.2.k, x.2.way, x.2.tag, x.2.ref, x.2.m1, x.2.o, (putStep x.2.t x.2.tag x.2.ref x.1 x.2.u).2, x.2.m2⟩)
 else if x.2.ln = 6 then (awAdd (x.2.m2.headD 0) 1 x.1, hoOn ⟨6, x.2.k, x.2.way, x.2.tag, x.2.ref, x.2.m1, x.2.o, x.2.u, x.2.m2.tail⟩)
 else x
structure Rmm where
 ln : Int
 b : Int
 a : Int
 c : Int
 wy : Wym
 ho : Hom
 p : Spt
 is : Bool
def wy0 : Wym := ⟨0, [], 0, 0, 0, []⟩
def ho0 : Hom := ⟨0, 0, [], 0, 0, [], ⟨3, 0⟩, ⟨3, 0⟩, []⟩
def rmNew (b h : Int) : Rmm := if 1 ≤ b ∧ b ≤ 12 then ⟨1, b, fnvBucket h b, fnvOther (fnvBucket h b) (fnvTag h) b, wy0, ho0, sp20, false⟩ else ⟨0, 0, 0, 0, wy0, ho0, sp20, false⟩
def rmTg (s : AW) (z : Rmm) (q : Int) : Int := s.M (plTags z.b q)
def rmIn (z : Rmm) (p : Spt) : Rmm := ⟨0, z.b, z.a, z.c, z.wy, z.ho, p, true⟩
def rmSearch (mo : Int) (z : Rmm) : Rmm := ⟨3, z.b, z.a, z.c, wyNew z.b z.a z.c mo, z.ho, z.p, z.is⟩
def rmFound (z : Rmm) : Rmm := match z.wy.way with
 | [] => ⟨0, z.b, z.a, z.c, z.wy, z.ho, z.p, z.is⟩
 | p :: l => ⟨if 2 ≤ (p :: l).length then 4 else 0, z.b, z.a, z.c, z.wy, hoNew (p :: l), p, if 2 ≤ (p :: l).length then z.is else true⟩
def rmStep (mo : Int) (x : AW × Rmm) : AW × Rmm :=
 if x.2.ln = 1 then (awLoad (plTags x.2.b x.2.a) x.1, if 0 ≤ twFree (rmTg x.1 x.2 x.2.a) then rmIn x.2 ⟨x.2.b, x.2.a, twFree (rmTg x.1 x.2 x.2.a)⟩ else if x.2.c = x.2.a then rmSearch mo x.2 else ⟨2, x.2.b, x.2.a, x.2.c, x.2.wy, x.2.ho, x.2.p, x.2.is⟩)
 else if x.2.ln = 2 then (awLoad (plTags x.2.b x.2.c) x.1, if 0 ≤ twFree (rmTg x.1 x.2 x.2.c) then rmIn x.2 ⟨x.2.b, x.2.c, twFree (rmTg x.1 x.2 x.2.c)⟩ else rmSearch mo x.2)
 else if x.2.ln = 3 then
  if (wyStep (x.1, x.2.wy)).2.ln = 0 then
   (if (wyStep (x.1, x.2.wy)).2.way = [] then awNote 3 0 0 0 0 0 (wyStep (x.1, x.2.wy)).1 else (wyStep (x.1, x.2.wy)).1, rmFound ⟨3, x.2.b, x.2.a, x.2.c, (wyStep (x.1, x.2.wy)).2, x.2.ho, x.2.p, x.2.is⟩)
  else ((wyStep (x.1, x.2.wy)).1, ⟨3, x.2.b, x.2.a, x.2.c, (wyStep (x.1, x.2.wy)).2, x.2.ho, x.2.p, x.2.is⟩)
 else if x.2.ln = 4 then ((hoStep (x.1, x.2.ho)).1, ⟨if (hoStep (x.1, x.2.ho)).2.ln = 0 then 0 else 4, x.2.b, x.2.a, x.2.c, x.2.wy, (hoStep (x.1, x.2.ho)).2, x.2.p, if (hoStep (x.1, x.2.ho)).2.ln = 0 then true else x.2.is⟩)
 else x
end
section
open Go.RowKit
def putAt (cs : List Value) (o : Nat) : List Value → List Value
 | [] => cs
 | v :: r => putAt (cs.set o v) (o + 1) r
theorem putAt_len (vs : List Value) : ∀ (cs : List Value) (o : Nat), (putAt cs o vs).length = cs.length := by
 induction vs with
 | nil => intro cs o; rfl
 | cons v r ih => intro cs o; unfold putAt; rw [ih, List.length_set]
theorem putAt_out (vs : List Value) : ∀ (cs : List Value) (o j : Nat), (j < o ∨ o + vs.length ≤ j) → (putAt cs o vs)[j]? = cs[j]? := by
 induction vs with
 | nil => intro cs o j _; rfl
 | cons v r ih =>
   intro cs o j h
   rw [List.length_cons] at h
   unfold putAt
   rw [ih _ _ _ (by omega), List.getElem?_set_ne (by omega)]
theorem putAt_in (vs : List Value) : ∀ (cs : List Value) (o j : Nat), j < vs.length → o + vs.length ≤ cs.length → (putAt cs o vs)[o + j]? = vs[j]? := by
 induction vs with
 | nil => intro cs o j h; simp at h
 | cons v r ih =>
   intro cs o j h hl
   rw [List.length_cons] at h hl
   unfold putAt
   cases j with
   | zero => rw [putAt_out _ _ _ _ (by omega)]; exact List.getElem?_set_self (by omega)
   | succ j => rw [show o + (j + 1) = (o + 1) + j by omega, ih _ _ _ (by omega) (by rw [List.length_set]; omega)]; rfl
theorem Ob.setCells {O : Om} {g b : Nat} (vs : List Value) : ∀ {w : World} {cs : List Value} (o : Nat), Ob w O g b cs → o + vs.length ≤ cs.length → Ob (w.setCells b o vs) O g b (putAt cs o vs) := by
 induction vs with
 | nil => intro w cs o h _; exact h
 | cons v r ih =>
   intro w cs o h hl
   rw [List.length_cons] at hl
   unfold World.setCells putAt
   exact ih (o + 1) (h.set o v (by omega)) (by rw [List.length_set]; omega)
theorem Ext.setCells {O : Om} {g b : Nat} (hg : g ≠ 0) (vs : List Value) : ∀ {w : World} (o : Nat), (∀ j, O j ≠ 0 → j < w.heap.size) → O b = g → Ext (fun j => j = g) O w O (w.setCells b o vs) := by
 induction vs with
 | nil => intro w o hhi _; exact Ext.refl hhi
 | cons v r ih =>
   intro w o hhi hb
   unfold World.setCells
   have e1 := Ext.of_set (j := o) (v := v) (S := fun j => j = g) hhi hb hg rfl
   exact e1.trans (ih (o + 1) e1.hi hb)
structure Sls (w : World) (O : Om) (g size : Nat) (v : Value) (n : Nat) (xs : List Value) : Prop where
 ex : ∃ (ao : Option Addr) (c : Nat), v = .slice ao n c ∧ n ≤ c ∧ c ≤ maxLen ∧ xs.length = n * size ∧ ((ao = none ∧ n = 0 ∧ c = 0) ∨ ∃ b o cs, ao = some ⟨b, o, none⟩ ∧ Ob w O g b cs ∧ o + c * size ≤ cs.length ∧ (cs.drop o).take (n * size) = xs)
section
variable {S : Nat → Prop} {O O' : Om} {w w' : World} {g size n cp b o : Nat} {v : Value} {xs : List Value}
theorem Sls.nil (w : World) (O : Om) (g size : Nat) : Sls w O g size (.slice none 0 0) 0 [] := ⟨none, 0, rfl, Nat.le_refl _, Nat.zero_le _, by simp, .inl ⟨rfl, rfl, rfl⟩⟩
theorem Sls.ext (h : Sls w O g size v n xs) (e : Ext S O w O' w') (hs : ¬ S g) : Sls w' O' g size v n xs := by
 obtain ⟨ao, c, h1, h2, h3, h4, h5⟩ := h.ex
 exact ⟨ao, c, h1, h2, h3, h4, h5.imp id fun ⟨b, o, cs, q1, q2, q3⟩ => ⟨b, o, cs, q1, q2.ext e hs, q3⟩⟩
theorem Sls.below (h : Sls w O g size v n xs) (hb : Below w.heap.size w w') : Sls w' O g size v n xs := by
 obtain ⟨ao, c, h1, h2, h3, h4, h5⟩ := h.ex
 exact ⟨ao, c, h1, h2, h3, h4, h5.imp id fun ⟨b, o, cs, q1, q2, q3⟩ => ⟨b, o, cs, q1, q2.below hb, q3⟩⟩
theorem Sls.kept (h : Sls w O g size v n xs) (hk : ∀ g' b' ds, Ob w O g' b' ds → Ob w' O' g' b' ds) : Sls w' O' g size v n xs := by
 obtain ⟨ao, c, h1, h2, h3, h4, h5⟩ := h.ex
 exact ⟨ao, c, h1, h2, h3, h4, h5.imp id fun ⟨b, o, cs, q1, q2, q3⟩ => ⟨b, o, cs, q1, hk _ _ _ q2, q3⟩⟩
theorem Sls.other (h : Sls w O g size v n xs) {b2 j : Nat} {u : Value} {g2 : Nat} (hb : O b2 = g2) (hg : g2 ≠ g) : Sls (w.setCell ⟨b2, j, none⟩ u) O g size v n xs := by
 obtain ⟨ao, c, h1, h2, h3, h4, h5⟩ := h.ex
 exact ⟨ao, c, h1, h2, h3, h4, h5.imp id fun ⟨b, o, cs, q1, q2, q3⟩ => ⟨b, o, cs, q1, q2.other (fun e => hg (by rw [← hb, e]; exact q2.o)), q3⟩⟩
theorem Sls.of_ob {cs : List Value} (h : Ob w O g b cs) (hn : cs.length = n * size) (hm : n ≤ maxLen) : Sls w O g size (.slice (some ⟨b, 0, none⟩) n n) n cs :=
 ⟨_, n, rfl, Nat.le_refl _, hm, hn, .inr ⟨b, 0, cs, rfl, h, by omega, by rw [List.drop_zero, ← hn, List.take_length]⟩⟩
theorem Sls.shape (h : Sls w O g size v n xs) : ∃ ao c, v = .slice ao n c ∧ n ≤ c ∧ c ≤ maxLen := by
 obtain ⟨ao, c, h1, h2, h3, -⟩ := h.ex
 exact ⟨ao, c, h1, h2, h3⟩
theorem Sls.len (h : Sls w O g size v n xs) : xs.length = n * size := by
 obtain ⟨ao, c, h1, h2, h3, h4, -⟩ := h.ex
 exact h4
theorem Sls.open (h : Sls w O g size v n xs) (hn : 0 < n) : ∃ b o c, v = .slice (some ⟨b, o, none⟩) n c ∧ n ≤ c ∧ c ≤ maxLen := by
 obtain ⟨ao, c, h1, h2, h3, h4, h5⟩ := h.ex
 rcases h5 with ⟨_, h, _⟩ | ⟨b, o, cs, rfl, _⟩
 · omega
 · exact ⟨b, o, c, h1, h2, h3⟩
theorem Sls.lt (h : Sls w O g size (.slice (some ⟨b, o, none⟩) n cp) n xs) : b < w.heap.size ∧ O b = g := by
 obtain ⟨ao, c', h1, h2, h3, h4, h5⟩ := h.ex
 cases h1
 rcases h5 with ⟨h, _⟩ | ⟨b', o', cs, e, q, _⟩
 · cases h
 · cases e; exact ⟨q.lt, q.o⟩
theorem Sls.c (h : Sls w O g size (.slice (some ⟨b, o, none⟩) n cp) n xs) (j : Nat) (u : Value) (hu : xs[j]? = some u) : w.cell? ⟨b, o + j, none⟩ = some u := by
 obtain ⟨ao, c', h1, h2, h3, h4, h5⟩ := h.ex
 cases h1
 rcases h5 with ⟨h, _⟩ | ⟨b', o', cs, e, q, q2, q3⟩
 · cases h
 · cases e
   refine q.c _ _ ?_
   rw [← q3] at hu
   have hj : j < n * size := by
    have := (List.getElem?_eq_some_iff.1 hu).1
    simp at this; omega
   rw [List.getElem?_take_of_lt hj, List.getElem?_drop] at hu
   exact hu
theorem Sls.f (h : Sls w O g size (.slice (some ⟨b, o, none⟩) n cp) n xs) (j : Nat) : w.frozen? ⟨b, j, none⟩ = false := by
 obtain ⟨ao, c', h1, h2, h3, h4, h5⟩ := h.ex
 cases h1
 rcases h5 with ⟨h, _⟩ | ⟨b', o', cs, e, q, q2, q3⟩
 · cases h
 · cases e; exact q.f j
theorem Sls.tail {o' : Nat} (h : Sls w O g size (.slice (some ⟨b, o, none⟩) (n + 1) cp) (n + 1) xs) (ho : o' = o + size ∨ (cp = 1 ∧ o' = o)) : Sls w O g size (.slice (some ⟨b, o', none⟩) n (cp - 1)) n (xs.drop size) := by
 obtain ⟨ao, c', h1, h2, h3, h4, h5⟩ := h.ex
 cases h1
 rcases h5 with ⟨h, _⟩ | ⟨b', o'', cs, e, q, q2, q3⟩
 · cases h
 · cases e
   have hc : cp * size = (cp - 1) * size + size := by
    obtain ⟨d, rfl⟩ : ∃ d, cp = d + 1 := ⟨cp - 1, by omega⟩
    rw [Nat.add_sub_cancel, Nat.add_mul, Nat.one_mul]
   have hn : (n + 1) * size = n * size + size := by rw [Nat.add_mul, Nat.one_mul]
   refine ⟨_, cp - 1, rfl, by omega, by omega, by rw [List.length_drop, h4, hn]; omega, .inr ⟨b, o', cs, rfl, q, ?_, ?_⟩⟩
   · rcases ho with rfl | ⟨rfl, rfl⟩
     · omega
     · simp at hc ⊢; omega
   · rcases ho with rfl | ⟨rfl, rfl⟩
     · rw [← q3, hn, List.drop_take, List.drop_drop, Nat.add_sub_cancel]
     · have hn0 : n = 0 := by omega
       subst hn0
       rw [Nat.zero_mul, List.take_zero, List.drop_eq_nil_of_le (by rw [h4, hn]; omega)]
end
theorem run_append_sls {P : Program} (w : World) (ty ty2 : TypeId) (e : TypeId) (i : TypeInfo) (z : Value) (size bytes : Nat) (ht : P.underlying ty = some (.slice e)) (hi : P.info? e = some i) (hz : i.zero = some z)
 (hsize : i.size = size) (hby : i.bytes = bytes) (hzs : z.cells.size = size) (hsz : 0 < size)
 (O : Om) (t : Nat) (ht0 : t ≠ 0) (hhi : ∀ j, O j ≠ 0 → j < w.heap.size)
 (v : Value) (n : Nat) (xs : List Value) (h : Sls w O t size v n xs)
 (m : Nat) (hm : 0 < m) (cs : List Value) (e' : TypeId) (hl : cs.length = m * size) (h1 : ∀ u ∈ cs, u.oneCell' = true)
 (hnm : n + m ≤ maxLen) (hbytes : (n + m) * bytes ≤ 140737488355328) :
 ∃ b' o' c' w' O', (Builtin.append_ #[ty, ty] ty2 #[v, .slice (some ⟨w.heap.size, 0, none⟩) m m]).run P (w.alloc (.cells cs.toArray e')) = .ok (.slice (some ⟨b', o', none⟩) (n + m) c') w' ∧ Ext (fun j => j = t) O w O' w' ∧ Sls w' O' t size (.slice (some ⟨b', o', none⟩) (n + m) c') (n + m) (xs ++ cs) := by
 have E0 : Ext (fun j => j = t) O w O (w.alloc (.cells cs.toArray e')) := Ext.of_below hhi ((Below.refl _ _).alloc (Nat.le_refl _) _)
 have h' := h.below ((Below.refl _ w).alloc (Nat.le_refl _) (.cells cs.toArray e'))
 have grow : ∀ v' w', w'.ownsRow (w.alloc (.cells cs.toArray e')).heap.size e size v' (n + m) (xs ++ cs) → (w.alloc (.cells cs.toArray e')).grownBy w' none → ∃ b' o' c' O', v' = .slice (some ⟨b', o', none⟩) (n + m) c' ∧ Ext (fun j => j = t) O w O' w' ∧ Sls w' O' t size v' (n + m) (xs ++ cs) := by
  intro v' w' hown hgr
  have hown0 := hown
  obtain ⟨hol, hov⟩ := hown
  rcases hov with ⟨_, h0⟩ | ⟨g, cap, cur, rfl, hbg, hcell, hnc, hcm, hcs, htk⟩
  · omega
  have hw : Wrote (fun _ => False) (w.alloc (.cells cs.toArray e')) w' := (Wrote.refl _ _).grown hgr fun k hk _ => by cases hk
  have hs' := hw.size
  have hgl : g < w'.heap.size := (Array.getElem?_eq_some_iff.1 hcell).1
  have hfz := hown0.frozenAt
  have hO : Ext (fun j => j = t) O (w.alloc (.cells cs.toArray e')) (fun j => if j = g then t else O j) w' := by
   refine ⟨fun j hj => by rw [if_neg (by omega)], fun j hj => ?_, fun j hj hn => ?_, hw.mono fun _ _ h => h.elim⟩
   · by_cases e : j = g
     · omega
     · rw [if_neg e] at hj; have := E0.hi j hj; omega
   · by_cases e : j = g
     · rw [if_pos e]
     · rw [if_neg e] at hn; have := E0.hi j hn; omega
  refine ⟨g, 0, cap, _, rfl, E0.trans hO, ⟨_, cap, rfl, hnc, hcm, hol, .inr ⟨g, 0, cur.toList, rfl, ⟨by rw [if_pos rfl], hgl, fun j u hu => ?_, fun j => ?_⟩, ?_, ?_⟩⟩⟩
  · unfold World.cell?
    simp only [hcell]
    simpa using hu
  · exact hfz j
  · rw [Nat.zero_add, Array.length_toList, hcs]; exact Nat.le_refl _
  · rw [List.drop_zero]; exact htk
 obtain ⟨ao, c, rfl, h2, h3, h4, h5⟩ := h'.ex
 have hsrc : ∀ j u, cs[j]? = some u → (w.alloc (.cells cs.toArray e')).cell? ((⟨w.heap.size, 0, none⟩ : Addr).add j) = some u := by
  intro j u hu
  rw [Addr.add_lit, Nat.zero_add]
  exact cell_newA w cs.toArray e' _ rfl j u (by simpa using hu)
 rcases h5 with ⟨rfl, rfl, rfl⟩ | ⟨b, of, ds, rfl, hob, hod, htk⟩
 · have hx0 : xs = [] := List.eq_nil_of_length_eq_zero (by rw [h4]; simp)
   subst hx0
   obtain ⟨v', w', hrun, r1, r2, _⟩ := run_append_own (P := P) (w.alloc (.cells cs.toArray e')) (w.alloc (.cells cs.toArray e')).heap.size ty ty2 e i z size bytes ht hi hz hsize hby hzs hsz (.slice none 0 0) 0 [] (World.ownsRow_nil _ _ e size) ⟨w.heap.size, 0, none⟩ m m cs hl hsrc h1 hnm hbytes (Nat.le_refl _)
   obtain ⟨b', o', c', O', rfl, q1, q2⟩ := grow v' w' r1 r2
   exact ⟨b', o', c', w', O', hrun, q1, q2⟩
 · have hnm2 : (n + m) * size = n * size + m * size := by rw [Nat.add_mul]
   by_cases hr : n + m ≤ c
   · have hcs : (n + m) * size ≤ c * size := Nat.mul_le_mul_right _ hr
     have hfit : of + n * size + cs.length ≤ ds.length := by omega
     have hsp : ∀ j, j < cs.length → ((w.alloc (.cells cs.toArray e')).cell? ⟨b, of + n * size + j, none⟩).isSome = true ∧ (w.alloc (.cells cs.toArray e')).frozen? ⟨b, of + n * size + j, none⟩ = false := fun j hj =>
      ⟨by rw [hob.c _ _ (List.getElem?_eq_getElem (show of + n * size + j < ds.length by omega))]; rfl, hob.f _⟩
     subst hsize
     have hrun := run_append_room_cells (P := P) (w := w.alloc (.cells cs.toArray e')) ty ty2 e i ht hi b of n c ⟨w.heap.size, 0, none⟩ m m cs hl hsrc h1 hr (fun j hj => (hsp j hj).1) (fun j hj => (hsp j hj).2)
     have e1 := Ext.setCells ht0 cs (w := w.alloc (.cells cs.toArray e')) (of + n * i.size) E0.hi hob.o
     have o1 := hob.setCells cs (of + n * i.size) hfit
     refine ⟨b, of, c, _, O, hrun, E0.trans e1, ⟨_, c, rfl, hr, h3, by rw [List.length_append, h4, hl, hnm2], .inr ⟨b, of, _, rfl, o1, by rw [putAt_len]; exact hod, ?_⟩⟩⟩
     refine List.ext_getElem? fun j => ?_
     by_cases hj : j < (n + m) * i.size
     · rw [List.getElem?_take_of_lt hj, List.getElem?_drop]
       by_cases hj2 : j < n * i.size
       · rw [putAt_out _ _ _ _ (by omega), List.getElem?_append_left (by omega), ← htk, List.getElem?_take_of_lt hj2, List.getElem?_drop]
       · rw [List.getElem?_append_right (by omega), h4, show of + j = of + n * i.size + (j - n * i.size) by omega, putAt_in _ _ _ _ (by omega) hfit]
     · rw [List.getElem?_eq_none (by rw [List.length_take]; omega), List.getElem?_eq_none (by rw [List.length_append, h4, hl]; omega)]
   · obtain ⟨v', w', hrun, r1, r2⟩ := run_append_arg_grows (P := P) (w := w.alloc (.cells cs.toArray e')) ty ty2 e i z size bytes ht hi hz hsize hby hzs hsz ⟨b, of, none⟩ n c xs h4 (fun j u hj => by rw [Addr.add_lit]; exact h'.c j u hj) ⟨w.heap.size, 0, none⟩ m m cs hl hsrc (by omega) hnm hbytes
     obtain ⟨b', o', c', O', rfl, q1, q2⟩ := grow v' w' r1 r2
     exact ⟨b', o', c', w', O', hrun, q1, q2⟩
theorem append_sls {P : Program} {ops : Array Oper} {rest : List Oper} {o : Oper} {a : Act} {Q : Exit → Act → World → Prop} (w : World) (hgd : o.guard = none) (s x : Operand) (ty : TypeId)
 (ho : o.op = .call { callee := .builtin .append, args := #[s, x], argTypes := #[ty, ty] })
 (e : TypeId) (i : TypeInfo) (z : Value) (size bytes : Nat) (ht : P.underlying ty = some (.slice e)) (hi : P.info? e = some i) (hz : i.zero = some z)
 (hsize : i.size = size) (hby : i.bytes = bytes) (hzs : z.cells.size = size) (hsz : 0 < size)
 (O : Om) (t : Nat) (ht0 : t ≠ 0) (hhi : ∀ j, O j ≠ 0 → j < w.heap.size)
 (v : Value) (n : Nat) (xs : List Value) (hs : a.eval s = v) (h : Sls w O t size v n xs)
 (m : Nat) (hm : 0 < m) (cs : List Value) (e' : TypeId) (hx : a.eval x = .slice (some ⟨w.heap.size, 0, none⟩) m m) (hl : cs.length = m * size) (h1 : ∀ u ∈ cs, u.oneCell' = true)
 (hnm : n + m ≤ maxLen) (hbytes : (n + m) * bytes ≤ 140737488355328)
 (hK : ∀ b' o' c' w' O', Ext (fun j => j = t) O w O' w' → Sls w' O' t size (.slice (some ⟨b', o', none⟩) (n + m) c') (n + m) (xs ++ cs) → wpList P ops Q rest (a.put o.dst (.slice (some ⟨b', o', none⟩) (n + m) c')) w') :
 wpList P ops Q (o :: rest) a (w.alloc (.cells cs.toArray e')) := by
 refine wpList_plain hgd fun K hK' => ?_
 obtain ⟨b', o', c', w', O', hrun, q1, q2⟩ := run_append_sls (P := P) w ty o.type e i z size bytes ht hi hz hsize hby hzs hsz O t ht0 hhi v n xs h m hm cs e' hl h1 hnm hbytes
 unfold Oper.wp
 simp [execOp, ho, resolve, invoke, builtin, hs, hx, hrun, Result.andThen]
 exact hK' _ _ (hK b' o' c' w' O' q1 q2)
theorem step_append_sls {P : Program} {ops : Array Oper} {o : Oper} {a : Act} {K : Act → World → Prop} {Q : Exit → Act → World → Prop} {E : Prop} (w : World) (hgd : o.guard = none) (s x : Operand) (ty : TypeId)
 (ho : o.op = .call { callee := .builtin .append, args := #[s, x], argTypes := #[ty, ty] })
 (e : TypeId) (i : TypeInfo) (z : Value) (size bytes : Nat) (ht : P.underlying ty = some (.slice e)) (hi : P.info? e = some i) (hz : i.zero = some z)
 (hsize : i.size = size) (hby : i.bytes = bytes) (hzs : z.cells.size = size) (hsz : 0 < size)
 (O : Om) (t : Nat) (ht0 : t ≠ 0) (hhi : ∀ j, O j ≠ 0 → j < w.heap.size)
 (v : Value) (n : Nat) (xs : List Value) (hs : a.eval s = v) (h : Sls w O t size v n xs)
 (m : Nat) (hm : 0 < m) (cs : List Value) (e' : TypeId) (hx : a.eval x = .slice (some ⟨w.heap.size, 0, none⟩) m m) (hl : cs.length = m * size) (h1 : ∀ u ∈ cs, u.oneCell' = true)
 (hnm : n + m ≤ maxLen) (hbytes : (n + m) * bytes ≤ 140737488355328)
 (hK : ∀ b' o' c' w' O', Ext (fun j => j = t) O w O' w' → Sls w' O' t size (.slice (some ⟨b', o', none⟩) (n + m) c') (n + m) (xs ++ cs) → K (a.put o.dst (.slice (some ⟨b', o', none⟩) (n + m) c')) w') :
 if Region.wanted o (yielded ops a.tmps) = true then Oper.wp P o a (w.alloc (.cells cs.toArray e')) K Q else E := by
 have hw : Region.wanted o (yielded ops a.tmps) = true := by simp [Region.wanted, hgd]
 rw [if_pos hw]
 obtain ⟨b', o', c', w', O', hrun, q1, q2⟩ := run_append_sls (P := P) w ty o.type e i z size bytes ht hi hz hsize hby hzs hsz O t ht0 hhi v n xs h m hm cs e' hl h1 hnm hbytes
 unfold Oper.wp
 simp [execOp, ho, resolve, invoke, builtin, hs, hx, hrun, Result.andThen]
 exact hK b' o' c' w' O' q1 q2
end
end Go.Proofs.YtifkfhnbkjkakaaGreatDoor
