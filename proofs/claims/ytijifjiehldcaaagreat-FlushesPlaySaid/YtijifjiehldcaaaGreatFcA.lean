/- An argument that is a slice of layer 27's acts, opened. Layer 27: FlushesPlay's invariant. -/
import Derived.Test.YtijifjiehldcaaaGreatFArg
import Derived.Test.YtijifjiehldcaaaGreatFdA
import Derived.Test.YtijifjiehldcaaaGreatRow
import Derived.Test.YtijifjiehldcaaaGreatGr
import Derived.Test.YtijifjiehldcaaaGreatSaA
import Derived.Test.YtijifjiehldcaaaGreatFlL
namespace Go.Proofs.YtijifjiehldcaaaGreat
set_option linter.unusedSimpArgs false
section
open Go.ChangeShapes Go.WideShapes Go.Deep Go.RowKit
set_option linter.unusedVariables false

structure Fact where
  kd : Int
  wh : Int
  rf : Int
  sa : Int
  sv : Int
instance : Inhabited Fact := ⟨⟨0, 0, 0, 0, 0⟩⟩
def factc (x : Fact) : List Value := [.int .u8 x.kd, .int .u8 x.wh, .int .i64 x.rf, .int .u64 x.sa, .int .u64 x.sv]
structure FactOk (x : Fact) : Prop where
  k0 : 0 ≤ x.kd
  k1 : x.kd ≤ 255
  w0 : 0 ≤ x.wh
  w1 : x.wh ≤ 255
  r0 : -9223372036854775808 ≤ x.rf
  r1 : x.rf ≤ 9223372036854775807
  a0 : 0 ≤ x.sa
  a1 : x.sa ≤ 18446744073709551615
  v0 : 0 ≤ x.sv
  v1 : x.sv ≤ 18446744073709551615
section
variable {H : Type} {enc : TypeId × Value → H} {w : World} {base : Nat} {spare : Nat → Bool} {held : Bool}
theorem fcells_i64 : Tryz.prog.cellsOf 2 = 1 := by kernel_rfl
theorem fcells_fact : Tryz.prog.cellsOf 69 = 5 := by kernel_rfl
set_option maxRecDepth 100000 in
theorem fact_of_trod {fuel : Nat} {cs : List Value} {x : DataW H × List MemPlace} (h : DataW.trod enc Tryz.prog w base spare held fuel 69 cs = some x) : ∃ p : Fact, FactOk p ∧ factc p = cs := by
  obtain ⟨xs, n, _, _, hlen, hxl, hf⟩ := DataW.trod_struct Tryz.underlying69 h
  rw [fcells_fact] at hlen
  match cs, hlen with
  | [c0, c1, c2, c3, c4], _ =>
    have hx : xs.length = 4 := hxl
    have f0 : DataW.trod enc Tryz.prog w base spare held n 5 (List.take (Tryz.prog.cellsOf 5) (List.drop 0 [c0, c1, c2, c3, c4])) = xs[0]? := hf 0 _ rfl
    have f1 : DataW.trod enc Tryz.prog w base spare held n 5 (List.take (Tryz.prog.cellsOf 5) (List.drop 1 [c0, c1, c2, c3, c4])) = xs[1]? := hf 1 _ rfl
    have f2 : DataW.trod enc Tryz.prog w base spare held n 2 (List.take (Tryz.prog.cellsOf 2) (List.drop 2 [c0, c1, c2, c3, c4])) = xs[2]? := hf 2 _ rfl
    have f3 : DataW.trod enc Tryz.prog w base spare held n 40 (List.take (Tryz.prog.cellsOf 40) (List.drop 3 [c0, c1, c2, c3, c4])) = xs[3]? := hf 3 _ rfl
    rw [fcells_u8] at f0 f1
    rw [fcells_i64] at f2
    rw [fcells_store, List.getElem?_eq_getElem (by omega)] at f3
    obtain ⟨z0, e0, w0⟩ := leaf_trod Tryz.underlying5 f0 (by omega)
    obtain ⟨z1, e1, w1⟩ := leaf_trod Tryz.underlying5 f1 (by omega)
    obtain ⟨z2, e2, w2⟩ := leaf_trod Tryz.underlying2 f2 (by omega)
    obtain ⟨⟨sa, sv⟩, hs, e3⟩ := store_of_trod f3
    unfold stoc at e3
    simp at e0 e1 e2 e3
    obtain ⟨q3, q4⟩ := e3
    subst e0 e1 e2 q3 q4
    have h1 := hs.1.2
    have h2 := hs.2.2
    dsimp only at h1 h2
    exact ⟨⟨z0, z1, z2, sa, sv⟩, ⟨(bd_u8 w0).1, (bd_u8 w0).2, (bd_u8 w1).1, (bd_u8 w1).2, (bd_i64 w2).1, (bd_i64 w2).2, hs.1.1, by show sa ≤ 18446744073709551615; omega, hs.2.1, by show sv ≤ 18446744073709551615; omega⟩, rfl⟩
set_option maxRecDepth 100000 in
theorem open_facts {v : Value} {d : DataW H} {p : List MemPlace} {r : Reach} {b0 : Nat} (h : DataW.Trod enc Tryz.prog w base spare held 62 v d p) (ho : Value.okWide Tryz.prog w r b0 62 v) :
    ∃ l : List Fact, (∀ q ∈ l, FactOk q) ∧ Arr w v l.length 5 (rowOf factc l) := by
  obtain ⟨fuel, hf⟩ := h
  rw [cells_of_slice Tryz.underlying62 ho] at hf
  obtain ⟨v', l, he, hg, hA⟩ := rows_of_trod (α := Fact) (f := factc) (good := FactOk) Tryz.underlying62 fcells_fact (by omega) (fun _ => rfl) fact_of_trod hf
  cases he
  exact ⟨l, hg, hA⟩
end
end
section
open Go.RowKit
set_option linter.unusedVariables false

structure Fop where
  b : FB
  R : Nat
  T : Nat
  d : Int
  y : Flm
def fopc : Option Fop → List Value
  | none => [.pointer none, .pointer none]
  | some q => [.pointer (some ⟨q.b.X, 0, none⟩), .pointer (some ⟨q.R, 0, none⟩)]
theorem fopc_len (q : Option Fop) : (fopc q).length = 2 := by cases q <;> rfl
theorem rowOf_set2 {α : Type} {f : α → List Value} (hf : ∀ a, (f a).length = 2) (l : List α) (i : Nat) (x : α) (a b : Value) (hx : f x = [a, b]) (hi : i < l.length) : ((rowOf f l).set (i * 2) a).set (i * 2 + 1) b = rowOf f (l.set i x) := by
  induction l generalizing i with
  | nil => simp at hi
  | cons c l ih =>
    have hc := hf c
    match hfc : f c, hc with
    | [u, v], _ =>
      have e : ∀ m, rowOf f (c :: m) = u :: v :: rowOf f m := fun m => by show f c ++ rowOf f m = _; rw [hfc]; rfl
      cases i with
      | zero =>
        rw [e]
        show a :: b :: rowOf f l = f x ++ rowOf f l
        rw [hx]; rfl
      | succ i =>
        rw [e, show (i + 1) * 2 = i * 2 + 1 + 1 by omega, show i * 2 + 1 + 1 + 1 = (i * 2 + 1) + 1 + 1 by omega, List.set_cons_succ, List.set_cons_succ, List.set_cons_succ, List.set_cons_succ, List.set_cons_succ, e, ih i (by simpa using hi)]
structure FopAt (w : World) (G : Om) (j : Nat) (q : Fop) : Prop where
  f : FAt w G (10 + 8 * j) q.b j q.d q.y
  r : FdAt w G (14 + 8 * j) q.R q.T j q.d q.y
  ok : q.y.ok
  d0 : -9223372036854775808 ≤ q.d
  d1 : q.d ≤ 9223372036854775807
theorem FopAt.ext {S : Nat → Prop} {O O' : Om} {w w' : World} {j : Nat} {q : Fop} (h : FopAt w O j q) (e : Ext S O w O' w') (hs : ∀ i, i < 6 → ¬ S (10 + 8 * j + i)) : FopAt w' O' j q :=
  ⟨h.f.ext e (hs 0 (by decide)) (hs 1 (by decide)) (hs 2 (by decide)) (hs 3 (by decide)), h.r.ext e (by have := hs 4 (by decide); rwa [show 10 + 8 * j + 4 = 14 + 8 * j by omega] at this) (by have := hs 5 (by decide); rwa [show 10 + 8 * j + 5 = 14 + 8 * j + 1 by omega] at this), h.ok, h.d0, h.d1⟩
theorem FopAt.below {O : Om} {w w' : World} {j : Nat} {q : Fop} (h : FopAt w O j q) (hb : Below w.heap.size w w') : FopAt w' O j q := ⟨h.f.below hb, h.r.below hb, h.ok, h.d0, h.d1⟩
structure FI (w0 : World) (B C : Wb) (f : Cf) (N NA k : Nat) (w : World) (G : Om) (s : AW) (m : Nat) (sl : List (Option Fop)) : Prop where
  env : Env w0 G w
  pr : PR w G B C f s m
  n0 : 0 ≤ s.n
  n1 : s.n ≤ 1000 + k
  m1 : m ≤ 1000 + k
  hit : s.it.length ≤ 40
  hnt : s.nt = []
  ar : Ob w G 9 NA (rowOf fopc sl)
  len : sl.length = 4
  ops : ∀ (j : Nat) (q : Fop), sl[j]? = some (some q) → FopAt w G j q
  pN : N < w.heap.size
  oN : G N = 0
  p0 : w.cell? ⟨N, 0, none⟩ = some (.pointer (some ⟨B.p, 0, none⟩))
  p1 : w.cell? ⟨N, 1, none⟩ = some (.pointer (some ⟨C.p, 0, none⟩))
section
variable {S : Nat → Prop} {w0 w w' : World} {B C : Wb} {f : Cf} {N NA k k' : Nat} {G G' : Om} {s s' : AW} {m m' : Nat} {sl : List (Option Fop)}
theorem FI.below (h : FI w0 B C f N NA k w G s m sl) (hb : Below w.heap.size w w') : FI w0 B C f N NA k w' G s m sl :=
  ⟨h.env.ext (S := fun _ => True) (Ext.of_below h.env.hi hb), h.pr.below h.env.hi hb, h.n0, h.n1, h.m1, h.hit, h.hnt, h.ar.below hb, h.len, fun j q hj => (h.ops j q hj).below hb, Nat.lt_of_lt_of_le h.pN hb.size, h.oN, (hb.cell (p := ⟨N, 0, none⟩) h.pN).trans h.p0, (hb.cell (p := ⟨N, 1, none⟩) h.pN).trans h.p1⟩
theorem FI.up (h : FI w0 B C f N NA k w G s m sl) (hk : k ≤ k') : FI w0 B C f N NA k' w G s m sl :=
  ⟨h.env, h.pr, h.n0, by have := h.n1; omega, by have := h.m1; omega, h.hit, h.hnt, h.ar, h.len, h.ops, h.pN, h.oN, h.p0, h.p1⟩
theorem FI.cells (h : FI w0 B C f N NA k w G s m sl) (j : Nat) (u : Option Fop) (hj : sl[j]? = some u) (i : Nat) (hi : i < 2) (v : Value) (hv : (fopc u)[i]? = some v) : w.cell? ⟨NA, j * 2 + i, none⟩ = some v := by
  obtain ⟨hjl, hx⟩ := List.getElem?_eq_some_iff.1 hj
  exact h.ar.c _ _ ((rowOf_get fopc_len sl j i hjl hi).trans (by rw [hx]; exact hv))
/-- What both worlds' owners alone wrote. -/
theorem FI.sp (h : FI w0 B C f N NA k w G s m sl) (e : Ext SP G w G' w') (pr : PR w' G' B C f s' m') (n0 : 0 ≤ s'.n) (n1 : s'.n ≤ 1000 + (k + 1 : Nat)) (m1 : m' ≤ 1000 + (k + 1)) (hit : s'.it.length ≤ 40) (hnt : s'.nt = []) : FI w0 B C f N NA (k + 1) w' G' s' m' sl :=
  ⟨h.env.ext e, pr, n0, n1, m1, hit, hnt, h.ar.ext e sp9, h.len, fun j q hj => (h.ops j q hj).ext e (fun i hi k => by have := k.2; omega), Nat.lt_of_lt_of_le h.pN e.size, (e.lo N h.pN).trans h.oN, (e.nob sp0 h.pN h.oN 0).trans h.p0, (e.nob sp0 h.pN h.oN 1).trans h.p1⟩
/-- A new Flush of both sides at j, put into the array. -/
theorem FI.new {j : Nat} {q : Fop} {w1 : World} (h : FI w0 B C f N NA k w G s m sl) (hj : j < 4) (e : Ext (fun t => 10 + 8 * j ≤ t ∧ t ≤ 15 + 8 * j) G w G' w') (hf : FAt w' G' (10 + 8 * j) q.b j q.d q.y) (hr : FdAt w' G' (14 + 8 * j) q.R q.T j q.d q.y) (hok : q.y.ok) (d0 : -9223372036854775808 ≤ q.d) (d1 : q.d ≤ 9223372036854775807)
    (hw : w1 = (w'.setCell ⟨NA, j * 2, none⟩ (.pointer (some ⟨q.b.X, 0, none⟩))).setCell ⟨NA, j * 2 + 1, none⟩ (.pointer (some ⟨q.R, 0, none⟩))) :
    FI w0 B C f N NA (k + 1) w1 G' s m (sl.set j (some q)) ∧ Ext (fun t => t = 9 ∨ (10 + 8 * j ≤ t ∧ t ≤ 15 + 8 * j)) G w G' w1 := by
  have a1 := h.ar.ext e (by omega)
  have hl : (rowOf fopc sl).length = 8 := by rw [rowOf_len fopc_len, h.len]
  have s1 : Ext (fun t => t = 9) G' w' G' (w'.setCell ⟨NA, j * 2, none⟩ (.pointer (some ⟨q.b.X, 0, none⟩))) := Ext.of_set e.hi a1.o (by decide) rfl
  have a2 := a1.set (j * 2) (.pointer (some ⟨q.b.X, 0, none⟩)) (by omega)
  have s2 : Ext (fun t => t = 9) G' _ G' ((w'.setCell ⟨NA, j * 2, none⟩ (.pointer (some ⟨q.b.X, 0, none⟩))).setCell ⟨NA, j * 2 + 1, none⟩ (.pointer (some ⟨q.R, 0, none⟩))) := Ext.of_set s1.hi a2.o (by decide) rfl
  have a3 := a2.set (j * 2 + 1) (.pointer (some ⟨q.R, 0, none⟩)) (by rw [List.length_set]; omega)
  rw [rowOf_set2 fopc_len sl j (some q) _ _ rfl (by rw [h.len]; exact hj)] at a3
  have s12 := s1.trans s2
  rw [← hw] at s12 a3
  have E : Ext (fun t => t = 9 ∨ (10 + 8 * j ≤ t ∧ t ≤ 15 + 8 * j)) G w G' w1 := (e.mono fun _ _ h => .inr h).trans (s12.mono fun _ _ h => .inl h)
  have hq : FopAt w1 G' j q := FopAt.ext ⟨hf, hr, hok, d0, d1⟩ s12 (fun i _ => by omega)
  refine ⟨⟨h.env.ext E, h.pr.ext E (fun t ht => by have := ht.2; omega), h.n0, by have := h.n1; omega, by have := h.m1; omega, h.hit, h.hnt, a3, by rw [List.length_set]; exact h.len, fun i p hp => ?_, Nat.lt_of_lt_of_le h.pN E.size, (E.lo N h.pN).trans h.oN, (E.nob (by omega) h.pN h.oN 0).trans h.p0, (E.nob (by omega) h.pN h.oN 1).trans h.p1⟩, E⟩
  rw [List.getElem?_set] at hp
  split at hp
  · rename_i e2
    subst e2
    rw [if_pos (by rw [h.len]; exact hj)] at hp
    cases hp
    exact hq
  · rename_i e2
    exact (h.ops i p hp).ext E (fun u hu => by omega)
theorem tkStep_aw (t : Nat) (s : AW) (x : Tkm) : s.n ≤ (tkStep t s x).1.n ∧ (tkStep t s x).1.n ≤ s.n + 1 ∧ (tkStep t s x).1.it = s.it ∧ (tkStep t s x).1.nt = s.nt := by
  unfold tkStep
  split
  · exact ⟨by show s.n ≤ s.n + 1; omega, by show s.n + 1 ≤ s.n + 1; omega, rfl, rfl⟩
  · split
    · split
      · exact ⟨by show s.n ≤ s.n + 1; omega, by show s.n + 1 ≤ s.n + 1; omega, rfl, rfl⟩
      · exact ⟨by show s.n ≤ s.n + 1; omega, by show s.n + 1 ≤ s.n + 1; omega, rfl, rfl⟩
    · exact ⟨Int.le_refl _, by show s.n ≤ s.n + 1; omega, rfl, rfl⟩
theorem flStep_aw (t : Nat) (d : Int) (s : AW) (y : Flm) : s.n ≤ (flStep t d s y).1.n ∧ (flStep t d s y).1.n ≤ s.n + 1 ∧ (flStep t d s y).1.it = s.it ∧ (flStep t d s y).1.nt = s.nt := by
  unfold flStep
  split
  · exact tkStep_aw t s y.tk
  · split
    · show s.n ≤ (awFlush d s).n ∧ (awFlush d s).n ≤ s.n + 1 ∧ (awFlush d s).it = s.it ∧ (awFlush d s).nt = s.nt
      unfold awFlush
      split
      · exact ⟨by show s.n ≤ s.n + 1; omega, by show s.n + 1 ≤ s.n + 1; omega, rfl, rfl⟩
      · exact ⟨by show s.n ≤ s.n + 1; omega, by show s.n + 1 ≤ s.n + 1; omega, rfl, rfl⟩
    · split
      · exact ⟨by show s.n ≤ s.n + 1; omega, by show s.n + 1 ≤ s.n + 1; omega, rfl, rfl⟩
      · exact ⟨Int.le_refl _, by show s.n ≤ s.n + 1; omega, rfl, rfl⟩
/-- A step of the Flush at j of both sides: the document's first. -/
theorem FI.step {j : Nat} {q : Fop} {G1 G2 : Om} {w1 w2 : World} (h : FI w0 B C f N NA k w G s m sl) (hj : sl[j]? = some (some q))
    (e1 : Ext (SD (14 + 8 * j) (14 + 8 * j + 2)) G w G1 w1) (r1 : RW w1 G1 C f (flStep j q.d s q.y).1 (m + 1)) (x1 : FdAt w1 G1 (14 + 8 * j) q.R q.T j q.d (flStep j q.d s q.y).2)
    (e2 : Ext (SX (10 + 8 * j) (10 + 8 * j + 3)) G1 w1 G2 w2) (p2 : PW w2 G2 B f (flStep j q.d s q.y).1) (x2 : FAt w2 G2 (10 + 8 * j) q.b j q.d (flStep j q.d s q.y).2) :
    ∃ q', FopAt w2 G2 j q' ∧ q'.b.X = q.b.X ∧ q'.R = q.R ∧ FI w0 B C f N NA (k + 1) w2 G2 (flStep j q.d s q.y).1 (m + 1) (sl.set j (some q')) := by
  have hjl := (List.getElem?_eq_some_iff.1 hj).1
  have h0 := h.ops j q hj
  have hq : FopAt w2 G2 j ⟨q.b, q.R, q.T, q.d, (flStep j q.d s q.y).2⟩ := ⟨x2, x1.ext e2 (SX.not (by omega) (by omega)) (SX.not (by omega) (by omega)), flStep_ok h0.ok, h0.d0, h0.d1⟩
  obtain ⟨a1, a2, a3, a4⟩ := flStep_aw j q.d s q.y
  have E : Ext (fun t => SD (14 + 8 * j) (14 + 8 * j + 2) t ∨ SX (10 + 8 * j) (10 + 8 * j + 3) t) G w G2 w2 := (e1.mono fun _ _ h => .inl h).trans (e2.mono fun _ _ h => .inr h)
  have hE : ∀ t, (t = 0 ∨ 9 ≤ t) → (t < 10 + 8 * j ∨ 16 + 8 * j < t) → ¬ (SD (14 + 8 * j) (14 + 8 * j + 2) t ∨ SX (10 + 8 * j) (10 + 8 * j + 3) t) := fun t h1 h2 h => by
    unfold SD SR SX at h; omega
  have hrow : rowOf fopc (sl.set j (some ⟨q.b, q.R, q.T, q.d, (flStep j q.d s q.y).2⟩)) = rowOf fopc sl := by
    unfold rowOf
    rw [List.flatMap_def, List.flatMap_def, List.map_set]
    congr 1
    refine List.ext_getElem? fun i => ?_
    rw [List.getElem?_set]
    split
    · rename_i e
      subst e
      rw [if_pos (by simpa using hjl), List.getElem?_map, hj]; rfl
    · rfl
  refine ⟨_, hq, rfl, rfl, h.env.ext E, ⟨p2, r1.ext e2 (SX.not (by omega) (by omega)) (SX.not (by omega) (by omega)) (SX.not (by omega) (by omega)) (SX.not (by omega) (by omega))⟩, by have := h.n0; omega, by have := h.n1; omega, by have := h.m1; omega, by rw [a3]; exact h.hit, by rw [a4]; exact h.hnt, by rw [hrow]; exact h.ar.ext E (hE 9 (by omega) (by omega)), by rw [List.length_set]; exact h.len, fun i p hp => ?_, Nat.lt_of_lt_of_le h.pN E.size, (E.lo N h.pN).trans h.oN, (E.nob (hE 0 (by omega) (by omega)) h.pN h.oN 0).trans h.p0, (E.nob (hE 0 (by omega) (by omega)) h.pN h.oN 1).trans h.p1⟩
  rw [List.getElem?_set] at hp
  split at hp
  · rename_i e
    subst e
    cases hp
    exact hq
  · rename_i e
    exact (h.ops i p hp).ext E (fun u hu => hE _ (by omega) (by omega))
end
end
end Go.Proofs.YtijifjiehldcaaaGreat
