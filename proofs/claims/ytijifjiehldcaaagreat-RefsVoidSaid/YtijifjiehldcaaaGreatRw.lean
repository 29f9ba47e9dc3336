/- The document's world in memory; contracts of what it does with its cells. -/
import Derived.Test.YtijifjiehldcaaaGreatRc
import Derived.Test.YtijifjiehldcaaaGreatWtk
import Derived.Test.YtijifjiehldcaaaGreatEpR2
namespace Go.Proofs.YtijifjiehldcaaaGreat
set_option linter.unusedSimpArgs false
open Go.RowKit
set_option linter.unusedVariables false

/-- A list of structs behind a header of one cell, all of it t's. -/
structure LH {α : Type} (w : World) (O : Om) (t : Nat) (E : TypeId) (size : Nat) (f : α → List Value) (h : Nat) (l : List α) : Prop where
  ex : ∃ v, Ob w O t h [v] ∧ w.ownsRow 0 E size v l.length (rowOf f l) ∧ ∀ k, v.ownBlock = some k → O k = t ∧ k ≠ h
theorem LH.ext {α : Type} {S : Nat → Prop} {O O' : Om} {w w' : World} {t h size : Nat} {E : TypeId} {f : α → List Value} {l : List α} (n : LH w O t E size f h l) (e : Ext S O w O' w') (hs : ¬ S t) : LH w' O' t E size f h l := by
  obtain ⟨v, h1, h2, h3⟩ := n.ex
  exact ⟨v, h1.ext e hs, e.own h2 (fun k hk => by rw [(h3 k hk).1]; exact hs), fun k hk => ⟨(e.lo k (h2.lt k hk).2).trans (h3 k hk).1, (h3 k hk).2⟩⟩
/-- The document's world: its struct is 5's, its cells 6's, its records 7's, its notes 8's. -/
structure RW (w : World) (O : Om) (B : Wb) (f : Cf) (s : AW) (m : Nat) : Prop where
  o : O B.p = 5
  wo : Wo w B.p B.c B.ip B.np f s.tk s.ho
  ce : RC w O 6 B.c s.M s.n s.la m
  ar : LH w O 7 75 6 itc B.ip s.it
  no : LH w O 8 140 8 ntr B.np s.nt
def SR (t : Nat) : Prop := 5 ≤ t ∧ t ≤ 8
section
variable {S : Nat → Prop} {O O' : Om} {w w' : World} {B : Wb} {f : Cf} {s : AW} {m : Nat}
theorem RW.ext (h : RW w O B f s m) (e : Ext S O w O' w') (h1 : ¬ S 5) (h2 : ¬ S 6) (h3 : ¬ S 7) (h4 : ¬ S 8) : RW w' O' B f s m :=
  ⟨(e.lo _ h.wo.lt).trans h.o, h.wo.wrote e.wr fun k => h1 (by have := k.1; rwa [h.o] at this), h.ce.ext e h2, h.ar.ext e h3, h.no.ext e h4⟩
theorem RW.below (h : RW w O B f s m) (hhi : ∀ j, O j ≠ 0 → j < w.heap.size) (hb : Below w.heap.size w w') : RW w' O B f s m := h.ext (S := fun _ => False) (Ext.of_below hhi hb) id id id id
theorem RW.cells {M : Int → Int} {n : Int} {la : La} {m1 : Nat} (h : RW w O B f s m) (e : Ext (fun t => t = 6) O w O' w') (hc : RC w' O' 6 B.c M n la m1) : RW w' O' B f ⟨M, n, la, s.tk, s.ho, s.it, s.nt⟩ m1 :=
  ⟨(e.lo _ h.wo.lt).trans h.o, h.wo.wrote e.wr (fun k => absurd (show (5 : Nat) = 6 from by have := k.1; rwa [h.o] at this) (by decide)), hc, h.ar.ext e (by decide), h.no.ext e (by decide)⟩
theorem RW.rp {M : Int → Int} {n : Int} {la : La} {m1 : Nat} {v : Value} {e : Ending} (h : RW w O B f s m) (hp : RP (fun t => t = 6) w O v (fun W G => RC W G 6 B.c M n la m1) e w') : RP SR w O v (fun W G => RW W G B f ⟨M, n, la, s.tk, s.ho, s.it, s.nt⟩ m1) e w' := by
  obtain ⟨rfl, O', h1, h2⟩ := hp
  exact ⟨rfl, O', h1.mono fun t _ ht => by subst ht; exact ⟨by decide, by decide⟩, h.cells h1 h2⟩
theorem RW.bd (h : RW w O B f s m) : Bd s.M := h.ce.bd
theorem c_rwPeek (x : Int) (h : RW w O B f s m) (hm : m ≤ 1000000) :
    Calls Tryz.prog 16 #[.pointer (some ⟨B.p, 0, none⟩), .int .u64 x] w fun e w' => e = .returned (.int .u64 (s.M x)) ∧ w = w' := by
  have p0 := h.wo.c0
  have HK := Lib.hid (c_rPeek x h.ce hm)
  clear h
  go_enter Tryz.func16, Tryz.ntmps16
  go_wp2_with fail
  refine (HK.out).mono ?_
  rintro e w' ⟨rfl, rfl⟩
  go_wp2
  go_ret
  exact ⟨rfl, rfl⟩
theorem c_rwLoad (x : Int) (h : RW w O B f s m) (hm : m ≤ 1000000) (x0 : 0 ≤ x) (x1 : x < 18446744073709551616) (hhi : ∀ j, O j ≠ 0 → j < w.heap.size) (n0 : 0 ≤ s.n) (n1 : s.n ≤ 4611686018427387904) :
    Calls Tryz.prog 46 #[.pointer (some ⟨B.p, 0, none⟩), .int .u64 x] w (RP SR w O (.int .u64 (s.M x)) fun W G => RW W G B f (awLoad x s) (m + 1)) := by
  have p0 := h.wo.c0
  have HK := Lib.hid (c_rLoad x h.ce hm (by decide) x0 x1 hhi n0 n1)
  have H := Lib.hid h
  clear h hhi
  go_enter Tryz.func46, Tryz.ntmps46
  go_wp2_with fail
  refine (HK.out).mono ?_
  intro e w1 hp
  obtain ⟨rfl, O1, e1, h1⟩ := H.out.rp hp
  have HE := Lib.hid (And.intro e1 h1)
  clear hp e1 h1
  go_wp2
  go_ret
  exact ⟨rfl, O1, HE.out⟩
theorem c_rwStore (x y : Int) (h : RW w O B f s m) (hm : m ≤ 1000000) (x0 : 0 ≤ x) (x1 : x < 18446744073709551616) (y0 : 0 ≤ y) (y1 : y < 18446744073709551616) (hhi : ∀ j, O j ≠ 0 → j < w.heap.size) (n0 : 0 ≤ s.n) (n1 : s.n ≤ 4611686018427387904) :
    Calls Tryz.prog 44 #[.pointer (some ⟨B.p, 0, none⟩), .int .u64 x, .int .u64 y] w (RP SR w O (.int .u64 (s.M x)) fun W G => RW W G B f (awStore x y s) (m + 1)) := by
  have p0 := h.wo.c0
  have HK := Lib.hid (c_rStore x y h.ce hm (by decide) x0 x1 y0 y1 hhi n0 n1)
  have H := Lib.hid h
  clear h hhi
  go_enter Tryz.func44, Tryz.ntmps44
  go_wp2_with fail
  refine (HK.out).mono ?_
  intro e w1 hp
  obtain ⟨rfl, O1, e1, h1⟩ := H.out.rp hp
  have HE := Lib.hid (And.intro e1 h1)
  clear hp e1 h1
  go_wp2
  go_ret
  exact ⟨rfl, O1, HE.out⟩
theorem c_rwCAS (x o y : Int) (h : RW w O B f s m) (hm : m ≤ 1000000) (x0 : 0 ≤ x) (x1 : x < 18446744073709551616) (y0 : 0 ≤ y) (y1 : y < 18446744073709551616) (hhi : ∀ j, O j ≠ 0 → j < w.heap.size) (n0 : 0 ≤ s.n) (n1 : s.n ≤ 4611686018427387904) :
    Calls Tryz.prog 48 #[.pointer (some ⟨B.p, 0, none⟩), .int .u64 x, .int .u64 o, .int .u64 y] w (RP SR w O (.tuple #[.int .u64 (s.M x), .bool (s.M x == o)]) fun W G => RW W G B f ⟨upd s.M x (if s.M x = o then y else s.M x), s.n + 1, ⟨3, x, s.M x, if s.M x = o then y else s.M x⟩, s.tk, s.ho, s.it, s.nt⟩ (m + 1)) := by
  have p0 := h.wo.c0
  have HK := Lib.hid (c_rCAS x o y h.ce hm (by decide) x0 x1 y0 y1 hhi n0 n1)
  have H := Lib.hid h
  obtain ⟨b, hb⟩ : ∃ b, b = (s.M x == o) := ⟨_, rfl⟩
  obtain ⟨z, hz⟩ : ∃ z, z = (if s.M x = o then y else s.M x) := ⟨_, rfl⟩
  rw [← hb, ← hz] at HK ⊢
  clear h hhi hb hz
  go_enter Tryz.func48, Tryz.ntmps48
  go_wp2_with fail
  refine (HK.out).mono ?_
  intro e w1 hp
  obtain ⟨rfl, O1, e1, h1⟩ := H.out.rp hp
  have HE := Lib.hid (And.intro e1 h1)
  clear hp e1 h1
  go_wp2
  go_ret2
  exact ⟨rfl, O1, HE.out⟩
theorem c_rwAdd (x y : Int) (h : RW w O B f s m) (hm : m ≤ 1000000) (x0 : 0 ≤ x) (x1 : x < 18446744073709551616) (y0 : 0 ≤ y) (y1 : y < 18446744073709551616) (hhi : ∀ j, O j ≠ 0 → j < w.heap.size) (n0 : 0 ≤ s.n) (n1 : s.n ≤ 4611686018427387904) :
    Calls Tryz.prog 121 #[.pointer (some ⟨B.p, 0, none⟩), .int .u64 x, .int .u64 y] w (RP SR w O (.int .u64 (s.M x)) fun W G => RW W G B f ⟨upd s.M x ((s.M x + y) % 18446744073709551616), s.n + 1, ⟨4, x, s.M x, (s.M x + y) % 18446744073709551616⟩, s.tk, s.ho, s.it, s.nt⟩ (m + 1)) := by
  have p0 := h.wo.c0
  have HK := Lib.hid (c_rAdd x y h.ce hm (by decide) x0 x1 y0 y1 hhi n0 n1)
  have H := Lib.hid h
  clear h hhi
  go_enter Tryz.func121, Tryz.ntmps121
  go_wp2_with fail
  refine (HK.out).mono ?_
  intro e w1 hp
  obtain ⟨rfl, O1, e1, h1⟩ := H.out.rp hp
  have HE := Lib.hid (And.intro e1 h1)
  clear hp e1 h1
  go_wp2
  go_ret
  exact ⟨rfl, O1, HE.out⟩
theorem c_rwSteps (h : RW w O B f s m) : Calls Tryz.prog 51 #[.pointer (some ⟨B.p, 0, none⟩)] w fun e w' => e = .returned (.int .i64 s.n) ∧ w = w' := by
  have p0 := h.wo.c0
  obtain ⟨v, L, k1, k2, k3, k4, k5, k6, k7⟩ := h.ce.ex
  have q1 := k5.c 1 _ rfl
  clear h k1 k2 k3 k4 k5 k6 k7
  go_enter Tryz.func51, Tryz.ntmps51
  go_wp2
  go_ret
  exact ⟨rfl, rfl⟩
theorem c_rwTick (h : RW w O B f s m) (hm : m ≤ 1000000) (hhi : ∀ j, O j ≠ 0 → j < w.heap.size) (n0 : 0 ≤ s.n) (n1 : s.n ≤ 4611686018427387904) :
    Calls Tryz.prog 76 #[.pointer (some ⟨B.p, 0, none⟩)] w (RP SR w O (.tuple #[]) fun W G => RW W G B f (awTick s) (m + 1)) := by
  have hb := h.bd 8
  have htb := epTick_bd (s.M 8)
  have HK := Lib.hid (c_rwPeek 8 h hm)
  have HC := Lib.hid (c_rwCAS 8 (s.M 8) (epTick (s.M 8)) h hm (by decide) (by decide) htb.1 (by omega) hhi n0 n1)
  rw [if_pos rfl] at HC
  clear h hhi
  go_enter Tryz.func76, Tryz.ntmps76
  go_wp2_with fail
  refine (HK.out).mono ?_
  rintro e w' ⟨rfl, rfl⟩
  go_wp2_with fail
  refine (c_rTick (s.M 8) _ hb.1 (by omega)).mono ?_
  rintro e w' ⟨rfl, rfl⟩
  go_wp2_with fail
  refine (HC.out).mono ?_
  rintro e w1 ⟨rfl, O1, e1, h1⟩
  have HE := Lib.hid (And.intro e1 h1)
  clear e1 h1 HC HK
  go_wp2
  go_end0
  exact ⟨rfl, O1, HE.out⟩
end
end Go.Proofs.YtijifjiehldcaaaGreat
