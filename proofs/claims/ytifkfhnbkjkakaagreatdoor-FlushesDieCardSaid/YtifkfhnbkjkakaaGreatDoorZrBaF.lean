/- The document's cells, in plain Lean: a list of words that are not 0, by rising addresses. The document's cells: contracts of Peek, put, access, Load, Store, CAS, Add. Contracts of the document's functions of layer 7, but for Dies and Alive. The document's world in memory; contracts of what it does with its cells. The document's world and an object that a method is at. Layer 6: records in memory; contracts of the arena's place, Add, At, Count. -/
import Derived.Test.YtifkfhnbkjkakaaGreatDoorZrBaB
import Derived.Test.YtifkfhnbkjkakaaGreatDoorZrBaC
import Derived.Test.YtifkfhnbkjkakaaGreatDoorZrBaE
import Derived.BigQuiet
import Derived.Deep.DeepCutAuto
import Derived.Deep.QuietTactic
namespace Go.Proofs.YtifkfhnbkjkakaaGreatDoor
set_option linter.unusedSimpArgs false
set_option linter.unusedVariables false
set_option maxHeartbeats 2000000
set_option maxRecDepth 100000
section
structure Wv where
 a : Int
 v : Int
def rlook (L : List Wv) (x : Int) : Int := ((L.find? fun d => d.a == x).map Wv.v).getD 0
def Ris (L : List Wv) : Prop := L.Pairwise fun x y => x.a < y.a
def WvOk (x : Wv) : Prop := (0 ≤ x.a ∧ x.a < 18446744073709551616) ∧ 0 < x.v ∧ x.v < 18446744073709551616
end
section
open Go.RowKit
def wvc (x : Wv) : List Value := [.int .u64 x.a, .int .u64 x.v]
def rcCs (v : Value) (n : Int) (la : La) : List Value := [v, .int .i64 n, .int .u8 la.k, .int .u64 la.a, .int .u64 la.s, .int .u64 la.i]
structure RC (w : World) (O : Om) (g c : Nat) (M : Int → Int) (n : Int) (la : La) (m : Nat) : Prop where
 ex : ∃ (v : Value) (L : List Wv), Ris L ∧ (∀ x ∈ L, WvOk x) ∧ (∀ y, rlook L y = M y) ∧ L.length ≤ m ∧ Ob w O g c (rcCs v n la) ∧ w.ownsRow 0 223 2 v L.length (rowOf wvc L) ∧ (∀ k, v.ownBlock = some k → O k = g ∧ k ≠ c)
section
variable {S : Nat → Prop} {O O' : Om} {w w' : World} {g c m : Nat} {M : Int → Int} {n : Int} {la : La}
theorem RC.ext (h : RC w O g c M n la m) (e : Ext S O w O' w') (hs : ¬ S g) : RC w' O' g c M n la m := by
 obtain ⟨v, L, h1, h2, h3, h4, h5, h6, h7⟩ := h.ex
 exact ⟨v, L, h1, h2, h3, h4, h5.ext e hs, e.own h6 (fun k hk => by rw [(h7 k hk).1]; exact hs), fun k hk => ⟨(e.lo k (h6.lt k hk).2).trans (h7 k hk).1, (h7 k hk).2⟩⟩
theorem RC.below (h : RC w O g c M n la m) (hb : Below w.heap.size w w') : RC w' O g c M n la m := by
 obtain ⟨v, L, h1, h2, h3, h4, h5, h6, h7⟩ := h.ex
 exact ⟨v, L, h1, h2, h3, h4, h5.below hb, ownsRow_below h6 hb, h7⟩
theorem RC.bd (h : RC w O g c M n la m) : Bd M := by
 obtain ⟨v, L, h1, h2, h3, h4, h5, h6, h7⟩ := h.ex
 intro x
 rw [← h3]
 unfold rlook
 cases hf : L.find? (fun d => d.a == x) with
 | none => simp
 | some d => have := h2 d (List.mem_of_find?_eq_some hf); exact ⟨by have := this.2.1; show 0 ≤ d.v; omega, this.2.2⟩
theorem RC.lt (h : RC w O g c M n la m) : c < w.heap.size := by
 obtain ⟨v, L, h1, h2, h3, h4, h5, h6, h7⟩ := h.ex
 exact h5.lt
end
end
section
open Go.RowKit
structure LH {α : Type} (w : World) (O : Om) (t : Nat) (E : TypeId) (size : Nat) (f : α → List Value) (h : Nat) (l : List α) : Prop where
 ex : ∃ v, Ob w O t h [v] ∧ w.ownsRow 0 E size v l.length (rowOf f l) ∧ ∀ k, v.ownBlock = some k → O k = t ∧ k ≠ h
theorem LH.ext {α : Type} {S : Nat → Prop} {O O' : Om} {w w' : World} {t h size : Nat} {E : TypeId} {f : α → List Value} {l : List α} (n : LH w O t E size f h l) (e : Ext S O w O' w') (hs : ¬ S t) : LH w' O' t E size f h l := by
 obtain ⟨v, h1, h2, h3⟩ := n.ex
 exact ⟨v, h1.ext e hs, e.own h2 (fun k hk => by rw [(h3 k hk).1]; exact hs), fun k hk => ⟨(e.lo k (h2.lt k hk).2).trans (h3 k hk).1, (h3 k hk).2⟩⟩
structure RW (w : World) (O : Om) (B : Wb) (f : Cf) (s : AW) (m : Nat) : Prop where
 o : O B.p = 5
 wo : Wo w B.p B.c B.ip B.np f s.tk s.ho
 ce : RC w O 6 B.c s.M s.n s.la m
 ar : LH w O 7 34 6 itc B.ip s.it
 no : LH w O 8 172 8 ntr B.np s.nt
def SR (t : Nat) : Prop := 5 ≤ t ∧ t ≤ 8
section
variable {S : Nat → Prop} {O O' : Om} {w w' : World} {B : Wb} {f : Cf} {s : AW} {m : Nat}
theorem RW.ext (h : RW w O B f s m) (e : Ext S O w O' w') (h1 : ¬ S 5) (h2 : ¬ S 6) (h3 : ¬ S 7) (h4 : ¬ S 8) : RW w' O' B f s m :=
 ⟨(e.lo _ h.wo.lt).trans h.o, h.wo.wrote e.wr fun k => h1 (by have := k.1; rwa [h.o] at this), h.ce.ext e h2, h.ar.ext e h3, h.no.ext e h4⟩
theorem RW.below (h : RW w O B f s m) (hhi : ∀ j, O j ≠ 0 → j < w.heap.size) (hb : Below w.heap.size w w') : RW w' O B f s m := h.ext (S := fun _ => False) (Ext.of_below hhi hb) id id id id
theorem RW.cells {M : Int → Int} {n : Int} {la : La} {m1 : Nat} (h : RW w O B f s m) (e : Ext (fun t => t = 6) O w O' w') (hc : RC w' O' 6 B.c M n la m1) : RW w' O' B f ⟨M, n, la, s.tk, s.ho, s.it, s.nt⟩ m1 :=
 ⟨(e.lo _ h.wo.lt).trans h.o, h.wo.wrote e.wr (fun k => absurd (show (5 : Nat) = 6 from by have := k.1; rwa [h.o] at this) (by decide)), hc, h.ar.ext e (by decide), h.no.ext e (by decide)⟩
theorem RW.rp {M : Int → Int} {n : Int} {la : La} {m1 : Nat} {v : Value} {e : Ending} (h : RW w O B f s m) (hp : RP (fun t => t = 6) w O v (fun W G => RC W G 6 B.c M n la m1) e w') : RP SR w O v (fun W G => RW W G B f ⟨M, n, la, s.tk, s.ho, s.it, s.nt⟩ m1) e w' := by
 obtain ⟨rfl, O', h1, h2⟩ := hp
 exact ⟨rfl, O', h1.mono fun t _ ht => by subst ht; exact ⟨by decide, by decide⟩, h.cells h1 h2⟩
theorem RW.bd (h : RW w O B f s m) : Bd s.M := h.ce.bd
end
end
section
open Go.RowKit
section
variable {O : Om} {w : World} {B : Wb} {f : Cf} {s : AW} {m : Nat}
theorem RW.setTk (h : RW w O B f s m) (hhi : ∀ j, O j ≠ 0 → j < w.heap.size) (j : Nat) (hj : j < 64) (v : Int) : RW (w.setCell ⟨B.p, 8 + j, none⟩ (.int .u64 v)) O B f ⟨s.M, s.n, s.la, updN s.tk j v, s.ho, s.it, s.nt⟩ m ∧ Ext (fun t => t = 5) O w O (w.setCell ⟨B.p, 8 + j, none⟩ (.int .u64 v)) := by
 have e : Ext (fun t => t = 5) O w O (w.setCell ⟨B.p, 8 + j, none⟩ (.int .u64 v)) := Ext.of_set hhi h.o (by decide) rfl
 have hc : ∀ i, i ≠ 8 + j → (w.setCell ⟨B.p, 8 + j, none⟩ (.int .u64 v)).cell? ⟨B.p, i, none⟩ = w.cell? ⟨B.p, i, none⟩ := fun i hi => World.cell?_setCell_other _ _ _ _ (by simp; try omega)
 have k := h.wo
 refine ⟨⟨h.o, ⟨(hc 0 (by omega)).trans k.c0, (hc 1 (by omega)).trans k.c1, (hc 2 (by omega)).trans k.c2, (hc 3 (by omega)).trans k.c3, (hc 4 (by omega)).trans k.c4, (hc 5 (by omega)).trans k.c5, (hc 6 (by omega)).trans k.c6, (hc 7 (by omega)).trans k.c7, fun i hi => ?_, (hc 72 (by omega)).trans k.ho, fun i => (World.frozen?_setCell _ _ _ _).trans (k.fr i), by simpa using k.lt⟩, h.ce.ext e (by decide), h.ar.ext e (by decide), h.no.ext e (by decide)⟩, e⟩
 by_cases hij : i = j
 · subst hij
   show _ = some (Value.int .u64 (if i = i then v else s.tk i))
   rw [if_pos rfl]
   exact World.cell?_setCell_same _ _ _ (k.tk i hi)
 · show _ = some (Value.int .u64 (if i = j then v else s.tk i))
   rw [if_neg hij]
   exact (hc _ (by omega)).trans (k.tk i hi)
theorem RW.setHo (h : RW w O B f s m) (hhi : ∀ j, O j ≠ 0 → j < w.heap.size) (v : Int) : RW (w.setCell ⟨B.p, 72, none⟩ (.int .i64 v)) O B f ⟨s.M, s.n, s.la, s.tk, v, s.it, s.nt⟩ m ∧ Ext (fun t => t = 5) O w O (w.setCell ⟨B.p, 72, none⟩ (.int .i64 v)) := by
 have e : Ext (fun t => t = 5) O w O (w.setCell ⟨B.p, 72, none⟩ (.int .i64 v)) := Ext.of_set hhi h.o (by decide) rfl
 have hc : ∀ i, i ≠ 72 → (w.setCell ⟨B.p, 72, none⟩ (.int .i64 v)).cell? ⟨B.p, i, none⟩ = w.cell? ⟨B.p, i, none⟩ := fun i hi => World.cell?_setCell_other _ _ _ _ (by simp; try omega)
 have k := h.wo
 exact ⟨⟨h.o, ⟨(hc 0 (by omega)).trans k.c0, (hc 1 (by omega)).trans k.c1, (hc 2 (by omega)).trans k.c2, (hc 3 (by omega)).trans k.c3, (hc 4 (by omega)).trans k.c4, (hc 5 (by omega)).trans k.c5, (hc 6 (by omega)).trans k.c6, (hc 7 (by omega)).trans k.c7, fun i hi => (hc _ (by omega)).trans (k.tk i hi), World.cell?_setCell_same _ _ _ k.ho, fun i => (World.frozen?_setCell _ _ _ _).trans (k.fr i), by simpa using k.lt⟩, h.ce.ext e (by decide), h.ar.ext e (by decide), h.no.ext e (by decide)⟩, e⟩
end
def SD (a b t : Nat) : Prop := SR t ∨ (a ≤ t ∧ t ≤ b)
theorem SD.not {a b t : Nat} (h : 9 ≤ t) (h2 : t < a ∨ b < t) : ¬ SD a b t := fun k => by unfold SD SR at k; omega
theorem SD.mono {a b c d t : Nat} (h1 : c ≤ a) (h2 : b ≤ d) (h : SD a b t) : SD c d t := by unfold SD SR at h ⊢; omega
end
section
open Go.RowKit
def ptrs (bl : List Nat) : List Value := bl.map fun b => .pointer (some ⟨b, 0, none⟩)
theorem ptrs_cells {w : World} {bb o : Nat} {bl : List Nat} (h : ∀ j u, (ptrs bl)[j]? = some u → w.cell? ⟨bb, o + j, none⟩ = some u) (i : Nat) (hi : i < bl.length) : w.cell? ⟨bb, o + i, none⟩ = some (.pointer (some ⟨bl[i], 0, none⟩)) :=
 h i _ (by unfold ptrs; rw [List.getElem?_map, List.getElem?_eq_getElem hi]; rfl)
theorem c_place (ip n : Nat) (v : Value) (bl : List Nat) (w : World) (h0 : w.cell? ⟨ip, 0, none⟩ = some v) (hv : Arr w v bl.length 1 (ptrs bl)) (hn : n < 64 * bl.length) (hb : bl.length ≤ 100000) :
 Calls Tryz.prog 87 #[.pointer (some ⟨ip, 0, none⟩), .int .i64 n] w fun e w' => e = .returned (.pointer (some ⟨bl[n / 64]'(by omega), n % 64 * 6, none⟩)) ∧ w = w' := by
 obtain ⟨b, o, c, rfl, hc, hm, hlt, hx⟩ := hv.open (by omega) (by omega)
 have y0 := ptrs_cells hx (n / 64) (by omega)
 obtain ⟨q, hq⟩ : ∃ q, q = bl[n / 64]'(by omega) := ⟨_, rfl⟩
 rw [← hq] at y0 ⊢
 have d1 : (n : Int) / 64 = ((n / 64 : Nat) : Int) := by omega
 have d2 : (n : Int) % 64 = ((n % 64 : Nat) : Int) := by omega
 have d3 : n / 64 < bl.length := by omega
 have d4 : n % 64 < 64 := by omega
 have hl : bl.length ≤ 9223372036854775807 := by omega
 obtain ⟨qa, hqa⟩ : ∃ qa, qa = n / 64 := ⟨_, rfl⟩
 obtain ⟨qb, hqb⟩ : ∃ qb, qb = n % 64 := ⟨_, rfl⟩
 rw [← hqa] at y0 d1 d3
 rw [← hqb] at d2 d4 ⊢
 have hn9 : n < 64 * bl.length := hn
 clear hx hq hqa hqb hv
 go_enter Tryz.func87, Tryz.ntmps87
 go_wp2
 go_ret
 exact ⟨rfl, rfl⟩
def set6 (w : World) (b o : Nat) (v0 v1 v2 v3 v4 v5 : Value) : World := (((((w.setCell ⟨b, o, none⟩ v0).setCell ⟨b, o + 1, none⟩ v1).setCell ⟨b, o + 2, none⟩ v2).setCell ⟨b, o + 3, none⟩ v3).setCell ⟨b, o + 4, none⟩ v4).setCell ⟨b, o + 5, none⟩ v5
theorem set_far {w : World} {b o b2 o2 : Nat} {v : Value} (h : b2 ≠ b ∨ o2 ≠ o) : (w.setCell ⟨b, o, none⟩ v).cell? ⟨b2, o2, none⟩ = w.cell? ⟨b2, o2, none⟩ := World.cell?_setCell_other _ _ _ _ (by simp; intro h1 h2; rcases h with h | h <;> omega)
theorem set_there {w : World} {p q : Addr} {v : Value} (h : ∃ u, w.cell? q = some u) : ∃ u, (w.setCell p v).cell? q = some u := by
 obtain ⟨u, h⟩ := h
 by_cases e : p = q
 · subst e; exact ⟨_, World.cell?_setCell_same _ _ _ h⟩
 · exact ⟨u, (World.cell?_setCell_other _ _ _ _ e).trans h⟩
theorem set6_far (w : World) (b o : Nat) (v0 v1 v2 v3 v4 v5 : Value) (b2 o2 : Nat) (h : b2 ≠ b ∨ o2 < o ∨ o + 6 ≤ o2) : (set6 w b o v0 v1 v2 v3 v4 v5).cell? ⟨b2, o2, none⟩ = w.cell? ⟨b2, o2, none⟩ := by
 unfold set6
 rw [set_far (by omega), set_far (by omega), set_far (by omega), set_far (by omega), set_far (by omega), set_far (by omega)]
theorem set6_frozen (w : World) (b o : Nat) (v0 v1 v2 v3 v4 v5 : Value) (b2 o2 : Nat) : (set6 w b o v0 v1 v2 v3 v4 v5).frozen? ⟨b2, o2, none⟩ = w.frozen? ⟨b2, o2, none⟩ := by
 unfold set6
 simp only [World.frozen?_setCell]
theorem set6_size (w : World) (b o : Nat) (v0 v1 v2 v3 v4 v5 : Value) : (set6 w b o v0 v1 v2 v3 v4 v5).heap.size = w.heap.size := by
 unfold set6
 simp
theorem set6_wrote (w : World) (b o : Nat) (v0 v1 v2 v3 v4 v5 : Value) : Wrote (fun k => k = b) w (set6 w b o v0 v1 v2 v3 v4 v5) := by
 have k : ∀ (W : World) (j : Nat) (v : Value), Wrote (fun k => k = b) w W → Wrote (fun k => k = b) w (W.setCell ⟨b, j, none⟩ v) := fun W j v h => Wrote.setCell (S := fun k => k = b) h (p := ⟨b, j, none⟩) (fun _ => rfl) v
 exact k _ _ _ (k _ _ _ (k _ _ _ (k _ _ _ (k _ _ _ (k _ _ _ (Wrote.refl _ _))))))
theorem set6_at (w : World) (b o : Nat) (v0 v1 v2 v3 v4 v5 : Value) (h : ∀ j, j < 6 → ∃ u, w.cell? ⟨b, o + j, none⟩ = some u) (j : Nat) (u : Value) (hj : [v0, v1, v2, v3, v4, v5][j]? = some u) : (set6 w b o v0 v1 v2 v3 v4 v5).cell? ⟨b, o + j, none⟩ = some u := by
 have hs : ∀ {W : World} {k : Nat} {x : Value}, (∃ y, W.cell? ⟨b, k, none⟩ = some y) → (W.setCell ⟨b, k, none⟩ x).cell? ⟨b, k, none⟩ = some x := fun ⟨y, hy⟩ => World.cell?_setCell_same _ _ _ hy
 unfold set6
 have h0 := h 0 (by omega)
 have h1 := h 1 (by omega)
 have h2 := h 2 (by omega)
 have h3 := h 3 (by omega)
 have h4 := h 4 (by omega)
 have h5 := h 5 (by omega)
 rw [Nat.add_zero] at h0
 match j, hj with
 | 0, hj => cases hj; rw [Nat.add_zero, set_far (by omega), set_far (by omega), set_far (by omega), set_far (by omega), set_far (by omega)]; exact hs h0
 | 1, hj => cases hj; rw [set_far (by omega), set_far (by omega), set_far (by omega), set_far (by omega)]; exact hs (set_there h1)
 | 2, hj => cases hj; rw [set_far (by omega), set_far (by omega), set_far (by omega)]; exact hs (set_there (set_there h2))
 | 3, hj => cases hj; rw [set_far (by omega), set_far (by omega)]; exact hs (set_there (set_there (set_there h3)))
 | 4, hj => cases hj; rw [set_far (by omega)]; exact hs (set_there (set_there (set_there (set_there h4))))
 | 5, hj => cases hj; exact hs (set_there (set_there (set_there (set_there (set_there h5)))))
 | j + 6, hj => simp at hj
structure ArC (w : World) (O : Om) (t ip : Nat) (l : List It) (v : Value) (bl : List Nat) : Prop where
 o : O ip = t
 lt : ip < w.heap.size
 fr : ∀ j, w.frozen? ⟨ip, j, none⟩ = false
 c1 : w.cell? ⟨ip, 1, none⟩ = some (.int .i64 l.length)
 c0 : w.cell? ⟨ip, 0, none⟩ = some v
 row : w.ownsRow 0 271 1 v bl.length (ptrs bl)
 vo : ∀ k, v.ownBlock = some k → O k = t ∧ k ≠ ip ∧ k ∉ bl
 nd : bl.Nodup
 ni : ip ∉ bl
 bk : ∀ b ∈ bl, O b = t ∧ b < w.heap.size ∧ (∀ j, w.frozen? ⟨b, j, none⟩ = false) ∧ ∀ j, j < 384 → ∃ u, w.cell? ⟨b, j, none⟩ = some u
 it : ∀ (i : Nat) (x : It) (b : Nat), l[i]? = some x → bl[i / 64]? = some b → ∀ j u, (itc x)[j]? = some u → w.cell? ⟨b, 6 * (i % 64) + j, none⟩ = some u
theorem Ar.core {w : World} {O : Om} {t ip : Nat} {l : List It} (h : Ar w O t ip l) : ∃ v bl, ArC w O t ip l v bl ∧ l.length ≤ 64 * bl.length ∧ 64 * bl.length < l.length + 64 := by
 obtain ⟨v, bl, h0, h1, h2, h3, h4, h5, h6, h7, h8⟩ := h.ex
 exact ⟨v, bl, ⟨h.o, h.lt, h.fr, h.c1, h0, h1, h2, h3, h4, h7, h8⟩, h5, h6⟩
theorem nodup_get {l : List Nat} (h : l.Nodup) {i j : Nat} (hi : i < l.length) (hj : j < l.length) (e : l[i] = l[j]) : i = j := by
 have hp := List.pairwise_iff_getElem.1 h
 rcases Nat.lt_trichotomy i j with h1 | h1 | h1
 · exact absurd e (hp i j hi hj h1)
 · exact h1
 · exact absurd e.symm (hp j i hj hi h1)
theorem ArC.snoc {w : World} {O : Om} {t ip b : Nat} {l : List It} {v : Value} {bl : List Nat} (h : ArC w O t ip l v bl) (h1 : l.length < 64 * bl.length) (h2 : 64 * bl.length < l.length + 65) (hb : bl[l.length / 64]? = some b) (x : It) :
 Ar ((set6 w b (l.length % 64 * 6) (.string x.key) (.string x.val) (.int .u32 x.fl) (.int .u64 x.id) (.int .i64 x.dies) (.int .i64 x.gen)).setCell ⟨ip, 1, none⟩ (.int .i64 (l.length + 1 : Nat))) O t ip (l ++ [x]) := by
 have hbm : b ∈ bl := List.mem_of_getElem? hb
 have hbi : b ≠ ip := fun e => h.ni (e ▸ hbm)
 obtain ⟨b1, b2, b3, b4⟩ := h.bk b hbm
 obtain ⟨W, hW⟩ : ∃ W, W = set6 w b (l.length % 64 * 6) (.string x.key) (.string x.val) (.int .u32 x.fl) (.int .u64 x.id) (.int .i64 x.dies) (.int .i64 x.gen) := ⟨_, rfl⟩
 have hfar : ∀ k j, (k ≠ b ∨ j < l.length % 64 * 6 ∨ l.length % 64 * 6 + 6 ≤ j) → W.cell? ⟨k, j, none⟩ = w.cell? ⟨k, j, none⟩ := fun k j hk => by rw [hW]; exact set6_far _ _ _ _ _ _ _ _ _ _ _ hk
 have hat : ∀ j u, (itc x)[j]? = some u → W.cell? ⟨b, l.length % 64 * 6 + j, none⟩ = some u := fun j u hu => by rw [hW]; exact set6_at _ _ _ _ _ _ _ _ _ (fun j hj => b4 _ (by omega)) j u hu
 have hfz : ∀ k j, W.frozen? ⟨k, j, none⟩ = w.frozen? ⟨k, j, none⟩ := fun k j => by rw [hW]; exact set6_frozen _ _ _ _ _ _ _ _ _ _ _
 have hsz : W.heap.size = w.heap.size := by rw [hW]; exact set6_size _ _ _ _ _ _ _ _ _
 have hwr : Wrote (fun k => k = b) w W := by rw [hW]; exact set6_wrote _ _ _ _ _ _ _ _ _
 have hth : ∀ k j, (∃ u, w.cell? ⟨k, j, none⟩ = some u) → ∃ u, W.cell? ⟨k, j, none⟩ = some u := fun k j hu => by
  rw [hW]; unfold set6; exact set_there (set_there (set_there (set_there (set_there (set_there hu)))))
 rw [← hW]
 clear hW
 have hsi : ∀ k j, k ≠ ip → (W.setCell ⟨ip, 1, none⟩ (.int .i64 (l.length + 1 : Nat))).cell? ⟨k, j, none⟩ = W.cell? ⟨k, j, none⟩ := fun k j hk => set_far (.inl hk)
 refine ⟨h.o, by simp; rw [hsz]; exact h.lt, fun j => (World.frozen?_setCell _ _ _ _).trans ((hfz _ _).trans (h.fr j)), ?_, v, bl, ?_, ?_, h.vo, h.nd, h.ni, by simp; omega, by simp; omega, fun k hk => ?_, fun i y k hi hk j u hu => ?_⟩
 · rw [List.length_append]
   exact World.cell?_setCell_same _ _ _ ((hfar ip 1 (.inl (Ne.symm hbi))).trans h.c1)
 · rw [set_far (.inr (by omega)), hfar ip 0 (.inl (Ne.symm hbi))]; exact h.c0
 · exact ((Wrote.setCell (S := fun k => k = b ∨ k = ip) (hwr.mono fun _ _ e => .inl e) (p := ⟨ip, 1, none⟩) (fun _ => .inr rfl) _).own h.row fun k hk e => by
    obtain ⟨e1, e2, e3⟩ := h.vo k hk
    rcases e with e | e
    · exact e3 (e ▸ hbm)
    · exact e2 e)
 · obtain ⟨e1, e2, e3, e4⟩ := h.bk k hk
   exact ⟨e1, by simp; rw [hsz]; exact e2, fun j => (World.frozen?_setCell _ _ _ _).trans ((hfz _ _).trans (e3 j)), fun j hj => set_there (hth k j (e4 j hj))⟩
 · have hkm : k ∈ bl := List.mem_of_getElem? hk
   have hki : k ≠ ip := fun e => h.ni (e ▸ hkm)
   have hj6 : j < 6 := by have := (List.getElem?_eq_some_iff.1 hu).1; rwa [itc_len] at this
   rw [hsi k _ hki]
   by_cases hil : i < l.length
   · rw [List.getElem?_append_left hil] at hi
     rw [hfar]
     · exact h.it i y k hi hk j u hu
     · by_cases hkb : k = b
       · right
         subst hkb
         have hlt : i / 64 < bl.length := (List.getElem?_eq_some_iff.1 hk).1
         have hlt2 : l.length / 64 < bl.length := (List.getElem?_eq_some_iff.1 hb).1
         have : i / 64 = l.length / 64 := by
          have e1 := (List.getElem?_eq_some_iff.1 hk).2
          have e2 := (List.getElem?_eq_some_iff.1 hb).2
          exact nodup_get h.nd hlt hlt2 (e1.trans e2.symm)
         omega
       · exact .inl hkb
   · rw [List.getElem?_append_right (by omega)] at hi
     obtain rfl : i = l.length := by
      have := (List.getElem?_eq_some_iff.1 hi).1
      simp at this; omega
     rw [Nat.sub_self] at hi
     cases hi
     rw [hb] at hk
     cases hk
     rw [Nat.mul_comm]
     exact hat j u hu
theorem below_drewN' {B : Nat} {a w : World} (h : Below B a w) (n : Nat) : Below B a (w.drewN n) := ⟨h.os, h.tape, h.output, h.size, h.block⟩
theorem ArC.below {w w' : World} {O : Om} {t ip : Nat} {l : List It} {v : Value} {bl : List Nat} (h : ArC w O t ip l v bl) (hb : Below w.heap.size w w') : ArC w' O t ip l v bl := by
 have hc : ∀ k j, k < w.heap.size → w'.cell? ⟨k, j, none⟩ = w.cell? ⟨k, j, none⟩ := fun k j hk => hb.cell (p := ⟨k, j, none⟩) hk
 have hf : ∀ k j, k < w.heap.size → w'.frozen? ⟨k, j, none⟩ = w.frozen? ⟨k, j, none⟩ := fun k j hk => hb.frozen (p := ⟨k, j, none⟩) hk
 refine ⟨h.o, Nat.lt_of_lt_of_le h.lt hb.size, fun j => (hf _ _ h.lt).trans (h.fr j), (hc _ _ h.lt).trans h.c1, (hc _ _ h.lt).trans h.c0, ownsRow_below h.row hb, h.vo, h.nd, h.ni, fun b hb2 => ?_, fun i x b hi hb2 j u hu => ?_⟩
 · obtain ⟨k1, k2, k3, k4⟩ := h.bk b hb2
   exact ⟨k1, Nat.lt_of_lt_of_le k2 hb.size, fun j => (hf _ _ k2).trans (k3 j), fun j hj => (k4 j hj).imp fun u hu => (hc _ _ k2).trans hu⟩
 · exact (hc _ _ (h.bk b (List.mem_of_getElem? hb2)).2.1).trans (h.it i x b hi hb2 j u hu)
def itV (x : It) : Value := .agg #[.string x.key, .string x.val, .int .u32 x.fl, .int .u64 x.id, .int .i64 x.dies, .int .i64 x.gen]
theorem infoBk : (Tryz.prog.info? 271).map (fun i => (i.zero, i.size, i.bytes)) = some (some (.pointer none), 1, 8) := by kernel_rfl
theorem zeroBk : Tryz.zeroCells283.size = 384 := by kernel_rfl
theorem ArC.grow {W w2 : World} {O : Om} {t ip g cap : Nat} {l : List It} {v : Value} {bl : List Nat} {zs : Array Value} {T : TypeId} {o : Obj} (h : ArC W O t ip l v bl) (ht : t ≠ 0) (hhi : ∀ j, O j ≠ 0 → j < W.heap.size) (hz : zs.size = 384) (hfit : l.length ≤ 64 * bl.length)
 (hg : ((W.alloc (.cells zs T)).alloc o).grownBy w2 v.ownBlock) (own : w2.ownsRow 0 271 1 (.slice (some ⟨g, 0, none⟩) (bl.length + 1) cap) (bl.length + 1) (ptrs bl ++ [.pointer (some ⟨W.heap.size, 0, none⟩)])) (hat : v.ownBlock = some g ∨ g = W.heap.size + 1 + 1) (hgl : g < w2.heap.size) :
 ∃ O', Ext (fun j => j = t) O W O' (w2.setCell ⟨ip, 0, none⟩ (.slice (some ⟨g, 0, none⟩) (bl.length + 1) cap)) ∧ ArC (w2.setCell ⟨ip, 0, none⟩ (.slice (some ⟨g, 0, none⟩) (bl.length + 1) cap)) O' t ip l (.slice (some ⟨g, 0, none⟩) (bl.length + 1) cap) (bl ++ [W.heap.size]) := by
 obtain ⟨W1, hW1⟩ : ∃ W1, W1 = W.alloc (.cells zs T) := ⟨_, rfl⟩
 have z1 : W1.heap.size = W.heap.size + 1 := by rw [hW1]; simp
 have hbl : ∀ b ∈ bl, b < W.heap.size := fun b hb => (h.bk b hb).2.1
 have b0 : ∀ j, j < 384 → ∃ u, W1.cell? ⟨W.heap.size, j, none⟩ = some u := fun j hj => ⟨zs[j]'(by omega), by rw [hW1]; exact cell_newA W zs T _ rfl j _ (by simp)⟩
 have f0 : ∀ j, W1.frozen? ⟨W.heap.size, j, none⟩ = false := fun j => by rw [hW1]; exact frozen_newA W zs T _ rfl j
 have hb1 : Below W.heap.size W W1 := by rw [hW1]; exact (Below.refl _ _).alloc (Nat.le_refl _) _
 rw [← hW1] at hg
 have hw2 : Wrote (fun k => v.ownBlock = some k) W1 w2 := ((Wrote.refl _ _).alloc o).grown hg fun k hk _ => hk
 have hs2 : W1.heap.size + 1 ≤ w2.heap.size := by have := hg.size; simpa using this
 have hvo : ∀ k, v.ownBlock = some k → k < W.heap.size := fun k hk => (h.row.lt k hk).2
 have hwr : Wrote (fun k => v.ownBlock = some k) W w2 := (Wrote.of_below hb1).trans hw2 fun _ _ hk => hk
 have hgn : g ≠ ip := by
  rcases hat with e | e
  · exact (h.vo g e).2.1
  · have := h.lt; omega
 have hgb : g ∉ bl ++ [W.heap.size] := by
  intro hm
  rcases List.mem_append.1 hm with hm | hm
  · rcases hat with e | e
    · exact (h.vo g e).2.2 hm
    · have := hbl g hm; omega
  · rw [List.mem_singleton] at hm
    rcases hat with e | e
    · have := hvo g e; omega
    · omega
 obtain ⟨G, hG⟩ : ∃ G : Om, ∀ j, G j = if j = W.heap.size ∨ j = g then t else O j := ⟨_, fun _ => rfl⟩
 have gold : ∀ j, j < W.heap.size → G j = O j := fun j hj => by
  rw [hG]
  by_cases e : j = W.heap.size ∨ j = g
  · rw [if_pos e]
    rcases e with e | e
    · omega
    · rcases hat with e2 | e2
      · subst e; exact ((h.vo j e2).1).symm
      · omega
  · rw [if_neg e]
 have gt : ∀ j, j < W.heap.size → O j = t → G j = t := fun j hj ho => (gold j hj).trans ho
 obtain ⟨W3, hW3⟩ : ∃ W3, W3 = w2.setCell ⟨ip, 0, none⟩ (.slice (some ⟨g, 0, none⟩) (bl.length + 1) cap) := ⟨_, rfl⟩
 have z3 : W3.heap.size = w2.heap.size := by rw [hW3]; simp
 have h3 : Wrote (fun k => k = ip) w2 W3 := by rw [hW3]; exact Wrote.setCell (S := fun k => k = ip) (Wrote.refl _ _) (p := ⟨ip, 0, none⟩) (fun _ => rfl) _
 have hc : ∀ k j, k < W.heap.size → k ≠ ip → v.ownBlock ≠ some k → W3.cell? ⟨k, j, none⟩ = W.cell? ⟨k, j, none⟩ := fun k j hk h1 h2 => (h3.cell (p := ⟨k, j, none⟩) (by show k < w2.heap.size; omega) h1).trans (hwr.cell (p := ⟨k, j, none⟩) hk h2)
 have hf : ∀ k j, k < W.heap.size → v.ownBlock ≠ some k → W3.frozen? ⟨k, j, none⟩ = W.frozen? ⟨k, j, none⟩ := fun k j hk h2 => by
  rw [hW3, World.frozen?_setCell]
  exact hwr.frozen (p := ⟨k, j, none⟩) hk h2
 have hip2 : v.ownBlock ≠ some ip := fun e => (h.vo ip e).2.1 rfl
 have hbk2 : ∀ b ∈ bl, v.ownBlock ≠ some b := fun b hb e => (h.vo b e).2.2 hb
 rw [← hW3]
 refine ⟨G, ⟨gold, fun j hj => ?_, fun j hj hn => ?_, ?_⟩, ⟨gt _ h.lt h.o, by have := h.lt; omega, fun j => (hf ip j h.lt hip2).trans (h.fr j), ?_, ?_, ?_, fun k hk => ?_, ?_, ?_, fun b hb => ?_, fun i x b hi hb j u hu => ?_⟩⟩
 · rw [hG] at hj
   by_cases e : j = W.heap.size ∨ j = g
   · omega
   · rw [if_neg e] at hj; have := hhi j hj; omega
 · rw [hG] at hn ⊢
   by_cases e : j = W.heap.size ∨ j = g
   · rw [if_pos e]
   · rw [if_neg e] at hn; have := hhi j hn; omega
 · refine (hwr.mono (T := fun k => O k = t ∧ O k ≠ 0) fun k _ hk => ⟨(h.vo k hk).1, by rw [(h.vo k hk).1]; exact ht⟩).trans h3 fun n _ e => ?_
   subst e; exact ⟨h.o, by rw [h.o]; exact ht⟩
 · have : W3.cell? ⟨ip, 1, none⟩ = w2.cell? ⟨ip, 1, none⟩ := by rw [hW3]; exact set_far (.inr (by omega))
   rw [this, hwr.cell (p := ⟨ip, 1, none⟩) h.lt hip2]; exact h.c1
 · rw [hW3]
   exact World.cell?_setCell_same _ _ _ ((hwr.cell (p := ⟨ip, 0, none⟩) h.lt hip2).trans h.c0)
 · have : ptrs (bl ++ [W.heap.size]) = ptrs bl ++ [.pointer (some ⟨W.heap.size, 0, none⟩)] := by simp [ptrs]
   rw [this, List.length_append]
   exact h3.own own fun k hk e => by cases hk; exact hgn e
 · cases hk
   exact ⟨by rw [hG, if_pos (.inr rfl)], hgn, hgb⟩
 · rw [List.nodup_append]
   exact ⟨h.nd, by simp, fun a ha b hb => by rw [List.mem_singleton] at hb; have := hbl a ha; omega⟩
 · intro hm
   rcases List.mem_append.1 hm with hm | hm
   · exact h.ni hm
   · rw [List.mem_singleton] at hm; have := h.lt; omega
 · rcases List.mem_append.1 hb with hb | hb
   · obtain ⟨k1, k2, k3, k4⟩ := h.bk b hb
     have hne : b ≠ ip := fun e => h.ni (e ▸ hb)
     exact ⟨gt _ k2 k1, by omega, fun j => (hf b j k2 (hbk2 b hb)).trans (k3 j), fun j hj => (k4 j hj).imp fun u hu => (hc b j k2 hne (hbk2 b hb)).trans hu⟩
   · rw [List.mem_singleton] at hb
     subst hb
     have hv2 : v.ownBlock ≠ some W.heap.size := fun e => by have := hvo _ e; omega
     have hne : W.heap.size ≠ ip := by have := h.lt; omega
     refine ⟨by rw [hG, if_pos (.inl rfl)], by omega, fun j => ?_, fun j hj => ?_⟩
     · rw [hW3, World.frozen?_setCell]
       exact (hw2.frozen (p := ⟨W.heap.size, j, none⟩) (by show W.heap.size < W1.heap.size; omega) hv2).trans (f0 j)
     · obtain ⟨u, hu⟩ := b0 j hj
       exact ⟨u, (h3.cell (p := ⟨W.heap.size, j, none⟩) (by show W.heap.size < w2.heap.size; omega) hne).trans ((hw2.cell (p := ⟨W.heap.size, j, none⟩) (by show W.heap.size < W1.heap.size; omega) hv2).trans hu)⟩
 · have hil := (List.getElem?_eq_some_iff.1 hi).1
   rw [List.getElem?_append_left (by omega)] at hb
   have hbm := List.mem_of_getElem? hb
   have hne : b ≠ ip := fun e => h.ni (e ▸ hbm)
   exact (hc b _ (hbl b hbm) hne (hbk2 b hbm)).trans (h.it i x b hi hb j u hu)
theorem c_IAdd_room (x : It) {w : World} {O : Om} {t ip : Nat} {l : List It} (h : Ar w O t ip l) (ht : t ≠ 0) (hl : l.length ≤ 1000000) (hhi : ∀ j, O j ≠ 0 → j < w.heap.size) (hroom : ∀ v bl, ArC w O t ip l v bl → l.length ≤ 64 * bl.length → 64 * bl.length < l.length + 64 → ¬ l.length = 64 * bl.length) :
 Calls Tryz.prog 111 #[.pointer (some ⟨ip, 0, none⟩), .agg #[.string x.key, .string x.val, .int .u32 x.fl, .int .u64 x.id, .int .i64 x.dies, .int .i64 x.gen]] w (RP (fun j => j = t) w O (.tuple #[.int .i64 (l.length + 1 : Nat), .int .i64 0]) fun W G => Ar W G t ip (l ++ [x])) := by
 obtain ⟨v, bl, hC, h1, h2⟩ := h.core
 have hne := hroom v bl hC h1 h2
 have hA := Arr.of_own hC.row
 obtain ⟨ao, cp, rfl, hcp, hcm⟩ := hA.shape
 have q0 := hC.c0
 have q1 := hC.c1
 have hil := hC.lt
 have hl9 : l.length ≤ 9223372036854775807 := by omega
 have hb9 : bl.length ≤ 100000 := by omega
 have hfull : ((l.length : Int) == 1048576) = false := by simp; omega
 have htest : ((l.length : Int) == 64 * (bl.length : Int)) = false := by simp; omega
 have hmul : IntKind.i64.wrap (64 * (bl.length : Int)) = 64 * (bl.length : Int) := by rw [IntKind.wrap_i64]; omega
 have HC := Lib.hid hC
 have HA := Lib.hid hA
 have HH := Lib.hid hhi
 have HX := Lib.hid (And.intro h1 (And.intro h2 hne))
 have hne2 : ¬ ip = w.heap.size := by omega
 clear h hC hA hhi hroom hne h1 h2
 go_enter Tryz.func111, Tryz.ntmps111
 go_wp2_with fail
 go_quiet (fail)
 go_wp2_with fail
 obtain ⟨W, hW⟩ : ∃ W, W = (w.alloc (.cells #[.string x.key, .string x.val, .int .u32 x.fl, .int .u64 x.id, .int .i64 x.dies, .int .i64 x.gen] 34)).drewN nq := ⟨_, rfl⟩
 have hB : Below w.heap.size w W := by rw [hW]; exact below_drewN' ((Below.refl _ _).alloc (Nat.le_refl _) _) nq
 have hs : w.heap.size < W.heap.size := by rw [hW]; simp
 have hx : ∀ j u, (itc x)[j]? = some u → W.cell? ⟨w.heap.size, j, none⟩ = some u := fun j u hu => by rw [hW]; exact cell_newA w #[.string x.key, .string x.val, .int .u32 x.fl, .int .u64 x.id, .int .i64 x.dies, .int .i64 x.gen] _ _ rfl j u (by simpa [itc] using hu)
 have x0 := hx 0 _ rfl
 have x1 := hx 1 _ rfl
 have x2 := hx 2 _ rfl
 have x3 := hx 3 _ rfl
 have x4 := hx 4 _ rfl
 have x5 := hx 5 _ rfl
 have CW := Lib.hid (HC.out.below hB)
 have HB := Lib.hid hB
 have HEW : Hid (Ext (fun j => j = t) O w O W) := Lib.hid (Ext.of_below HH.out hB)
 have HZ : Hid (O w.heap.size = 0) := Lib.hid (by by_cases hz : O w.heap.size = 0; exact hz; exact absurd (HH.out _ hz) (by omega))
 rw [← hW]
 clear hB hx hW q0 q1
 have q1 := CW.out.c1
 have q0 := CW.out.c0
 have qfr := CW.out.fr
 obtain ⟨b, hb⟩ : ∃ b, bl[l.length / 64]? = some b := ⟨_, List.getElem?_eq_getElem (by have := HX.out; omega)⟩
 have hbe : bl[l.length / 64]'(by have := HX.out; omega) = b := (List.getElem?_eq_some_iff.1 hb).2
 obtain ⟨k1, k2, k3, k4⟩ := CW.out.bk b (List.mem_of_getElem? hb)
 have kf := k3
 obtain ⟨z0, hz0⟩ := k4 (l.length % 64 * 6) (by omega)
 obtain ⟨z1, hz1⟩ := k4 (l.length % 64 * 6 + 1) (by omega)
 obtain ⟨z2, hz2⟩ := k4 (l.length % 64 * 6 + 2) (by omega)
 obtain ⟨z3, hz3⟩ := k4 (l.length % 64 * 6 + 3) (by omega)
 obtain ⟨z4, hz4⟩ := k4 (l.length % 64 * 6 + 4) (by omega)
 obtain ⟨z5, hz5⟩ := k4 (l.length % 64 * 6 + 5) (by omega)
 have HPL : Hid (∀ W', Below W.heap.size W W' → Calls Tryz.prog 87 #[.pointer (some ⟨ip, 0, none⟩), .int .i64 l.length] W' fun e w' => e = .returned (.pointer (some ⟨b, l.length % 64 * 6, none⟩)) ∧ W' = w') := Lib.hid fun W' hW' => by
  have := c_place ip l.length _ bl W' ((hW'.cell (p := ⟨ip, 0, none⟩) CW.out.lt).trans CW.out.c0) (Arr.below (Arr.of_own CW.out.row) hW') (by have := HX.out; omega) hb9
  rw [hbe] at this
  exact this
 have HBB := Lib.hid hb
 have hbi : ¬ b = ip := fun e => CW.out.ni (e ▸ List.mem_of_getElem? hb)
 have hbw : ¬ b = w.heap.size := fun e => by have h1 := (CW.out.bk b (List.mem_of_getElem? hb)).1; rw [e, HZ.out] at h1; exact ht h1.symm
 clear hbe k1 k2 k3 k4 hb
 go_region_held3 (fun w' => w'.cell? ⟨ip, 1, none⟩ = some (.int .i64 l.length) ∧ w'.cell? ⟨w.heap.size, 0, none⟩ = some (.string x.key) ∧ w'.cell? ⟨w.heap.size, 1, none⟩ = some (.string x.val) ∧ w'.cell? ⟨w.heap.size, 2, none⟩ = some (.int .u32 x.fl) ∧ w'.cell? ⟨w.heap.size, 3, none⟩ = some (.int .u64 x.id) ∧ w'.cell? ⟨w.heap.size, 4, none⟩ = some (.int .i64 x.dies) ∧ w'.cell? ⟨w.heap.size, 5, none⟩ = some (.int .i64 x.gen)) (go_keep)
  ((go_at_call 87; refine (HPL.out _ (by first | exact Below.refl _ _ | exact (Below.refl _ _).drew)).mono ?_; rintro e w1 ⟨rfl, rfl⟩))
 all_goals
  go_wp2
  go_ret2
  have hA := CW.out.snoc (by have := HX.out; omega) (by have := HX.out; omega) HBB.out x
  have hbt := (CW.out.bk b (List.mem_of_getElem? HBB.out)).1
  have e1 := HEW.out
  have e2 : Ext (fun j => j = t) O w O (set6 W b (l.length % 64 * 6) (.string x.key) (.string x.val) (.int .u32 x.fl) (.int .u64 x.id) (.int .i64 x.dies) (.int .i64 x.gen)) := e1.trans ⟨fun _ _ => rfl, fun j hj => by rw [set6_size]; exact e1.hi j hj, fun j hj hn => by have := e1.hi j hn; omega, (set6_wrote _ _ _ _ _ _ _ _ _).mono fun k _ hk => by subst hk; exact ⟨hbt, by rw [hbt]; exact ht⟩⟩
  have e3 := e2.trans (Ext.of_set (g := t) (j := 1) (b := ip) (v := .int .i64 (l.length + 1 : Nat)) e2.hi CW.out.o ht rfl)
  exact ⟨rfl, O, e3.drew, hA.ext (S := fun _ => False) (Ext.of_below e3.hi (drew_below _)) id⟩
theorem c_IAdd_full (x : It) {w : World} {O : Om} {t ip : Nat} {l : List It} (h : Ar w O t ip l) (ht : t ≠ 0) (hl : l.length ≤ 1000000) (hhi : ∀ j, O j ≠ 0 → j < w.heap.size) (hroom : ∀ v bl, ArC w O t ip l v bl → l.length ≤ 64 * bl.length → 64 * bl.length < l.length + 64 → l.length = 64 * bl.length) :
 Calls Tryz.prog 111 #[.pointer (some ⟨ip, 0, none⟩), .agg #[.string x.key, .string x.val, .int .u32 x.fl, .int .u64 x.id, .int .i64 x.dies, .int .i64 x.gen]] w (RP (fun j => j = t) w O (.tuple #[.int .i64 (l.length + 1 : Nat), .int .i64 0]) fun W G => Ar W G t ip (l ++ [x])) := by
 obtain ⟨v, bl, hC, h1, h2⟩ := h.core
 have hne := hroom v bl hC h1 h2
 have hA := Arr.of_own hC.row
 obtain ⟨ao, cp, rfl, hcp, hcm⟩ := hA.shape
 have q0 := hC.c0
 have q1 := hC.c1
 have hil := hC.lt
 have hl9 : l.length ≤ 9223372036854775807 := by omega
 have hb9 : bl.length ≤ 90000 := by omega
 have hfull : ((l.length : Int) == 1048576) = false := by simp; omega
 have htest : ((l.length : Int) == 64 * (bl.length : Int)) = true := by simp; omega
 have hmul : IntKind.i64.wrap (64 * (bl.length : Int)) = 64 * (bl.length : Int) := by rw [IntKind.wrap_i64]; omega
 have HC := Lib.hid hC
 have HA := Lib.hid hA
 have HH := Lib.hid hhi
 have HX := Lib.hid (And.intro h1 (And.intro h2 hne))
 have hne2 : ¬ ip = w.heap.size := by omega
 clear h hC hA hhi hroom hne h1 h2
 go_enter Tryz.func111, Tryz.ntmps111
 go_wp2_with fail
 go_quiet (fail)
 obtain ⟨V, hV⟩ : ∃ V, V = (w.alloc (.cells #[.string x.key, .string x.val, .int .u32 x.fl, .int .u64 x.id, .int .i64 x.dies, .int .i64 x.gen] 34)).drewN nq := ⟨_, rfl⟩
 have hB : Below w.heap.size w V := by rw [hV]; exact below_drewN' ((Below.refl _ _).alloc (Nat.le_refl _) _) nq
 have hs : w.heap.size < V.heap.size := by rw [hV]; simp
 have hx : ∀ j u, (itc x)[j]? = some u → V.cell? ⟨w.heap.size, j, none⟩ = some u := fun j u hu => by rw [hV]; exact cell_newA w #[.string x.key, .string x.val, .int .u32 x.fl, .int .u64 x.id, .int .i64 x.dies, .int .i64 x.gen] _ _ rfl j u (by simpa [itc] using hu)
 have HXC := Lib.hid hx
 have CV := Lib.hid (HC.out.below hB)
 have HB := Lib.hid hB
 rw [← hV]
 have HVS := Lib.hid hs
 clear hB hx hV q0 q1
 obtain ⟨i0, hi, hz0, hz1, hz2⟩ := info_parts infoBk
 have q0 := CV.out.c0
 have qf0 := CV.out.fr 0
 have hvl := CV.out.lt
 have hne3 : ¬ ip = V.heap.size := by omega
 have hne4 : ¬ ip = V.heap.size + 1 := by omega
 go_wp2_with (at_builtin; refine wpList_append_lies _ rfl _ _ 261 rfl 0 271 i0 _ 1 8 Tryz.underlying261 hi hz0 hz1 hz2 rfl (by decide) _ bl.length (ptrs bl) rfl ((CV.out.row.alloc _).alloc _) ⟨V.heap.size + 1, 0, none⟩ 1 1 [.pointer (some ⟨V.heap.size, 0, none⟩)] rfl rfl (alloc_cells _ [.pointer (some ⟨V.heap.size, 0, none⟩)] _ _ (by simp)) (by simp [Value.oneCell']) (by decide) (by unfold maxLen; omega) (by omega) (Nat.zero_le _) (V.heap.size + 1 + 1) (by simp) ?_; intro g cap w2 hown2 hgr2 hat2 hgl2
              have hgr : ((V.alloc (.cells Tryz.zeroCells283 283)).alloc (.cells #[.pointer (some ⟨V.heap.size, 0, none⟩)] 271)).grownBy w2 (Value.slice ao bl.length cp).ownBlock := hgr2
              have hw2 : Wrote (fun k => (Value.slice ao bl.length cp).ownBlock = some k) V w2 := (((Wrote.refl _ _).alloc _).alloc _).grown hgr fun k hk _ => hk
              have q2 := (hw2.cell (p := ⟨ip, 0, none⟩) hvl (fun e => (CV.out.vo ip e).2.1 rfl)).trans CV.out.c0
              have qf2 := (hw2.frozen (p := ⟨ip, 0, none⟩) hvl (fun e => (CV.out.vo ip e).2.1 rfl)).trans (CV.out.fr 0)
              have HG := Lib.hid (CV.out.grow ht (fun j hj => Nat.lt_of_lt_of_le (HH.out j hj) (Nat.le_of_lt HVS.out)) zeroBk HX.out.1 hgr hown2 hat2 hgl2)
              clear hown2 hgr2 hat2 hgl2 hgr hw2)
 obtain ⟨W, hW⟩ : ∃ W, W = w2.setCell ⟨ip, 0, none⟩ (.slice (some ⟨g, 0, none⟩) (bl.length + 1) cap) := ⟨_, rfl⟩
 rw [← hW] at HG
 first | rw [← hW] | skip
 obtain ⟨OO, eg, cg⟩ := HG.out
 have CW := Lib.hid cg
 have e0 : Ext (fun j => j = t) O w O V := Ext.of_below HH.out HB.out
 have HEW := Lib.hid (e0.trans eg)
 have hz0 : O w.heap.size = 0 := by by_cases hz : O w.heap.size = 0; exact hz; exact absurd (HH.out _ hz) (by omega)
 have HZ : Hid (OO w.heap.size = 0) := Lib.hid ((eg.lo _ HVS.out).trans hz0)
 have hxW : ∀ j u, (itc x)[j]? = some u → W.cell? ⟨w.heap.size, j, none⟩ = some u := fun j u hu => (eg.cell (p := ⟨w.heap.size, j, none⟩) HVS.out (by show ¬ O w.heap.size = t; rw [hz0]; exact Ne.symm ht)).trans (HXC.out j u hu)
 have x0 := hxW 0 _ rfl
 have x1 := hxW 1 _ rfl
 have x2 := hxW 2 _ rfl
 have x3 := hxW 3 _ rfl
 have x4 := hxW 4 _ rfl
 have x5 := hxW 5 _ rfl
 have HXX := HX
 clear HX
 have HX : Hid (l.length < 64 * (bl ++ [V.heap.size]).length ∧ 64 * (bl ++ [V.heap.size]).length < l.length + 65 ∧ True) := Lib.hid (by have := HXX.out; simp; omega)
 have hlen : (bl ++ [V.heap.size]).length = bl.length + 1 := by simp
 obtain ⟨bm, hbm⟩ : ∃ bm, bm = bl ++ [V.heap.size] := ⟨_, rfl⟩
 rw [← hbm] at CW HX hlen
 have hb8 : bm.length ≤ 100000 := by omega
 have HLEN := Lib.hid hlen
 clear hb9
 have hb9 := hb8
 clear hW HG eg cg e0 hz0 hxW hbm hlen hb8 q0 q2 qf0 qf2
 have q1 := CW.out.c1
 have q0 := CW.out.c0
 have qfr := CW.out.fr
 obtain ⟨b, hb⟩ : ∃ b, bm[l.length / 64]? = some b := ⟨_, List.getElem?_eq_getElem (by have := HX.out; omega)⟩
 have hbe : bm[l.length / 64]'(by have := HX.out; omega) = b := (List.getElem?_eq_some_iff.1 hb).2
 obtain ⟨k1, k2, k3, k4⟩ := CW.out.bk b (List.mem_of_getElem? hb)
 have kf := k3
 obtain ⟨z0, hz0⟩ := k4 (l.length % 64 * 6) (by omega)
 obtain ⟨z1, hz1⟩ := k4 (l.length % 64 * 6 + 1) (by omega)
 obtain ⟨z2, hz2⟩ := k4 (l.length % 64 * 6 + 2) (by omega)
 obtain ⟨z3, hz3⟩ := k4 (l.length % 64 * 6 + 3) (by omega)
 obtain ⟨z4, hz4⟩ := k4 (l.length % 64 * 6 + 4) (by omega)
 obtain ⟨z5, hz5⟩ := k4 (l.length % 64 * 6 + 5) (by omega)
 have HPL : Hid (∀ W', Below W.heap.size W W' → Calls Tryz.prog 87 #[.pointer (some ⟨ip, 0, none⟩), .int .i64 l.length] W' fun e w' => e = .returned (.pointer (some ⟨b, l.length % 64 * 6, none⟩)) ∧ W' = w') := Lib.hid fun W' hW' => by
  have := c_place ip l.length _ bm W' ((hW'.cell (p := ⟨ip, 0, none⟩) CW.out.lt).trans CW.out.c0) (Arr.below (by rw [HLEN.out]; have := Arr.of_own CW.out.row; rw [HLEN.out] at this; exact this) hW') (by have := HX.out; omega) hb9
  rw [hbe] at this
  exact this
 have HBB := Lib.hid hb
 have hbi : ¬ b = ip := fun e => CW.out.ni (e ▸ List.mem_of_getElem? hb)
 have hbw : ¬ b = w.heap.size := fun e => by have h1 := (CW.out.bk b (List.mem_of_getElem? hb)).1; rw [e, HZ.out] at h1; exact ht h1.symm
 clear hbe k1 k2 k3 k4 hb
 go_region_held3 (fun w' => w'.cell? ⟨ip, 1, none⟩ = some (.int .i64 l.length) ∧ w'.cell? ⟨w.heap.size, 0, none⟩ = some (.string x.key) ∧ w'.cell? ⟨w.heap.size, 1, none⟩ = some (.string x.val) ∧ w'.cell? ⟨w.heap.size, 2, none⟩ = some (.int .u32 x.fl) ∧ w'.cell? ⟨w.heap.size, 3, none⟩ = some (.int .u64 x.id) ∧ w'.cell? ⟨w.heap.size, 4, none⟩ = some (.int .i64 x.dies) ∧ w'.cell? ⟨w.heap.size, 5, none⟩ = some (.int .i64 x.gen)) (go_keep)
  ((go_at_call 87; refine (HPL.out _ (by first | exact Below.refl _ _ | exact (Below.refl _ _).drew)).mono ?_; rintro e w1 ⟨rfl, rfl⟩))
 all_goals
  go_wp2
  go_ret2
  have hA := CW.out.snoc (by have := HX.out; omega) (by have := HX.out; omega) HBB.out x
  have hbt := (CW.out.bk b (List.mem_of_getElem? HBB.out)).1
  have e1 := HEW.out
  have e2 : Ext (fun j => j = t) O w OO (set6 W b (l.length % 64 * 6) (.string x.key) (.string x.val) (.int .u32 x.fl) (.int .u64 x.id) (.int .i64 x.dies) (.int .i64 x.gen)) := e1.trans ⟨fun _ _ => rfl, fun j hj => by rw [set6_size]; exact e1.hi j hj, fun j hj hn => by have := e1.hi j hn; omega, (set6_wrote _ _ _ _ _ _ _ _ _).mono fun k _ hk => by subst hk; exact ⟨hbt, by rw [hbt]; exact ht⟩⟩
  have e3 := e2.trans (Ext.of_set (g := t) (j := 1) (b := ip) (v := .int .i64 (l.length + 1 : Nat)) e2.hi CW.out.o ht rfl)
  exact ⟨rfl, OO, e3.drew, hA.ext (S := fun _ => False) (Ext.of_below e3.hi (drew_below _)) id⟩
theorem c_IAdd (x : It) {w : World} {O : Om} {t ip : Nat} {l : List It} (h : Ar w O t ip l) (ht : t ≠ 0) (hl : l.length ≤ 1000000) (hhi : ∀ j, O j ≠ 0 → j < w.heap.size) :
 Calls Tryz.prog 111 #[.pointer (some ⟨ip, 0, none⟩), .agg #[.string x.key, .string x.val, .int .u32 x.fl, .int .u64 x.id, .int .i64 x.dies, .int .i64 x.gen]] w (RP (fun j => j = t) w O (.tuple #[.int .i64 (l.length + 1 : Nat), .int .i64 0]) fun W G => Ar W G t ip (l ++ [x])) := by
 obtain ⟨v, bl, hC, h1, h2⟩ := h.core
 by_cases he : l.length % 64 = 0
 · exact c_IAdd_full x h ht hl hhi fun v' bl' hC' h1' h2' => by omega
 · exact c_IAdd_room x h ht hl hhi fun v' bl' hC' h1' h2' => by omega
def it0 : It := ⟨⟨#[]⟩, ⟨#[]⟩, 0, 0, 0, 0⟩
def itAt (l : List It) (r : Int) : It := if 1 ≤ r ∧ r ≤ l.length then l[(r - 1).toNat]?.getD it0 else it0
def itIs (l : List It) (r : Int) : Bool := decide (1 ≤ r ∧ r ≤ l.length)
end
end Go.Proofs.YtifkfhnbkjkakaaGreatDoor
