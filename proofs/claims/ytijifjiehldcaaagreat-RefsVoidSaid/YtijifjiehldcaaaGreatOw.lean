/- Whose a block is: one map of owners for all objects that a law's run makes; what a step leaves as it was. -/
import Derived.Test.YtijifjiehldcaaaGreatWd
import Derived.Test.YtijifjiehldcaaaGreatNtNL
namespace Go.Proofs.YtijifjiehldcaaaGreat
set_option linter.unusedSimpArgs false
open Go.RowKit
set_option linter.unusedVariables false

/-- Owners: 0: nobody that is spoken of. -/
abbrev Om := Nat → Nat
/-- A step that writes blocks of the owners S alone; new blocks are theirs, or nobody's. -/
structure Ext (S : Nat → Prop) (O : Om) (w : World) (O' : Om) (w' : World) : Prop where
  lo : ∀ j, j < w.heap.size → O' j = O j
  hi : ∀ j, O' j ≠ 0 → j < w'.heap.size
  nw : ∀ j, w.heap.size ≤ j → O' j ≠ 0 → S (O' j)
  wr : Wrote (fun j => S (O j) ∧ O j ≠ 0) w w'
/-- All blocks that are somebody's are the call's own, and there. -/
structure Env (w0 : World) (O : Om) (w : World) : Prop where
  base : ∀ j, O j ≠ 0 → w0.heap.size ≤ j
  hi : ∀ j, O j ≠ 0 → j < w.heap.size
  bel : Below w0.heap.size w0 w
section
variable {S T : Nat → Prop} {O O' O1 O2 : Om} {w0 w w' w1 w2 : World} {g : Nat}
theorem Ext.refl (h : ∀ j, O j ≠ 0 → j < w.heap.size) : Ext S O w O w := ⟨fun _ _ => rfl, h, fun j hj hn => by have := h j hn; omega, Wrote.refl _ _⟩
theorem Ext.size (h : Ext S O w O' w') : w.heap.size ≤ w'.heap.size := h.wr.size
theorem Ext.trans (h : Ext S O w O1 w1) (k : Ext S O1 w1 O2 w2) : Ext S O w O2 w2 := by
  have hs := h.size
  refine ⟨fun j hj => (k.lo j (by omega)).trans (h.lo j hj), k.hi, fun j hj hn => ?_, h.wr.trans k.wr fun n hn ⟨hS, hz⟩ => ?_⟩
  · by_cases hj2 : j < w1.heap.size
    · rw [k.lo j hj2] at hn ⊢; exact h.nw j hj hn
    · exact k.nw j (by omega) hn
  · rw [h.lo n hn] at hS hz; exact ⟨hS, hz⟩
theorem Ext.mono (h : Ext S O w O' w') (hs : ∀ t, t ≠ 0 → S t → T t) : Ext T O w O' w' :=
  ⟨h.lo, h.hi, fun j hj hn => hs _ hn (h.nw j hj hn), h.wr.mono fun k _ ⟨a, b⟩ => ⟨hs _ b a, b⟩⟩
/-- Nobody's blocks alone are made. -/
theorem Ext.of_below (h : ∀ j, O j ≠ 0 → j < w.heap.size) (hb : Below w.heap.size w w') : Ext S O w O w' :=
  ⟨fun _ _ => rfl, fun j hj => Nat.lt_of_lt_of_le (h j hj) hb.size, fun j hj hn => by have := h j hn; omega, Wrote.of_below hb⟩
theorem Ext.of_set {b j : Nat} {v : Value} (h : ∀ j, O j ≠ 0 → j < w.heap.size) (hb : O b = g) (hg : g ≠ 0) (hS : S g) : Ext S O w O (w.setCell ⟨b, j, none⟩ v) :=
  ⟨fun _ _ => rfl, fun j hj => by simpa using h j hj, fun j hj hn => by have := h j hn; omega, Wrote.setCell (Wrote.refl _ _) (p := ⟨b, j, none⟩) (fun _ => ⟨by show S (O b); rw [hb]; exact hS, by show O b ≠ 0; rw [hb]; exact hg⟩) _⟩
theorem Env.ext (e : Env w0 O w) (h : Ext S O w O' w') : Env w0 O' w' := by
  have hs := e.bel.size
  refine ⟨fun j hn => ?_, h.hi, e.bel.trans (h.wr.below (fun k _ ⟨_, hz⟩ => e.base k hz) hs)⟩
  by_cases hj : j < w.heap.size
  · rw [h.lo j hj] at hn; exact e.base j hn
  · omega
theorem Ext.cell (h : Ext S O w O' w') {p : Addr} (hp : p.block < w.heap.size) (hs : ¬ S (O p.block)) : w'.cell? p = w.cell? p := h.wr.cell hp fun k => hs k.1
theorem Ext.frozen (h : Ext S O w O' w') {p : Addr} (hp : p.block < w.heap.size) (hs : ¬ S (O p.block)) : w'.frozen? p = w.frozen? p := h.wr.frozen hp fun k => hs k.1
/-- A new owner of new blocks. -/
noncomputable def newOwn (O : Om) (n m g : Nat) : Om := fun j => if n ≤ j ∧ j < m then g else O j
theorem Ext.alloc {g : Nat} (h : ∀ j, O j ≠ 0 → j < w.heap.size) (hS : S g) (o : Obj) : Ext S O w (newOwn O w.heap.size (w.heap.size + 1) g) (w.alloc o) := by
  refine ⟨fun j hj => by unfold newOwn; rw [if_neg (by omega)], fun j hj => ?_, fun j hj hn => ?_, (Wrote.refl _ _).alloc o⟩
  · unfold newOwn at hj
    split at hj
    · simp; omega
    · have := h j hj; simp; omega
  · unfold newOwn at hn ⊢
    split at hn
    · rename_i hc; rw [if_pos hc]; exact hS
    · have := h j hn; omega
theorem newOwn_at {n m : Nat} (hg : n < m) : newOwn O n m g n = g := by unfold newOwn; rw [if_pos ⟨Nat.le_refl _, hg⟩]
end
/-- Block b is g's, and holds cs. -/
structure Ob (w : World) (O : Om) (g b : Nat) (cs : List Value) : Prop where
  o : O b = g
  lt : b < w.heap.size
  c : ∀ j u, cs[j]? = some u → w.cell? ⟨b, j, none⟩ = some u
  f : ∀ j, w.frozen? ⟨b, j, none⟩ = false
section
variable {S : Nat → Prop} {O O' : Om} {w w' : World} {g b : Nat} {cs : List Value}
theorem Ob.ext (h : Ob w O g b cs) (e : Ext S O w O' w') (hs : ¬ S g) : Ob w' O' g b cs :=
  ⟨(e.lo b h.lt).trans h.o, Nat.lt_of_lt_of_le h.lt e.size, fun j u hu => (e.cell (p := ⟨b, j, none⟩) h.lt (by rw [h.o]; exact hs)).trans (h.c j u hu), fun j => (e.frozen (p := ⟨b, j, none⟩) h.lt (by rw [h.o]; exact hs)).trans (h.f j)⟩
theorem Ob.below (h : Ob w O g b cs) (hb : Below w.heap.size w w') : Ob w' O g b cs :=
  ⟨h.o, Nat.lt_of_lt_of_le h.lt hb.size, fun j u hu => (hb.cell (p := ⟨b, j, none⟩) h.lt).trans (h.c j u hu), fun j => (hb.frozen (p := ⟨b, j, none⟩) h.lt).trans (h.f j)⟩
theorem Ob.set (h : Ob w O g b cs) (j : Nat) (v : Value) (hj : j < cs.length) : Ob (w.setCell ⟨b, j, none⟩ v) O g b (cs.set j v) := by
  refine ⟨h.o, by simpa using h.lt, fun i u hu => ?_, fun i => (World.frozen?_setCell _ _ _ _).trans (h.f i)⟩
  by_cases e : i = j
  · subst e
    rw [List.getElem?_set_self hj] at hu
    cases hu
    exact World.cell?_setCell_same _ _ _ (h.c i _ (List.getElem?_eq_getElem hj))
  · rw [List.getElem?_set_ne (Ne.symm e)] at hu
    exact (World.cell?_setCell_other _ _ _ _ (by simp; try omega)).trans (h.c i u hu)
/-- Another object's cell is written. -/
theorem Ob.other (h : Ob w O g b cs) {b2 j : Nat} {v : Value} (hb : b2 ≠ b) : Ob (w.setCell ⟨b2, j, none⟩ v) O g b cs :=
  ⟨h.o, by simpa using h.lt, fun i u hu => (World.cell?_setCell_other _ _ _ _ (by simp; try omega)).trans (h.c i u hu), fun i => (World.frozen?_setCell _ _ _ _).trans (h.f i)⟩
theorem Ob.new (w : World) (O : Om) (g : Nat) (cs : Array Value) (e : TypeId) : Ob (w.alloc (.cells cs e)) (newOwn O w.heap.size (w.heap.size + 1) g) g w.heap.size cs.toList :=
  ⟨newOwn_at (by omega), by simp, fun j u hu => cell_newA w cs e _ rfl j u (by simpa using hu), fun j => frozen_newA w cs e _ rfl j⟩
theorem Ob.ne {g2 b2 : Nat} {ds : List Value} (h : Ob w O g b cs) (k : Ob w O g2 b2 ds) (hg : g ≠ g2) : b ≠ b2 := by
  intro e; subst e; exact hg (h.o.symm.trans k.o)
end
/-- The cells, told by their owner. -/
theorem Cl.mono {w : World} {F G : Nat → Prop} {c : Nat} {L : List Wde} {n k a s i : Int} (h : Cl w F c L n k a s i) (hF : ∀ j, F j → G j) : Cl w G c L n k a s i :=
  ⟨h.mp.imp id (fun ⟨m, h1, h2, h3, h4, h5⟩ => ⟨m, h1, h2, hF m h3, h4, h5⟩), h.c1, h.c2, h.c3, h.c4, h.c5, h.fr, h.lt, hF c h.mem, fun d hd => (h.wd d hd).mono hF, h.na, h.nb⟩
theorem Ce.mono {w : World} {F G : Nat → Prop} {c : Nat} {M : Int → Int} {n : Int} {la : La} (h : Ce w F c M n la) (hF : ∀ j, F j → G j) (hG : ∀ j, G j → j < w.heap.size) : Ce w G c M n la := by
  obtain ⟨L, hL, hv⟩ := h.ex
  exact ⟨⟨L, hL.mono hF, hv⟩, hG⟩
/-- Cells that g owns. -/
def CO (w : World) (O : Om) (g c : Nat) (M : Int → Int) (n : Int) (la : La) : Prop := Ce w (fun j => O j = g) c M n la
/-- What a call comes to: its answer, what it wrote, what holds then. -/
def RP (S : Nat → Prop) (w : World) (O : Om) (v : Value) (Q : World → Om → Prop) (e : Ending) (w' : World) : Prop := e = .returned v ∧ ∃ O', Ext S O w O' w' ∧ Q w' O'
section
variable {S T : Nat → Prop} {O O' : Om} {w w' : World} {g c : Nat} {M : Int → Int} {n : Int} {la : La}
theorem CO.ext (h : CO w O g c M n la) (e : Ext S O w O' w') (hs : ¬ S g) (hg : g ≠ 0) : CO w' O' g c M n la := by
  have h1 := Ce.wrote (S := fun j => S (O j) ∧ O j ≠ 0) h e.wr (fun j hj k => hs (by have := k.1; rwa [hj] at this))
  refine h1.mono (fun j hj => (e.lo j (h.lts j hj)).trans hj) fun j hj => e.hi j (by rw [hj]; exact hg)
theorem CO.o (h : CO w O g c M n la) : O c = g := Ce.mem (F := fun j => O j = g) h
theorem CO.lt (h : CO w O g c M n la) : c < w.heap.size := Ce.lts h _ (Ce.mem (F := fun j => O j = g) h)
theorem CO.of {F : Nat → Prop} {M1 : Int → Int} {n1 : Int} {la1 : La} (hhi : ∀ j, O j ≠ 0 → j < w.heap.size) (hg : g ≠ 0) (hC : Ce w' F c M1 n1 la1) (hG : Grow w (fun j => O j = g) w' F) (hw : Wrote (fun j => O j = g) w w') :
    ∃ O', Ext (fun t => t = g) O w O' w' ∧ CO w' O' g c M1 n1 la1 := by
  classical
  obtain ⟨O', hO⟩ : ∃ O' : Om, ∀ j, O' j = if j < w.heap.size then O j else if F j then g else 0 := ⟨_, fun _ => rfl⟩
  refine ⟨O', ⟨fun j hj => by rw [hO, if_pos hj], fun j hj => ?_, fun j hj hn => ?_, hw.mono fun k _ hk => ⟨hk, by rw [hk]; exact hg⟩⟩, hC.mono (fun j hj => ?_) (fun j hj => ?_)⟩
  · rw [hO] at hj
    split at hj
    · exact Nat.lt_of_lt_of_le ‹_› hw.size
    · split at hj
      · exact hG.lts j ‹_›
      · exact absurd rfl hj
  · rw [hO, if_neg (by omega)] at hn ⊢
    split at hn
    · rw [if_pos ‹_›]
    · exact absurd rfl hn
  · rw [hO]
    split
    · rcases hG.new j hj with h | h
      · exact h
      · omega
    · first | rfl | rw [if_pos hj]
  · rw [hO] at hj
    split at hj
    · exact Nat.lt_of_lt_of_le ‹_› hw.size
    · split at hj
      · exact hG.lts j ‹_›
      · exact absurd hj.symm hg
theorem CePost.rp {M1 : Int → Int} {n1 : Int} {la1 : La} {v : Value} {e : Ending} (h : CePost w (fun j => O j = g) c M1 n1 la1 v e w') (hhi : ∀ j, O j ≠ 0 → j < w.heap.size) (hg : g ≠ 0) : RP (fun t => t = g) w O v (fun W G => CO W G g c M1 n1 la1) e w' := by
  obtain ⟨rfl, F, h1, h2, h3⟩ := h
  exact ⟨rfl, CO.of hhi hg h1 h2 h3⟩
theorem RP.mono {v : Value} {Q R : World → Om → Prop} {e : Ending} (h : RP S w O v Q e w') (hs : ∀ t, t ≠ 0 → S t → T t) (hQ : ∀ W G, Q W G → R W G) : RP T w O v R e w' := by
  obtain ⟨rfl, O', h1, h2⟩ := h
  exact ⟨rfl, O', h1.mono hs, hQ _ _ h2⟩
end
/-- Records. -/
structure It where
  key : ByteArray
  val : ByteArray
  fl : Int
  id : Int
  dies : Int
  gen : Int
def itc (x : It) : List Value := [.string x.key, .string x.val, .int .u32 x.fl, .int .u64 x.id, .int .i64 x.dies, .int .i64 x.gen]
theorem itc_len (x : It) : (itc x).length = 6 := rfl
/-- The program's records: block ip is the arena's struct; what belongs to it is t's. -/
structure Ar (w : World) (O : Om) (t ip : Nat) (l : List It) : Prop where
  o : O ip = t
  lt : ip < w.heap.size
  fr : ∀ j, w.frozen? ⟨ip, j, none⟩ = false
  c1 : w.cell? ⟨ip, 1, none⟩ = some (.int .i64 l.length)
  ex : ∃ (v : Value) (bl : List Nat), w.cell? ⟨ip, 0, none⟩ = some v ∧ w.ownsRow 0 221 1 v bl.length (bl.map fun b => .pointer (some ⟨b, 0, none⟩)) ∧ (∀ k, v.ownBlock = some k → O k = t ∧ k ≠ ip ∧ k ∉ bl) ∧ bl.Nodup ∧ ip ∉ bl ∧
    l.length ≤ 64 * bl.length ∧ 64 * bl.length < l.length + 64 ∧ (∀ b ∈ bl, O b = t ∧ b < w.heap.size ∧ (∀ j, w.frozen? ⟨b, j, none⟩ = false) ∧ ∀ j, j < 384 → ∃ u, w.cell? ⟨b, j, none⟩ = some u) ∧
    ∀ (i : Nat) (x : It) (b : Nat), l[i]? = some x → bl[i / 64]? = some b → ∀ j u, (itc x)[j]? = some u → w.cell? ⟨b, 6 * (i % 64) + j, none⟩ = some u
/-- The program's notes. -/
structure No (w : World) (O : Om) (t np : Nat) (l : List Nt) : Prop where
  ex : ∃ v, NL w 143 ntc np v l ∧ ∀ k, NLset np v k → O k = t
section
variable {S : Nat → Prop} {O O' : Om} {w w' : World} {t ip np : Nat}
theorem Ext.own {base : Nat} {ty : TypeId} {size : Nat} {v : Value} {n : Nat} {xs : List Value} (e : Ext S O w O' w') (h : w.ownsRow base ty size v n xs) (hv : ∀ k, v.ownBlock = some k → ¬ S (O k)) : w'.ownsRow base ty size v n xs := e.wr.own h fun k hk hs => hv k hk hs.1
theorem Ar.ext {l : List It} (h : Ar w O t ip l) (e : Ext S O w O' w') (hs : ¬ S t) : Ar w' O' t ip l := by
  have hc : ∀ b j, O b = t → b < w.heap.size → w'.cell? ⟨b, j, none⟩ = w.cell? ⟨b, j, none⟩ := fun b j hb hl => e.cell (p := ⟨b, j, none⟩) hl (by rw [hb]; exact hs)
  have hf : ∀ b j, O b = t → b < w.heap.size → w'.frozen? ⟨b, j, none⟩ = w.frozen? ⟨b, j, none⟩ := fun b j hb hl => e.frozen (p := ⟨b, j, none⟩) hl (by rw [hb]; exact hs)
  obtain ⟨v, bl, h0, h1, h2, h3, h4, h5, h6, h7, h8⟩ := h.ex
  refine ⟨(e.lo _ h.lt).trans h.o, Nat.lt_of_lt_of_le h.lt e.size, fun j => (hf _ _ h.o h.lt).trans (h.fr j), (hc _ _ h.o h.lt).trans h.c1, v, bl, (hc _ _ h.o h.lt).trans h0, e.own h1 fun k hk => by rw [(h2 k hk).1]; exact hs, fun k hk => ?_, h3, h4, h5, h6, fun b hb => ?_, fun i x b hi hb j u hu => ?_⟩
  · obtain ⟨q1, q2, q3⟩ := h2 k hk
    exact ⟨(e.lo _ (h1.lt k hk).2).trans q1, q2, q3⟩
  · obtain ⟨q1, q2, q3, q4⟩ := h7 b hb
    exact ⟨(e.lo _ q2).trans q1, Nat.lt_of_lt_of_le q2 e.size, fun j => (hf _ _ q1 q2).trans (q3 j), fun j hj => (q4 j hj).imp fun u hu => (hc _ _ q1 q2).trans hu⟩
  · obtain ⟨q1, q2, q3, q4⟩ := h7 b (List.mem_of_getElem? hb)
    exact (hc _ _ q1 q2).trans (h8 i x b hi hb j u hu)
theorem No.ext {l : List Nt} (h : No w O t np l) (e : Ext S O w O' w') (hs : ¬ S t) : No w' O' t np l := by
  obtain ⟨v, h1, h2⟩ := h.ex
  refine ⟨v, h1.wrote e.wr fun k hk hS => hs ?_, fun k hk => (e.lo k (h1.lts k hk)).trans (h2 k hk)⟩
  have := hS.1
  rwa [h2 k hk] at this
end
/-- What a world has. -/
structure AW where
  M : Int → Int
  n : Int
  la : La
  tk : Nat → Int
  ho : Int
  it : List It
  nt : List Nt
/-- A world's blocks. -/
structure Wb where
  p : Nat
  c : Nat
  ip : Nat
  np : Nat
/-- The program's world in memory: its struct is 1's, its cells 2's, its records 3's, its notes 4's. -/
structure PW (w : World) (O : Om) (B : Wb) (f : Cf) (s : AW) : Prop where
  o : O B.p = 1
  wo : Wo w B.p B.c B.ip B.np f s.tk s.ho
  ce : CO w O 2 B.c s.M s.n s.la
  ar : Ar w O 3 B.ip s.it
  no : No w O 4 B.np s.nt
/-- The program's world's owners. -/
def SW (t : Nat) : Prop := 1 ≤ t ∧ t ≤ 4
/-- .. and the owners a to b. -/
def SX (a b t : Nat) : Prop := (1 ≤ t ∧ t ≤ 4) ∨ (a ≤ t ∧ t ≤ b)
theorem SX.of_sw {a b t : Nat} (h : SW t) : SX a b t := .inl h
theorem SX.self {k : Nat} : SX k k k := .inr ⟨Nat.le_refl _, Nat.le_refl _⟩
theorem SX.not {a b t : Nat} (h : 5 ≤ t) (h2 : t < a ∨ b < t) : ¬ SX a b t := fun k => by unfold SX at k; omega
theorem SX.mono {a b c d t : Nat} (h1 : c ≤ a) (h2 : b ≤ d) (h : SX a b t) : SX c d t := by unfold SX at h ⊢; omega
section
variable {S : Nat → Prop} {O O' : Om} {w w' : World} {B : Wb} {f : Cf} {s : AW}
theorem PW.ext (h : PW w O B f s) (e : Ext S O w O' w') (h1 : ¬ S 1) (h2 : ¬ S 2) (h3 : ¬ S 3) (h4 : ¬ S 4) : PW w' O' B f s :=
  ⟨(e.lo _ h.wo.lt).trans h.o, h.wo.wrote e.wr fun k => h1 (by have := k.1; rwa [h.o] at this), h.ce.ext e h2 (by decide), h.ar.ext e h3, h.no.ext e h4⟩
theorem PW.below (h : PW w O B f s) (hhi : ∀ j, O j ≠ 0 → j < w.heap.size) (hb : Below w.heap.size w w') : PW w' O B f s := h.ext (S := fun _ => False) (Ext.of_below hhi hb) id id id id
/-- The cells went on. -/
theorem PW.cells {M : Int → Int} {n : Int} {la : La} (h : PW w O B f s) (e : Ext (fun t => t = 2) O w O' w') (hc : CO w' O' 2 B.c M n la) : PW w' O' B f ⟨M, n, la, s.tk, s.ho, s.it, s.nt⟩ :=
  ⟨(e.lo _ h.wo.lt).trans h.o, h.wo.wrote e.wr (fun k => absurd (show (1 : Nat) = 2 from by have := k.1; rwa [h.o] at this) (by decide)), hc, h.ar.ext e (by decide), h.no.ext e (by decide)⟩
theorem PW.rp_cells {M : Int → Int} {n : Int} {la : La} {v : Value} {e : Ending} (h : PW w O B f s) (hhi : ∀ j, O j ≠ 0 → j < w.heap.size) (hp : CePost w (fun j => O j = 2) B.c M n la v e w') : RP SW w O v (fun W G => PW W G B f ⟨M, n, la, s.tk, s.ho, s.it, s.nt⟩) e w' := by
  obtain ⟨rfl, O', h1, h2⟩ := hp.rp hhi (by decide)
  exact ⟨rfl, O', h1.mono fun t _ ht => by subst ht; exact ⟨by decide, by decide⟩, h.cells h1 h2⟩
theorem drew_below (w : World) : Below w.heap.size w w.drew := (Below.refl _ _).drew
theorem Ext.drew (h : Ext S O w O' w') : Ext S O w O' w'.drew := ⟨h.lo, h.hi, h.nw, h.wr.drew⟩
theorem Ext.below {w1 : World} (h : Ext S O w O' w') (hb : Below w'.heap.size w' w1) : Ext S O w O' w1 := h.trans (Ext.of_below h.hi hb)
/-- The world and an object k that a method is at. -/
structure Me (a b : Nat) (w0 : World) (O0 : Om) (w : World) (O : Om) (B : Wb) (f : Cf) (s : AW) (k T : Nat) (cs : List Value) : Prop where
  e : Ext (SX a b) O0 w0 O w
  p : PW w O B f s
  t : Ob w O k T cs
theorem Me.start {a b k T : Nat} {cs : List Value} (hhi : ∀ j, O j ≠ 0 → j < w.heap.size) (hp : PW w O B f s) (ht : Ob w O k T cs) : Me a b w O w O B f s k T cs := ⟨Ext.refl hhi, hp, ht⟩
section
variable {a b k T : Nat} {cs : List Value} {O0 O1 : Om} {w1 w0 : World} {s1 : AW}
theorem Me.set (h : Me a b w0 O0 w O B f s k T cs) (hk : 10 ≤ k) (ha : a ≤ k) (hb : k ≤ b) (j : Nat) (v : Value) (hj : j < cs.length) : Me a b w0 O0 (w.setCell ⟨T, j, none⟩ v) O B f s k T (cs.set j v) := by
  have e : Ext (fun t => t = k) O w O (w.setCell ⟨T, j, none⟩ v) := Ext.of_set h.e.hi h.t.o (by omega) rfl
  exact ⟨h.e.trans (e.mono fun t _ ht => .inr (by omega)), h.p.ext e (by omega) (by omega) (by omega) (by omega), h.t.set j v hj⟩
theorem Me.drew (h : Me a b w0 O0 w O B f s k T cs) : Me a b w0 O0 w.drew O B f s k T cs := ⟨h.e.drew, h.p.below h.e.hi (drew_below w), h.t.below (drew_below w)⟩
theorem Me.below (h : Me a b w0 O0 w O B f s k T cs) (hb : Below w.heap.size w w1) : Me a b w0 O0 w1 O B f s k T cs := ⟨h.e.below hb, h.p.below h.e.hi hb, h.t.below hb⟩
/-- Behind a call that goes on with the world alone. -/
theorem Me.world (h : Me a b w0 O0 w O B f s k T cs) (hk : 10 ≤ k) (e : Ext SW O w O1 w1) (hp : PW w1 O1 B f s1) : Me a b w0 O0 w1 O1 B f s1 k T cs := ⟨h.e.trans (e.mono fun t _ ht => SX.of_sw ht), hp, h.t.ext e fun h => by have := h.2; omega⟩
/-- .. with the world and other objects. -/
theorem Me.call {c d : Nat} (h : Me a b w0 O0 w O B f s k T cs) (hk : 10 ≤ k) (hkc : k < c ∨ d < k) (ha : a ≤ c) (hb : d ≤ b) (e : Ext (SX c d) O w O1 w1) (hp : PW w1 O1 B f s1) : Me a b w0 O0 w1 O1 B f s1 k T cs :=
  ⟨h.e.trans (e.mono fun t _ ht => SX.mono ha hb ht), hp, h.t.ext e (SX.not (by omega) hkc)⟩
end
theorem PW.bd (h : PW w O B f s) : Bd s.M := Ce.bd h.ce
end
end Go.Proofs.YtijifjiehldcaaaGreat
