/- Parts of the walk. -/
import Derived.Test.YtehdnclegipciaaGreatG4
import Derived.Test.YtehdnclegipciaaGreatG6
import Derived.Test.YtehdnclegipciaaGreatD2
import Derived.Test.YtehdnclegipciaaGreatBaJ
import Derived.Test.YtehdnclegipciaaGreatDm
import Derived.Test.YtehdnclegipciaaGreatW5
import Derived.Test.YtehdnclegipciaaGreatG1
import Derived.Test.YtehdnclegipciaaGreatBaH
import Derived.BigQuiet
import Derived.Deep.QuietTactic
import Derived.Test.YtehdnclegipciaaGreatBaK
namespace Go.Proofs.YtehdnclegipciaaGreat
set_option linter.unusedVariables false
set_option linter.unusedSimpArgs false
set_option maxHeartbeats 20000000
set_option maxRecDepth 100000
section
open Go.RowKit Go.Shelf
def AwS (s r : AW) : Prop := Aw1 s r ∧ r.nt = s.nt
theorem AwS.refl (s : AW) : AwS s s := ⟨Aw1.refl s, rfl⟩
theorem AwS.load (a : Int) (s : AW) : AwS s (Aas a s) := ⟨Apb a s, rfl⟩
theorem AwS.store (a v : Int) (s : AW) : AwS s (Abi a v s) := ⟨Ais a v s, rfl⟩
theorem AwS.add (a v : Int) (s : AW) : AwS s (Aby a v s) := ⟨Aym a v s, rfl⟩
theorem AwS.put (p : Spt) (tg rf : Int) (s : AW) (o : Otm) : AwS s (Aan p tg rf s o).1 := by
 unfold Aan
 split
 · exact AwS.store _ _ _
 · split
   · exact AwS.load _ _
   · split
     · exact AwS.store _ _ _
     · exact AwS.refl _
theorem AwS.wy (x : AW × Wym) : AwS x.1 (Aau x).1 := by
 unfold Aau
 split
 · exact AwS.refl _
 · split
   · exact AwS.load _ _
   · exact AwS.load _ _
theorem AwS.ho (x : AW × Hom) : AwS x.1 (Aaq x).1 := by
 unfold Aaq
 split
 · exact AwS.load _ _
 · split
   · exact AwS.load _ _
   · split
     · exact AwS.add _ _ _
     · split
       · exact Ae1 _ _ _
       · split
         · exact AwS.put _ _ _ _ _
         · split
           · exact AwS.add _ _ _
           · exact AwS.refl _
theorem AwS.n {s r : AW} (h : AwS s r) (k ref b q sl v : Int) (k0 : 0 ≤ k) (k1 : k ≤ 255) : Aw1 s (Acm k ref b q sl v r) := h.1.note h.2 k ref b q sl v k0 k1
theorem Ba4 (mo : Int) (x : AW × Rmm) : Aw1 x.1 (Aao mo x).1 := by
 unfold Aao
 split
 · exact (AwS.load _ _).1
 · split
   · exact (AwS.load _ _).1
   · split
     · split
       · dsimp only
         split
         · exact (AwS.wy (x.1, x.2.wy)).n _ _ _ _ _ _ (by decide) (by decide)
         · exact (AwS.wy (x.1, x.2.wy)).1
       · exact (AwS.wy (x.1, x.2.wy)).1
     · split
       · exact (AwS.ho (x.1, x.2.ho)).1
       · exact Aw1.refl _
theorem Azg (mo : Int) (x : AW × Mvm) : Aw1 x.1 (Aae mo x).1 := by
 obtain ⟨s, z⟩ := x
 unfold Aae
 dsimp only
 by_cases h1 : z.ln = 1
 · rw [if_pos h1]
   exact (AwS.load _ _).1
 rw [if_neg h1]
 by_cases h2 : z.ln = 2
 · rw [if_pos h2]
   exact (AwS.load _ _).1
 rw [if_neg h2]
 by_cases h3 : z.ln = 3
 · rw [if_pos h3]
   exact Ba4 mo (s, z.rm)
 rw [if_neg h3]
 by_cases h4 : z.ln = 4
 · rw [if_pos h4]
   exact (AwS.add _ _ _).1
 rw [if_neg h4]
 by_cases h5 : z.ln = 5
 · rw [if_pos h5]
   exact (Ae1 _ _ _).1
 rw [if_neg h5]
 by_cases h6 : z.ln = 6
 · rw [if_pos h6]
   exact (AwS.put _ _ _ _ _).1
 rw [if_neg h6]
 by_cases h7 : z.ln = 7
 · rw [if_pos h7]
   exact (AwS.add _ _ _).1
 rw [if_neg h7]
 by_cases h8 : z.ln = 8
 · rw [if_pos h8]
   exact (AwS.add _ _ _).1
 rw [if_neg h8]
 by_cases h9 : z.ln = 9
 · rw [if_pos h9]
   dsimp only; by_cases g : z.o.ln = 1
   · rw [if_pos g]; exact AwS.n (Ae1 _ _ _) _ _ _ _ _ _ (by decide) (by decide)
   · rw [if_neg g]; exact (Ae1 _ _ _).1
 rw [if_neg h9]
 by_cases h10 : z.ln = 10
 · rw [if_pos h10]
   exact (AwS.add _ _ _).1
 rw [if_neg h10]
 by_cases h11 : z.ln = 11
 · rw [if_pos h11]
   exact (AwS.add 6 18446744073709551615 s).n _ _ _ _ _ _ (by decide) (by decide)
 rw [if_neg h11]
 exact Aw1.refl _
theorem Am5 (z : Mvm) : (Abs z).lost = z.lost := rfl
theorem Auc (z : Mvm) : (mv7 z).lost = z.lost := rfl
theorem Aw0 (mo : Int) (x : AW × Mvm) : x.2.lost ≤ (Aae mo x).2.lost ∧ (Aae mo x).2.lost ≤ x.2.lost + 1 := by
 obtain ⟨s, z⟩ := x
 have hn := fun z => Am5 z
 have h7' := fun z => Auc z
 unfold Aae
 dsimp only
 by_cases h1 : z.ln = 1
 · rw [if_pos h1]
   dsimp only; split
   · rw [hn]; dsimp only; omega
   · dsimp only; omega
 rw [if_neg h1]
 by_cases h2 : z.ln = 2
 · rw [if_pos h2]
   dsimp only; omega
 rw [if_neg h2]
 by_cases h3 : z.ln = 3
 · rw [if_pos h3]
   dsimp only; split
   · split <;> (dsimp only; omega)
   · dsimp only; omega
 rw [if_neg h3]
 by_cases h4 : z.ln = 4
 · rw [if_pos h4]
   dsimp only; omega
 rw [if_neg h4]
 by_cases h5 : z.ln = 5
 · rw [if_pos h5]
   dsimp only; split
   · split
     · rw [h7']; dsimp only; omega
     · dsimp only; omega
   · dsimp only; omega
 rw [if_neg h5]
 by_cases h6 : z.ln = 6
 · rw [if_pos h6]
   dsimp only; split
   · rw [h7']; dsimp only; omega
   · dsimp only; omega
 rw [if_neg h6]
 by_cases h7 : z.ln = 7
 · rw [if_pos h7]
   dsimp only; split
   · rw [hn]; omega
   · dsimp only; omega
 rw [if_neg h7]
 by_cases h8 : z.ln = 8
 · rw [if_pos h8]
   dsimp only; omega
 rw [if_neg h8]
 by_cases h9 : z.ln = 9
 · rw [if_pos h9]
   dsimp only; omega
 rw [if_neg h9]
 by_cases h10 : z.ln = 10
 · rw [if_pos h10]
   dsimp only; omega
 rw [if_neg h10]
 by_cases h11 : z.ln = 11
 · rw [if_pos h11]
   dsimp only; rw [hn]; dsimp only; omega
 rw [if_neg h11]
 dsimp only; omega
structure Mop where
 x : Nat
 R : Nat
 z : Mvm
structure Af7 (w : World) (G : Om) (k : Nat) (q : Mop) : Prop where
 e : Acq w G k q.x q.z
 r : Acg w G (k + 25) q.R q.z
 ok : Afl q.z
theorem Af7.ext {S : Nat → Prop} {O O' : Om} {w w' : World} {k : Nat} {q : Mop} (h : Af7 w O k q) (e : Ext S O w O' w') (hs : ∀ t, k ≤ t → t < k + 43 → ¬ S t) : Af7 w' O' k q :=
 ⟨h.e.ext e (fun t h1 h2 => hs t h1 (by omega)), h.r.ext e (fun t h1 h2 => hs t (by omega) (by omega)), h.ok⟩
theorem Af7.below {O : Om} {w w' : World} {k : Nat} {q : Mop} (h : Af7 w O k q) (hhi : Hh O w) (hb : Below w.heap.size w w') : Af7 w' O k q := h.ext (S := fun _ => False) (Ext.of_below hhi hb) fun _ _ _ => id
def MK : OpK Mop := ⟨fun q => q.x, fun q => q.R, Af7, 43, fun h e hs => h.ext e hs⟩
theorem QI.move {E : TypeId} {w0 w w1 w2 : World} {B C : Wb} {f : Cf} {N k i : Nat} {vo : Value} {G G1 G2 : Om} {s : AW} {m : Nat} {l : List Mop} {q : Mop} (h : QI MK E w0 B C f N k w vo G s m l) (hi : l[i]? = some q)
 (e1 : Ext (SD (36 + 43 * i) (36 + 43 * i + 17)) G w G1 w1) (r1 : RW w1 G1 C f (Aae f.y (s, q.z)).1 (m + 1)) (x1 : Acg w1 G1 (36 + 43 * i) q.R (Aae f.y (s, q.z)).2)
 (e2 : Ext (SX (11 + 43 * i) (11 + 43 * i + 24)) G1 w1 G2 w2) (p2 : PW w2 G2 B f (Aae f.y (s, q.z)).1) (x2 : Acq w2 G2 (11 + 43 * i) q.x (Aae f.y (s, q.z)).2) :
 ∃ q' : Mop, Af7 w2 G2 (11 + 43 * i) q' ∧ q'.x = q.x ∧ q'.R = q.R ∧ q'.z = (Aae f.y (s, q.z)).2 ∧ QI MK E w0 B C f N (k + 1) w2 vo G2 (Aae f.y (s, q.z)).1 (m + 1) (l.set i q') := by
 have h0 : Af7 w G (11 + 43 * i) q := h.ops i q hi
 have a : Aw1 s (Aae f.y (s, q.z)).1 := Azg f.y (s, q.z)
 have hb : opb MK.wd i = 11 + 43 * i := rfl
 have hw : MK.wd = 43 := rfl
 have hq : Af7 w2 G2 (11 + 43 * i) ⟨q.x, q.R, (Aae f.y (s, q.z)).2⟩ := ⟨x2, by
  have := x1.ext e2 (fun t h1 h2 => SX.not (by omega) (by omega))
  show Acg w2 G2 (11 + 43 * i + 25) q.R _
  rwa [show 11 + 43 * i + 25 = 36 + 43 * i by omega], h0.ok.step f.y h.pr.p.bd⟩
 have E12 : Ext (SO (opb MK.wd i) MK.wd) G w G2 w2 := by
  rw [hb]
  refine (e1.mono ?_).trans (e2.mono ?_)
  · intro t _ ht; show SO (11 + 43 * i) 43 t; unfold SD SR at ht; unfold SO; omega
  · intro t _ ht; show SO (11 + 43 * i) 43 t; unfold SX at ht; unfold SO; omega
 refine ⟨_, hq, rfl, rfl, rfl, h.step hi E12 ⟨p2, r1.ext e2 (SX.not (by omega) (by omega)) (SX.not (by omega) (by omega)) (SX.not (by omega) (by omega)) (SX.not (by omega) (by omega))⟩ (by rw [hb]; exact hq) rfl rfl (by have := h.n0; have := a.n0; omega) (by have := a.n1; omega) (by omega) (by rw [a.it]; omega) (by have := a.nt; omega) ?_⟩
 intro x hx
 rcases a.nk x hx with g | g
 · exact h.hnk x g
 · exact g
theorem Air (w : World) (n : Nat) : Below w.heap.size w (w.drewN n) := ⟨rfl, rfl, rfl, Nat.le_refl _, fun _ _ => rfl⟩
theorem Aoq {w : World} {O : Om} {k : Nat} {q : Mop} (h : Af7 w O k q) (hhi : Hh O w) :
 Calls Tryz.prog 38 #[.agg #[.pointer (some ⟨q.x, 0, none⟩), .pointer (some ⟨q.R, 0, none⟩)]] w fun e w' => e = .returned (.bool true) ∧ Below w.heap.size w w' := by
 obtain ⟨X, hX⟩ := exq q.x
 obtain ⟨R, hR⟩ := exq q.R
 have r0 : w.cell? ⟨R, 0, none⟩ = some (.int .i64 q.z.ln) := by rw [hR]; exact h.r.c0
 have r1 : w.cell? ⟨R, 1, none⟩ = some (.int .i64 q.z.lost) := by rw [hR]; exact h.r.c1
 obtain ⟨lo, hlo⟩ := exq q.z.lost
 obtain ⟨ln, hln⟩ := exq q.z.ln
 obtain ⟨ov, hov⟩ := exq (Abc q.z)
 have HL : Hid (∀ W, Below w.heap.size w W → C1 23 X W fun e w' => e = .returned (.int .i64 lo) ∧ W = w') := hQd fun W hb => by rw [hX, hlo]; exact Ao6 (h.e.below hhi hb)
 have HO : Hid (∀ W, Below w.heap.size w W → C1 22 X W fun e w' => e = .returned (.bool ov) ∧ W = w') := hQd fun W hb => by rw [hX, hov]; exact Akt (h.e.below hhi hb) h.ok.l0 h.ok.l11
 have hd : (ln == 0) = ov := by rw [hov, hln]; rfl
 rw [← hln] at r0
 rw [← hlo] at r1
 rw [← hX, ← hR]
 have hRl := Ajn r0
 clear h hX hR hlo hln hov hhi
 go_enter Tryz.func38, Tryz.ntmps38
 go_upto_region 2 with fail
 obtain ⟨W1, hW1⟩ := exq (w.alloc (.cells #[.pointer (some ⟨X, 0, none⟩), .pointer (some ⟨R, 0, none⟩)] 95))
 have y0 : W1.cell? ⟨w.heap.size, 0, none⟩ = some (.pointer (some ⟨X, 0, none⟩)) := by rw [hW1]; simp
 have y1 : W1.cell? ⟨w.heap.size, 1, none⟩ = some (.pointer (some ⟨R, 0, none⟩)) := by rw [hW1]; simp
 have hl1 : w.heap.size < W1.heap.size := by rw [hW1]; simp
 have b1 : Below w.heap.size w W1 := by rw [hW1]; exact bal _ _
 have q0 := (b1.cell (p := ⟨R, 0, none⟩) hRl).trans r0
 have q1 := (b1.cell (p := ⟨R, 1, none⟩) hRl).trans r1
 rw [← hW1]
 clear hW1 r0 r1
 have HB1 := hQd b1
 clear b1
 have HOQ := hQd (fun W (h : ∃ n, W = W1.drewN n) => HO.out W (by obtain ⟨n, rfl⟩ := h; exact HB1.out.trans ((Air W1 n).mono HB1.out.size)))
 have HLQ := hQd (fun W (h : ∃ n, W = W1.drewN n) => HL.out W (by obtain ⟨n, rfl⟩ := h; exact HB1.out.trans ((Air W1 n).mono HB1.out.size)))
 go_quiet ((first
  | (go_at_call 22; exact Acy (HOQ.out _ ⟨_, rfl⟩))
  | (go_at_call 23; exact Acy (HLQ.out _ ⟨_, rfl⟩))))
 go_wp2
 go_ret
 exact ⟨rfl, HB1.out.trans ((Air W1 nq).mono HB1.out.size)⟩
structure OpS (W2 : World) (G : Om) (k : Nat) (on : Option Nat) (W : World) (G' : Om) : Prop where
 e : Ext (fun t => t = 10 ∨ (k ≤ t ∧ t < k + 43)) G W2 G' W
 ob : ∀ n, on = some n → Ob W G' 10 n [.pointer none, .pointer none]
section
variable {W2 W W' : World} {G G' G'' : Om} {k : Nat} {on : Option Nat}
theorem OpS.ext {S : Nat → Prop} (h : OpS W2 G k on W G') (e : Ext S G' W G'' W') (hs : ∀ t, S t → k ≤ t ∧ t < k + 43) (hk : 10 < k) : OpS W2 G k on W' G'' :=
 ⟨h.e.trans (e.mono fun t _ ht => .inr (hs t ht)), fun n hn => (h.ob n hn).ext e fun g => by have := hs _ g; omega⟩
theorem OpS.alloc (ty : TypeId) (h : OpS W2 G k none W G') (hk : 10 < k) : ∃ G'', OpS W2 G k (some W.heap.size) (W.alloc (.cells #[.pointer none, .pointer none] ty)) G'' ∧ (∀ X z, Acq W G' k X z → Acq (W.alloc (.cells #[.pointer none, .pointer none] ty)) G'' k X z) ∧ ∀ R z, Acg W G' (k + 25) R z → Acg (W.alloc (.cells #[.pointer none, .pointer none] ty)) G'' (k + 25) R z := by
 obtain ⟨G1, e1, b1, k1⟩ := Aal h.e.hi 10 #[.pointer none, .pointer none] ty W.heap.size rfl
 exact ⟨G1, ⟨h.e.trans (e1.mono fun t _ ht => .inl ht), fun n hn => by cases hn; exact b1⟩, fun X z hx => hx.ext e1 (fun t h1 h2 => by show ¬ t = 10; omega), fun R z hr => hr.ext e1 (fun t h1 h2 => by show ¬ t = 10; omega)⟩
theorem OpS.below (h : OpS W2 G k on W G') (hb : Below W.heap.size W W') (hk : 10 < k) : OpS W2 G k on W' G' := h.ext (S := fun _ => False) (Ext.of_below h.e.hi hb) (fun _ h => h.elim) hk
theorem OpS.prog (bt hs : Int) (b0 : 0 ≤ bt) (b1 : bt < 18446744073709551616) (h0 : -9223372036854775808 ≤ hs) (h1 : hs ≤ 9223372036854775807) (hk : 10 < k) (h : OpS W2 G k on W G') :
 Calls Tryz.prog 20 #[.int .u64 bt, .int .i64 hs] W fun e w5 => ∃ X G5, e = .returned (.pointer (some ⟨X, 0, none⟩)) ∧ OpS W2 G k on w5 G5 ∧ Acq w5 G5 k X (Ads bt hs) ∧ ∀ R z, Acg W G' (k + 25) R z → Acg w5 G5 (k + 25) R z := by
 refine (Ame (w := W) (O := G') (k := k) bt hs b0 b1 h0 h1 (by omega) h.e.hi).mono ?_
 rintro e w5 ⟨X, rfl, G5, e5, f5⟩
 exact ⟨X, G5, rfl, h.ext e5 (fun t ht => by have : t = k ∨ t = k + 1 ∨ t = k + 2 := ht; omega) hk, f5, fun R z hr => hr.ext e5 (fun t h1 h2 => by show ¬ (t = k ∨ t = k + 1 ∨ t = k + 2); omega)⟩
theorem OpS.doc (bt hs : Int) (b0 : 0 ≤ bt) (b1 : bt < 18446744073709551616) (h0 : -9223372036854775808 ≤ hs) (h1 : hs ≤ 9223372036854775807) (hk : 10 < k) (h : OpS W2 G k on W G') :
 Calls Tryz.prog 37 #[.int .u64 bt, .int .i64 hs] W fun e w5 => ∃ R G5, e = .returned (.pointer (some ⟨R, 0, none⟩)) ∧ OpS W2 G k on w5 G5 ∧ Acg w5 G5 (k + 25) R (Ads bt hs) ∧ ∀ X z, Acq W G' k X z → Acq w5 G5 k X z := by
 refine (Ax4 (w := W) (O := G') (k := k + 25) bt hs b0 b1 h0 h1 (by omega) h.e.hi).mono ?_
 rintro e w5 ⟨R, rfl, G5, e5, f5⟩
 exact ⟨R, G5, rfl, h.ext e5 (fun t ht => by have : t = k + 25 := ht; omega) hk, f5, fun X z hx => hx.ext e5 (fun t h1 h2 => by show ¬ t = k + 25; omega)⟩
def Ayr (W2 : World) (G : Om) (k : Nat) (z : Mvm) (vp : Value) (wx : World) : Prop :=
 ∃ (n8 X R : Nat) (G6 : Om), vp = .pointer (some ⟨n8, 0, none⟩) ∧ wx.cell? ⟨n8, 0, none⟩ = some (.pointer (some ⟨X, 0, none⟩)) ∧ wx.cell? ⟨n8, 1, none⟩ = some (.pointer (some ⟨R, 0, none⟩)) ∧ n8 < wx.heap.size ∧ Ext (fun t => t = 10 ∨ (k ≤ t ∧ t < k + 43)) G W2 G6 wx ∧ Af7 wx G6 k ⟨X, R, z⟩
theorem OpS.old {n8 X R : Nat} {z : Mvm} (h : OpS W2 G k (some n8) W G') (hx : Acq W G' k X z) (hr : Acg W G' (k + 25) R z) (hz : Afl z) (hk : 10 < k) :
 Ayr W2 G k z (.pointer (some ⟨n8, 0, none⟩)) ((W.setCell ⟨n8, 0, none⟩ (.pointer (some ⟨X, 0, none⟩))).setCell ⟨n8, 1, none⟩ (.pointer (some ⟨R, 0, none⟩))) := by
 have o := h.ob n8 rfl
 have e1 := Aaf (j := 0) (v := .pointer (some ⟨X, 0, none⟩)) h.e.hi o (by decide)
 have o1 := o.set 0 (.pointer (some ⟨X, 0, none⟩)) (by decide)
 have e2 := Aaf (j := 1) (v := .pointer (some ⟨R, 0, none⟩)) e1.hi o1 (by decide)
 have o2 := o1.set 1 (.pointer (some ⟨R, 0, none⟩)) (by simp)
 have e := e1.trans e2
 exact ⟨n8, X, R, G', rfl, o2.c 0 _ rfl, o2.c 1 _ rfl, o2.lt, h.e.trans (e.mono fun t _ ht => .inl ht), ⟨hx.ext e (fun t h1 h2 => by show ¬ t = 10; omega), hr.ext e (fun t h1 h2 => by show ¬ t = 10; omega), hz⟩⟩
theorem OpS.new {X R : Nat} {z : Mvm} (ty : TypeId) (h : OpS W2 G k none W G') (hx : Acq W G' k X z) (hr : Acg W G' (k + 25) R z) (hz : Afl z) (hk : 10 < k) :
 Ayr W2 G k z (.pointer (some ⟨W.heap.size, 0, none⟩)) (W.alloc (.cells #[.pointer (some ⟨X, 0, none⟩), .pointer (some ⟨R, 0, none⟩)] ty)) := by
 obtain ⟨G1, e1, b1, k1⟩ := Aal h.e.hi 10 #[.pointer (some ⟨X, 0, none⟩), .pointer (some ⟨R, 0, none⟩)] ty W.heap.size rfl
 exact ⟨W.heap.size, X, R, G1, rfl, b1.c 0 _ rfl, b1.c 1 _ rfl, b1.lt, h.e.trans (e1.mono fun t _ ht => .inl ht), ⟨hx.ext e1 (fun t h1 h2 => by show ¬ t = 10; omega), hr.ext e1 (fun t h1 h2 => by show ¬ t = 10; omega), hz⟩⟩
end
end
section
open Go.RowKit Go.Shelf
section
variable {X : Nat} {w : World} {O : Om} {C : Wb} {f : Cf} {s : AW} {m k : Nat}
theorem Ass {z : Mvm} (hz : Afl z) (h : RW w O C f s m) (hM : Acg w O k X z) (hl : z.ln = 3) (hk : 10 ≤ k) (hm : m ≤ 900000) (hhi : Hh O w) (n0 : 0 ≤ s.n) (n1 : s.n ≤ 4611686018427387904) :
 C2 40 X C.p w (Adk (Aae f.y (s, z)) k X C f m w O) := by
 have hl0 : z.ln ≠ 0 := by omega
 have hp := hz.p hl0
 have HZ := hQd hz
 have HP := hQd hp
 obtain ⟨y, hy⟩ := exq (Aae f.y (s, z))
 have hy2 := hy.trans (Ahe f.y s z hl)
 rw [← hy]
 obtain ⟨d, rv, mv, ov, uv, hx, hd, hr, hmk, ho, hu⟩ := hM.open hl0
 rw [hl] at hx
 obtain ⟨R, rfl, hR⟩ := hr hl
 have hrr := hz.r hl
 have hrk := hrr.1.step (s := s) f.y h.bd
 have HST := hQd (Auz (k := k + 1) hrr.1 h hR hrr.2 (by omega) hm hhi n0 n1)
 unfold Adc at HST
 obtain ⟨s1, r1, hsr⟩ : ∃ s1 r1, Aao f.y (s, z.rm) = (s1, r1) := ⟨_, _, rfl⟩
 rw [hsr] at HST hrk
 dsimp only at HST hrk
 have x0 := hx.c 0 _ rfl
 have x8 := hx.c 8 _ rfl
 have HX := hQd hx
 have HY := hQd (aN hy2 (aN hsr hrk))
 clear hz hp h hM hl hl0 hy hy2 hx hd hr hmk ho hu hhi hrr hrk hsr hR
 go_enter Tryz.func40, Tryz.ntmps40
 go_wp2_with fail
 refine HST.out.mono ?_
 rintro e w1 ⟨rfl, G1, e1, P1, q1⟩
 have X1 := HX.out.ext e1 (by unfold SD SR; omega)
 have H1 := hQd (aN (e1.mono (T := SD k (k + 17)) fun t _ h => SD.mono (by omega) (by omega) h) (aN P1 (aN X1 q1)))
 have y8 := X1.c 8 _ rfl
 have c0 := q1.c0
 have HG := hQd (Axx q1)
 clear e1 P1 X1 q1 HST HX x0 x8
 by_cases hr0 : r1.ln = 0
 · rw [hr0] at c0
   have HR0 := hQd hr0
   clear hr0
   by_cases his : r1.is = true
   · have hdk := HY.out.2.2.p (.inr his)
     rw [his] at HG
     simp only [if_true] at HG
     have HI := hQd his
     have HDK := hQd hdk
     obtain ⟨db, hdb⟩ := exq r1.p.b
     obtain ⟨dq, hdq⟩ := exq r1.p.q
     obtain ⟨ds, hds⟩ := exq r1.p.s
     rw [← hdb, ← hdq, ← hds] at HG
     have HDD := hQd (aN hdb (aN hdq hds))
     clear his hdk hdb hdq hds
     go_wp2_with fail
     refine HG.out.mono ?_
     rintro e w2 ⟨rfl, hb2⟩
     have H2 := hQd (aN (H1.out.1.below hb2) (aN (H1.out.2.1.below H1.out.1.hi hb2) (H1.out.2.2.1.below hb2)))
     have hb3 := bal w2 (.cells #[.int .i64 db, .int .i64 dq, .int .i64 ds] 56)
     obtain ⟨-, t3⟩ := Aat (S := fun _ => False) H2.out.1.hi #[.int .i64 db, .int .i64 dq, .int .i64 ds] 56 w2.heap.size rfl
     have H3 := hQd (aN (H2.out.1.below hb3) (aN (H2.out.2.1.below H2.out.1.hi hb3) (aN (H2.out.2.2.below hb3) t3)))
     clear hb2 hb3 t3 y8 c0 HG H1
     go_upto_region 14 with fail
     obtain ⟨w3, hw3⟩ := exq (w2.alloc (.cells #[.int .i64 db, .int .i64 dq, .int .i64 ds] 56))
     rw [← hw3] at H3 ⊢
     obtain ⟨T, hT⟩ := exq w2.heap.size
     rw [← hT] at H3 ⊢
     clear hw3 hT H2
     have t0 := H3.out.2.2.2.c 0 _ rfl
     have t1 := H3.out.2.2.2.c 1 _ rfl
     have t2 := H3.out.2.2.2.c 2 _ rfl
     have y9 := H3.out.2.2.1.c 9 _ rfl
     have y10 := H3.out.2.2.1.c 10 _ rfl
     have y11 := H3.out.2.2.1.c 11 _ rfl
     have k9 := H3.out.2.2.1.f 9
     have k10 := H3.out.2.2.1.f 10
     have k11 := H3.out.2.2.1.f 11
     have hXT : ¬ T = X := H3.out.2.2.2.ne H3.out.2.2.1 (by omega)
     have hXT2 : ¬ X = T := fun e => hXT e.symm
     obtain ⟨e4, X4⟩ := Aap H3.out.2.2.1 hk H3.out.1.hi 9 (.int .i64 db) (by simp [Acd])
     obtain ⟨e5, X5⟩ := Aap X4 hk e4.hi 10 (.int .i64 dq) (by simp [Acd])
     obtain ⟨e6, X6⟩ := Aap X5 hk e5.hi 11 (.int .i64 ds) (by simp [Acd])
     have E := (e4.trans e5).trans e6
     have E' : Ext (SD k (k + 17)) O w G1 _ := H3.out.1.trans (E.mono (T := SD k (k + 17)) fun t _ h => .inr (by omega))
     have P6 := H3.out.2.1.ext E
     obtain ⟨w6, hw6⟩ := exq (((w3.setCell ⟨X, 9, none⟩ (.int .i64 db)).setCell ⟨X, 10, none⟩ (.int .i64 dq)).setCell ⟨X, 11, none⟩ (.int .i64 ds))
     rw [← hw6] at E' P6 X6
     have H6 := hQd (aN E' (aN P6 X6))
     clear e4 X4 e5 X5 e6 E E' P6
     have X7 : Ob w6 G1 k X (Acd 3 z.lost z.now z.p z.tag z.ref (.pointer (some ⟨R, 0, none⟩)) r1.p mv ov uv) := by
      have := X6
      rw [HDD.out.1, HDD.out.2.1, HDD.out.2.2] at this
      exact this
     have HB := hQd (Ax3 X7 HP.out HDK.out hk H6.out.1.hi)
     clear X6 X7
     go_wp2_with fail
     rw [← hw6]
     clear hw6 t0 t1 t2 y9 y10 y11 k9 k10 k11 hXT hXT2 H3
     refine HB.out.mono ?_
     rintro e w7 ⟨rfl, G7, e7, mm, x7, r7⟩
     have P7 := H6.out.2.1.ext e7
     have H7 := hQd (aN (H6.out.1.trans (e7.mono (T := SD k (k + 17)) fun t _ h => .inr h)) (aN P7 (aN x7 r7)))
     clear e7 P7 x7 r7 HB H6
     go_wp2_with fail
     go_end0
     have hyy : y = (s1, ⟨4, z.lost, z.now, z.p, z.tag, z.ref, r1, r1.p, mk2 z.p r1.p, ⟨0, 0⟩, Abd z.tag z.ref⟩) := by rw [HY.out.1, HY.out.2.1]; simp [HR0.out, HI.out]
     rw [hyy]
     exact ⟨rfl, G7, H7.out.1, H7.out.2.1, Acg.raw H7.out.2.2.1 (fun _ => rfl) (nnn) (fun _ => ⟨mm, rfl, H7.out.2.2.2⟩) (nnn) (nnn)⟩
   · have his : r1.is = false := by simpa using his
     rw [his] at HG
     simp only [Bool.false_eq_true, if_false] at HG
     have HI := hQd his
     clear his
     go_wp2_with fail
     refine HG.out.mono ?_
     rintro e w2 ⟨rfl, hb2⟩
     have H2 := hQd (aN (H1.out.1.below hb2) (aN (H1.out.2.1.below H1.out.1.hi hb2) (H1.out.2.2.1.below hb2)))
     have hb3 := bal w2 (.cells #[.int .i64 0, .int .i64 0, .int .i64 0] 56)
     obtain ⟨-, t3⟩ := Aat (S := fun _ => False) H2.out.1.hi #[.int .i64 0, .int .i64 0, .int .i64 0] 56 w2.heap.size rfl
     have H3 := hQd (aN (H2.out.1.below hb3) (aN (H2.out.2.1.below H2.out.1.hi hb3) (aN (H2.out.2.2.below hb3) t3)))
     clear hb2 hb3 t3 y8 c0 HG H1
     go_upto_region 14 with fail
     obtain ⟨w3, hw3⟩ := exq (w2.alloc (.cells #[.int .i64 0, .int .i64 0, .int .i64 0] 56))
     rw [← hw3] at H3 ⊢
     obtain ⟨T, hT⟩ := exq w2.heap.size
     rw [← hT] at H3 ⊢
     clear hw3 hT H2
     have t0 := H3.out.2.2.2.c 0 _ rfl
     have t1 := H3.out.2.2.2.c 1 _ rfl
     have t2 := H3.out.2.2.2.c 2 _ rfl
     have y9 := H3.out.2.2.1.c 9 _ rfl
     have y10 := H3.out.2.2.1.c 10 _ rfl
     have y11 := H3.out.2.2.1.c 11 _ rfl
     have k9 := H3.out.2.2.1.f 9
     have k10 := H3.out.2.2.1.f 10
     have k11 := H3.out.2.2.1.f 11
     have hXT : ¬ T = X := H3.out.2.2.2.ne H3.out.2.2.1 (by omega)
     have hXT2 : ¬ X = T := fun e => hXT e.symm
     obtain ⟨e4, X4⟩ := Aap H3.out.2.2.1 hk H3.out.1.hi 9 (.int .i64 0) (by simp [Acd])
     obtain ⟨e5, X5⟩ := Aap X4 hk e4.hi 10 (.int .i64 0) (by simp [Acd])
     obtain ⟨e6, X6⟩ := Aap X5 hk e5.hi 11 (.int .i64 0) (by simp [Acd])
     have E := (e4.trans e5).trans e6
     have E' : Ext (SD k (k + 17)) O w G1 _ := H3.out.1.trans (E.mono (T := SD k (k + 17)) fun t _ h => .inr (by omega))
     have P6 := H3.out.2.1.ext E
     obtain ⟨w6, hw6⟩ := exq (((w3.setCell ⟨X, 9, none⟩ (.int .i64 0)).setCell ⟨X, 10, none⟩ (.int .i64 0)).setCell ⟨X, 11, none⟩ (.int .i64 0))
     rw [← hw6] at E' P6 X6
     have H6 := hQd (aN E' (aN P6 X6))
     clear e4 X4 e5 X5 e6 E E' P6
     have X7 : Ob w6 G1 k X (Acd 3 z.lost z.now z.p z.tag z.ref (.pointer (some ⟨R, 0, none⟩)) Apm mv ov uv) := X6
     have HB := hQd (Axz X7 HP.out hk H6.out.1.hi)
     clear X6 X7
     go_wp2_with fail
     rw [← hw6]
     clear hw6 t0 t1 t2 y9 y10 y11 k9 k10 k11 hXT hXT2 H3
     refine HB.out.mono ?_
     rintro e w7 ⟨rfl, G7, e7, mm, x7, r7⟩
     have P7 := H6.out.2.1.ext e7
     have H7 := hQd (aN (H6.out.1.trans (e7.mono (T := SD k (k + 17)) fun t _ h => .inr h)) (aN P7 (aN x7 r7)))
     clear e7 P7 x7 r7 HB H6
     go_wp2_with fail
     go_end0
     have hyy : y = (s1, ⟨8, z.lost, z.now, z.p, z.tag, z.ref, r1, Apm, [z.p.ver], ⟨0, 0⟩, z.u⟩) := by rw [HY.out.1, HY.out.2.1]; simp [HR0.out, HI.out]
     rw [hyy]
     exact ⟨rfl, G7, H7.out.1, H7.out.2.1, Acg.raw H7.out.2.2.1 (fun _ => rfl) (nnn) (fun _ => ⟨mm, rfl, H7.out.2.2.2⟩) (nnn) (nnn)⟩
 · have d1 : (r1.ln != 0) = true := by simp [hr0]
   have HR0 := hQd hr0
   clear hr0
   go_wp2_with fail
   refine bodyPost_ret (v := .tuple #[]) (results_none (by rfl) _ _ _) rfl ?_
   have hyy : y = (s1, ⟨3, z.lost, z.now, z.p, z.tag, z.ref, r1, z.d, z.m, z.o, z.u⟩) := by rw [HY.out.1, HY.out.2.1]; simp [HR0.out]
   rw [hyy]
   exact ⟨rfl, G1, H1.out.1, H1.out.2.1, Acg.raw H1.out.2.2.1 (nnn) (fun _ => ⟨R, rfl, H1.out.2.2.2⟩) (nnn) (nnn) (nnn)⟩
theorem Asu {z : Mvm} (hz : Afl z) (h : RW w O C f s m) (hM : Acg w O k X z) (hl : z.ln = 1) (hk : 10 ≤ k) (hm : m ≤ 900000) (hhi : Hh O w) (n0 : 0 ≤ s.n) (n1 : s.n ≤ 4611686018427387904) :
 C2 40 X C.p w (Adk (Aae f.y (s, z)) k X C f m w O) := by
 have hl0 : z.ln ≠ 0 := by omega
 have hp := hz.p hl0
 have HZ := hQd hz
 have HP := hQd hp
 obtain ⟨y, hy⟩ := exq (Aae f.y (s, z))
 have hy2 := hy.trans (Akb f.y s z hl)
 rw [← hy]
 obtain ⟨d, rv, mv, ov, uv, hx, hd, hr, hmk, ho, hu⟩ := hM.open hl0
 rw [hl] at hx
 have hta2 : Aah z.p.b z.p.q = z.p.tags := rfl
 have HT := hQd (fun W => Ac3 z.p.b z.p.q W (by have := hp.b0; omega) (by have := hp.b1; omega) (by have := hp.q0; omega) (by have := hp.q2; omega))
 rw [hta2] at HT
 have hbt := h.bd z.p.tags
 have HTG := hQd (fun W => Adj (s.M z.p.tags) z.p.s W hbt.1 hbt.2 (by have := hp.s0; omega) (by have := hp.s1; omega))
 have htg := hp.tags
 have hta : 0 ≤ z.p.tags ∧ z.p.tags < 18446744073709551616 := by omega
 obtain ⟨ta, hta3⟩ := exq z.p.tags
 rw [← hta3] at HT HTG hta hy2
 obtain ⟨tg, htg2⟩ := exq (Aav (s.M ta) z.p.s)
 rw [← htg2] at HTG hy2
 have HTA := hQd hta
 have HM : Hid (Md k (k + 17) w O w O C f s m k X (Acd 1 z.lost z.now z.p z.tag z.ref rv d mv ov uv)) := hQd (Md.start hhi h hx)
 have x0 := hx.c 0 _ rfl
 have x3 := hx.c 3 _ rfl
 have x4 := hx.c 4 _ rfl
 have x5 := hx.c 5 _ rfl
 have HY := hQd hy2
 clear hz hp h hM hl hl0 hy hy2 hx hd hr hmk ho hu hhi hta2 hbt htg hta hta3 htg2
 go_enter Tryz.func40, Tryz.ntmps40
 go_upto_region 2 with fail
 go_region_held3 (fun w' => w'.cell? ⟨X, 3, none⟩ = some (.int .i64 z.p.b) ∧ w'.cell? ⟨X, 4, none⟩ = some (.int .i64 z.p.q) ∧ w'.cell? ⟨X, 5, none⟩ = some (.int .i64 z.p.s)) (go_keep)
  ((first
    | (go_at_call 83
       refine (HT.out _).mono ?_
       rintro e w1 ⟨rfl, hb1⟩
       have M1 := hQd (HM.out.drew.below hb1)
       have t01 := M1.out.t.c 3 _ rfl
       have t11 := M1.out.t.c 4 _ rfl
       have t21 := M1.out.t.c 5 _ rfl
       clear hb1)
    | (go_at_call 82
       refine (Adh ta M1.out.p (by omega) HTA.out.1 HTA.out.2 M1.out.e.hi n0 n1).mono ?_
       rintro e w2 ⟨rfl, G2, e2, P2⟩
       have M2 := hQd (M1.out.world hk e2 P2)
       have t02 := M2.out.t.c 3 _ rfl
       have t12 := M2.out.t.c 4 _ rfl
       have t22 := M2.out.t.c 5 _ rfl
       have x26 := M2.out.t.c 6 _ rfl
       have f26 := M2.out.t.f 6
       have M3 := hQd (M2.out.set hk (Nat.le_refl _) (by omega) 6 (.int .i64 tg) (by simp [Acd]))
       have t03 := M3.out.t.c 3 _ rfl
       have t13 := M3.out.t.c 4 _ rfl
       have t23 := M3.out.t.c 5 _ rfl
       clear e2 P2)
    | (go_at_call 81
       refine (HTG.out _).mono ?_
       rintro e w' ⟨rfl, rfl⟩)))
 all_goals
  clear x0 x3 x4 x5 t01 t11 t21 t02 t12 t22 t03 t13 t23 x26 f26 M1 HM HT HTG
  have y0 := M3.out.t.c 0 _ rfl
  have g0 := M3.out.t.f 0
  have M4 := hQd (M3.out.set hk (Nat.le_refl _) (by omega) 0 (.int .i64 2) (by simp [Acd]))
  obtain ⟨w3, hw3⟩ := exq (w2.setCell ⟨X, 6, none⟩ (.int .i64 tg))
  rw [← hw3] at y0 g0 M4
  obtain ⟨w4, hw4⟩ := exq (w3.setCell ⟨X, 0, none⟩ (.int .i64 2))
  rw [← hw4] at M4
  clear M3 M2
  go_upto_region 3 with fail
  rw [← hw3]
  clear hw3
  go_upto_region 4 with fail
  rw [← hw4]
  clear hw4 y0 g0
  have y6 := M4.out.t.c 6 _ rfl
  by_cases ht0 : tg = 0
  · have d1 : (tg == 0) = true := by simp [ht0]
    have HT0 := hQd ht0
    have HB := hQd (Akq (p := z.p) (ln := 2) M4.out.t HP.out.s0 HP.out.s1 hk M4.out.e.hi)
    clear ht0
    go_wp2_with fail
    refine HB.out.mono ?_
    rintro e w5 ⟨rfl, G5, e5, x5⟩
    have P5 := M4.out.p.ext e5
    have H5 := hQd (aN (M4.out.e.trans (e5.mono (T := SD k (k + 17)) fun t _ h => .inr h)) (aN P5 x5))
    clear e5 P5 x5 HB M4 y6
    go_wp2_with fail
    go_end0
    have hyy : y = (Aas ta s, Abs ⟨1, z.lost, z.now, z.p, 0, z.ref, z.rm, z.d, z.m, z.o, z.u⟩) := by rw [HY.out]; simp [HT0.out]
    rw [hyy]
    refine ⟨rfl, G5, H5.out.1, H5.out.2.1, Aia (z := ⟨1, z.lost, z.now, z.p, 0, z.ref, z.rm, z.d, z.m, z.o, z.u⟩) (d := d) (rv := rv) (mv := mv) (ov := ov) (uv := uv) ?_⟩
    have := H5.out.2.2
    rw [HT0.out] at this
    exact this
  · have d1 : (tg == 0) = false := by simp [ht0]
    have HT0 := hQd ht0
    clear ht0
    go_wp2_with fail
    go_end0
    have hyy : y = (Aas ta s, ⟨2, z.lost, z.now, z.p, tg, z.ref, z.rm, z.d, z.m, z.o, z.u⟩) := by rw [HY.out]; simp [HT0.out]
    rw [hyy]
    exact ⟨rfl, G2, M4.out.e, M4.out.p, Acg.raw (d := d) (rv := rv) (mv := mv) (ov := ov) (uv := uv) M4.out.t (nnn) (nnn) (nnn) (nnn) (nnn)⟩
theorem Ast {z : Mvm} (hz : Afl z) (h : RW w O C f s m) (hM : Acg w O k X z) (hl : z.ln = 2) (hil : s.it.length ≤ 1000000) (hks : (Aen s.it (wrap64 (s.M z.p.item))).key.size ≤ maxLen) (hk : 10 ≤ k) (hm : m ≤ 900000) (hhi : Hh O w) (n0 : 0 ≤ s.n) (n1 : s.n ≤ 4611686018427387904) :
 C2 40 X C.p w (Adk (Aae f.y (s, z)) k X C f m w O) := by
 have hl0 : z.ln ≠ 0 := by omega
 have hp := hz.p hl0
 have HZ := hQd hz
 have HP := hQd hp
 obtain ⟨y, hy⟩ := exq (Aae f.y (s, z))
 have hy2 := hy.trans (Aka f.y s z hl)
 rw [← hy]
 obtain ⟨d, rv, mv, ov, uv, hx, hd, hr, hmk, ho, hu⟩ := hM.open hl0
 rw [hl] at hx
 have hn := hz.now hl0
 have hia2 : Ab4 z.p.b z.p.q z.p.s = z.p.item := rfl
 have HI := hQd (fun W => Ada z.p.b z.p.q z.p.s W (by have := hp.b0; omega) (by have := hp.b1; omega) (by have := hp.q0; omega) (by have := hp.q2; omega) (by have := hp.s0; omega) (by have := hp.s1; omega))
 rw [hia2] at HI
 have hbt := h.bd z.p.item
 have hit := hp.item
 have hia : 0 ≤ z.p.item ∧ z.p.item < 18446744073709551616 := by omega
 obtain ⟨ia, hia3⟩ := exq z.p.item
 rw [← hia3] at HI hia hbt hks hy2
 obtain ⟨rf, hrf⟩ := exq (wrap64 (s.M ia))
 have hrf2 : IntKind.i64.wrap (s.M ia) = rf := by rw [hrf]; unfold wrap64; simp [IntKind.wrap, IntKind.bits, IntKind.signed]; omega
 rw [← hrf] at hks hy2
 have hyk : y = (Aas ia s, ⟨3, z.lost, z.now, z.p, z.tag, rf, Ae9 z.now (Ab6 (Aen s.it rf).key.data.toList), z.d, z.m, z.o, z.u⟩) := by rw [hy2, Aof]
 have HH := hQd (fun W => Asb (Aen s.it rf).key W hks)
 have hhb := Ae5 (Aen s.it rf).key.data.toList
 have HIT := hQd (fun (W : World) (G : Om) (M1 : Md k (k + 17) w O W G C f (Aas ia s) (m + 1) k X (Acd 2 z.lost z.now z.p z.tag rf rv d mv ov uv)) => Ap4 rf M1.p M1.e.hi hil)
 have HIT2 : Hid (∀ (W : World) (G : Om), Md k (k + 17) w O W G C f (Aas ia s) (m + 1) k X (Acd 2 z.lost z.now z.p z.tag rf rv d mv ov uv) → Calls Tryz.prog 88 #[.pointer (some ⟨C.p, 0, none⟩), .int .i64 rf] W fun e w' => ∃ (x1 : ByteArray) (x2 x3 x4 x5 : Int), e = .returned (.agg #[.string (Aen s.it rf).key, .string x1, .int .u32 x2, .int .u64 x3, .int .i64 x4, .int .i64 x5]) ∧ Below W.heap.size W w') := HIT
 obtain ⟨ky, hky⟩ := exq ((Aen s.it rf).key)
 rw [← hky] at HH hhb HIT2 hyk
 obtain ⟨hv, hhv⟩ := exq (Ab6 ky.data.toList)
 rw [← hhv] at HH hhb hyk
 have HNR := hQd (aN hn hhb)
 have HIA := hQd hia
 have HY := hQd hyk
 have HM : Hid (Md k (k + 17) w O w O C f s m k X (Acd 2 z.lost z.now z.p z.tag z.ref rv d mv ov uv)) := hQd (Md.start hhi h hx)
 have x0 := hx.c 0 _ rfl
 have x3 := hx.c 3 _ rfl
 have x4 := hx.c 4 _ rfl
 have x5 := hx.c 5 _ rfl
 clear hz hp h hM hl hl0 hy hy2 hx hd hr hmk ho hu hhi hia2 hbt hit hia hia3 hrf hks hyk hn hhb HIT hky hhv hil
 go_enter Tryz.func40, Tryz.ntmps40
 go_wp2_with fail
 refine (HI.out _).mono ?_
 rintro e w1 ⟨rfl, hb1⟩
 have M1 := hQd (HM.out.below hb1)
 clear hb1 x0 x3 x4 x5 HM HI
 go_wp2_with fail
 refine (Adh ia M1.out.p (by omega) HIA.out.1 HIA.out.2 M1.out.e.hi n0 n1).mono ?_
 rintro e w2 ⟨rfl, G2, e2, P2⟩
 have M2 := hQd (M1.out.world hk e2 P2)
 have x7 := M2.out.t.c 7 _ rfl
 have f7 := M2.out.t.f 7
 have M3 := hQd (M2.out.set hk (Nat.le_refl _) (by omega) 7 (.int .i64 rf) (by simp [Acd]))
 obtain ⟨w3, hw3⟩ := exq (w2.setCell ⟨X, 7, none⟩ (.int .i64 rf))
 rw [← hw3] at M3
 clear e2 P2 M1 M2
 go_upto_region 8 with fail
 rw [← hw3]
 clear hw3 x7 f7 hrf2
 have y2 := M3.out.t.c 2 _ rfl
 have y7 := M3.out.t.c 7 _ rfl
 go_region_held3 (fun w' => w'.cell? ⟨X, 2, none⟩ = some (.int .i64 z.now) ∧ w'.cell? ⟨X, 7, none⟩ = some (.int .i64 rf)) (go_keep)
  ((first
    | (go_at_call 88
       refine (HIT2.out _ _ M3.out.drew).mono ?_
       rintro e w4 ⟨k1, k2, k3, k4, k5, rfl, hb4⟩
       have M4 := hQd (M3.out.drew.below hb4)
       have q2 := M4.out.t.c 2 _ rfl
       have q7 := M4.out.t.c 7 _ rfl
       clear hb4)
    | (go_at_call 87
       refine (HH.out _).mono ?_
       rintro e w' ⟨rfl, rfl⟩)
    | (go_at_call 86
       refine (Axw (k := k + 1) z.now hv HNR.out.1.1 HNR.out.1.2 HNR.out.2.1 HNR.out.2.2 (by omega) M4.out.e.hi).mono ?_
       rintro e w5 ⟨R, rfl, G5, e5, r5⟩
       have M5 := hQd (M4.out.oth hk e5 (by omega))
       have R5 := hQd r5
       have v2 := M5.out.t.c 2 _ rfl
       have v7 := M5.out.t.c 7 _ rfl
       have v8 := M5.out.t.c 8 _ rfl
       have h8 := M5.out.t.f 8
       have M6 := hQd (M5.out.set hk (Nat.le_refl _) (by omega) 8 (.pointer (some ⟨R, 0, none⟩)) (by simp [Acd]))
       have z2 := M6.out.t.c 2 _ rfl
       have z7 := M6.out.t.c 7 _ rfl
       clear e5 r5)))
 all_goals
  clear y2 y7 q2 q7 v2 v7 v8 h8 z2 z7 M3 M4
  have R6 := hQd (R5.out.ext (Aaf (j := 8) (v := .pointer (some ⟨R, 0, none⟩)) M5.out.e.hi M5.out.t hk) (fun t q1 q2 => by omega))
  obtain ⟨w6, hw6⟩ := exq (w5.setCell ⟨X, 8, none⟩ (.pointer (some ⟨R, 0, none⟩)))
  clear M5 R5
  go_upto_region 9 with fail
  rw [← hw6] at M6 R6 ⊢
  clear hw6
  have y0 := M6.out.t.c 0 _ rfl
  have g0 := M6.out.t.f 0
  go_wp2_with fail
  go_end0
  obtain ⟨e7, x7⟩ := Aap M6.out.t hk M6.out.e.hi 0 (.int .i64 3) (by simp [Acd])
  rw [HY.out]
  exact ⟨rfl, G5, M6.out.e.trans (e7.mono fun t _ h => .inr (by omega)), M6.out.p.ext e7, Acg.raw (d := d) (mv := mv) (ov := ov) (uv := uv) x7 (nnn) (fun _ => ⟨R, rfl, R6.out.ext e7 (fun t q1 q2 => by omega)⟩) (nnn) (nnn) (nnn)⟩
theorem Au2 {z : Mvm} (hz : Afl z) (h : RW w O C f s m) (hM : Acg w O k X z) (hl : z.ln ≠ 0) (hlo0 : 0 ≤ z.lost) (hlo1 : z.lost ≤ 1000000) (hil : s.it.length ≤ 1000000) (hks : ∀ r, (Aen s.it r).key.size ≤ maxLen) (hk : 10 ≤ k) (hm : m ≤ 900000) (hhi : Hh O w) (n0 : 0 ≤ s.n) (n1 : s.n ≤ 4611686018427387904) :
 C2 40 X C.p w (Adk (Aae f.y (s, z)) k X C f m w O) := by
 have h0 := hz.l0
 have h11 := hz.l11
 have hc : z.ln = 1 ∨ z.ln = 2 ∨ z.ln = 3 ∨ z.ln = 4 ∨ z.ln = 5 ∨ z.ln = 6 ∨ z.ln = 7 ∨ z.ln = 8 ∨ z.ln = 9 ∨ z.ln = 10 ∨ z.ln = 11 := by omega
 rcases hc with e | e | e | e | e | e | e | e | e | e | e
 · exact Asu hz h hM e hk hm hhi n0 n1
 · exact Ast hz h hM e hil (hks _) hk hm hhi n0 n1
 · exact Ass hz h hM e hk hm hhi n0 n1
 · exact Asr hz h hM e hk hm hhi n0 n1
 · exact Asq hz h hM e hk hm hhi n0 n1
 · exact Asp hz h hM e hk hm hhi n0 n1
 · exact Aso hz h hM e hk hm hhi n0 n1
 · exact Asn hz h hM e hk hm hhi n0 n1
 · exact Asm hz h hM e hk hm hhi n0 n1
 · exact Ap7 hz h hM e hk hm hhi n0 n1
 · exact Ap6 hlo0 hlo1 hz h hM e hk hm hhi n0 n1
end
end
section
open Go.RowKit Go.Shelf
theorem Aul (u : Nat) (ref b q sl : Int) (w : World) : (method 501 396 (.agg #[.pointer (some ⟨u, 0, none⟩), .int .i64 ref, .int .i64 b, .int .i64 q, .int .i64 sl]) "Over").run Tryz.prog w = .ok (291, .pointer (some ⟨u, 0, none⟩)) w := by kernel_rfl
theorem Auk (u : Nat) (ref b q sl : Int) (w : World) : (method 501 396 (.agg #[.pointer (some ⟨u, 0, none⟩), .int .i64 ref, .int .i64 b, .int .i64 q, .int .i64 sl]) "Step").run Tryz.prog w = .ok (298, .agg #[.pointer (some ⟨u, 0, none⟩), .int .i64 ref, .int .i64 b, .int .i64 q, .int .i64 sl]) w := by kernel_rfl
def Ar1 (ref : Int) (p : Spt) (o : Otm) (s : AW) : AW := if o.ln = 1 then Acm 1 ref p.b p.q p.s 0 s else s
section
variable {X : Nat} {w : World} {O : Om} {B : Wb} {f : Cf} {s : AW} {k : Nat}
theorem Aa2.drop {u g : Nat} {p : Spt} {ref : Int} {o : Otm} (h : Abt w O g u p o) (hp : p.ok) (ho : o.ln ≤ 3) (hg : g ≠ k) : Aa2 w O k (Amj u ref p) (o.ln == 3) := by
 refine ⟨_, _, _, _, rfl, Aul u ref p.b p.q p.s, Aam Tryz.func291 (by kernel_rfl) (by kernel_rfl), fun W hW => ?_⟩
 have h2 := h.ext hW hg
 have ht := hp.tags
 exact Ac0 p.tags o.ln (h2.ob.c 0 _ rfl) (h2.ob.c 4 _ rfl) (by omega) ho
theorem Aqk {u : Nat} (ref : Int) {p : Spt} (o : Otm) (hP : PW w O B f s) (hU : Abt w O k u p o) (hp : p.ok) (ho : o.ln < 3) (w0 : 0 ≤ o.w) (w1 : o.w < 18446744073709551616) (hk : 10 ≤ k) (hhi : Hh O w) (n0 : 0 ≤ s.n) (n1 : s.n ≤ 4611686018427387904) :
 Calls Tryz.prog 298 #[.agg #[.pointer (some ⟨u, 0, none⟩), .int .i64 ref, .int .i64 p.b, .int .i64 p.q, .int .i64 p.s], .pointer (some ⟨B.p, 0, none⟩)] w (RP (SX k k) w O (.bool (o.ln == 2)) fun W G => PW W G B f (Ar1 ref p o (Aaj p s o).1) ∧ Abt W G k u p (Aaj p s o).2) := by
 have ht := hp.tags
 obtain ⟨pb, hpb⟩ := exq p.b
 obtain ⟨pq, hpq⟩ := exq p.q
 obtain ⟨ps, hps⟩ := exq p.s
 have hln := Ab1 p s o ho
 have hc : o.ln = 0 ∨ o.ln = 1 ∨ o.ln = 2 := by omega
 have hb := bal w (.cells #[.pointer (some ⟨u, 0, none⟩), .int .i64 ref, .int .i64 pb, .int .i64 pq, .int .i64 ps] 396)
 obtain ⟨eA, tA⟩ := Aat (S := SX k k) hhi #[.pointer (some ⟨u, 0, none⟩), .int .i64 ref, .int .i64 pb, .int .i64 pq, .int .i64 ps] 396 w.heap.size rfl
 have hHS := Aim o (hP.below hhi hb) (hU.below hb) hp ho w0 w1 hk eA.hi n0 n1
 have hx := hU.below hb
 have x0 := hx.ob.c 0 _ rfl
 have x4 := hx.ob.c 4 _ rfl
 have hG0 := Af4 p.tags o.ln x0 x4 (by omega)
 have hD : ∀ s1, Ar1 ref p o s1 = if o.ln = 1 then Acm 1 ref pb pq ps 0 s1 else s1 := by intro s1; unfold Ar1; rw [hpb, hpq, hps]
 obtain ⟨y, hy⟩ := exq (Aaj p s o)
 rw [← hy] at hHS hln ⊢
 obtain ⟨s1, o1⟩ := y
 dsimp only at hHS hln ⊢
 have HT := hQd (show p.tags ≠ 0 by omega)
 rw [hD, ← hpb, ← hpq, ← hps]
 have HK := hQd (show 5 ≤ k by omega)
 have EA := hQd eA
 have TA := hQd tA
 clear hP hU hp ho w0 w1 hhi n0 n1 x0 x4 hy hpb hpq hps hD ht hb hx eA tA hk
 rcases hc with q | q | q
 · rw [q] at hG0 hHS hln
   rw [if_neg (by omega)]
   have hG0 : C1 290 u (w.alloc (.cells #[.pointer (some ⟨u, 0, none⟩), .int .i64 ref, .int .i64 pb, .int .i64 pq, .int .i64 ps] 396)) fun e w' => e = .returned (.bool false) ∧ (w.alloc (.cells #[.pointer (some ⟨u, 0, none⟩), .int .i64 ref, .int .i64 pb, .int .i64 pq, .int .i64 ps] 396)) = w' := hG0
   have hHS : C2 292 u B.p (w.alloc (.cells #[.pointer (some ⟨u, 0, none⟩), .int .i64 ref, .int .i64 pb, .int .i64 pq, .int .i64 ps] 396)) (RP (SX k k) (w.alloc (.cells #[.pointer (some ⟨u, 0, none⟩), .int .i64 ref, .int .i64 pb, .int .i64 pq, .int .i64 ps] 396)) O (.bool false) fun W G => PW W G B f s1 ∧ Abt W G k u p o1) := hHS
   rw [show (o.ln == 2) = false by rw [q]; rfl]
   have HS := hQd hHS
   have HG0 := hQd hG0
   have HL := hQd hln
   clear hHS hG0 hln q
   go_enter Tryz.func298, Tryz.ntmps298
   go_wp2_with fail
   refine HG0.out.mono ?_
   rintro e w' ⟨rfl, rfl⟩
   go_wp2_with fail
   refine HS.out.mono ?_
   rintro e w1 ⟨rfl, G1, e1, P1, r1⟩
   have hG1 := Af4 p.tags o1.ln (r1.ob.c 0 _ rfl) (r1.ob.c 4 _ rfl) HT.out
   rw [HL.out] at hG1
   have hG1 : C1 290 u w1 fun e w' => e = .returned (.bool false) ∧ w1 = w' := hG1
   have HG1 := hQd hG1
   have TT := TA.out.ext e1 (by have := HK.out; unfold SX; omega)
   have H1 := hQd (aN (EA.out.trans e1) (aN P1 r1))
   have t0 := TT.c 0 _ rfl
   have t1 := TT.c 1 _ rfl
   have t2 := TT.c 2 _ rfl
   have t3 := TT.c 3 _ rfl
   have t4 := TT.c 4 _ rfl
   clear e1 P1 r1 hG1 HG0 HS TT
   go_wp2_with fail
   refine HG1.out.mono ?_
   rintro e w' ⟨rfl, rfl⟩
   go_wp2_with fail
   go_ret
   exact ⟨rfl, G1, H1.out.1, H1.out.2.1, H1.out.2.2⟩
 · rw [q] at hG0 hHS hln
   rw [if_pos q]
   have hG0 : C1 290 u (w.alloc (.cells #[.pointer (some ⟨u, 0, none⟩), .int .i64 ref, .int .i64 pb, .int .i64 pq, .int .i64 ps] 396)) fun e w' => e = .returned (.bool false) ∧ (w.alloc (.cells #[.pointer (some ⟨u, 0, none⟩), .int .i64 ref, .int .i64 pb, .int .i64 pq, .int .i64 ps] 396)) = w' := hG0
   have hHS : C2 292 u B.p (w.alloc (.cells #[.pointer (some ⟨u, 0, none⟩), .int .i64 ref, .int .i64 pb, .int .i64 pq, .int .i64 ps] 396)) (RP (SX k k) (w.alloc (.cells #[.pointer (some ⟨u, 0, none⟩), .int .i64 ref, .int .i64 pb, .int .i64 pq, .int .i64 ps] 396)) O (.bool false) fun W G => PW W G B f s1 ∧ Abt W G k u p o1) := hHS
   rw [show (o.ln == 2) = false by rw [q]; rfl]
   have HS := hQd hHS
   have HG0 := hQd hG0
   have HL := hQd hln
   clear hHS hG0 hln q
   go_enter Tryz.func298, Tryz.ntmps298
   go_wp2_with fail
   refine HG0.out.mono ?_
   rintro e w' ⟨rfl, rfl⟩
   go_wp2_with fail
   refine HS.out.mono ?_
   rintro e w1 ⟨rfl, G1, e1, P1, r1⟩
   have hG1 := Af4 p.tags o1.ln (r1.ob.c 0 _ rfl) (r1.ob.c 4 _ rfl) HT.out
   rw [HL.out] at hG1
   have hG1 : C1 290 u w1 fun e w' => e = .returned (.bool true) ∧ w1 = w' := hG1
   have HG1 := hQd hG1
   have TT := TA.out.ext e1 (by have := HK.out; unfold SX; omega)
   have H1 := hQd (aN (EA.out.trans e1) (aN P1 r1))
   have HNO := hQd (Anh 1 ref pb pq ps 0 P1 e1.hi (by decide) (by decide))
   have t0 := TT.c 0 _ rfl
   have t1 := TT.c 1 _ rfl
   have t2 := TT.c 2 _ rfl
   have t3 := TT.c 3 _ rfl
   have t4 := TT.c 4 _ rfl
   clear e1 P1 r1 hG1 HG0 HS TT
   go_wp2_with fail
   refine HG1.out.mono ?_
   rintro e w' ⟨rfl, rfl⟩
   go_wp2_with fail
   refine HNO.out.mono ?_
   rintro e w2 ⟨rfl, G2, e2, P2⟩
   have H2 := hQd (aN (H1.out.1.trans (e2.mono (T := SX k k) fun t _ h => .inl h)) (aN P2 (H1.out.2.2.ext e2 (by have := HK.out; unfold SW; omega))))
   clear e2 P2
   go_wp2_with fail
   go_ret
   exact ⟨rfl, G2, H2.out.1, H2.out.2.1, H2.out.2.2⟩
 · rw [q] at hG0 hHS hln
   rw [if_neg (by omega)]
   have hG0 : C1 290 u (w.alloc (.cells #[.pointer (some ⟨u, 0, none⟩), .int .i64 ref, .int .i64 pb, .int .i64 pq, .int .i64 ps] 396)) fun e w' => e = .returned (.bool true) ∧ (w.alloc (.cells #[.pointer (some ⟨u, 0, none⟩), .int .i64 ref, .int .i64 pb, .int .i64 pq, .int .i64 ps] 396)) = w' := hG0
   have hHS : C2 292 u B.p (w.alloc (.cells #[.pointer (some ⟨u, 0, none⟩), .int .i64 ref, .int .i64 pb, .int .i64 pq, .int .i64 ps] 396)) (RP (SX k k) (w.alloc (.cells #[.pointer (some ⟨u, 0, none⟩), .int .i64 ref, .int .i64 pb, .int .i64 pq, .int .i64 ps] 396)) O (.bool true) fun W G => PW W G B f s1 ∧ Abt W G k u p o1) := hHS
   rw [show (o.ln == 2) = true by rw [q]; rfl]
   have HS := hQd hHS
   have HG0 := hQd hG0
   have HL := hQd hln
   clear hHS hG0 hln q
   go_enter Tryz.func298, Tryz.ntmps298
   go_wp2_with fail
   refine HG0.out.mono ?_
   rintro e w' ⟨rfl, rfl⟩
   go_wp2_with fail
   refine HS.out.mono ?_
   rintro e w1 ⟨rfl, G1, e1, P1, r1⟩
   have hG1 := Af4 p.tags o1.ln (r1.ob.c 0 _ rfl) (r1.ob.c 4 _ rfl) HT.out
   rw [HL.out] at hG1
   have hG1 : C1 290 u w1 fun e w' => e = .returned (.bool true) ∧ w1 = w' := hG1
   have HG1 := hQd hG1
   have TT := TA.out.ext e1 (by have := HK.out; unfold SX; omega)
   have H1 := hQd (aN (EA.out.trans e1) (aN P1 r1))
   have t0 := TT.c 0 _ rfl
   have t1 := TT.c 1 _ rfl
   have t2 := TT.c 2 _ rfl
   have t3 := TT.c 3 _ rfl
   have t4 := TT.c 4 _ rfl
   clear e1 P1 r1 hG1 HG0 HS TT
   go_wp2_with fail
   refine HG1.out.mono ?_
   rintro e w' ⟨rfl, rfl⟩
   go_wp2_with fail
   go_ret
   exact ⟨rfl, G1, H1.out.1, H1.out.2.1, H1.out.2.2⟩
theorem Avg {now tag ref lost : Int} {p : Spt} {lv : Value} {d : Nat} {ds : List Value} (hP : PW w O B f s) (hx : Ob w O k X (Ac1 now p lv tag ref lost)) (hS : Sls w O (k + 1) 1 lv 1 [Afm d]) (hd : Ob w O (k + 2) d ds) (hl0 : 0 ≤ lost) (hl1 : lost ≤ 1000000) (hk : 10 ≤ k) (hhi : Hh O w) (n0 : 0 ≤ s.n) (n1 : s.n ≤ 4611686018427387904) :
 C2 282 X B.p w fun e w' => e = .returned (.tuple #[]) ∧ ∃ G, Ext (SX k k) O w G w' ∧ PW w' G B f (Acm 2 ref p.b p.q p.s 0 (Aby 6 18446744073709551615 s)) ∧ Ob w' G k X (Ac1 now p lv tag ref (lost + 1)) ∧ Sls w' G (k + 1) 1 lv 1 [Afm d] ∧ Ob w' G (k + 2) d ds := by
 have HX := hQd (aN hx (aN hS hd))
 have HA := hQd (Av9 6 18446744073709551615 hP hhi (by decide) (by decide) (by decide) (by decide) n0 n1)
 have p0 := hP.wo.c0
 have HK := hQd hk
 clear hP hx hS hd hhi n0 n1 hk
 go_enter Tryz.func282, Tryz.ntmps282
 go_wp2_with fail
 refine HA.out.mono ?_
 rintro e w1 ⟨rfl, G1, e1, P1⟩
 have hk := HK.out
 have hx1 := HX.out.1.ext e1 (by unfold SW; omega)
 have H1 := hQd (aN e1 (aN P1 (aN hx1 (aN (HX.out.2.1.ext e1 (by unfold SW; omega)) (HX.out.2.2.ext e1 (by unfold SW; omega))))))
 have x1 := hx1.c 1 _ rfl
 have x2 := hx1.c 2 _ rfl
 have x3 := hx1.c 3 _ rfl
 have x6 := hx1.c 6 _ rfl
 have x7 := hx1.c 7 _ rfl
 clear e1 P1 hx1 p0 HA hk HX
 go_upto_region 30 with fail
 go_region_held3 (fun w' => w'.cell? ⟨X, 1, none⟩ = some (.int .i64 p.b) ∧ w'.cell? ⟨X, 2, none⟩ = some (.int .i64 p.q) ∧ w'.cell? ⟨X, 3, none⟩ = some (.int .i64 p.s) ∧ w'.cell? ⟨X, 6, none⟩ = some (.int .i64 ref)) (go_keep)
  ((go_at_call 185
    refine (Anh 2 ref p.b p.q p.s 0 (w := w1.drew) (H1.out.2.1.below H1.out.1.hi (Aaa w1)) (H1.out.1.below (Aaa w1)).hi (by decide) (by decide)).mono ?_
    rintro e w2 ⟨rfl, G2, e2, P2⟩
    have hk := HK.out
    have X2 := (H1.out.2.2.1.below (Aaa w1)).ext e2 (by unfold SW; omega)
    have H2 := hQd (aN ((H1.out.1.below (Aaa w1)).trans e2) (aN P2 (aN X2 (aN ((H1.out.2.2.2.1.below (Aaa w1)).ext e2 (by unfold SW; omega)) ((H1.out.2.2.2.2.below (Aaa w1)).ext e2 (by unfold SW; omega))))))
    have z1 := X2.c 1 _ rfl
    have z2 := X2.c 2 _ rfl
    have z3 := X2.c 3 _ rfl
    have z6 := X2.c 6 _ rfl
    clear e2 P2 X2 hk))
 all_goals
  have y7 := H2.out.2.2.1.c 7 _ rfl
  have f7 := H2.out.2.2.1.f 7
  clear x1 x2 x3 x6 x7 z1 z2 z3 z6 H1
  go_wp2_with fail
  go_end0
  have hk := HK.out
  have e3 := Aaf (j := 7) (v := .int .i64 (lost + 1)) H2.out.1.hi H2.out.2.2.1 hk
  exact ⟨rfl, G2, (H2.out.1.mono (T := SX k k) fun t _ h => .inl h).trans (e3.mono fun t _ h => .inr (by omega)), H2.out.2.1.ext e3, H2.out.2.2.1.set 7 (.int .i64 (lost + 1)) (by simp [Ac1]), H2.out.2.2.2.1.ext e3, H2.out.2.2.2.2.ext e3⟩
end
end
section
open Go.RowKit Go.Shelf
section
variable {X : Nat} {w : World} {O : Om} {B : Wb} {f : Cf} {s : AW} {k : Nat}
theorem Azh {z : Mvm} {s1 : AW} {W : World} {G : Om} {lv : Value} {m1 u m2 d : Nat} (h8 : 8 ≤ z.ln) (e : Ext (SX k (k + 24)) O w G W) (hP : PW W G B f s1) (x : Ob W G k X (Ac1 z.now z.p lv z.tag z.ref z.lost)) (l : Sls W G (k + 1) 1 lv (12 - z.ln).toNat ([Aa9 m1, Amj u z.ref z.p, Aa9 m2, Afm d].drop (z.ln - 8).toNat))
 (a1 : z.ln = 8 → Ac4 W G (k + 19) m1 [z.p.ver]) (a2 : z.ln ≤ 9 → Abt W G (k + 21) u z.p z.o) (a3 : z.ln ≤ 10 → Ac4 W G (k + 23) m2 [z.p.ver]) (a4 : Ob W G (k + 2) d [Atp X, .bool false]) : Abb w O B f k X (s1, z) W :=
 ⟨G, e, hP, z.p, lv, x, fun _ => rfl, ⟨fun g => by (dsimp only at g; omega), fun g => by (dsimp only at g; omega), fun g => by (dsimp only at g; omega), fun g => by (dsimp only at g; omega), fun g => by (dsimp only at g; omega), fun _ => ⟨m1, u, m2, d, l, a1, a2, a3, a4⟩⟩⟩
theorem Bbq {z : Mvm} (mo : Int) (hz : Afl z) (hP : PW w O B f s) (hM : Acq w O k X z) (hl : z.ln = 8) (hk : 10 ≤ k) (hhi : Hh O w) (n0 : 0 ≤ s.n) (n1 : s.n ≤ 4611686018427387904) :
 C2 41 X B.p w (RP (SX k (k + 24)) w O (.bool (Abc (Aae mo (s, z)).2)) fun W G => PW W G B f (Aae mo (s, z)).1 ∧ Acq W G k X (Aae mo (s, z)).2) := by
 rw [Aj5 mo s z hl]
 have hp := hz.p (by omega)
 have hv := hp.ver
 have ho := hz.o0 (.inr hl)
 obtain ⟨p, lv, hx, hpp, hparts⟩ := hM.ex
 obtain rfl := hpp (by omega)
 clear hz hM hpp
 obtain ⟨ln, lost, now, p, tag, ref, rm, dd, m, o, u⟩ := z
 dsimp only at *
 subst hl
 subst ho
 obtain ⟨m1, u', m2, d, hS, b1, b2, b3, b4⟩ := hparts.2.2.2.2.2 (by (dsimp only; omega))
 dsimp only at hS b1 b2 b3 b4
 have b1 := b1 rfl
 have b2 := b2 (by decide)
 have b3 := b3 (by decide)
 obtain ⟨A, off, c, rfl, hc1, hc2⟩ := hS.open (by decide)
 have a0 := hS.c 0 _ rfl
 rw [Nat.add_zero] at a0
 have HA := Ae7 p.ver [] (k + 19) hP b1 (by simp) (by omega) hhi (by omega) (by omega) n0 n1
 have HA2 := HA.mono (fun e w' h => (⟨_, h.1, h.2⟩ : ∃ v, e = .returned v ∧ _))
 refine (Abl (n := 3) (Q2 := Abb w O B f k X (Aby p.ver 1 s, ⟨9, lost, now, p, tag, ref, rm, dd, [], ⟨0, 0⟩, u⟩)) (hx.c 4 _ rfl) a0 (Ae3 _) (Aam Tryz.func289 (by kernel_rfl) (by kernel_rfl)) HA2 ?_ (fun w2 h2 => h2.left (by dsimp only; omega) (by dsimp only; omega))).mono fun e w' h => Abb.step h
 rintro w1 ⟨G1, e1, P1, k1⟩
 have E1 : Ext (SX k (k + 24)) O w G1 w1 := e1.mono fun t _ h => SX.mono (by omega) (by omega) h
 have x1 := hx.ext e1 (SX.not (by omega) (by omega))
 have s1 := hS.ext e1 (SX.not (by omega) (by omega))
 have c2 := b2.ext e1 (SX.not (by omega) (by omega))
 have c3 := b3.ext e1 (SX.not (by omega) (by omega)) (SX.not (by omega) (by omega))
 have c4 := b4.ext e1 (SX.not (by omega) (by omega))
 have hm := Aa2.mark (k := k) k1 ⟨by omega, by omega⟩
 have hou := Aa2.drop (k := k) (ref := ref) c2 hp (by dsimp only; omega) (by omega)
 refine (Aiz (l := [Aa9 m2, Afm d]) x1 s1 hm hou hk E1.hi).mono ?_
 rintro e w2 ⟨rfl, G2, e2, rfl, lv2, x2, s2⟩
 exact ⟨rfl, Azh (m1 := m1) (u := u') (by dsimp only; omega) (E1.trans (e2.mono fun t _ h => .inr (by omega))) (P1.ext e2) x2 s2 (fun h => absurd h (by dsimp only; omega)) (fun _ => c2.ext e2) (fun _ => c3.ext e2) (c4.ext e2)⟩
theorem Bbp {z : Mvm} (mo : Int) (hz : Afl z) (hP : PW w O B f s) (hM : Acq w O k X z) (hl : z.ln = 9) (hk : 10 ≤ k) (hhi : Hh O w) (n0 : 0 ≤ s.n) (n1 : s.n ≤ 4611686018427387904) :
 C2 41 X B.p w (RP (SX k (k + 24)) w O (.bool (Abc (Aae mo (s, z)).2)) fun W G => PW W G B f (Aae mo (s, z)).1 ∧ Acq W G k X (Aae mo (s, z)).2) := by
 rw [Aj4 mo s z hl]
 have hp := hz.p (by omega)
 obtain ⟨ho, w0, w1⟩ := hz.o (.inr hl)
 obtain ⟨p, lv, hx, hpp, hparts⟩ := hM.ex
 obtain rfl := hpp (by omega)
 clear hz hM hpp
 obtain ⟨ln, lost, now, p, tag, ref, rm, dd, m, o, u⟩ := z
 dsimp only at *
 subst hl
 obtain ⟨m1, u', m2, d, hS, -, b2, b3, b4⟩ := hparts.2.2.2.2.2 (by (dsimp only; omega))
 dsimp only at hS b2 b3 b4
 have b2 := b2 (by decide)
 have b3 := b3 (by decide)
 obtain ⟨A, off, c, rfl, hc1, hc2⟩ := hS.open (by decide)
 have a0 := hS.c 0 _ rfl
 rw [Nat.add_zero] at a0
 have HA := Aqk ref o hP b2 hp ho w0 w1 (show 10 ≤ k + 21 by omega) hhi n0 n1
 have HA2 := HA.mono (fun e w' h => (⟨_, h.1, h.2⟩ : ∃ v, e = .returned v ∧ _))
 have hln := Ab1 p s o ho
 have hdN : (if o.ln = 1 then Acm 1 ref p.b p.q p.s 0 (Aaj p s o).1 else (Aaj p s o).1) = Ar1 ref p o (Aaj p s o).1 := rfl
 rw [hdN]
 obtain ⟨y, hy⟩ := exq (Aaj p s o)
 rw [← hy] at HA2 hln ⊢
 obtain ⟨s0, o1⟩ := y
 dsimp only at HA2 hln ⊢
 obtain ⟨s1, hs1⟩ := exq (Ar1 ref p o s0)
 rw [← hs1] at HA2 ⊢
 obtain ⟨z2, hz2⟩ := exq (⟨if o.ln = 2 then 10 else 9, lost, now, p, tag, ref, rm, dd, if o.ln = 2 then [p.ver] else [], o1, u⟩ : Mvm)
 rw [← hz2]
 have hzl : 9 ≤ z2.ln ∧ z2.ln ≤ 10 := by
  rw [hz2]; dsimp only; split <;> omega
 refine (Abl (n := 2) (Q2 := Abb w O B f k X (s1, z2)) (hx.c 4 _ rfl) a0 (Auk u' ref p.b p.q p.s) (Aam Tryz.func298 (by kernel_rfl) (by kernel_rfl)) HA2 ?_ (fun w2 h2 => h2.left (by dsimp only; omega) (by dsimp only; omega))).mono fun e w' h => Abb.step h
 rintro w1 ⟨G1, e1, P1, k1⟩
 have E1 : Ext (SX k (k + 24)) O w G1 w1 := e1.mono fun t _ h => SX.mono (by omega) (by omega) h
 have x1 := hx.ext e1 (SX.not (by omega) (by omega))
 have l1 := hS.ext e1 (SX.not (by omega) (by omega))
 have c3 := b3.ext e1 (SX.not (by omega) (by omega)) (SX.not (by omega) (by omega))
 have c4 := b4.ext e1 (SX.not (by omega) (by omega))
 have hou := Aa2.drop (k := k) (ref := ref) k1 hp (by omega) (by omega)
 have hm2 := Aa2.mark (k := k) c3 ⟨by omega, by omega⟩
 by_cases h1 : o.ln = 2
 · have b1 : (o1.ln == 3) = true := by rw [hln, h1]; rfl
   rw [b1] at hou
   rw [if_pos h1, if_pos h1] at hz2
   subst hz2
   refine (Aiz (l := [Afm d]) x1 l1 hou hm2 hk E1.hi).mono ?_
   rintro e w2 ⟨rfl, G2, e2, rfl, lv2, x2, s2⟩
   exact ⟨rfl, Azh (m1 := m1) (u := u') (by dsimp only; omega) (E1.trans (e2.mono fun t _ h => .inr (by omega))) (P1.ext e2) x2 s2 (fun h => absurd h (by dsimp only; omega)) (fun h => absurd h (by dsimp only; omega)) (fun _ => c3.ext e2) (c4.ext e2)⟩
 · have b1 : (o1.ln == 3) = false := by rw [hln]; simp; omega
   rw [b1] at hou
   rw [if_neg h1, if_neg h1] at hz2
   subst hz2
   refine (Ap5 (l := [Aa9 m2, Afm d]) x1 l1 hou hk E1.hi).mono ?_
   rintro e w2 ⟨rfl, hb⟩
   exact ⟨rfl, Azh (m1 := m1) (u := u') (by dsimp only; omega) (E1.below hb) (P1.below E1.hi hb) (x1.below hb) (l1.below hb) (fun h => absurd h (by dsimp only; omega)) (fun _ => k1.below hb) (fun _ => c3.below hb) (c4.below hb)⟩
theorem Ban {z : Mvm} (mo : Int) (hz : Afl z) (hP : PW w O B f s) (hM : Acq w O k X z) (hl : z.ln = 10) (hk : 10 ≤ k) (hhi : Hh O w) (n0 : 0 ≤ s.n) (n1 : s.n ≤ 4611686018427387904) :
 C2 41 X B.p w (RP (SX k (k + 24)) w O (.bool (Abc (Aae mo (s, z)).2)) fun W G => PW W G B f (Aae mo (s, z)).1 ∧ Acq W G k X (Aae mo (s, z)).2) := by
 rw [Ah1 mo s z hl]
 have hp := hz.p (by omega)
 have hv := hp.ver
 obtain ⟨p, lv, hx, hpp, hparts⟩ := hM.ex
 obtain rfl := hpp (by omega)
 clear hz hM hpp
 obtain ⟨ln, lost, now, p, tag, ref, rm, dd, m, o, u⟩ := z
 dsimp only at *
 subst hl
 obtain ⟨m1, u', m2, d, hS, -, -, b3, b4⟩ := hparts.2.2.2.2.2 (by (dsimp only; omega))
 dsimp only at hS b3 b4
 have b3 := b3 (by decide)
 obtain ⟨A, off, c, rfl, hc1, hc2⟩ := hS.open (by decide)
 have a0 := hS.c 0 _ rfl
 rw [Nat.add_zero] at a0
 have HA := Ae7 p.ver [] (k + 23) hP b3 (by simp) (by omega) hhi (by omega) (by omega) n0 n1
 have HA2 := HA.mono (fun e w' h => (⟨_, h.1, h.2⟩ : ∃ v, e = .returned v ∧ _))
 refine (Abl (n := 1) (Q2 := Abb w O B f k X (Aby p.ver 1 s, ⟨11, lost, now, p, tag, ref, rm, dd, [], o, u⟩)) (hx.c 4 _ rfl) a0 (Ae3 _) (Aam Tryz.func289 (by kernel_rfl) (by kernel_rfl)) HA2 ?_ (fun w2 h2 => h2.left (by dsimp only; omega) (by dsimp only; omega))).mono fun e w' h => Abb.step h
 rintro w1 ⟨G1, e1, P1, k1⟩
 have E1 : Ext (SX k (k + 24)) O w G1 w1 := e1.mono fun t _ h => SX.mono (by omega) (by omega) h
 have x1 := hx.ext e1 (SX.not (by omega) (by omega))
 have s1 := hS.ext e1 (SX.not (by omega) (by omega))
 have c4 := b4.ext e1 (SX.not (by omega) (by omega))
 have hm := Aa2.mark (k := k) k1 ⟨by omega, by omega⟩
 have ha := Aa2.act (k := k) c4 (by omega)
 refine (Aiz (l := []) x1 s1 hm ha hk E1.hi).mono ?_
 rintro e w2 ⟨rfl, G2, e2, rfl, lv2, x2, s2⟩
 exact ⟨rfl, Azh (m1 := m1) (u := u') (m2 := m2) (by dsimp only; omega) (E1.trans (e2.mono fun t _ h => .inr (by omega))) (P1.ext e2) x2 s2 (fun h => absurd h (by dsimp only; omega)) (fun h => absurd h (by dsimp only; omega)) (fun h => absurd h (by dsimp only; omega)) (c4.ext e2)⟩
theorem Bam {z : Mvm} (mo : Int) (hz : Afl z) (hlo : 0 ≤ z.lost ∧ z.lost ≤ 1000000) (hP : PW w O B f s) (hM : Acq w O k X z) (hl : z.ln = 11) (hk : 10 ≤ k) (hhi : Hh O w) (n0 : 0 ≤ s.n) (n1 : s.n ≤ 4611686018427387904) :
 C2 41 X B.p w (RP (SX k (k + 24)) w O (.bool (Abc (Aae mo (s, z)).2)) fun W G => PW W G B f (Aae mo (s, z)).1 ∧ Acq W G k X (Aae mo (s, z)).2) := by
 rw [Ah0 mo s z hl]
 have hp := hz.p (by omega)
 obtain ⟨p, lv, hx, hpp, hparts⟩ := hM.ex
 obtain rfl := hpp (by omega)
 clear hz hM hpp
 obtain ⟨m1, u', m2, d, hS, -, -, -, hd⟩ := hparts.2.2.2.2.2 (by omega)
 have hS : Sls w O (k + 1) 1 lv 1 [Afm d] := by rw [hl] at hS; exact hS
 obtain ⟨A, o, c, rfl, hc1, hc2⟩ := hS.open (by decide)
 have a0 := hS.c 0 _ rfl
 rw [Nat.add_zero] at a0
 have e0 := Aaf (j := 1) (v := .bool true) hhi hd (show 10 ≤ k + 2 by omega)
 have hd1 := hd.set 1 (.bool true) (by simp)
 have HT := Avg (hP.ext e0) (hx.ext e0) (hS.ext e0) hd1 hlo.1 hlo.2 hk e0.hi n0 n1
 have HA := Aiq hd (Aam Tryz.func282 (by kernel_rfl) (by kernel_rfl)) HT
 have HA2 := HA.mono (fun e w' h => (⟨.bool true, h.1, h.2⟩ : ∃ v, e = .returned v ∧ _))
 refine (Abl (n := 0) (Q2 := Abb w O B f k X (Acm 2 z.ref z.p.b z.p.q z.p.s 0 (Aby 6 18446744073709551615 s), Abs ⟨11, z.lost + 1, z.now, z.p, z.tag, z.ref, z.rm, z.d, z.m, z.o, z.u⟩)) (hx.c 4 _ rfl) a0 (Afy _) (Aam Tryz.func273 (by kernel_rfl) (by kernel_rfl)) HA2 ?_ (fun w2 h2 => h2.left (by rcases Ac8 ⟨11, z.lost + 1, z.now, z.p, z.tag, z.ref, z.rm, z.d, z.m, z.o, z.u⟩ with h | h <;> (dsimp only; omega)) (by rcases Ac8 ⟨11, z.lost + 1, z.now, z.p, z.tag, z.ref, z.rm, z.d, z.m, z.o, z.u⟩ with h | h <;> (dsimp only; omega)))).mono fun e w' h => Abb.step h
 rintro w1 ⟨G1, e1, P1, x1, l1, q1⟩
 exact Akp (z := ⟨11, z.lost + 1, z.now, z.p, z.tag, z.ref, z.rm, z.d, z.m, z.o, z.u⟩) ((e0.mono (T := SX k (k + 24)) fun t _ h => .inr (by omega)).trans (e1.mono fun t _ h => SX.mono (by omega) (by omega) h)) P1 x1 l1 (Aa2.act q1 (by omega)) hp hk
theorem Aqa {d R : Nat} {z1 : Rmm} {s1 : AW} (hd : Ob w O (k + 3) d [.pointer (some ⟨X, 0, none⟩), .pointer (some ⟨R, 0, none⟩)])
 (HR : C2 277 R B.p w (RP (SX (k + 4) (k + 18)) w O (.bool false) fun W G => PW W G B f s1 ∧ Aaz W G (k + 4) R z1)) :
 C2 279 d B.p w (RP (SX (k + 4) (k + 18)) w O (.bool false) fun W G => PW W G B f s1 ∧ Aaz W G (k + 4) R z1) := by
 have HRR := hQd HR
 have d0 := hd.c 0 _ rfl
 have d1 := hd.c 1 _ rfl
 clear hd HR
 go_enter Tryz.func279, Tryz.ntmps279
 go_wp2_with fail
 refine HRR.out.mono ?_
 rintro e w1 ⟨rfl, G1, e1, P1, r1'⟩
 have H1 := hQd (aN e1 (aN P1 r1'))
 clear e1 P1 r1' d0 d1 HRR
 go_wp2_with fail
 go_ret
 exact ⟨rfl, G1, H1.out⟩
theorem Baj {z : Mvm} {s1 : AW} {rm1 : Rmm} (mo : Int) (hM : Acq w O k X z) (hl : z.ln = 3) (hs : Aao mo (s, z.rm) = (s1, rm1)) (h0 : rm1.ln ≠ 0)
 (HR : ∀ R, Aaz w O (k + 4) R z.rm → C2 277 R B.p w (RP (SX (k + 4) (k + 18)) w O (.bool false) fun W G => PW W G B f s1 ∧ Aaz W G (k + 4) R rm1))
 (hk : 10 ≤ k) (hhi : Hh O w) :
 C2 41 X B.p w (RP (SX k (k + 24)) w O (.bool (Abc (Aae mo (s, z)).2)) fun W G => PW W G B f (Aae mo (s, z)).1 ∧ Acq W G k X (Aae mo (s, z)).2) := by
 rw [Ahe mo s z hl, hs]
 dsimp only
 rw [if_neg h0]
 obtain ⟨p, lv, hx, hpp, hparts⟩ := hM.ex
 obtain rfl := hpp (by omega)
 obtain ⟨d, R, hS, hd, hr⟩ := hparts.2.2.2.1 hl
 obtain ⟨A, o, c, rfl, hc1, hc2⟩ := hS.open (by decide)
 have a0 := hS.c 0 _ rfl
 rw [Nat.add_zero] at a0
 have HA := Aqa hd (HR R hr)
 have HA2 := HA.mono (fun e w' h => (⟨.bool false, h.1, h.2⟩ : ∃ v, e = .returned v ∧ _))
 refine (Abl (n := 0) (Q2 := Abb w O B f k X (s1, ⟨3, z.lost, z.now, z.p, z.tag, z.ref, rm1, z.d, z.m, z.o, z.u⟩)) (hx.c 4 _ rfl) a0 (Akd _) (Aam Tryz.func279 (by kernel_rfl) (by kernel_rfl)) HA2 ?_ (fun w2 h2 => h2.left (by dsimp only; omega) (by dsimp only; omega))).mono fun e w' h => Abb.step h
 rintro w1 ⟨G1, e1, P1, r1'⟩
 have E1 : Ext (SX k (k + 24)) O w G1 w1 := e1.mono fun t _ h => SX.mono (by omega) (by omega) h
 have x1 := hx.ext e1 (SX.not (by omega) (by omega))
 have l1 := hS.ext e1 (SX.not (by omega) (by omega))
 have d1 := hd.ext e1 (SX.not (by omega) (by omega))
 have ho := Aa2.search (k := k) d1 r1' (by omega) (by omega)
 have h0b : (rm1.ln == 0) = false := by simp; omega
 rw [h0b] at ho
 refine (Ap5 (l := []) x1 l1 ho hk E1.hi).mono ?_
 rintro e w2 ⟨rfl, hb⟩
 exact ⟨rfl, G1, E1.below hb, P1.below E1.hi hb, z.p, _, x1.below hb, fun _ => rfl, ⟨nnn, nnn, nnn, fun _ => ⟨d, R, l1.below hb, d1.below hb, r1'.below hb⟩, nnn, nnn⟩⟩
end
end
section
open Go.RowKit Go.Shelf
section
variable {X : Nat} {w : World} {O : Om} {B : Wb} {f : Cf} {s : AW} {k : Nat}
theorem Arg {g : Nat} {cs : List Value} (hx : Ob w O g X cs) (hk : 10 ≤ g) (hhi : Hh O w) (j : Nat) (v : Value) (hj : j < cs.length) : Ext (fun t => t = g) O w O (w.setCell ⟨X, j, none⟩ v) ∧ Ob (w.setCell ⟨X, j, none⟩ v) O g X (cs.set j v) := ⟨Aaf hhi hx hk, hx.set j v hj⟩
theorem Bbw {z : Hom} (hz : Ahb z) (hP : PW w O B f s) (hM : Amk w O k X z) (hl : z.ln = 1) (hk : 10 ≤ k) (hhi : Hh O w) (n0 : 0 ≤ s.n) (n1 : s.n ≤ 4611686018427387904) :
 C2 234 X B.p w fun e w' => e = .returned (.bool ((Aaq (s, z)).2.ln == 0)) ∧ Adb w O B f k X (Aaq (s, z)) w' := by
 have hkk := hz.k (by omega)
 have hlen := hz.len
 have hsk := hz.sok (by omega)
 have htk := hz.tok (by omega)
 have ht0 := hz.t0
 rw [Akj s z hl]
 obtain ⟨wv, dv, ld, hx, hw, hl1, hl2, hd0, -⟩ := hM.ex
 replace hw := hw (by omega)
 obtain ⟨n9, hd1, rfl⟩ := hd0 (by omega)
 obtain ⟨dao, dc, rfl, -⟩ := hd1.shape
 rw [show max (z.k + 1) 0 = z.k + 1 from by omega] at hx
 obtain ⟨p, hpe⟩ := exq z.s
 rw [← hpe] at hsk ⊢
 obtain ⟨ln, kk, way, tag, ref, l1, o, u, l2⟩ := z
 dsimp only at hkk hlen ht0 hx hw hl1 hl2 hl ⊢
 subst hl
 obtain ⟨i, rfl⟩ : ∃ i : Nat, kk = i := ⟨kk.toNat, by omega⟩
 have hil : i < way.length := by omega
 have hpi : way[i]? = some p := by
  rw [hpe]
  show way[i]? = some (Agv way i)
  unfold Agv
  rw [if_neg (by omega), Int.toNat_natCast, List.getD, List.getElem?_eq_getElem hil]
  rfl
 obtain rfl := hl1 rfl
 have HT := hQd (fun W => Ag0 p.b p.q W (by have := hsk.b0; omega) (by have := hsk.b1; omega) (by have := hsk.q0; omega) (by have := hsk.q2; omega))
 have hta2 : Aah p.b p.q = p.tags := rfl
 rw [hta2] at HT
 have hbt := hP.bd p.tags
 have HTG := hQd (fun W => Akr (s.M p.tags) p.s W hbt.1 hbt.2 hsk.s0 hsk.s1)
 obtain ⟨A2, o2, c2, rfl, -⟩ := hw.open (by omega)
 obtain ⟨b1, b2, b3⟩ := Abq way i p hpi
 have u1 := hw.c _ _ b1
 have u2 := hw.c _ _ b2
 have u3 := hw.c _ _ b3
 rw [← Nat.add_assoc] at u2 u3
 have hXl : X < w.heap.size := hx.lt
 have hAl : A2 < w.heap.size := hw.lt.1
 have x0 := hx.c 0 _ rfl
 have x1 := hx.c 1 _ rfl
 have x4 := hx.c 4 _ rfl
 have x3 := hx.c 3 _ rfl
 have hj1 : (i : Int) < way.length := by omega
 have hwi : IntKind.i64.wrap (i : Int) = (i : Int) := by simp [IntKind.wrap, IntKind.bits, IntKind.signed]; omega
 have hi0 : (0 : Int) ≤ (i : Int) := by omega
 have hi1 : (i : Int) + 1 - 1 = (i : Int) := by omega
 have hne : ((i : Int) + 1 == 0) = false := by simp; omega
 have HV0 := hQd (Ae8 x1)
 rw [hne] at HV0
 have htg := hsk.tags
 have hit := hsk.item
 have hq2 := hsk.q2
 have hs0 := hsk.s0
 have hs1 := hsk.s1
 obtain ⟨pb, hpb⟩ := exq p.b
 obtain ⟨pq, hpq⟩ := exq p.q
 obtain ⟨ps, hps⟩ := exq p.s
 rw [← hpb] at u1
 rw [← hpq] at u2
 rw [← hps] at u3
 have hb1 := bal w (.cells #[.int .i64 pb, .int .i64 pq, .int .i64 ps] 56)
 have hb2 := Aaa (w.alloc (.cells #[.int .i64 pb, .int .i64 pq, .int .i64 ps] 56))
 have hb := hb1.trans (hb2.mono (by simp <;> omega))
 obtain ⟨-, t1⟩ := Aat (S := fun _ => False) hhi #[.int .i64 pb, .int .i64 pq, .int .i64 ps] 56 w.heap.size rfl
 have t2 := t1.below hb2
 have hti : Ob (w.alloc (.cells #[.int .i64 pb, .int .i64 pq, .int .i64 ps] 56)).drew O 0 w.heap.size (spl p) := by rw [hpb, hpq, hps] at t2 ⊢; exact t2
 have HM : Hid (Me k (k + 8) w O (w.alloc (.cells #[.int .i64 pb, .int .i64 pq, .int .i64 ps] 56)).drew O B f s k X (Afn (.slice (some ⟨A2, o2, none⟩) way.length c2) ((i : Int) + 1) tag false (.slice dao 0 dc))) := hQd ⟨Ext.of_below hhi hb, hP.below hhi hb, hx.below hb⟩
 have HS : Hid (Sls (w.alloc (.cells #[.int .i64 pb, .int .i64 pq, .int .i64 ps] 56)).drew O (k + 1) 3 (.slice (some ⟨A2, o2, none⟩) way.length c2) way.length (way.flatMap spl) ∧ Sls (w.alloc (.cells #[.int .i64 pb, .int .i64 pq, .int .i64 ps] 56)).drew O (k + 2) 1 (.slice dao 0 dc) 0 [] ∧ Ob (w.alloc (.cells #[.int .i64 pb, .int .i64 pq, .int .i64 ps] 56)).drew O 0 w.heap.size (spl p)) := hQd ⟨hw.below hb, hd1.below hb, hti⟩
 have hta : 0 ≤ p.tags ∧ p.tags < 18446744073709551616 := by omega
 obtain ⟨ta, hta3⟩ := exq p.tags
 rw [← hta3] at HT HTG hta ⊢
 obtain ⟨tg, htg2⟩ := exq (Aav (s.M ta) p.s)
 rw [← htg2] at HTG ⊢
 rw [← hpb, ← hpq] at HT
 rw [← hps] at HTG
 have HTA := hQd hta
 have HPP := hQd (aN hpb (aN hpq hps))
 obtain ⟨W, hW⟩ := exq ((w.alloc (.cells #[.int .i64 pb, .int .i64 pq, .int .i64 ps] 56)).drew)
 rw [← hW] at HM HS
 obtain ⟨T, hTe⟩ := exq w.heap.size
 clear hP hM hx hw hd0 hd1 hhi hsk htk ht0 hil hpi hpe b1 b2 b3 htg hit hq2 hs0 hs1 hb1 hb2 hb t1 t2 hti hta hta2 hta3 htg2 hbt hpb hpq hps hl1 hl2
 go_enter Tryz.func234, Tryz.ntmps234
 go_wp2_with fail
 refine HV0.out.mono ?_
 rintro e w' ⟨rfl, rfl⟩
 go_wp2_with fail
 go_region
 rw [← hW]
 rw [← hTe] at HS ⊢
 clear hW hTe x0 x1 x3 x4 u1 u2 u3 hXl hAl hj1 hwi hi0 hi1 hne HV0
 have y3 := HM.out.t.c 3 _ rfl
 have y4 := HM.out.t.c 4 _ rfl
 have t0 := HS.out.2.2.c 0 _ rfl
 have t1 := HS.out.2.2.c 1 _ rfl
 have t2 := HS.out.2.2.c 2 _ rfl
 have p0 := HM.out.p.wo.c0
 rw [← HPP.out.1] at t0
 rw [← HPP.out.2.1] at t1
 rw [← HPP.out.2.2] at t2
 have hXB : ¬ B.p = X := HM.out.p.ne_obj HM.out.t hk
 have hXB2 : ¬ X = B.p := fun e => hXB e.symm
 have hXT : ¬ T = X := HS.out.2.2.ne HM.out.t (by omega)
 have hXT2 : ¬ X = T := fun e => hXT e.symm
 go_upto_region 8 with fail
 go_region_held3 (fun w' => w'.cell? ⟨B.p, 0, none⟩ = some (.pointer (some ⟨B.c, 0, none⟩)) ∧ w'.cell? ⟨T, 0, none⟩ = some (.int .i64 pb) ∧ w'.cell? ⟨T, 1, none⟩ = some (.int .i64 pq) ∧ w'.cell? ⟨T, 2, none⟩ = some (.int .i64 ps)) (go_keep)
  ((first
    | (go_at_call 27
       refine (HT.out _).mono ?_
       rintro e w1 ⟨rfl, hb1⟩
       have M1 := hQd (HM.out.drew.below hb1)
       have S1 := hQd (aN ((HS.out.1.below (Aaa _)).below hb1) (aN ((HS.out.2.1.below (Aaa _)).below hb1) ((HS.out.2.2.below (Aaa _)).below hb1)))
       have p01 := M1.out.p.wo.c0
       have t01 := S1.out.2.2.c 0 _ rfl
       have t11 := S1.out.2.2.c 1 _ rfl
       have t21 := S1.out.2.2.c 2 _ rfl
       rw [← HPP.out.1] at t01
       rw [← HPP.out.2.1] at t11
       rw [← HPP.out.2.2] at t21
       clear hb1)
    | (go_at_call 108
       refine (Adm ta M1.out.p M1.out.e.hi HTA.out.1 HTA.out.2 n0 n1).mono ?_
       rintro e w2 ⟨rfl, G2, e2, P2⟩
       have M2 := hQd (M1.out.world hk e2 P2)
       have S2 := hQd (aN (S1.out.1.ext e2 (by unfold SW; omega)) (aN (S1.out.2.1.ext e2 (by unfold SW; omega)) (S1.out.2.2.ext e2 (by unfold SW; omega))))
       have p02 := M2.out.p.wo.c0
       have t02 := S2.out.2.2.c 0 _ rfl
       have t12 := S2.out.2.2.c 1 _ rfl
       have t22 := S2.out.2.2.c 2 _ rfl
       rw [← HPP.out.1] at t02
       rw [← HPP.out.2.1] at t12
       rw [← HPP.out.2.2] at t22
       clear e2 P2)
    | (go_at_call 62
       refine (HTG.out _).mono ?_
       rintro e w3 ⟨rfl, hb3⟩
       have M3 := hQd (M2.out.below hb3)
       have S3 := hQd (aN (S2.out.1.below hb3) (aN (S2.out.2.1.below hb3) (S2.out.2.2.below hb3)))
       have p03 := M3.out.p.wo.c0
       have t03 := S3.out.2.2.c 0 _ rfl
       have t13 := S3.out.2.2.c 1 _ rfl
       have t23 := S3.out.2.2.c 2 _ rfl
       rw [← HPP.out.1] at t03
       rw [← HPP.out.2.1] at t13
       rw [← HPP.out.2.2] at t23
       have x23 := M3.out.t.c 2 _ rfl
       have f23 := M3.out.t.f 2
       clear hb3)))
 all_goals
  clear p0 y3 y4 t0 t1 t2 p01 t01 t11 t21 p02 t02 t12 t22 p03 t03 t13 t23 x23 f23 M1 S1 M2 S2 HM HS HT HTG
  have x2 := M3.out.t.c 2 _ rfl
  have f2 := M3.out.t.f 2
  have x3 := M3.out.t.c 3 _ rfl
  have f3 := M3.out.t.f 3
  go_wp2_with fail
  go_ret
  obtain ⟨e1, y1⟩ := Arg M3.out.t hk M3.out.e.hi 2 (.int .i64 tg) (by simp [Afn])
  obtain ⟨e2, y2⟩ := Arg y1 hk e1.hi 3 (.bool true) (by simp [Afn])
  have e12 := e1.trans e2
  refine ⟨rfl, G2, M3.out.e.trans (e12.mono fun t _ h => .inr (by omega)), M3.out.p.ext e12, _, _, true, ?_, fun _ => S3.out.1.ext e12, fun h => absurd h (by show ¬ (2 : Int) = 1; decide), fun _ => rfl, fun _ => ⟨0, S3.out.2.1.ext e12, rfl⟩, fun h => absurd h (by show ¬ (3 : Int) ≤ 2; decide)⟩
  dsimp only
  rw [show max ((i : Int) + 1) 0 = (i : Int) + 1 from by omega]
  exact y2
theorem Bbv {z : Hom} (hz : Ahb z) (hP : PW w O B f s) (hM : Amk w O k X z) (hl : z.ln = 2) (hk : 10 ≤ k) (hhi : Hh O w) (n0 : 0 ≤ s.n) (n1 : s.n ≤ 4611686018427387904) :
 C2 234 X B.p w fun e w' => e = .returned (.bool ((Aaq (s, z)).2.ln == 0)) ∧ Adb w O B f k X (Aaq (s, z)) w' := by
 have hkk := hz.k (by omega)
 have hlen := hz.len
 have hsk := hz.sok (by omega)
 have htk := hz.tok (by omega)
 have ht0 := hz.t0
 rw [Aki s z hl]
 obtain ⟨wv, dv, ld, hx, hw, hl1, hl2, hd0, -⟩ := hM.ex
 replace hw := hw (by omega)
 obtain ⟨n9, hd1, rfl⟩ := hd0 (by omega)
 obtain ⟨dao, dc, rfl, -⟩ := hd1.shape
 rw [show max (z.k + 1) 0 = z.k + 1 from by omega] at hx
 obtain ⟨p, hpe⟩ := exq z.s
 rw [← hpe] at hsk ⊢
 obtain ⟨ln, kk, way, tag, ref, l1, o, u, l2⟩ := z
 dsimp only at hkk hlen ht0 hx hw hl1 hl2 hl ⊢
 subst hl
 obtain ⟨i, rfl⟩ : ∃ i : Nat, kk = i := ⟨kk.toNat, by omega⟩
 have hil : i < way.length := by omega
 have hpi : way[i]? = some p := by
  rw [hpe]
  show way[i]? = some (Agv way i)
  unfold Agv
  rw [if_neg (by omega), Int.toNat_natCast, List.getD, List.getElem?_eq_getElem hil]
  rfl
 obtain rfl := hl2 (by decide)
 have hpi1 : way[i + 1]? = some (Agv way (i + 1)) := by
  unfold Agv
  have hi2 : i + 1 < way.length := by omega
  rw [if_neg (by omega), show ((i : Int) + 1).toNat = i + 1 from by omega, List.getD, List.getElem?_eq_getElem hi2]
  rfl
 obtain ⟨dd, hdd⟩ := exq (Agv way (i + 1))
 have htd : Hom.t ⟨2, i, way, tag, ref, l1, o, u, l2⟩ = dd := hdd.symm
 rw [htd] at htk ⊢
 rw [← hdd] at hpi1
 have HI := hQd (fun W => Ao7 p.b p.q p.s W (by have := hsk.b0; omega) (by have := hsk.b1; omega) (by have := hsk.q0; omega) (by have := hsk.q2; omega) (by have := hsk.s0; omega) (by have := hsk.s1; omega))
 have hia2 : Ab4 p.b p.q p.s = p.item := rfl
 rw [hia2] at HI
 have hbt := hP.bd p.item
 obtain ⟨A2, o2, c2, rfl, -⟩ := hw.open (by omega)
 obtain ⟨b1, b2, b3⟩ := Abq way i p hpi
 have u1 := hw.c _ _ b1
 have u2 := hw.c _ _ b2
 have u3 := hw.c _ _ b3
 rw [← Nat.add_assoc] at u2 u3
 have hXl : X < w.heap.size := hx.lt
 have hAl : A2 < w.heap.size := hw.lt.1
 have x0 := hx.c 0 _ rfl
 have x1 := hx.c 1 _ rfl
 have x4 := hx.c 4 _ rfl
 have x3 := hx.c 3 _ rfl
 have hj1 : (i : Int) < way.length := by omega
 have hwi : IntKind.i64.wrap (i : Int) = (i : Int) := by simp [IntKind.wrap, IntKind.bits, IntKind.signed]; omega
 have hi0 : (0 : Int) ≤ (i : Int) := by omega
 have hi1 : (i : Int) + 1 - 1 = (i : Int) := by omega
 have hne : ((i : Int) + 1 == 0) = false := by simp; omega
 have HV0 := hQd (Ae8 x1)
 rw [hne] at HV0
 have htg := hsk.tags
 have hit := hsk.item
 have hq2 := hsk.q2
 have hs0 := hsk.s0
 have hs1 := hsk.s1
 obtain ⟨pb, hpb⟩ := exq p.b
 obtain ⟨pq, hpq⟩ := exq p.q
 obtain ⟨ps, hps⟩ := exq p.s
 rw [← hpb] at u1
 rw [← hpq] at u2
 rw [← hps] at u3
 have hb1 := bal w (.cells #[.int .i64 pb, .int .i64 pq, .int .i64 ps] 56)
 have hb2 := Aaa (w.alloc (.cells #[.int .i64 pb, .int .i64 pq, .int .i64 ps] 56))
 have hb := hb1.trans (hb2.mono (by simp <;> omega))
 obtain ⟨-, t1⟩ := Aat (S := fun _ => False) hhi #[.int .i64 pb, .int .i64 pq, .int .i64 ps] 56 w.heap.size rfl
 have t2 := t1.below hb2
 have hti : Ob (w.alloc (.cells #[.int .i64 pb, .int .i64 pq, .int .i64 ps] 56)).drew O 0 w.heap.size (spl p) := by rw [hpb, hpq, hps] at t2 ⊢; exact t2
 have HM : Hid (Me k (k + 8) w O (w.alloc (.cells #[.int .i64 pb, .int .i64 pq, .int .i64 ps] 56)).drew O B f s k X (Afn (.slice (some ⟨A2, o2, none⟩) way.length c2) ((i : Int) + 1) tag true (.slice dao 0 dc))) := hQd ⟨Ext.of_below hhi hb, hP.below hhi hb, hx.below hb⟩
 have HS : Hid (Sls (w.alloc (.cells #[.int .i64 pb, .int .i64 pq, .int .i64 ps] 56)).drew O (k + 1) 3 (.slice (some ⟨A2, o2, none⟩) way.length c2) way.length (way.flatMap spl) ∧ Sls (w.alloc (.cells #[.int .i64 pb, .int .i64 pq, .int .i64 ps] 56)).drew O (k + 2) 1 (.slice dao 0 dc) 0 [] ∧ Ob (w.alloc (.cells #[.int .i64 pb, .int .i64 pq, .int .i64 ps] 56)).drew O 0 w.heap.size (spl p)) := hQd ⟨hw.below hb, hd1.below hb, hti⟩
 have hia : 0 ≤ p.item ∧ p.item < 18446744073709551616 := by omega
 have HPK := hQd (aN hsk (aN htk (aN hpi (aN hpi1 hdd))))
 obtain ⟨ia, hia3⟩ := exq p.item
 rw [← hia3] at HI hia hbt ⊢
 obtain ⟨rf, hrf⟩ := exq (wrap64 (s.M ia))
 have hrf2 : IntKind.i64.wrap (s.M ia) = rf := by rw [hrf]; unfold wrap64; simp [IntKind.wrap, IntKind.bits, IntKind.signed]; omega
 have HRF : Hid (-9223372036854775808 ≤ rf ∧ rf ≤ 9223372036854775807) := hQd (by rw [hrf]; exact Aho _)
 rw [← hrf]
 rw [← hpb, ← hpq, ← hps] at HI
 have HIA := hQd hia
 have HPP := hQd (aN hpb (aN hpq hps))
 have HT0 := hQd (aN ht0 hlen)
 obtain ⟨W, hW⟩ := exq ((w.alloc (.cells #[.int .i64 pb, .int .i64 pq, .int .i64 ps] 56)).drew)
 rw [← hW] at HM HS
 obtain ⟨T, hTe⟩ := exq w.heap.size
 clear hP hM hx hw hd0 hd1 hhi hsk htk ht0 hil hpi hpi1 hpe htd hdd b1 b2 b3 htg hit hq2 hs0 hs1 hb1 hb2 hb t1 t2 hti hia hia2 hia3 hbt hpb hpq hps hl1 hl2 hrf
 go_enter Tryz.func234, Tryz.ntmps234
 go_wp2_with fail
 refine HV0.out.mono ?_
 rintro e w' ⟨rfl, rfl⟩
 go_wp2_with fail
 go_region
 rw [← hW]
 rw [← hTe] at HS ⊢
 clear hW hTe x0 x1 x3 x4 u1 u2 u3 hXl hAl hj1 hwi hi0 hi1 hne HV0
 have y3 := HM.out.t.c 3 _ rfl
 have y4 := HM.out.t.c 4 _ rfl
 have t0 := HS.out.2.2.c 0 _ rfl
 have t1 := HS.out.2.2.c 1 _ rfl
 have t2 := HS.out.2.2.c 2 _ rfl
 have p0 := HM.out.p.wo.c0
 rw [← HPP.out.1] at t0
 rw [← HPP.out.2.1] at t1
 rw [← HPP.out.2.2] at t2
 go_upto_region 4 with fail
 go_region_held3 (fun w' => w'.cell? ⟨B.p, 0, none⟩ = some (.pointer (some ⟨B.c, 0, none⟩)) ∧ w'.cell? ⟨T, 0, none⟩ = some (.int .i64 pb) ∧ w'.cell? ⟨T, 1, none⟩ = some (.int .i64 pq) ∧ w'.cell? ⟨T, 2, none⟩ = some (.int .i64 ps)) (go_keep)
  ((first
    | (go_at_call 63
       refine (HI.out _).mono ?_
       rintro e w1 ⟨rfl, hb1⟩
       have M1 := hQd (HM.out.drew.below hb1)
       have S1 := hQd (aN ((HS.out.1.below (Aaa _)).below hb1) (aN ((HS.out.2.1.below (Aaa _)).below hb1) ((HS.out.2.2.below (Aaa _)).below hb1)))
       have p01 := M1.out.p.wo.c0
       have t01 := S1.out.2.2.c 0 _ rfl
       have t11 := S1.out.2.2.c 1 _ rfl
       have t21 := S1.out.2.2.c 2 _ rfl
       rw [← HPP.out.1] at t01
       rw [← HPP.out.2.1] at t11
       rw [← HPP.out.2.2] at t21
       clear hb1)
    | (go_at_call 108
       refine (Adm ia M1.out.p M1.out.e.hi HIA.out.1 HIA.out.2 n0 n1).mono ?_
       rintro e w2 ⟨rfl, G2, e2, P2⟩
       have M2 := hQd (M1.out.world hk e2 P2)
       have S2 := hQd (aN (S1.out.1.ext e2 (by unfold SW; omega)) (aN (S1.out.2.1.ext e2 (by unfold SW; omega)) (S1.out.2.2.ext e2 (by unfold SW; omega))))
       have p02 := M2.out.p.wo.c0
       have t02 := S2.out.2.2.c 0 _ rfl
       have t12 := S2.out.2.2.c 1 _ rfl
       have t22 := S2.out.2.2.c 2 _ rfl
       rw [← HPP.out.1] at t02
       rw [← HPP.out.2.1] at t12
       rw [← HPP.out.2.2] at t22
       clear e2 P2)
    | (go_at_call 237
       refine (Bbg i M2.out.t S2.out.1 HT0.out.2 HPK.out.2.2.1 HPK.out.2.2.2.1 HPK.out.1 HPK.out.2.1 HT0.out.1.1 HT0.out.1.2 HRF.out.1 HRF.out.2 hk M2.out.e.hi).mono ?_
       rintro e w3 ⟨rfl, G3, e3, lv, m1, u', q, m2, x3, l3, k1, k2, k3, k4⟩
       have M3 := hQd (aN (M2.out.e.trans (e3.mono (T := SX k (k + 8)) fun t _ h => .inr (by omega))) (aN (M2.out.p.ext e3) (aN x3 (aN l3 (aN k1 (aN k2 (aN k3 (aN k4 (S2.out.1.ext e3)))))))))
       have p03 := M3.out.2.1.wo.c0
       have t03 := (S2.out.2.2.ext e3).c 0 _ rfl
       have t13 := (S2.out.2.2.ext e3).c 1 _ rfl
       have t23 := (S2.out.2.2.ext e3).c 2 _ rfl
       rw [← HPP.out.1] at t03
       rw [← HPP.out.2.1] at t13
       rw [← HPP.out.2.2] at t23
       clear e3 x3 l3 k1 k2 k3 k4)))
 all_goals
  clear p0 y3 y4 t0 t1 t2 p01 t01 t11 t21 p02 t02 t12 t22 p03 t03 t13 t23 M1 S1 M2 S2 HM HS HI
  have hmk := Aa2.mark (k := k) M3.out.2.2.2.2.1 ⟨by omega, by omega⟩
  rw [Aoa] at hmk
  have HON := hQd (Al5 (l := [Aky u', Ahl q, Aa9 m2]) M3.out.2.2.1 M3.out.2.2.2.1 hmk hk M3.out.1.hi)
  clear hmk
  go_wp2_with fail
  refine HON.out.mono ?_
  rintro e w4 ⟨rfl, hb⟩
  have x14 := (M3.out.2.2.1.below hb).c 1 _ rfl
  have HV4 := hQd (Ae8 x14)
  rw [show ((i : Int) + 1 == 0) = false from by simp; omega] at HV4
  have HF : Hid (Adb w O B f k X (Aas ia s, ⟨3, i, way, tag, rf, mk2 p dd, ⟨0, 0⟩, Abd tag rf, mk2 p dd⟩) w4) := hQd (by
   have hp3 : Hom.s ⟨3, i, way, tag, rf, mk2 p dd, ⟨0, 0⟩, Abd tag rf, mk2 p dd⟩ = p := by
    have := HPK.out.2.2.1
    show Agv way i = p
    have hil := (List.getElem?_eq_some_iff.1 this).1
    unfold Agv
    rw [if_neg (by omega), Int.toNat_natCast, List.getD, this]
    rfl
   have ht3 : Hom.t ⟨3, i, way, tag, rf, mk2 p dd, ⟨0, 0⟩, Abd tag rf, mk2 p dd⟩ = dd := HPK.out.2.2.2.2.symm
   exact Auq (m1 := m1) (u := u') (q := q) (m2 := m2) (by dsimp only; omega) (by dsimp only; omega) (by dsimp only; omega) (M3.out.1.below hb) (M3.out.2.1.below M3.out.1.hi hb) (M3.out.2.2.1.below hb) (M3.out.2.2.2.2.2.2.2.2.below hb) (M3.out.2.2.2.1.below hb) (fun _ => M3.out.2.2.2.2.1.below hb) (fun _ => by rw [hp3]; exact M3.out.2.2.2.2.2.1.below hb) (fun _ => by rw [ht3]; exact M3.out.2.2.2.2.2.2.1.below hb) (M3.out.2.2.2.2.2.2.2.1.below hb))
  clear hb x14 HON M3
  go_wp2_with fail
  refine HV4.out.mono ?_
  rintro e w' ⟨rfl, rfl⟩
  go_wp2_with fail
  go_ret
  exact ⟨rfl, HF.out⟩
theorem Avi {z : Hom} (hz : Ahb z) (hP : PW w O B f s) (hM : Amk w O k X z) (hl : z.ln ≠ 0) (hk : 10 ≤ k) (hhi : Hh O w) (n0 : 0 ≤ s.n) (n1 : s.n ≤ 4611686018427387904) :
 C2 234 X B.p w fun e w' => e = .returned (.bool ((Aaq (s, z)).2.ln == 0)) ∧ Adb w O B f k X (Aaq (s, z)) w' := by
 have h0 := hz.l0
 have h6 := hz.l6
 have hc : z.ln = 1 ∨ z.ln = 2 ∨ z.ln = 3 ∨ z.ln = 4 ∨ z.ln = 5 ∨ z.ln = 6 := by omega
 rcases hc with e | e | e | e | e | e
 · exact Bbw hz hP hM e hk hhi n0 n1
 · exact Bbv hz hP hM e hk hhi n0 n1
 · exact Bbu hz hP hM e hk hhi n0 n1
 · exact Bbt hz hP hM e hk hhi n0 n1
 · exact Bbs hz hP hM e hk hhi n0 n1
 · exact Bbr hz hP hM e hk hhi n0 n1
theorem Aye {z : Rmm} (mo : Int) (hR : Aaz w O k X z) (hl : z.ln = 4) (hz : Ahb z.ho) (hz0 : z.ho.ln ≠ 0) (hP : PW w O B f s) (hk : 10 ≤ k) (hhi : Hh O w) (n0 : 0 ≤ s.n) (n1 : s.n ≤ 4611686018427387904) :
 C2 222 X B.p w (Ape mo k X B f s z w O) := by
 obtain ⟨bv, wv, hv, h1, -, -, h4⟩ := hR.ex
 obtain ⟨Y, rfl, hY⟩ := h4 hl
 have HST := hQd (Avi (k := k + 6) hz hP hY hz0 (by omega) hhi n0 n1)
 have HMS : Hid (Aao mo (s, z) = ((Aaq (s, z.ho)).1, ⟨if (Aaq (s, z.ho)).2.ln = 0 then 0 else 4, z.b, z.a, z.c, z.wy, (Aaq (s, z.ho)).2, z.p, if (Aaq (s, z.ho)).2.ln = 0 then true else z.is⟩)) := hQd (by
  unfold Aao; dsimp only; rw [if_neg (by omega), if_neg (by omega), if_neg (by omega), if_pos hl])
 unfold Ape
 obtain ⟨s1, zh, hsz⟩ : ∃ s1 zh, Aaq (s, z.ho) = (s1, zh) := ⟨_, _, rfl⟩
 rw [hsz] at HST HMS
 dsimp only at HST HMS
 have hdo : Amz z.ln = Awg := by rw [hl]; rfl
 rw [hdo] at h1
 have x6 := h1.c 6 _ rfl
 have HX := hQd h1
 clear hR hz hz0 hP hhi hsz h4 hY h1 hdo
 go_enter Tryz.func222, Tryz.ntmps222
 go_wp2_with fail
 refine HST.out.mono ?_
 rintro e w1 ⟨rfl, G1, e1, P1, Y1⟩
 have x1 := HX.out.ext e1 (fun h => by rcases h with h | h <;> omega)
 have H1 := hQd (aN (e1.mono (T := SX k (k + 14)) fun t _ h => h.imp id fun h => by omega) (aN P1 (aN Y1 x1)))
 clear e1 P1 Y1 x1 HST HX x6
 by_cases hz0 : zh.ln = 0
 · have HMS2 := hQd HMS.out
   rw [if_pos hz0, if_pos hz0] at HMS2
   have x7 := H1.out.2.2.2.c 7 _ rfl
   have x8 := H1.out.2.2.2.c 8 _ rfl
   have x9 := H1.out.2.2.2.c 9 _ rfl
   have HEN := hQd (Ahk _ _ _ _ z.b z.a z.c z.p z.p z.is H1.out.2.2.2 hk H1.out.1.hi)
   have d0 : (zh.ln == 0) = true := by simp [hz0]
   rw [d0]
   clear hz0 HMS
   go_wp2_with fail
   refine HEN.out.mono ?_
   rintro e w6 ⟨rfl, G6, e6, r6⟩
   have H6 := hQd (aN (H1.out.1.trans (e6.mono (T := SX k (k + 14)) fun t _ h => .inr (by omega))) (aN (H1.out.2.1.ext e6) r6))
   clear e6 r6 HEN H1 x7 x8 x9
   go_wp2_with fail
   go_end0
   rw [HMS2.out]
   exact ⟨rfl, G6, H6.out.1, H6.out.2.1, bv, _, _, H6.out.2.2, fun h => absurd h (by show ¬ ((0 : Int) = 1 ∨ (0 : Int) = 2); decide), fun h => absurd h (by show ¬ (0 : Int) = 3; decide), fun h => absurd h (by show ¬ (0 : Int) = 4; decide)⟩
 · have HMS2 := hQd HMS.out
   rw [if_neg hz0, if_neg hz0] at HMS2
   have d0 : (zh.ln == 0) = false := by simp [hz0]
   rw [d0]
   clear hz0 HMS
   go_wp2_with fail
   go_end0
   rw [HMS2.out]
   exact ⟨rfl, G1, H1.out.1, H1.out.2.1, bv, _, _, H1.out.2.2.2, fun h => absurd h (by show ¬ ((4 : Int) = 1 ∨ (4 : Int) = 2); decide), fun h => absurd h (by show ¬ (4 : Int) = 3; decide), fun _ => ⟨Y, rfl, H1.out.2.2.1⟩⟩
end
end
section
open Go.RowKit Go.Shelf
section
variable {X : Nat} {w : World} {O : Om} {B : Wb} {f : Cf} {s : AW} {k : Nat}
theorem Ava {z : Rmm} (hz : Amp z) (hP : PW w O B f s) (hR : Aaz w O k X z) (hl : z.ln ≠ 0) (hk : 10 ≤ k) (hhi : Hh O w) (n0 : 0 ≤ s.n) (n1 : s.n ≤ 4611686018427387904) :
 C2 277 X B.p w (RP (SX k (k + 14)) w O (.bool ((Aao f.y (s, z)).2.ln == 0)) fun W G => PW W G B f (Aao f.y (s, z)).1 ∧ Aaz W G k X (Aao f.y (s, z)).2) := by
 have h0 := hz.l0
 have h4 := hz.l4
 have hg : Ba0 f z := hz.go hl
 have hc : z.ln = 1 ∨ z.ln = 2 ∨ z.ln = 3 ∨ z.ln = 4 := by omega
 rcases hc with e | e | e | e
 · by_cases hf : 0 ≤ Aa3 (s.M (Aah z.b z.a))
   · have hst := Ajw f.y s z e
     rw [if_pos hf] at hst
     rw [hst]
     have hql : Ac7 z = z.a :: (if z.c = z.a then [] else [z.c]) := by unfold Ac7; rw [if_pos e]; split <;> rfl
     exact Aeu hP hR (.inl e) hql (hz.b hl) (hz.a hl) hf hk hhi n0 n1
   · exact Ajm hR (.inl e) hg (by rw [if_pos e]; exact hf) hP hk hhi n0 n1
 · by_cases hf : 0 ≤ Aa3 (s.M (Aah z.b z.c))
   · have hst := Ajv f.y s z e
     rw [if_pos hf] at hst
     rw [hst]
     have hql : Ac7 z = z.c :: [] := by unfold Ac7; rw [if_neg (by omega), if_pos e]
     exact Aeu hP hR (.inr e) hql (hz.b hl) (hz.c hl) hf hk hhi n0 n1
   · exact Ajm hR (.inr e) hg (by rw [if_neg (by omega)]; exact hf) hP hk hhi n0 n1
 · refine As3 hR e hg hP hk hhi n0 n1 ?_
   rcases (hz.y e).step (s := s) with g | g
   · have := g.2.2; omega
   · have := g.2.way; rw [this]; simp
 · exact Agm 222 hR (by unfold Amz; rw [if_neg (by omega), if_neg (by omega), if_neg (by omega)]; rfl) (enters_of Tryz.func222 (by kernel_rfl) rfl) (Aye f.y hR e (hz.h e).1 (hz.h e).2 hP hk hhi n0 n1)
end
end
section
open Go.RowKit Go.Shelf
def Akx (w : World) (O : Om) (k X : Nat) (now tag ref lost : Int) (p : Spt) (v0 : Value) (W : World) (G : Om) : Prop :=
 Ext (fun t => t = k ∨ t = k + 1 ∨ t = k + 2 ∨ (k + 19 ≤ t ∧ t ≤ k + 24)) O w G W ∧ ∃ lv' m1 u m2 d, Ob W G k X (Ac1 now p lv' tag ref lost) ∧ Sls W G (k + 1) 1 lv' 5 [v0, Aa9 m1, Amj u ref p, Aa9 m2, Afm d] ∧ Ac4 W G (k + 19) m1 [p.ver] ∧ Abt W G (k + 21) u p ⟨0, 0⟩ ∧ Ac4 W G (k + 23) m2 [p.ver] ∧ Ob W G (k + 2) d [Atp X, .bool false]
theorem noS {W : World} {G : Om} {k X : Nat} {now tag ref lost : Int} {p : Spt} {lv : Value} (hx : Ob W G k X (Ac1 now p lv tag ref lost)) :
 W.cell? ⟨X, 4, none⟩ = some lv ∧ W.cell? ⟨X, 1, none⟩ = some (.int .i64 p.b) ∧ W.cell? ⟨X, 2, none⟩ = some (.int .i64 p.q) ∧ W.cell? ⟨X, 3, none⟩ = some (.int .i64 p.s) ∧ W.cell? ⟨X, 6, none⟩ = some (.int .i64 ref) :=
 ⟨hx.c 4 _ rfl, hx.c 1 _ rfl, hx.c 2 _ rfl, hx.c 3 _ rfl, hx.c 6 _ rfl⟩
structure NB (w0 : World) (O0 : Om) (k X : Nat) (now tag ref lost : Int) (p : Spt) (lv v0 : Value) (a c m u q d : Option Nat) (W : World) (G : Om) : Prop where
 e : Ext (fun t => t = k ∨ t = k + 1 ∨ t = k + 2 ∨ (k + 19 ≤ t ∧ t ≤ k + 24)) O0 w0 G W
 x : Ob W G k X (Ac1 now p lv tag ref lost)
 l : Sls W G (k + 1) 1 lv 1 [v0]
 a : ∀ N, a = some N → Ob W G 0 N [.int .i64 p.b, .int .i64 p.q]
 c : ∀ N, c = some N → Ob W G 0 N [.int .i64 p.b, .int .i64 p.q]
 m : ∀ N, m = some N → Ac4 W G (k + 19) N [p.ver]
 u : ∀ N, u = some N → Abt W G (k + 21) N p ⟨0, 0⟩
 q : ∀ N, q = some N → Ac4 W G (k + 23) N [p.ver]
 d : ∀ N, d = some N → Ob W G (k + 2) N [Atp X, .bool false]
section
variable {w0 : World} {O0 : Om} {k X : Nat} {now tag ref lost : Int} {p : Spt} {lv v0 : Value} {a c m u q d : Option Nat} {W W' : World} {G G' : Om}
theorem NB.below (h : NB w0 O0 k X now tag ref lost p lv v0 a c m u q d W G) (hb : Below W.heap.size W W') : NB w0 O0 k X now tag ref lost p lv v0 a c m u q d W' G :=
 ⟨h.e.below hb, h.x.below hb, h.l.below hb, fun N g => (h.a N g).below hb, fun N g => (h.c N g).below hb, fun N g => (h.m N g).below hb, fun N g => (h.u N g).below hb, fun N g => (h.q N g).below hb, fun N g => (h.d N g).below hb⟩
theorem NB.setA (h : NB w0 O0 k X now tag ref lost p lv v0 none c m u q d W G) : NB w0 O0 k X now tag ref lost p lv v0 (some W.heap.size) c m u q d (W.alloc (.cells #[.int .i64 p.b, .int .i64 p.q] 51)) G := by
 have hb := bal W (.cells #[.int .i64 p.b, .int .i64 p.q] 51)
 obtain ⟨-, t1⟩ := Aat (S := fun _ => False) h.e.hi #[.int .i64 p.b, .int .i64 p.q] 51 W.heap.size rfl
 have h' := h.below hb
 exact ⟨h'.e, h'.x, h'.l, (fun N g => by cases g; exact t1), h'.c, h'.m, h'.u, h'.q, h'.d⟩
theorem NB.setC (h : NB w0 O0 k X now tag ref lost p lv v0 a none m u q d W G) : NB w0 O0 k X now tag ref lost p lv v0 a (some W.heap.size) m u q d (W.alloc (.cells #[.int .i64 p.b, .int .i64 p.q] 51)) G := by
 have hb := bal W (.cells #[.int .i64 p.b, .int .i64 p.q] 51)
 obtain ⟨-, t1⟩ := Aat (S := fun _ => False) h.e.hi #[.int .i64 p.b, .int .i64 p.q] 51 W.heap.size rfl
 have h' := h.below hb
 exact ⟨h'.e, h'.x, h'.l, h'.a, (fun N g => by cases g; exact t1), h'.m, h'.u, h'.q, h'.d⟩
theorem NB.setD (h : NB w0 O0 k X now tag ref lost p lv v0 a c m u q none W G) (hk : 10 ≤ k) : ∃ G', NB w0 O0 k X now tag ref lost p lv v0 a c m u q (some W.heap.size) (W.alloc (.cells #[.func (.func 282) #[.pointer (some ⟨X, 0, none⟩)] #[], .bool false] 154)) G' := by
 obtain ⟨G', e, t1, kk⟩ := Aal h.e.hi (k + 2) #[.func (.func 282) #[.pointer (some ⟨X, 0, none⟩)] #[], .bool false] 154 W.heap.size rfl
 exact ⟨G', h.e.trans (e.mono fun t _ g => by omega), kk _ _ _ h.x, h.l.ext e, fun N g => kk _ _ _ (h.a N g), fun N g => kk _ _ _ (h.c N g), fun N g => (h.m N g).ext e, fun N g => (h.u N g).ext e, fun N g => (h.q N g).ext e, (fun N g => by cases g; exact t1)⟩
theorem NB.setM {N0 : Nat} (h : NB w0 O0 k X now tag ref lost p lv v0 a c none u q d W G) (e : Ext (fun t => t = k + 19 ∨ t = k + 19 + 1) G W G' W') (hm : Ac4 W' G' (k + 19) N0 [p.ver]) : NB w0 O0 k X now tag ref lost p lv v0 a c (some N0) u q d W' G' :=
 ⟨h.e.trans (e.mono fun t _ g => by omega), h.x.ext e, h.l.ext e, fun N g => (h.a N g).ext e, fun N g => (h.c N g).ext e, (fun N g => by cases g; exact hm), fun N g => (h.u N g).ext e, fun N g => (h.q N g).ext e, fun N g => (h.d N g).ext e⟩
theorem NB.setU {N0 : Nat} (h : NB w0 O0 k X now tag ref lost p lv v0 a c m none q d W G) (e : Ext (fun t => t = k + 21) G W G' W') (hm : Abt W' G' (k + 21) N0 p ⟨0, 0⟩) : NB w0 O0 k X now tag ref lost p lv v0 a c m (some N0) q d W' G' :=
 ⟨h.e.trans (e.mono fun t _ g => by omega), h.x.ext e, h.l.ext e, fun N g => (h.a N g).ext e, fun N g => (h.c N g).ext e, fun N g => (h.m N g).ext e, (fun N g => by cases g; exact hm), fun N g => (h.q N g).ext e, fun N g => (h.d N g).ext e⟩
theorem NB.setQ {N0 : Nat} (h : NB w0 O0 k X now tag ref lost p lv v0 a c m u none d W G) (e : Ext (fun t => t = k + 23 ∨ t = k + 23 + 1) G W G' W') (hm : Ac4 W' G' (k + 23) N0 [p.ver]) : NB w0 O0 k X now tag ref lost p lv v0 a c m u (some N0) d W' G' :=
 ⟨h.e.trans (e.mono fun t _ g => by omega), h.x.ext e, h.l.ext e, fun N g => (h.a N g).ext e, fun N g => (h.c N g).ext e, fun N g => (h.m N g).ext e, fun N g => (h.u N g).ext e, (fun N g => by cases g; exact hm), fun N g => (h.d N g).ext e⟩
structure NC (w0 : World) (O0 : Om) (k X : Nat) (now tag ref lost : Int) (p : Spt) (lv : Value) (m u q d : Nat) (W : World) (G : Om) : Prop where
 e : Ext (fun t => t = k ∨ t = k + 1 ∨ t = k + 2 ∨ (k + 19 ≤ t ∧ t ≤ k + 24)) O0 w0 G W
 x : Ob W G k X (Ac1 now p lv tag ref lost)
 m : Ac4 W G (k + 19) m [p.ver]
 u : Abt W G (k + 21) u p ⟨0, 0⟩
 q : Ac4 W G (k + 23) q [p.ver]
 d : Ob W G (k + 2) d [Atp X, .bool false]
theorem NB.app {m u q d : Nat} (h : NB w0 O0 k X now tag ref lost p lv v0 a c (some m) (some u) (some q) (some d) W G) (e : Ext (fun t => t = k + 1) G W G' W') : NC w0 O0 k X now tag ref lost p lv m u q d W' G' :=
 ⟨h.e.trans (e.mono fun t _ g => by omega), h.x.ext e, (h.m m rfl).ext e, (h.u u rfl).ext e, (h.q q rfl).ext e, (h.d d rfl).ext e⟩
theorem NC.fin {m u q d : Nat} (h : NC w0 O0 k X now tag ref lost p lv m u q d W G) (hk : 10 ≤ k) (v : Value) (hs : Sls W G (k + 1) 1 v (1 + 4) ([v0] ++ [Aa9 m, Amj u ref p, Aa9 q, Afm d])) : Akx w0 O0 k X now tag ref lost p v0 (W.setCell ⟨X, 4, none⟩ v) G := by
 have e := Aaf (j := 4) (v := v) h.e.hi h.x hk
 exact ⟨h.e.trans (e.mono fun t _ g => .inl g), _, m, u, q, d, h.x.set 4 v (by simp [Ac1]), hs.ext e, h.m.ext e, h.u.ext e, h.q.ext e, h.d.ext e⟩
end
section
variable {X : Nat} {w : World} {O : Om} {B : Wb} {f : Cf} {s : AW} {k : Nat}
theorem Aqj {now tag ref lost : Int} {p : Spt} {lv v0 : Value} (hx : Ob w O k X (Ac1 now p lv tag ref lost)) (hS : Sls w O (k + 1) 1 lv 1 [v0]) (hp : p.ok) (hk : 10 ≤ k) (hhi : Hh O w) :
 Calls Tryz.prog 280 #[.pointer (some ⟨X, 0, none⟩), .agg #[.int .i64 0, .int .i64 0, .int .i64 0], .bool false] w fun e w' => e = .returned (.tuple #[]) ∧ ∃ G, Akx w O k X now tag ref lost p v0 w' G := by
 obtain ⟨A, o, cp, rfl, hc1, hc2⟩ := hS.open (by decide)
 have HP := hQd hp
 have hb := bal w (.cells #[.int .i64 0, .int .i64 0, .int .i64 0] 56)
 have HE := hQd (Ext.of_below (S := fun t => t = k ∨ t = k + 1 ∨ t = k + 2 ∨ (k + 19 ≤ t ∧ t ≤ k + 24)) hhi hb)
 have HX := hQd (hx.below hb)
 have HL := hQd (hS.below hb)
 obtain ⟨i0, hi, hz0, hz1, hz2⟩ := info_parts Ahf
 have HI := hQd (aN hi (aN hz0 (aN hz1 hz2)))
 clear hp hhi hb hi hz0 hz1 hz2 hx hS
 go_enter Tryz.func280, Tryz.ntmps280
 go_upto_region 3 with fail
 generalize w.alloc (.cells #[.int .i64 0, .int .i64 0, .int .i64 0] 56) = w1 at HE HX HL ⊢
 refine' Ay8 (I := fun a c m u q d W G => NB w O k X now tag ref lost p (.slice (some ⟨A, o, none⟩) 1 cp) v0 (some a) (some c) (some m) (some u) (some q) (some d) W G) (fun sh10 => ?_) ?t10
 rotate_left
 refine' Avp (I := fun a c m u d W G => NB w O k X now tag ref lost p (.slice (some ⟨A, o, none⟩) 1 cp) v0 (some a) (some c) (some m) (some u) none (some d) W G) (fun sh9 => ?_) ?t9
 rotate_left
 refine' An0 (I := fun a c m d W G => NB w O k X now tag ref lost p (.slice (some ⟨A, o, none⟩) 1 cp) v0 (some a) (some c) (some m) none none (some d) W G) (fun sh8 => ?_) ?t8
 rotate_left
 refine' An0 (I := fun a m u d W G => NB w O k X now tag ref lost p (.slice (some ⟨A, o, none⟩) 1 cp) v0 (some a) none (some m) (some u) none (some d) W G) (fun sh7 => ?_) ?t7
 rotate_left
 refine' An0 (I := fun a c m u W G => NB w O k X now tag ref lost p (.slice (some ⟨A, o, none⟩) 1 cp) v0 (some a) (some c) (some m) (some u) none none W G) (fun sh6 => ?_) ?t6
 rotate_left
 refine' An1 (I := fun a c d W G => NB w O k X now tag ref lost p (.slice (some ⟨A, o, none⟩) 1 cp) v0 (some a) (some c) none none none (some d) W G) (fun sh5 => ?_) ?t5
 rotate_left
 refine' An1 (I := fun a m d W G => NB w O k X now tag ref lost p (.slice (some ⟨A, o, none⟩) 1 cp) v0 (some a) none (some m) none none (some d) W G) (fun sh4 => ?_) ?t4
 rotate_left
 refine' An1 (I := fun a c m W G => NB w O k X now tag ref lost p (.slice (some ⟨A, o, none⟩) 1 cp) v0 (some a) (some c) (some m) none none none W G) (fun sh3 => ?_) ?t3
 rotate_left
 refine' An2 (I := fun c d W G => NB w O k X now tag ref lost p (.slice (some ⟨A, o, none⟩) 1 cp) v0 none (some c) none none none (some d) W G) (fun sh2 => ?_) ?t2
 rotate_left
 refine' An2 (I := fun a d W G => NB w O k X now tag ref lost p (.slice (some ⟨A, o, none⟩) 1 cp) v0 (some a) none none none none (some d) W G) (fun sh1 => ?_) ?t1
 rotate_left
 refine' An2 (I := fun a c W G => NB w O k X now tag ref lost p (.slice (some ⟨A, o, none⟩) 1 cp) v0 (some a) (some c) none none none none W G) (fun sh0 => ?_) ?t0
 rotate_left
 refine Adz 45 (S := fun w' => w'.cell? ⟨X, 4, none⟩ = some (.slice (some ⟨A, o, none⟩) 1 cp) ∧ w'.cell? ⟨X, 1, none⟩ = some (.int .i64 p.b) ∧ w'.cell? ⟨X, 2, none⟩ = some (.int .i64 p.q) ∧ w'.cell? ⟨X, 3, none⟩ = some (.int .i64 p.s) ∧ w'.cell? ⟨X, 6, none⟩ = some (.int .i64 ref)) (by kernel_rfl) ?sA (fun hH0 => ?rA)
 case sA => exact noS (HX.out.below (Aaa _))
 have B0 : Hid (NB w O k X now tag ref lost p (.slice (some ⟨A, o, none⟩) 1 cp) v0 none none none none none none w1.drew O) := hQd ⟨HE.out.below (Aaa w1), HX.out.below (Aaa w1), HL.out.below (Aaa w1), (fun _ h => by cases h), (fun _ h => by cases h), (fun _ h => by cases h), (fun _ h => by cases h), (fun _ h => by cases h), (fun _ h => by cases h)⟩
 generalize w1.drew = wd at hH0 B0 ⊢
 refine' Aeh [0,1,2,3,4,5,6,7,8,9,13,14,15,16,18,19,20,21,22,23,24,25,28,29,30,31,32,36,37,38] (by kernel_rfl) (fun _ _ _ _ h => h) hH0 ?_
 iterate 30 ((try simp only [zz]); refine' tky (List.getElem?_toArray.trans rfl) (Or.inl ⟨by rfl, ?_⟩) ?_; rotate_left; · intro w hSw; (try dsimp only at hSw); go_simp; try with_reducible rfl)
 refine tk0 ?_
 try simp only [zz, Add]
 refine Aad (rs := [10, 33, 39]) (by kernel_rfl) (by simp) ?_
 refine' Aab.cons (List.getElem?_toArray.trans rfl) (fun K hK => ?st31) ?more31
 case st31 =>
  go_simp
  refine hK.out _ _ ?s32 (fun hH32 => ?r32)
  case s32 => ((try dsimp only); exact noS (B0.out.x.below (bal _ _)))
  have b32 := B0.out.setA
  obtain ⟨v32, hv32⟩ := exq (wd.alloc (.cells #[.int .i64 p.b, .int .i64 p.q] 51))
  obtain ⟨N32, hn32⟩ := exq wd.heap.size
  rw [← hv32] at hH32 b32 ⊢
  rw [← hn32] at b32 ⊢
  have B32 := hQd b32
  clear hv32 hn32 b32 B0
  clear hK K hH0
  try simp only [zz]
  refine Aad (rs := [11, 33, 39]) (by kernel_rfl) (by simp) ?_
  refine' Aab.cons (List.getElem?_toArray.trans rfl) (fun K hK => ?st33) ?more33
  case st33 =>
   go_simp
   refine' Calls.mono (Ac6 p HP.out (k + 19) (by omega) ⟨Nat.le_refl _, by unfold maxLen; decide⟩ (B32.out.a _ rfl).lt ((B32.out.a _ rfl).c 0 _ rfl) ((B32.out.a _ rfl).c 1 _ rfl) B32.out.e.hi) ?c34
   rintro e w34 ⟨m34, rfl, G34, e34, a34⟩
   have B34 := hQd (B32.out.setM e34 a34)
   clear a34 e34 B32
   try go_wp2_with fail
   refine hK.out _ _ ?s34 (fun hH34 => ?r34)
   case s34 => ((try dsimp only); exact noS B34.out.x)
   clear hK K hH32
   refine' Aeh [12] (by kernel_rfl) (fun _ _ _ _ h => h) hH34 ?_
   iterate 1 ((try simp only [zz]); refine' tky (List.getElem?_toArray.trans rfl) (Or.inl ⟨by rfl, ?_⟩) ?_; rotate_left; · intro w hSw; (try dsimp only at hSw); go_simp; try with_reducible rfl)
   refine tk0 ?_
   try simp only [zz, Add]
   refine Aad (rs := [17, 33, 39]) (by kernel_rfl) (by simp) ?_
   refine' Aab.cons (List.getElem?_toArray.trans rfl) (fun K hK => ?st36) ?more36
   case st36 =>
    go_simp
    refine' Calls.mono (Ad8 (k := k + 21) HP.out B34.out.e.hi) ?c37
    rintro e w37 ⟨m37, rfl, G37, e37, a37⟩
    have B37 := hQd (B34.out.setU e37 a37)
    clear a37 e37 B34
    try go_wp2_with fail
    refine hK.out _ _ ?s37 (fun hH37 => ?r37)
    case s37 => ((try dsimp only); exact noS B37.out.x)
    clear hK K hH34
    refine' Aeh [26,27] (by kernel_rfl) (fun _ _ _ _ h => h) hH37 ?_
    iterate 2 ((try simp only [zz]); refine' tky (List.getElem?_toArray.trans rfl) (Or.inl ⟨by rfl, ?_⟩) ?_; rotate_left; · intro w hSw; (try dsimp only at hSw); go_simp; try with_reducible rfl)
    refine tk0 ?_
    try simp only [zz, Add]
    refine Aad (rs := [33, 39]) (by kernel_rfl) (by simp) ?_
    refine' Aab.cons (List.getElem?_toArray.trans rfl) (fun K hK => ?st40) ?more40
    case st40 =>
     go_simp
     refine hK.out _ _ ?s41 (fun hH41 => ?r41)
     case s41 => ((try dsimp only); exact noS (B37.out.x.below (bal _ _)))
     have b41 := B37.out.setC
     obtain ⟨v41, hv41⟩ := exq (w37.alloc (.cells #[.int .i64 p.b, .int .i64 p.q] 51))
     obtain ⟨N41, hn41⟩ := exq w37.heap.size
     rw [← hv41] at hH41 b41 ⊢
     rw [← hn41] at b41 ⊢
     have B41 := hQd b41
     clear hv41 hn41 b41 B37
     clear hK K hH37
     try simp only [zz]
     exact sh6 N32 N41 m34 m37 v41 G37 B41.out
    refine' Aab.cons (List.getElem?_toArray.trans rfl) (fun K hK => ?st42) ?more42
    case st42 =>
     go_simp
     refine hK.out _ _ ?s43 (fun hH43 => ?r43)
     case s43 => ((try dsimp only); exact noS (B37.out.x.below (bal _ _)))
     obtain ⟨H43, b43⟩ := B37.out.setD hk
     obtain ⟨v43, hv43⟩ := exq (w37.alloc (.cells #[.func (.func 282) #[.pointer (some ⟨X, 0, none⟩)] #[], .bool false] 154))
     obtain ⟨N43, hn43⟩ := exq w37.heap.size
     rw [← hv43] at hH43 b43 ⊢
     rw [← hn43] at b43 ⊢
     have B43 := hQd b43
     clear hv43 hn43 b43 B37
     clear hK K hH37
     refine' Aeh [40] (by kernel_rfl) (fun _ _ _ _ h => h) hH43 ?_
     iterate 1 ((try simp only [zz]); refine' tky (List.getElem?_toArray.trans rfl) (Or.inl ⟨by rfl, ?_⟩) ?_; rotate_left; · intro w hSw; (try dsimp only at hSw); go_simp; try with_reducible rfl)
     refine tk0 ?_
     try simp only [zz, Add]
     exact sh7 N32 m34 m37 N43 v43 H43 B43.out
    exact Aab.nil
   refine' Aab.cons (List.getElem?_toArray.trans rfl) (fun K hK => ?st45) ?more45
   case st45 =>
    go_simp
    refine hK.out _ _ ?s46 (fun hH46 => ?r46)
    case s46 => ((try dsimp only); exact noS (B34.out.x.below (bal _ _)))
    have b46 := B34.out.setC
    obtain ⟨v46, hv46⟩ := exq (w34.alloc (.cells #[.int .i64 p.b, .int .i64 p.q] 51))
    obtain ⟨N46, hn46⟩ := exq w34.heap.size
    rw [← hv46] at hH46 b46 ⊢
    rw [← hn46] at b46 ⊢
    have B46 := hQd b46
    clear hv46 hn46 b46 B34
    clear hK K hH34
    try simp only [zz]
    exact sh3 N32 N46 m34 v46 G34 B46.out
   refine' Aab.cons (List.getElem?_toArray.trans rfl) (fun K hK => ?st47) ?more47
   case st47 =>
    go_simp
    refine hK.out _ _ ?s48 (fun hH48 => ?r48)
    case s48 => ((try dsimp only); exact noS (B34.out.x.below (bal _ _)))
    obtain ⟨H48, b48⟩ := B34.out.setD hk
    obtain ⟨v48, hv48⟩ := exq (w34.alloc (.cells #[.func (.func 282) #[.pointer (some ⟨X, 0, none⟩)] #[], .bool false] 154))
    obtain ⟨N48, hn48⟩ := exq w34.heap.size
    rw [← hv48] at hH48 b48 ⊢
    rw [← hn48] at b48 ⊢
    have B48 := hQd b48
    clear hv48 hn48 b48 B34
    clear hK K hH34
    refine' Aeh [40] (by kernel_rfl) (fun _ _ _ _ h => h) hH48 ?_
    iterate 1 ((try simp only [zz]); refine' tky (List.getElem?_toArray.trans rfl) (Or.inl ⟨by rfl, ?_⟩) ?_; rotate_left; · intro w hSw; (try dsimp only at hSw); go_simp; try with_reducible rfl)
    refine tk0 ?_
    try simp only [zz, Add]
    exact sh4 N32 m34 N48 v48 H48 B48.out
   exact Aab.nil
  refine' Aab.cons (List.getElem?_toArray.trans rfl) (fun K hK => ?st50) ?more50
  case st50 =>
   go_simp
   refine hK.out _ _ ?s51 (fun hH51 => ?r51)
   case s51 => ((try dsimp only); exact noS (B32.out.x.below (bal _ _)))
   have b51 := B32.out.setC
   obtain ⟨v51, hv51⟩ := exq (v32.alloc (.cells #[.int .i64 p.b, .int .i64 p.q] 51))
   obtain ⟨N51, hn51⟩ := exq v32.heap.size
   rw [← hv51] at hH51 b51 ⊢
   rw [← hn51] at b51 ⊢
   have B51 := hQd b51
   clear hv51 hn51 b51 B32
   clear hK K hH32
   try simp only [zz]
   exact sh0 N32 N51 v51 O B51.out
  refine' Aab.cons (List.getElem?_toArray.trans rfl) (fun K hK => ?st52) ?more52
  case st52 =>
   go_simp
   refine hK.out _ _ ?s53 (fun hH53 => ?r53)
   case s53 => ((try dsimp only); exact noS (B32.out.x.below (bal _ _)))
   obtain ⟨H53, b53⟩ := B32.out.setD hk
   obtain ⟨v53, hv53⟩ := exq (v32.alloc (.cells #[.func (.func 282) #[.pointer (some ⟨X, 0, none⟩)] #[], .bool false] 154))
   obtain ⟨N53, hn53⟩ := exq v32.heap.size
   rw [← hv53] at hH53 b53 ⊢
   rw [← hn53] at b53 ⊢
   have B53 := hQd b53
   clear hv53 hn53 b53 B32
   clear hK K hH32
   refine' Aeh [40] (by kernel_rfl) (fun _ _ _ _ h => h) hH53 ?_
   iterate 1 ((try simp only [zz]); refine' tky (List.getElem?_toArray.trans rfl) (Or.inl ⟨by rfl, ?_⟩) ?_; rotate_left; · intro w hSw; (try dsimp only at hSw); go_simp; try with_reducible rfl)
   refine tk0 ?_
   try simp only [zz, Add]
   exact sh1 N32 N53 v53 H53 B53.out
  exact Aab.nil
 refine' Aab.cons (List.getElem?_toArray.trans rfl) (fun K hK => ?st55) ?more55
 case st55 =>
  go_simp
  refine hK.out _ _ ?s56 (fun hH56 => ?r56)
  case s56 => ((try dsimp only); exact noS (B0.out.x.below (bal _ _)))
  have b56 := B0.out.setC
  obtain ⟨v56, hv56⟩ := exq (wd.alloc (.cells #[.int .i64 p.b, .int .i64 p.q] 51))
  obtain ⟨N56, hn56⟩ := exq wd.heap.size
  rw [← hv56] at hH56 b56 ⊢
  rw [← hn56] at b56 ⊢
  have B56 := hQd b56
  clear hv56 hn56 b56 B0
  clear hK K hH0
  try simp only [zz]
  refine Aad (rs := [10, 39]) (by kernel_rfl) (by simp) ?_
  refine' Aab.cons (List.getElem?_toArray.trans rfl) (fun K hK => ?st57) ?more57
  case st57 =>
   go_simp
   refine hK.out _ _ ?s58 (fun hH58 => ?r58)
   case s58 => ((try dsimp only); exact noS (B56.out.x.below (bal _ _)))
   have b58 := B56.out.setA
   obtain ⟨v58, hv58⟩ := exq (v56.alloc (.cells #[.int .i64 p.b, .int .i64 p.q] 51))
   obtain ⟨N58, hn58⟩ := exq v56.heap.size
   rw [← hv58] at hH58 b58 ⊢
   rw [← hn58] at b58 ⊢
   have B58 := hQd b58
   clear hv58 hn58 b58 B56
   clear hK K hH56
   try simp only [zz]
   exact sh0 N58 N56 v58 O B58.out
  refine' Aab.cons (List.getElem?_toArray.trans rfl) (fun K hK => ?st59) ?more59
  case st59 =>
   go_simp
   refine hK.out _ _ ?s60 (fun hH60 => ?r60)
   case s60 => ((try dsimp only); exact noS (B56.out.x.below (bal _ _)))
   obtain ⟨H60, b60⟩ := B56.out.setD hk
   obtain ⟨v60, hv60⟩ := exq (v56.alloc (.cells #[.func (.func 282) #[.pointer (some ⟨X, 0, none⟩)] #[], .bool false] 154))
   obtain ⟨N60, hn60⟩ := exq v56.heap.size
   rw [← hv60] at hH60 b60 ⊢
   rw [← hn60] at b60 ⊢
   have B60 := hQd b60
   clear hv60 hn60 b60 B56
   clear hK K hH56
   refine' Aeh [40] (by kernel_rfl) (fun _ _ _ _ h => h) hH60 ?_
   iterate 1 ((try simp only [zz]); refine' tky (List.getElem?_toArray.trans rfl) (Or.inl ⟨by rfl, ?_⟩) ?_; rotate_left; · intro w hSw; (try dsimp only at hSw); go_simp; try with_reducible rfl)
   refine tk0 ?_
   try simp only [zz, Add]
   exact sh2 N56 N60 v60 H60 B60.out
  exact Aab.nil
 refine' Aab.cons (List.getElem?_toArray.trans rfl) (fun K hK => ?st62) ?more62
 case st62 =>
  go_simp
  refine hK.out _ _ ?s63 (fun hH63 => ?r63)
  case s63 => ((try dsimp only); exact noS (B0.out.x.below (bal _ _)))
  obtain ⟨H63, b63⟩ := B0.out.setD hk
  obtain ⟨v63, hv63⟩ := exq (wd.alloc (.cells #[.func (.func 282) #[.pointer (some ⟨X, 0, none⟩)] #[], .bool false] 154))
  obtain ⟨N63, hn63⟩ := exq wd.heap.size
  rw [← hv63] at hH63 b63 ⊢
  rw [← hn63] at b63 ⊢
  have B63 := hQd b63
  clear hv63 hn63 b63 B0
  clear hK K hH0
  refine' Aeh [40] (by kernel_rfl) (fun _ _ _ _ h => h) hH63 ?_
  iterate 1 ((try simp only [zz]); refine' tky (List.getElem?_toArray.trans rfl) (Or.inl ⟨by rfl, ?_⟩) ?_; rotate_left; · intro w hSw; (try dsimp only at hSw); go_simp; try with_reducible rfl)
  refine tk0 ?_
  try simp only [zz, Add]
  refine Aad (rs := [10, 33]) (by kernel_rfl) (by simp) ?_
  refine' Aab.cons (List.getElem?_toArray.trans rfl) (fun K hK => ?st65) ?more65
  case st65 =>
   go_simp
   refine hK.out _ _ ?s66 (fun hH66 => ?r66)
   case s66 => ((try dsimp only); exact noS (B63.out.x.below (bal _ _)))
   have b66 := B63.out.setA
   obtain ⟨v66, hv66⟩ := exq (v63.alloc (.cells #[.int .i64 p.b, .int .i64 p.q] 51))
   obtain ⟨N66, hn66⟩ := exq v63.heap.size
   rw [← hv66] at hH66 b66 ⊢
   rw [← hn66] at b66 ⊢
   have B66 := hQd b66
   clear hv66 hn66 b66 B63
   clear hK K hH63
   try simp only [zz]
   exact sh1 N66 N63 v66 H63 B66.out
  refine' Aab.cons (List.getElem?_toArray.trans rfl) (fun K hK => ?st67) ?more67
  case st67 =>
   go_simp
   refine hK.out _ _ ?s68 (fun hH68 => ?r68)
   case s68 => ((try dsimp only); exact noS (B63.out.x.below (bal _ _)))
   have b68 := B63.out.setC
   obtain ⟨v68, hv68⟩ := exq (v63.alloc (.cells #[.int .i64 p.b, .int .i64 p.q] 51))
   obtain ⟨N68, hn68⟩ := exq v63.heap.size
   rw [← hv68] at hH68 b68 ⊢
   rw [← hn68] at b68 ⊢
   have B68 := hQd b68
   clear hv68 hn68 b68 B63
   clear hK K hH63
   try simp only [zz]
   exact sh2 N68 N63 v68 H63 B68.out
  exact Aab.nil
 exact Aab.nil
 case t0 =>
  intro a_0 c_0 W_0 G_0 hB_0
  have B_0 := hQd hB_0
  have hH_0 := noS hB_0.x
  clear hB_0
  refine Aad (rs := [11, 39]) (by kernel_rfl) (by simp) ?_
  refine' Aab.cons (List.getElem?_toArray.trans rfl) (fun K hK => ?st69) ?more69
  case st69 =>
   go_simp
   refine' Calls.mono (Ac6 p HP.out (k + 19) (by omega) ⟨Nat.le_refl _, by unfold maxLen; decide⟩ (B_0.out.a _ rfl).lt ((B_0.out.a _ rfl).c 0 _ rfl) ((B_0.out.a _ rfl).c 1 _ rfl) B_0.out.e.hi) ?c70
   rintro e w70 ⟨m70, rfl, G70, e70, a70⟩
   have B70 := hQd (B_0.out.setM e70 a70)
   clear a70 e70 B_0
   try go_wp2_with fail
   refine hK.out _ _ ?s70 (fun hH70 => ?r70)
   case s70 => ((try dsimp only); exact noS B70.out.x)
   clear hK K hH_0
   refine' Aeh [12] (by kernel_rfl) (fun _ _ _ _ h => h) hH70 ?_
   iterate 1 ((try simp only [zz]); refine' tky (List.getElem?_toArray.trans rfl) (Or.inl ⟨by rfl, ?_⟩) ?_; rotate_left; · intro w hSw; (try dsimp only at hSw); go_simp; try with_reducible rfl)
   refine tk0 ?_
   try simp only [zz, Add]
   exact sh3 a_0 c_0 m70 w70 G70 B70.out
  refine' Aab.cons (List.getElem?_toArray.trans rfl) (fun K hK => ?st72) ?more72
  case st72 =>
   go_simp
   refine hK.out _ _ ?s73 (fun hH73 => ?r73)
   case s73 => ((try dsimp only); exact noS (B_0.out.x.below (bal _ _)))
   obtain ⟨H73, b73⟩ := B_0.out.setD hk
   obtain ⟨v73, hv73⟩ := exq (W_0.alloc (.cells #[.func (.func 282) #[.pointer (some ⟨X, 0, none⟩)] #[], .bool false] 154))
   obtain ⟨N73, hn73⟩ := exq W_0.heap.size
   rw [← hv73] at hH73 b73 ⊢
   rw [← hn73] at b73 ⊢
   have B73 := hQd b73
   clear hv73 hn73 b73 B_0
   clear hK K hH_0
   refine' Aeh [40] (by kernel_rfl) (fun _ _ _ _ h => h) hH73 ?_
   iterate 1 ((try simp only [zz]); refine' tky (List.getElem?_toArray.trans rfl) (Or.inl ⟨by rfl, ?_⟩) ?_; rotate_left; · intro w hSw; (try dsimp only at hSw); go_simp; try with_reducible rfl)
   refine tk0 ?_
   try simp only [zz, Add]
   exact sh5 a_0 c_0 N73 v73 H73 B73.out
  exact Aab.nil
 case t1 =>
  intro a_1 d_1 W_1 G_1 hB_1
  have B_1 := hQd hB_1
  have hH_1 := noS hB_1.x
  clear hB_1
  refine Aad (rs := [11, 33]) (by kernel_rfl) (by simp) ?_
  refine' Aab.cons (List.getElem?_toArray.trans rfl) (fun K hK => ?st75) ?more75
  case st75 =>
   go_simp
   refine' Calls.mono (Ac6 p HP.out (k + 19) (by omega) ⟨Nat.le_refl _, by unfold maxLen; decide⟩ (B_1.out.a _ rfl).lt ((B_1.out.a _ rfl).c 0 _ rfl) ((B_1.out.a _ rfl).c 1 _ rfl) B_1.out.e.hi) ?c76
   rintro e w76 ⟨m76, rfl, G76, e76, a76⟩
   have B76 := hQd (B_1.out.setM e76 a76)
   clear a76 e76 B_1
   try go_wp2_with fail
   refine hK.out _ _ ?s76 (fun hH76 => ?r76)
   case s76 => ((try dsimp only); exact noS B76.out.x)
   clear hK K hH_1
   refine' Aeh [12] (by kernel_rfl) (fun _ _ _ _ h => h) hH76 ?_
   iterate 1 ((try simp only [zz]); refine' tky (List.getElem?_toArray.trans rfl) (Or.inl ⟨by rfl, ?_⟩) ?_; rotate_left; · intro w hSw; (try dsimp only at hSw); go_simp; try with_reducible rfl)
   refine tk0 ?_
   try simp only [zz, Add]
   exact sh4 a_1 m76 d_1 w76 G76 B76.out
  refine' Aab.cons (List.getElem?_toArray.trans rfl) (fun K hK => ?st78) ?more78
  case st78 =>
   go_simp
   refine hK.out _ _ ?s79 (fun hH79 => ?r79)
   case s79 => ((try dsimp only); exact noS (B_1.out.x.below (bal _ _)))
   have b79 := B_1.out.setC
   obtain ⟨v79, hv79⟩ := exq (W_1.alloc (.cells #[.int .i64 p.b, .int .i64 p.q] 51))
   obtain ⟨N79, hn79⟩ := exq W_1.heap.size
   rw [← hv79] at hH79 b79 ⊢
   rw [← hn79] at b79 ⊢
   have B79 := hQd b79
   clear hv79 hn79 b79 B_1
   clear hK K hH_1
   try simp only [zz]
   exact sh5 a_1 N79 d_1 v79 G_1 B79.out
  exact Aab.nil
 case t2 =>
  intro c_2 d_2 W_2 G_2 hB_2
  have B_2 := hQd hB_2
  have hH_2 := noS hB_2.x
  clear hB_2
  refine Aad (rs := [10]) (by kernel_rfl) (by simp) ?_
  refine' Aab.cons (List.getElem?_toArray.trans rfl) (fun K hK => ?st80) ?more80
  case st80 =>
   go_simp
   refine hK.out _ _ ?s81 (fun hH81 => ?r81)
   case s81 => ((try dsimp only); exact noS (B_2.out.x.below (bal _ _)))
   have b81 := B_2.out.setA
   obtain ⟨v81, hv81⟩ := exq (W_2.alloc (.cells #[.int .i64 p.b, .int .i64 p.q] 51))
   obtain ⟨N81, hn81⟩ := exq W_2.heap.size
   rw [← hv81] at hH81 b81 ⊢
   rw [← hn81] at b81 ⊢
   have B81 := hQd b81
   clear hv81 hn81 b81 B_2
   clear hK K hH_2
   try simp only [zz]
   exact sh5 N81 c_2 d_2 v81 G_2 B81.out
  exact Aab.nil
 case t3 =>
  intro a_3 c_3 m_3 W_3 G_3 hB_3
  have B_3 := hQd hB_3
  have hH_3 := noS hB_3.x
  clear hB_3
  refine Aad (rs := [17, 39]) (by kernel_rfl) (by simp) ?_
  refine' Aab.cons (List.getElem?_toArray.trans rfl) (fun K hK => ?st82) ?more82
  case st82 =>
   go_simp
   refine' Calls.mono (Ad8 (k := k + 21) HP.out B_3.out.e.hi) ?c83
   rintro e w83 ⟨m83, rfl, G83, e83, a83⟩
   have B83 := hQd (B_3.out.setU e83 a83)
   clear a83 e83 B_3
   try go_wp2_with fail
   refine hK.out _ _ ?s83 (fun hH83 => ?r83)
   case s83 => ((try dsimp only); exact noS B83.out.x)
   clear hK K hH_3
   refine' Aeh [26,27] (by kernel_rfl) (fun _ _ _ _ h => h) hH83 ?_
   iterate 2 ((try simp only [zz]); refine' tky (List.getElem?_toArray.trans rfl) (Or.inl ⟨by rfl, ?_⟩) ?_; rotate_left; · intro w hSw; (try dsimp only at hSw); go_simp; try with_reducible rfl)
   refine tk0 ?_
   try simp only [zz, Add]
   exact sh6 a_3 c_3 m_3 m83 w83 G83 B83.out
  refine' Aab.cons (List.getElem?_toArray.trans rfl) (fun K hK => ?st86) ?more86
  case st86 =>
   go_simp
   refine hK.out _ _ ?s87 (fun hH87 => ?r87)
   case s87 => ((try dsimp only); exact noS (B_3.out.x.below (bal _ _)))
   obtain ⟨H87, b87⟩ := B_3.out.setD hk
   obtain ⟨v87, hv87⟩ := exq (W_3.alloc (.cells #[.func (.func 282) #[.pointer (some ⟨X, 0, none⟩)] #[], .bool false] 154))
   obtain ⟨N87, hn87⟩ := exq W_3.heap.size
   rw [← hv87] at hH87 b87 ⊢
   rw [← hn87] at b87 ⊢
   have B87 := hQd b87
   clear hv87 hn87 b87 B_3
   clear hK K hH_3
   refine' Aeh [40] (by kernel_rfl) (fun _ _ _ _ h => h) hH87 ?_
   iterate 1 ((try simp only [zz]); refine' tky (List.getElem?_toArray.trans rfl) (Or.inl ⟨by rfl, ?_⟩) ?_; rotate_left; · intro w hSw; (try dsimp only at hSw); go_simp; try with_reducible rfl)
   refine tk0 ?_
   try simp only [zz, Add]
   exact sh8 a_3 c_3 m_3 N87 v87 H87 B87.out
  exact Aab.nil
 case t4 =>
  intro a_4 m_4 d_4 W_4 G_4 hB_4
  have B_4 := hQd hB_4
  have hH_4 := noS hB_4.x
  clear hB_4
  refine Aad (rs := [17, 33]) (by kernel_rfl) (by simp) ?_
  refine' Aab.cons (List.getElem?_toArray.trans rfl) (fun K hK => ?st89) ?more89
  case st89 =>
   go_simp
   refine' Calls.mono (Ad8 (k := k + 21) HP.out B_4.out.e.hi) ?c90
   rintro e w90 ⟨m90, rfl, G90, e90, a90⟩
   have B90 := hQd (B_4.out.setU e90 a90)
   clear a90 e90 B_4
   try go_wp2_with fail
   refine hK.out _ _ ?s90 (fun hH90 => ?r90)
   case s90 => ((try dsimp only); exact noS B90.out.x)
   clear hK K hH_4
   refine' Aeh [26,27] (by kernel_rfl) (fun _ _ _ _ h => h) hH90 ?_
   iterate 2 ((try simp only [zz]); refine' tky (List.getElem?_toArray.trans rfl) (Or.inl ⟨by rfl, ?_⟩) ?_; rotate_left; · intro w hSw; (try dsimp only at hSw); go_simp; try with_reducible rfl)
   refine tk0 ?_
   try simp only [zz, Add]
   exact sh7 a_4 m_4 m90 d_4 w90 G90 B90.out
  refine' Aab.cons (List.getElem?_toArray.trans rfl) (fun K hK => ?st93) ?more93
  case st93 =>
   go_simp
   refine hK.out _ _ ?s94 (fun hH94 => ?r94)
   case s94 => ((try dsimp only); exact noS (B_4.out.x.below (bal _ _)))
   have b94 := B_4.out.setC
   obtain ⟨v94, hv94⟩ := exq (W_4.alloc (.cells #[.int .i64 p.b, .int .i64 p.q] 51))
   obtain ⟨N94, hn94⟩ := exq W_4.heap.size
   rw [← hv94] at hH94 b94 ⊢
   rw [← hn94] at b94 ⊢
   have B94 := hQd b94
   clear hv94 hn94 b94 B_4
   clear hK K hH_4
   try simp only [zz]
   exact sh8 a_4 N94 m_4 d_4 v94 G_4 B94.out
  exact Aab.nil
 case t5 =>
  intro a_5 c_5 d_5 W_5 G_5 hB_5
  have B_5 := hQd hB_5
  have hH_5 := noS hB_5.x
  clear hB_5
  refine Aad (rs := [11]) (by kernel_rfl) (by simp) ?_
  refine' Aab.cons (List.getElem?_toArray.trans rfl) (fun K hK => ?st95) ?more95
  case st95 =>
   go_simp
   refine' Calls.mono (Ac6 p HP.out (k + 19) (by omega) ⟨Nat.le_refl _, by unfold maxLen; decide⟩ (B_5.out.a _ rfl).lt ((B_5.out.a _ rfl).c 0 _ rfl) ((B_5.out.a _ rfl).c 1 _ rfl) B_5.out.e.hi) ?c96
   rintro e w96 ⟨m96, rfl, G96, e96, a96⟩
   have B96 := hQd (B_5.out.setM e96 a96)
   clear a96 e96 B_5
   try go_wp2_with fail
   refine hK.out _ _ ?s96 (fun hH96 => ?r96)
   case s96 => ((try dsimp only); exact noS B96.out.x)
   clear hK K hH_5
   refine' Aeh [12] (by kernel_rfl) (fun _ _ _ _ h => h) hH96 ?_
   iterate 1 ((try simp only [zz]); refine' tky (List.getElem?_toArray.trans rfl) (Or.inl ⟨by rfl, ?_⟩) ?_; rotate_left; · intro w hSw; (try dsimp only at hSw); go_simp; try with_reducible rfl)
   refine tk0 ?_
   try simp only [zz, Add]
   exact sh8 a_5 c_5 m96 d_5 w96 G96 B96.out
  exact Aab.nil
 case t6 =>
  intro a_6 c_6 m_6 u_6 W_6 G_6 hB_6
  have B_6 := hQd hB_6
  have hH_6 := noS hB_6.x
  clear hB_6
  refine Aad (rs := [34, 39]) (by kernel_rfl) (by simp) ?_
  refine' Aab.cons (List.getElem?_toArray.trans rfl) (fun K hK => ?st98) ?more98
  case st98 =>
   go_simp
   refine' Calls.mono (Ac6 p HP.out (k + 23) (by omega) ⟨Nat.le_refl _, by unfold maxLen; decide⟩ (B_6.out.c _ rfl).lt ((B_6.out.c _ rfl).c 0 _ rfl) ((B_6.out.c _ rfl).c 1 _ rfl) B_6.out.e.hi) ?c99
   rintro e w99 ⟨m99, rfl, G99, e99, a99⟩
   have B99 := hQd (B_6.out.setQ e99 a99)
   clear a99 e99 B_6
   try go_wp2_with fail
   refine hK.out _ _ ?s99 (fun hH99 => ?r99)
   case s99 => ((try dsimp only); exact noS B99.out.x)
   clear hK K hH_6
   refine' Aeh [35] (by kernel_rfl) (fun _ _ _ _ h => h) hH99 ?_
   iterate 1 ((try simp only [zz]); refine' tky (List.getElem?_toArray.trans rfl) (Or.inl ⟨by rfl, ?_⟩) ?_; rotate_left; · intro w hSw; (try dsimp only at hSw); go_simp; try with_reducible rfl)
   refine tk0 ?_
   try simp only [zz, Add]
   refine Aad (rs := [39]) (by kernel_rfl) (by simp) ?_
   refine' Aab.cons (List.getElem?_toArray.trans rfl) (fun K hK => ?st101) ?more101
   case st101 =>
    go_simp
    refine hK.out _ _ ?s102 (fun hH102 => ?r102)
    case s102 => ((try dsimp only); exact noS (B99.out.x.below (bal _ _)))
    obtain ⟨H102, b102⟩ := B99.out.setD hk
    obtain ⟨v102, hv102⟩ := exq (w99.alloc (.cells #[.func (.func 282) #[.pointer (some ⟨X, 0, none⟩)] #[], .bool false] 154))
    obtain ⟨N102, hn102⟩ := exq w99.heap.size
    rw [← hv102] at hH102 b102 ⊢
    rw [← hn102] at b102 ⊢
    have B102 := hQd b102
    clear hv102 hn102 b102 B99
    clear hK K hH99
    refine' Aeh [40] (by kernel_rfl) (fun _ _ _ _ h => h) hH102 ?_
    iterate 1 ((try simp only [zz]); refine' tky (List.getElem?_toArray.trans rfl) (Or.inl ⟨by rfl, ?_⟩) ?_; rotate_left; · intro w hSw; (try dsimp only at hSw); go_simp; try with_reducible rfl)
    refine tk0 ?_
    try simp only [zz, Add]
    exact sh10 a_6 c_6 m_6 u_6 m99 N102 v102 H102 B102.out
   exact Aab.nil
  refine' Aab.cons (List.getElem?_toArray.trans rfl) (fun K hK => ?st104) ?more104
  case st104 =>
   go_simp
   refine hK.out _ _ ?s105 (fun hH105 => ?r105)
   case s105 => ((try dsimp only); exact noS (B_6.out.x.below (bal _ _)))
   obtain ⟨H105, b105⟩ := B_6.out.setD hk
   obtain ⟨v105, hv105⟩ := exq (W_6.alloc (.cells #[.func (.func 282) #[.pointer (some ⟨X, 0, none⟩)] #[], .bool false] 154))
   obtain ⟨N105, hn105⟩ := exq W_6.heap.size
   rw [← hv105] at hH105 b105 ⊢
   rw [← hn105] at b105 ⊢
   have B105 := hQd b105
   clear hv105 hn105 b105 B_6
   clear hK K hH_6
   refine' Aeh [40] (by kernel_rfl) (fun _ _ _ _ h => h) hH105 ?_
   iterate 1 ((try simp only [zz]); refine' tky (List.getElem?_toArray.trans rfl) (Or.inl ⟨by rfl, ?_⟩) ?_; rotate_left; · intro w hSw; (try dsimp only at hSw); go_simp; try with_reducible rfl)
   refine tk0 ?_
   try simp only [zz, Add]
   exact sh9 a_6 c_6 m_6 u_6 N105 v105 H105 B105.out
  exact Aab.nil
 case t7 =>
  intro a_7 m_7 u_7 d_7 W_7 G_7 hB_7
  have B_7 := hQd hB_7
  have hH_7 := noS hB_7.x
  clear hB_7
  refine Aad (rs := [33]) (by kernel_rfl) (by simp) ?_
  refine' Aab.cons (List.getElem?_toArray.trans rfl) (fun K hK => ?st107) ?more107
  case st107 =>
   go_simp
   refine hK.out _ _ ?s108 (fun hH108 => ?r108)
   case s108 => ((try dsimp only); exact noS (B_7.out.x.below (bal _ _)))
   have b108 := B_7.out.setC
   obtain ⟨v108, hv108⟩ := exq (W_7.alloc (.cells #[.int .i64 p.b, .int .i64 p.q] 51))
   obtain ⟨N108, hn108⟩ := exq W_7.heap.size
   rw [← hv108] at hH108 b108 ⊢
   rw [← hn108] at b108 ⊢
   have B108 := hQd b108
   clear hv108 hn108 b108 B_7
   clear hK K hH_7
   try simp only [zz]
   exact sh9 a_7 N108 m_7 u_7 d_7 v108 G_7 B108.out
  exact Aab.nil
 case t8 =>
  intro a_8 c_8 m_8 d_8 W_8 G_8 hB_8
  have B_8 := hQd hB_8
  have hH_8 := noS hB_8.x
  clear hB_8
  refine Aad (rs := [17]) (by kernel_rfl) (by simp) ?_
  refine' Aab.cons (List.getElem?_toArray.trans rfl) (fun K hK => ?st109) ?more109
  case st109 =>
   go_simp
   refine' Calls.mono (Ad8 (k := k + 21) HP.out B_8.out.e.hi) ?c110
   rintro e w110 ⟨m110, rfl, G110, e110, a110⟩
   have B110 := hQd (B_8.out.setU e110 a110)
   clear a110 e110 B_8
   try go_wp2_with fail
   refine hK.out _ _ ?s110 (fun hH110 => ?r110)
   case s110 => ((try dsimp only); exact noS B110.out.x)
   clear hK K hH_8
   refine' Aeh [26,27] (by kernel_rfl) (fun _ _ _ _ h => h) hH110 ?_
   iterate 2 ((try simp only [zz]); refine' tky (List.getElem?_toArray.trans rfl) (Or.inl ⟨by rfl, ?_⟩) ?_; rotate_left; · intro w hSw; (try dsimp only at hSw); go_simp; try with_reducible rfl)
   refine tk0 ?_
   try simp only [zz, Add]
   exact sh9 a_8 c_8 m_8 m110 d_8 w110 G110 B110.out
  exact Aab.nil
 case t9 =>
  intro a_9 c_9 m_9 u_9 d_9 W_9 G_9 hB_9
  have B_9 := hQd hB_9
  have hH_9 := noS hB_9.x
  clear hB_9
  refine Aad (rs := [34]) (by kernel_rfl) (by simp) ?_
  refine' Aab.cons (List.getElem?_toArray.trans rfl) (fun K hK => ?st113) ?more113
  case st113 =>
   go_simp
   refine' Calls.mono (Ac6 p HP.out (k + 23) (by omega) ⟨Nat.le_refl _, by unfold maxLen; decide⟩ (B_9.out.c _ rfl).lt ((B_9.out.c _ rfl).c 0 _ rfl) ((B_9.out.c _ rfl).c 1 _ rfl) B_9.out.e.hi) ?c114
   rintro e w114 ⟨m114, rfl, G114, e114, a114⟩
   have B114 := hQd (B_9.out.setQ e114 a114)
   clear a114 e114 B_9
   try go_wp2_with fail
   refine hK.out _ _ ?s114 (fun hH114 => ?r114)
   case s114 => ((try dsimp only); exact noS B114.out.x)
   clear hK K hH_9
   refine' Aeh [35] (by kernel_rfl) (fun _ _ _ _ h => h) hH114 ?_
   iterate 1 ((try simp only [zz]); refine' tky (List.getElem?_toArray.trans rfl) (Or.inl ⟨by rfl, ?_⟩) ?_; rotate_left; · intro w hSw; (try dsimp only at hSw); go_simp; try with_reducible rfl)
   refine tk0 ?_
   try simp only [zz, Add]
   exact sh10 a_9 c_9 m_9 u_9 m114 d_9 w114 G114 B114.out
  exact Aab.nil
 case t10 =>
  intro a_10 c_10 m_10 u_10 q_10 d_10 W_10 G_10 hB_10
  have B_10 := hQd hB_10
  have hH_10 := noS hB_10.x
  clear hB_10
  refine Aad (rs := [41]) (by kernel_rfl) (by simp) ?_
  refine' Aab.cons (List.getElem?_toArray.trans rfl) (fun K hK => ?st116) ?more116
  case st116 =>
   go_simp
   refine hK.out _ _ ?s117 (fun hH117 => ?r117)
   case s117 => ((try dsimp only); exact noS (B_10.out.x.below (bal _ _)))
   clear hK K hH_10
   try simp only [zz]
   refine Aad (rs := [42]) (by kernel_rfl) (by simp) ?_
   refine' Aab.cons (List.getElem?_toArray.trans rfl) (fun K hK => ?st118) ?more118
   case st118 =>
    refine Aco W_10 (by rfl) _ _ 148 (by rfl) 191 i0 .nilIface 1 16 Tryz.underlying148 HI.out.1 HI.out.2.1 HI.out.2.2.1 HI.out.2.2.2 rfl (by decide) G_10 (k + 1) (by omega) B_10.out.e.hi (.slice (some ⟨A, o, none⟩) 1 cp) 1 [v0] (by rfl) B_10.out.l 4 (by decide) [Aa9 m_10, Amj u_10 ref p, Aa9 q_10, Afm d_10] _ (by rfl) rfl (by simp [Aa9, Amj, Afm, Value.oneCell']) (by unfold maxLen; decide) (by decide) ?_
    intro b119 o119 c119 w119 G119 e119 s119
    have B119 := hQd (aN (B_10.out.app e119) s119)
    clear s119 e119 B_10
    refine hK.out _ _ ?s119 (fun hH119 => ?r119)
    case s119 => ((try dsimp only); exact noS B119.out.1.x)
    have z4 := B119.out.1.x.c 4 _ rfl
    have zf := B119.out.1.x.f 4
    clear hK K hH117
    try simp only [zz]
    refine Aad (rs := [43]) (by kernel_rfl) (by simp) ?_
    refine' Aab.cons (List.getElem?_toArray.trans rfl) (fun K hK => ?st120) ?more120
    case st120 =>
     go_simp
     refine hK.out _ _ ?s121 (fun hH121 => ?r121)
     case s121 => ((try dsimp only); exact noS B119.out.1.x)
     clear hK K hH119
     refine' Aeh [44] (by kernel_rfl) (fun _ _ _ _ h => h) hH121 ?_
     iterate 1 ((try simp only [zz]); refine' tky (List.getElem?_toArray.trans rfl) (Or.inl ⟨by rfl, ?_⟩) ?_; rotate_left; · intro w hSw; (try dsimp only at hSw); go_simp; try with_reducible rfl)
     refine tk0 ?_
     try simp only [zz, Add]
     refine Aad (rs := [45]) (by kernel_rfl) (by simp) ?_
     refine' Aab.last (List.getElem?_toArray.trans rfl) (fun K hK => ?st123) ?more123
     case st123 =>
      go_simp
      refine hK.out _ _ ?_
      clear hK K
      try simp only [zz]
      refine Ad0 (by kernel_rfl) ?_ _
      go_wp2_with fail
      go_end0
      exact ⟨rfl, G119, B119.out.1.fin hk (.slice (some ⟨b119, o119, none⟩) (1 + 4) c119) B119.out.2⟩
     exact Aab.nil
    exact Aab.nil
   exact Aab.nil
  exact Aab.nil
end
end
section
open Go.RowKit Go.Shelf
section
variable {X : Nat} {w : World} {O : Om} {B : Wb} {f : Cf} {s : AW} {k : Nat}
theorem Ama {now tag ref lost : Int} {p : Spt} {lv : Value} {d R : Nat} {z1 : Rmm} {s1 : AW} (hx : Ob w O k X (Ac1 now p lv tag ref lost)) (hS : Sls w O (k + 1) 1 lv 1 [Aea d]) (hd : Ob w O (k + 3) d [.pointer (some ⟨X, 0, none⟩), .pointer (some ⟨R, 0, none⟩)])
 (HR : C2 277 R B.p w (RP (SX (k + 4) (k + 18)) w O (.bool true) fun W G => PW W G B f s1 ∧ Aaz W G (k + 4) R z1)) (hi : z1.is = false) (hp : p.ok) (hk : 10 ≤ k) (hhi : Hh O w) :
 C2 279 d B.p w fun e w' => e = .returned (.bool true) ∧ ∃ G0 W0 G, Ext (SX (k + 4) (k + 18)) O w G0 W0 ∧ Akx W0 G0 k X now tag ref lost p (Aea d) w' G ∧ PW w' G B f s1 ∧ Aaz w' G (k + 4) R z1 ∧ Ob w' G (k + 3) d [.pointer (some ⟨X, 0, none⟩), .pointer (some ⟨R, 0, none⟩)] := by
 have HX := hQd (aN hx (aN hS hd))
 have HRR := hQd HR
 have HPP := hQd hp
 have d0 := hd.c 0 _ rfl
 have d1 := hd.c 1 _ rfl
 have HI := hQd hi
 clear hx hS hd HR hp hhi hi
 go_enter Tryz.func279, Tryz.ntmps279
 go_wp2_with fail
 refine HRR.out.mono ?_
 rintro e w1 ⟨rfl, G1, e1, P1, r1'⟩
 have E1 := hQd e1
 have H1 := hQd (aN P1 (aN r1' (aN (HX.out.1.ext e1 (SX.not (by omega) (by omega))) (aN (HX.out.2.1.ext e1 (SX.not (by omega) (by omega))) (HX.out.2.2.ext e1 (SX.not (by omega) (by omega)))))))
 have d01 := H1.out.2.2.2.2.c 0 _ rfl
 have d11 := H1.out.2.2.2.2.c 1 _ rfl
 have HG := As4 (w := w1.drew) (H1.out.2.1.below (Aaa w1))
 rw [HI.out] at HG
 simp only [Bool.false_eq_true, if_false] at HG
 have HG := hQd HG
 have HGO := hQd (fun (W : World) (hb : Below w1.heap.size w1 W) => Aqj (H1.out.2.2.1.below hb) (H1.out.2.2.2.1.below hb) HPP.out hk (fun j hj => Nat.lt_of_lt_of_le (E1.out.hi j hj) hb.size))
 clear e1 P1 r1' d0 d1 HX HRR
 go_wp2_with fail
 go_region_held3 (fun w' => w'.cell? ⟨d, 0, none⟩ = some (.pointer (some ⟨X, 0, none⟩)) ∧ w'.cell? ⟨d, 1, none⟩ = some (.pointer (some ⟨R, 0, none⟩))) (go_keep)
  ((first
    | (go_at_call 281
       refine HG.out.mono ?_
       rintro e w2 ⟨rfl, hb2⟩
       have HB2 := hQd ((Aaa w1).trans hb2)
       have D2 := hQd (H1.out.2.2.2.2.below HB2.out)
       have d02 := D2.out.c 0 _ rfl
       have d12 := D2.out.c 1 _ rfl
       clear hb2)
    | (go_at_call 280
       refine (HGO.out _ HB2.out).mono ?_
       rintro e w3 ⟨rfl, G3, g3⟩
       have HG3 := hQd g3
       have e3 := g3.1
       have F3 := hQd (aN ((H1.out.1.below E1.out.hi HB2.out).ext e3) (aN ((H1.out.2.1.below HB2.out).ext e3 (fun t q1 q2 => by omega)) (D2.out.ext e3)))
       have d03 := F3.out.2.2.c 0 _ rfl
       have d13 := F3.out.2.2.c 1 _ rfl
       clear e3 g3)))
 all_goals
  clear d01 d11 d02 d12 d03 d13
  go_wp2_with fail
  go_ret
  exact ⟨rfl, G1, _, G3, E1.out.below HB2.out, HG3.out, F3.out⟩
theorem Bak {z : Mvm} {s1 : AW} {rm1 : Rmm} (mo : Int) (hM : Acq w O k X z) (hl : z.ln = 3) (hs : Aao mo (s, z.rm) = (s1, rm1)) (h0 : rm1.ln = 0) (hi : rm1.is = false)
 (HR : ∀ R, Aaz w O (k + 4) R z.rm → C2 277 R B.p w (RP (SX (k + 4) (k + 18)) w O (.bool true) fun W G => PW W G B f s1 ∧ Aaz W G (k + 4) R rm1))
 (hp : z.p.ok) (hk : 10 ≤ k) (hhi : Hh O w) :
 C2 41 X B.p w (RP (SX k (k + 24)) w O (.bool (Abc (Aae mo (s, z)).2)) fun W G => PW W G B f (Aae mo (s, z)).1 ∧ Acq W G k X (Aae mo (s, z)).2) := by
 rw [Ahe mo s z hl, hs]
 dsimp only
 rw [if_pos h0, if_neg (by rw [hi]; decide)]
 obtain ⟨p, lv, hx, hpp, hparts⟩ := hM.ex
 obtain rfl := hpp (by omega)
 obtain ⟨d, R, hS, hd, hr⟩ := hparts.2.2.2.1 hl
 obtain ⟨A, o, c, rfl, hc1, hc2⟩ := hS.open (by decide)
 have a0 := hS.c 0 _ rfl
 rw [Nat.add_zero] at a0
 have HA := Ama hx hS hd (HR R hr) hi hp hk hhi
 have HA2 := HA.mono (fun e w' h => (⟨.bool true, h.1, h.2⟩ : ∃ v, e = .returned v ∧ _))
 refine (Abl (n := 0) (Q2 := Abb w O B f k X (s1, ⟨8, z.lost, z.now, z.p, z.tag, z.ref, rm1, Apm, [z.p.ver], ⟨0, 0⟩, z.u⟩)) (hx.c 4 _ rfl) a0 (Akd _) (Aam Tryz.func279 (by kernel_rfl) (by kernel_rfl)) HA2 ?_ (fun w2 h2 => h2.left (by dsimp only; omega) (by dsimp only; omega))).mono fun e w' h => Abb.step h
 rintro w1 ⟨G0, W0, G1, e0, ⟨e1, lv1, m1, u, m2, dd, x1, l1, b1, b2, b3, b4⟩, P1, r1', d1⟩
 have ho := Aa2.search (k := k) d1 r1' (by omega) (by omega)
 have h0b : (rm1.ln == 0) = true := by simp [h0]
 rw [h0b] at ho
 have hm := Aa2.mark (k := k) b1 ⟨by omega, by omega⟩
 have E1 : Ext (SX k (k + 24)) O w G1 w1 := (e0.mono fun t _ h => SX.mono (by omega) (by omega) h).trans (e1.mono fun t _ h => .inr (by omega))
 refine (Aiz (l := [Amj u z.ref z.p, Aa9 m2, Afm dd]) x1 l1 ho hm hk E1.hi).mono ?_
 rintro e w2 ⟨rfl, G2, e2, rfl, lv2, x2, s2⟩
 exact ⟨rfl, Azh (m1 := m1) (u := u) (m2 := m2) (d := dd) (by dsimp only; omega) (E1.trans (e2.mono fun t _ h => .inr (by omega))) (P1.ext e2) x2 s2 (fun _ => b1.ext e2) (fun _ => b2.ext e2) (fun _ => b3.ext e2) (b4.ext e2)⟩
theorem Avd {z : Mvm} (hz : Afl z) (hP : PW w O B f s) (hM : Acq w O k X z) (hl : z.ln ≠ 0) (hlo0 : 0 ≤ z.lost) (hlo1 : z.lost ≤ 1000000) (hil : s.it.length ≤ 1000000) (hks : ∀ r, (Aen s.it r).key.size ≤ maxLen) (hk : 10 ≤ k) (hhi : Hh O w) (n0 : 0 ≤ s.n) (n1 : s.n ≤ 4611686018427387904) :
 C2 41 X B.p w (RP (SX k (k + 24)) w O (.bool (Abc (Aae f.y (s, z)).2)) fun W G => PW W G B f (Aae f.y (s, z)).1 ∧ Acq W G k X (Aae f.y (s, z)).2) := by
 have h0 := hz.l0
 have h11 := hz.l11
 have hp := hz.p hl
 have hnow := hz.now hl
 have ht := hz.t0
 have hr := hz.rf
 have hc : z.ln = 1 ∨ z.ln = 2 ∨ z.ln = 3 ∨ z.ln = 4 ∨ z.ln = 5 ∨ z.ln = 6 ∨ z.ln = 7 ∨ z.ln = 8 ∨ z.ln = 9 ∨ z.ln = 10 ∨ z.ln = 11 := by omega
 rcases hc with g | g | g | g | g | g | g | g | g | g | g
 · exact Bao f.y hP hM g hp hk hhi n0 n1
 · exact Bal f.y hP hM g hp ⟨by omega, hnow.2⟩ hnow.1 hil (hks _) hk hhi n0 n1
 · obtain ⟨hrm, hrl⟩ := hz.r g
   have hok := hrm.step (s := s) f.y hP.bd
   have HR : ∀ R, Aaz w O (k + 4) R z.rm → C2 277 R B.p w (RP (SX (k + 4) (k + 18)) w O (.bool ((Aao f.y (s, z.rm)).2.ln == 0)) fun W G => PW W G B f (Aao f.y (s, z.rm)).1 ∧ Aaz W G (k + 4) R (Aao f.y (s, z.rm)).2) := fun R hR => Ava hrm hP hR hrl (by omega) hhi n0 n1
   obtain ⟨y, hy⟩ := exq (Aao f.y (s, z.rm))
   rw [← hy] at HR hok
   obtain ⟨s1, rm1⟩ := y
   dsimp only at HR hok
   by_cases h0 : rm1.ln = 0
   · have hb : (rm1.ln == 0) = true := by simp [h0]
     rw [hb] at HR
     cases hi : rm1.is with
     | true => exact Av5 f.y hM g hy.symm h0 hi HR hp (hok.p (.inr hi)) ht.1 ht.2 hr.2 hk hhi
     | false => exact Bak f.y hM g hy.symm h0 hi HR hp hk hhi
   · have hb : (rm1.ln == 0) = false := by simp [h0]
     rw [hb] at HR
     exact Baj f.y hM g hy.symm h0 HR hk hhi
 · obtain ⟨a, b, c⟩ := hz.m (.inl g)
   exact Bai f.y hP hM g hp a b c (by rw [hz.o0 (.inl g)]; decide) hk hhi n0 n1
 · obtain ⟨a, b, c⟩ := hz.o (.inl g)
   exact Bah f.y hP hM g hp (hz.d (by omega) (by omega)) a b c (hz.u0 (.inr g)) hk hhi n0 n1
 · obtain ⟨a, b, c, d, e⟩ := hz.u g
   exact Bag f.y hP hM g hp (hz.d (by omega) (by omega)) a b c ⟨d, ht.2, e⟩ hr.2 hk hhi n0 n1
 · obtain ⟨a, b, c⟩ := hz.m (.inr g)
   exact Baf f.y hP hM g hp a b c hk hhi n0 n1
 · exact Bbq f.y hz hP hM g hk hhi n0 n1
 · exact Bbp f.y hz hP hM g hk hhi n0 n1
 · exact Ban f.y hz hP hM g hk hhi n0 n1
 · exact Bam f.y hz ⟨hlo0, hlo1⟩ hP hM g hk hhi n0 n1
end
end
section
open Go.RowKit Go.Shelf
section
variable {X R : Nat} {w : World} {O : Om} {B C : Wb} {f : Cf} {s : AW} {m k : Nat}
theorem Asv {z : Mvm} (hX : Acg w O k R z) (hl : z.ln = 0) :
 C2 40 R C.p w fun e w' => e = .returned (.tuple #[]) ∧ w = w' := by
 have x0 := hX.c0
 rw [hl] at x0
 clear hX hl
 go_enter Tryz.func40, Tryz.ntmps40
 go_wp2_with fail
 go_end0
 exact ⟨rfl, rfl⟩
theorem Asl {z : Mvm} (hz : Afl z) (h : RW w O C f s m) (hM : Acg w O k R z) (hlo0 : 0 ≤ z.lost) (hlo1 : z.lost ≤ 1000000) (hil : s.it.length ≤ 1000000) (hks : ∀ r, (Aen s.it r).key.size ≤ maxLen) (hk : 10 ≤ k) (hm : m ≤ 900000) (hhi : Hh O w) (n0 : 0 ≤ s.n) (n1 : s.n ≤ 4611686018427387904) :
 C2 40 R C.p w (Adk (Aae f.y (s, z)) k R C f m w O) := by
 by_cases hl : z.ln = 0
 · rw [Akc _ s z hl]
   refine (Asv hM hl).mono ?_
   rintro e w' ⟨rfl, rfl⟩
   exact ⟨rfl, O, Ext.refl hhi, h.up (by omega), hM⟩
 · exact Au2 hz h hM hl hlo0 hlo1 hil hks hk hm hhi n0 n1
theorem Atd {z : Mvm} {p : Nat} (hM : Acq w O k X z) (hl : z.ln = 0) :
 C2 41 X p w fun e w' => e = .returned (.bool true) ∧ w = w' := by
 have h := Akt hM (by omega) (by omega)
 have ho : Abc z = true := by unfold Abc; simp [hl]
 rw [ho] at h
 have HO := hQd h
 clear h ho hM hl
 go_enter Tryz.func41, Tryz.ntmps41
 go_wp2_with fail
 refine HO.out.mono ?_
 rintro e w' ⟨rfl, rfl⟩
 go_wp2_with fail
 refine HO.out.mono ?_
 rintro e w' ⟨rfl, rfl⟩
 go_wp2_with fail
 go_ret
 exact ⟨rfl, rfl⟩
theorem Atb {z : Mvm} (hz : Afl z) (hP : PW w O B f s) (hM : Acq w O k X z) (hlo0 : 0 ≤ z.lost) (hlo1 : z.lost ≤ 1000000) (hil : s.it.length ≤ 1000000) (hks : ∀ r, (Aen s.it r).key.size ≤ maxLen) (hk : 10 ≤ k) (hhi : Hh O w) (n0 : 0 ≤ s.n) (n1 : s.n ≤ 4611686018427387904) :
 C2 41 X B.p w (RP (SX k (k + 24)) w O (.bool (Abc (Aae f.y (s, z)).2)) fun W G => PW W G B f (Aae f.y (s, z)).1 ∧ Acq W G k X (Aae f.y (s, z)).2) := by
 by_cases hl : z.ln = 0
 · rw [Akc _ s z hl]
   refine (Atd hM hl).mono ?_
   rintro e w' ⟨rfl, rfl⟩
   exact ⟨by rw [show Abc (s, z).2 = true from by unfold Abc; simp [hl]], O, Ext.refl hhi, hP, hM⟩
 · exact Avd hz hP hM hl hlo0 hlo1 hil hks hk hhi n0 n1
end
def MX (lo : List Mop) (s : AW) (k : Nat) (it : List It) : Prop := (∀ q ∈ lo, 0 ≤ q.z.lost ∧ q.z.lost ≤ (k : Int)) ∧ s.it = it
theorem MX.up {lo : List Mop} {s s' : AW} {k k' : Nat} {it : List It} (h : MX lo s k it) (hs : s'.it = s.it) (hk : k ≤ k') : MX lo s' k' it :=
 ⟨fun q hq => ⟨(h.1 q hq).1, by have := (h.1 q hq).2; omega⟩, hs.trans h.2⟩
theorem Apt (t q : Int) : (Ads t q).lost = 0 := by unfold Ads; split <;> rfl
theorem MX.snoc {lo : List Mop} {s : AW} {k : Nat} {it : List It} {X R : Nat} {t q : Int} (h : MX lo s k it) : MX (lo ++ [⟨X, R, Ads t q⟩]) s (k + 1) it :=
 ⟨fun x hx => by
   rcases List.mem_append.1 hx with g | g
   · exact ⟨(h.1 x g).1, by have := (h.1 x g).2; omega⟩
   · rw [List.mem_singleton.1 g]; dsimp only; rw [Apt]; omega, h.2⟩
theorem MX.step {lo : List Mop} {s : AW} {k i : Nat} {it : List It} {q q' : Mop} {y : Int} (h : MX lo s k it) (hq : lo[i]? = some q) (hz : q'.z = (Aae y (s, q.z)).2) : MX (lo.set i q') (Aae y (s, q.z)).1 (k + 1) it :=
 ⟨fun x hx => by
   rcases List.mem_or_eq_of_mem_set hx with g | g
   · exact ⟨(h.1 x g).1, by have := (h.1 x g).2; omega⟩
   · rw [g, hz]
     have h1 := h.1 q (List.mem_of_getElem? hq)
     have h2 := Aw0 y (s, q.z)
     dsimp only at h2
     omega, (Azg y (s, q.z)).it.trans h.2⟩
theorem Aw5 {it : List It} (h : ∀ x ∈ it, x.key.size ≤ 400) (r : Int) : (Aen it r).key.size ≤ maxLen := by
 have hz : (0 : Nat) ≤ maxLen := Nat.zero_le _
 have h4 : (400 : Nat) ≤ maxLen := by unfold maxLen; decide
 unfold Aen
 split
 · cases hg : it[(r - 1).toNat]? with
   | none => exact hz
   | some x => exact Nat.le_trans (h x (List.mem_of_getElem? hg)) h4
 · exact hz
end
section
open Go.RowKit Go.Shelf
section
variable {w : World} {O : Om} {B : Wb} {f : Cf} {s : AW} {k : Nat}
theorem Av3 (p : Spt) (hP : PW w O B f s) (hp : p.ok) (hhi : Hh O w) :
 Calls Tryz.prog 19 #[.pointer (some ⟨B.p, 0, none⟩), .agg #[.int .i64 p.b, .int .i64 p.q, .int .i64 p.s]] w fun e w' => e = .returned (.tuple #[.int .i64 (Aav (s.M p.tags) p.s), .int .u64 (s.M p.item)]) ∧ Below w.heap.size w w' := by
 have hit := hp.item
 have htg := hp.tags
 have hq2 := hp.q2
 have hs0 := hp.s0
 have hs1 := hp.s1
 have HI := hQd (fun W => Ao7 p.b p.q p.s W (by have := hp.b0; omega) (by have := hp.b1; omega) (by have := hp.q0; omega) (by omega) (by omega) (by omega))
 have HT := hQd (fun W => Ag0 p.b p.q W (by have := hp.b0; omega) (by have := hp.b1; omega) (by have := hp.q0; omega) (by omega))
 have HPI := hQd (fun (W : World) (h : Below w.heap.size w W) => Ao2 p.item (hP.below hhi h).ce (by omega) (by omega))
 have HPT := hQd (fun (W : World) (h : Below w.heap.size w W) => Ao2 p.tags (hP.below hhi h).ce (by omega) (by omega))
 have hbt := hP.bd p.tags
 have HTG := hQd (fun W => Akr (s.M p.tags) p.s W hbt.1 hbt.2 hs0 hs1)
 have hia2 : Ab4 p.b p.q p.s = p.item := rfl
 have hta2 : Aah p.b p.q = p.tags := rfl
 rw [hia2] at HI
 rw [hta2] at HT
 obtain ⟨ia, hia⟩ := exq p.item
 obtain ⟨ta, hta⟩ := exq p.tags
 rw [← hia] at HI HPI
 rw [← hta] at HT HPT HTG
 rw [← hia, ← hta]
 obtain ⟨b, hb⟩ := exq p.b
 obtain ⟨q, hq⟩ := exq p.q
 obtain ⟨sl, hs⟩ := exq p.s
 rw [← hb, ← hq, ← hs] at HI
 rw [← hb, ← hq] at HT
 rw [← hs] at HTG
 rw [← hb, ← hq, ← hs]
 have p0 := hP.wo.c0
 have pl := hP.wo.lt
 obtain ⟨M, hM⟩ := exq s.M
 rw [← hM] at HPT HTG HPI ⊢
 obtain ⟨tt, htt⟩ := exq (Aav (M ta) sl)
 rw [← htt] at HTG ⊢
 clear hP hhi hp hit htg hq2 hs0 hs1 hbt hia2 hta2 hia hta hb hq hs hM htt
 go_enter Tryz.func19, Tryz.ntmps19
 go_wp2_with fail
 obtain ⟨W, hW⟩ := exq (w.alloc (.cells #[.int .i64 b, .int .i64 q, .int .i64 sl] 56))
 have hB : Below w.heap.size w W := by rw [hW]; exact bal _ _
 have y0 : W.cell? ⟨w.heap.size, 0, none⟩ = some (.int .i64 b) := by rw [hW]; simp
 have y1 : W.cell? ⟨w.heap.size, 1, none⟩ = some (.int .i64 q) := by rw [hW]; simp
 have y2 : W.cell? ⟨w.heap.size, 2, none⟩ = some (.int .i64 sl) := by rw [hW]; simp
 have hl : w.heap.size < W.heap.size := by rw [hW]; simp
 have p1 := (hB.cell (p := ⟨B.p, 0, none⟩) pl).trans p0
 have pl1 : B.p < W.heap.size := Nat.lt_of_lt_of_le pl hB.size
 have HPX : Hid (∀ x, x = ta ∨ x = ia → ∀ e : Ade W, Calls Tryz.prog 12 #[.pointer (some ⟨B.c, 0, none⟩), .int .u64 x] (via W e) fun e_1 w' => e_1 = .returned (.int .u64 (M x)) ∧ via W e = w') := hQd (by
  rintro x (rfl | rfl) e
  · exact HPT.out (via W e) (hB.trans ((Abf W e).mono hB.size))
  · exact HPI.out (via W e) (hB.trans ((Abf W e).mono hB.size)))
 have HB := hQd hB
 rw [← hW]
 clear hW hB p0 pl HPI HPT
 refine Aba (by kernel_rfl) (by kernel_rfl) ?_
 repeat (go_big_quiet_step ((first
  | (go_at_call 27; exact Aqs (HT.out _))
  | (go_at_call 63; exact Aqs (HI.out _))
  | (go_at_call 62; exact Aqs (HTG.out _))
  | (go_at_call 12; exact Avm (HPX.out _ (by first | exact .inl rfl | exact .inr rfl) _)))))
 refine wpQuiet_nil ?_
 rintro _ ⟨e, rfl⟩
 go_wp2_with fail
 exact bodyPost_ret (v := .tuple #[.int .i64 tt, .int .u64 (M ia)]) (by simp [results, Tryz.results19, go_sem]) rfl ⟨rfl, HB.out.trans ((Abf W e).mono HB.out.size)⟩
end
end
section
open Go.RowKit Go.Shelf
def lmI : It := ⟨⟨#[97]⟩, ⟨#[]⟩, 0, 0, 0, 0⟩
def lmH : Int := Ab6 (⟨#[97]⟩ : ByteArray).data.toList
def lm0 : AW := Abi 2 513 (aw0 1)
def lmA (i : Nat) : AW := ⟨lm0.M, lm0.n, lm0.la, lm0.tk, lm0.ho, List.replicate i lmI, lm0.nt⟩
def lmF : Spt := ⟨1, 1, 2⟩
def lmT : Spt := ⟨2, 0, 0⟩
def lmP : Nat × (AW × Otm) := Aec Alb (fun z => Aan lmF 175 5 z.1 z.2) 9 (lmA 5, ⟨0, 0⟩)
def lmY : AW × Mvm := (lmP.2.1, Ads 513 1)
def lmR : Nat × (AW × Mvm) := Aec Abc (Aae 16) 99 lmY
theorem Art : lmF.ok := by constructor <;> decide
theorem Azl : lmT.ok := by constructor <;> decide
theorem lm_h : 0 ≤ lmH ∧ lmH < 18446744073709551616 ∧ Abu lmH = 175 ∧ Aar lmH 2 = 0 := by decide +kernel
theorem Azj : ∀ i : Nat, i < 16 → Atn (Ats 16 i lmY) := by decide +kernel
theorem Azk : Abc (Ats 16 16 lmY).2 = true ∧ ∀ i : Nat, i < 17 → 0 ≤ (Ats 16 i lmY).2.ln ∧ (Ats 16 i lmY).2.ln ≤ 11 := by decide +kernel
theorem lm_f : lmR.1 = 16 ∧ lmR.2.2.lost = 0 ∧ Aav (lmR.2.1.M lmT.tags) 0 = 175 ∧ lmR.2.1.M lmT.item = 5 ∧ Aav (lmR.2.1.M lmF.tags) 2 = 0 ∧ lmR.2.1.M lmF.item = 0 := by decide +kernel
theorem lm_n : (0 ≤ lmP.2.1.n ∧ lmP.2.1.n ≤ 1000) ∧ (0 ≤ lm0.n ∧ lm0.n ≤ 1000) ∧ Ael 1 2 = 513 := by decide +kernel
theorem PW.addIt {w w' : World} {O O' : Om} {B : Wb} {f : Cf} {s : AW} {x : It} (h : PW w O B f s) (e : Ext (fun t => t = 3) O w O' w') (ha : Ar w' O' 3 B.ip (s.it ++ [x])) : PW w' O' B f ⟨s.M, s.n, s.la, s.tk, s.ho, s.it ++ [x], s.nt⟩ :=
 ⟨(e.lo _ h.wo.lt).trans h.o, h.wo.wrote e.wr (fun k => absurd (show (1 : Nat) = 3 from by have := k.1; rwa [h.o] at this) (by decide)), h.ce.ext e (by decide) (by decide), ha, h.no.ext e (by decide)⟩
theorem Aif (w : World) : Calls Tryz.prog 9 #[] w fun e w' => e = .returned (.bool true) ∧ Below w.heap.size w w' := by
 have FF := hQd lm_f
 have NN := hQd lm_n
 have LH := hQd lm_h
 have HH := hQd (fun W => Av8 ⟨#[97]⟩ W (by unfold maxLen; decide))
 have hlm : Ab6 (⟨#[97]⟩ : ByteArray).data.toList = lmH := rfl
 rw [hlm] at HH
 clear hlm
 generalize lmH = h at LH HH
 go_enter Tryz.func9, Tryz.ntmps9
 go_wp2_with fail
 refine (Au6 1 w (by decide) (by decide)).mono ?_
 rintro e w1 ⟨B, O1, rfl, hP, hE⟩
 have P1 := hQd hP
 have E1 := hQd hE
 have p0 := hP.wo.c0
 have HW := hQd (fun W => Av2 1 2 W)
 rw [NN.out.2.2] at HW
 have HSt := hQd (Af3 2 513 (w := w1.drew) (P1.out.below E1.out.hi (Aaa w1)) (fun j hj => E1.out.hi j hj) (by decide) (by decide) (by decide) (by decide) (by decide) (by decide))
 have HD : Hid (Ext SW O1 w1 O1 w1.drew) := hQd (Ext.of_below E1.out.hi (Aaa w1))
 clear hP hE
 go_wp2_with fail
 go_region_held3 (fun w' => w'.cell? ⟨B.p, 0, none⟩ = some (.pointer (some ⟨B.c, 0, none⟩))) (go_keep)
  ((first
    | (go_at_call 13
       refine (HW.out _).mono ?_
       rintro e w' ⟨rfl, rfl⟩)
    | (go_at_call 14
       refine HSt.out.mono ?_
       rintro e w2 ⟨rfl, O2, e2, P2⟩
       have E2 := hQd (E1.out.ext (HD.out.trans e2))
       have p02 := P2.wo.c0
       have P2 : Hid (PW w2 O2 B ⟨1, 8, 3, 1, 16⟩ (lmA 0)) := hQd P2
       clear e2)))
 all_goals
  clear p0 p02
  go_upto_region 5 with fail
  go_wp2_with fail
  go_loopw [2] (fun iv wr => ∃ (i : Nat) (G : Om), iv = .int .i64 i ∧ i ≤ 5 ∧ PW wr G B ⟨1, 8, 3, 1, 16⟩ (lmA i) ∧ Env w G wr) (fun iv _ => 5 - (intOf iv).toNat)
  case atStart => exact ⟨0, O2, rfl, by omega, P2.out, E2.out⟩
  case round =>
   clear P2 E2 HSt HD P1 E1
   obtain ⟨i, G, rfl, hi, hP, hE⟩ := hrel
   have P5 := hQd hP
   have E5 := hQd hE
   clear hP hE
   by_cases hi5 : i < 5
   · have p1 := P5.out.wo.c1
     have HA := hQd (Av7 lmI P5.out.ar (by decide) (by show (List.replicate i lmI).length ≤ 1000000; rw [List.length_replicate]; omega) E5.out.hi)
     have hrs : (lmA i).it ++ [lmI] = List.replicate (i + 1) lmI := by show List.replicate i lmI ++ [lmI] = _; rw [List.replicate_succ']
     have HRS := hQd hrs
     clear hrs
     go_wp2_with fail
     refine HA.out.mono ?_
     rintro e w6 ⟨rfl, O6, e6, a6⟩
     have P6 := P5.out.addIt e6 a6
     rw [HRS.out] at P6
     have P6 : Hid (PW w6 O6 B ⟨1, 8, 3, 1, 16⟩ (lmA (i + 1))) := hQd P6
     have E6 := hQd (E5.out.ext e6)
     clear e6 a6 p1 HA
     go_wp2_with fail
     go_roundw
     case rel => exact ⟨i + 1, O6, by go_num, by omega, P6.out, E6.out⟩
     case measure => simp [intOf]; omega
   · have h5 : i = 5 := by omega
     subst h5
     have NA := hQd (show 0 ≤ (lmA 5).n ∧ (lmA 5).n + 9 ≤ 4611686018427387904 from ⟨NN.out.2.1.1, by have := NN.out.2.1.2; show lm0.n + 9 ≤ _; omega⟩)
     go_wp2_with fail
     refine (HH.out _).mono ?_
     rintro e w7 ⟨rfl, hw7⟩
     have hb7 : Below wr.heap.size wr w7 := by rw [← hw7]; exact bal _ _
     have P7 := hQd (P5.out.below E5.out.hi hb7)
     have E7 := hQd (E5.out.ext (Ext.of_below (S := SW) E5.out.hi hb7))
     obtain ⟨e8, t8⟩ := Aat (S := SW) E7.out.hi #[.int .i64 1, .int .i64 1, .int .i64 2] 56 w7.heap.size rfl
     have P8 := hQd (P7.out.below E7.out.hi (bal _ (.cells #[.int .i64 1, .int .i64 1, .int .i64 2] 56)))
     have E8 := hQd (E7.out.ext e8)
     have T8 := hQd t8
     clear hw7 hb7 e8 t8 P5 E5
     go_upto_region 11 with fail
     obtain ⟨W8, hW8⟩ := exq (w7.alloc (.cells #[.int .i64 1, .int .i64 1, .int .i64 2] 56))
     rw [← hW8] at P8 E8 T8 ⊢
     obtain ⟨N, hN⟩ := exq w7.heap.size
     rw [← hN] at T8 ⊢
     clear hW8 hN P7 E7
     have HTG := hQd (fun W => Av1 h W LH.out.1 LH.out.2.1)
     rw [LH.out.2.2.1] at HTG
     have t0 := T8.out.c 0 _ rfl
     have t1 := T8.out.c 1 _ rfl
     have t2 := T8.out.c 2 _ rfl
     have hbw : Below W8.heap.size W8 W8.drew := Aaa W8
     have P9 := hQd (P8.out.below E8.out.hi hbw)
     have E9 := hQd (E8.out.ext (Ext.of_below (S := SW) E8.out.hi hbw))
     have T9 := hQd (T8.out.below hbw)
     have HNP := hQd (Ao5 (k := 10) (p := lmF) (tg := 175) (rf := 5) (w := W8.drew) (O := G) Art E9.out.hi (by decide) (by decide) (by decide) (by decide))
     clear hbw
     go_region_held3 (fun w' => w'.cell? ⟨N, 0, none⟩ = some (.int .i64 1) ∧ w'.cell? ⟨N, 1, none⟩ = some (.int .i64 1) ∧ w'.cell? ⟨N, 2, none⟩ = some (.int .i64 2)) (go_keep)
      ((first
        | (go_at_call 52
           refine (HTG.out _).mono ?_
           rintro e w' ⟨rfl, rfl⟩)
        | (go_at_call 51
           refine HNP.out.mono ?_
           rintro e wa ⟨U, rfl, Oa, ea, ua⟩
           have PA := P9.out.ext ea (by decide) (by decide) (by decide) (by decide)
           have EA := hQd (E9.out.ext ea)
           have TA := hQd (T9.out.ext ea (by decide))
           have ta0 := TA.out.c 0 _ rfl
           have ta1 := TA.out.c 1 _ rfl
           have ta2 := TA.out.c 2 _ rfl
           have HR := hQd (Ayf (k := 10) U lmF 175 5 9 PA ua Art (by decide) EA.out.hi NA.out.1 NA.out.2 (by decide) (by decide) (by decide) (by decide))
           clear ea ua PA)
        | (go_at_call 21
           refine HR.out.mono ?_
           rintro e wb ⟨rfl, Ob', eb, PB⟩
           have EB := hQd (EA.out.ext eb)
           have TB := hQd (TA.out.ext eb (sx0 (by decide)))
           have PB : Hid (PW wb Ob' B ⟨1, 8, 3, 1, 16⟩ lmP.2.1) := hQd PB
           have tb0 := TB.out.c 0 _ rfl
           have tb1 := TB.out.c 1 _ rfl
           have tb2 := TB.out.c 2 _ rfl
           clear eb)))
     all_goals
      clear t0 t1 t2 ta0 ta1 ta2 tb0 tb1 tb2 P9 E9 T9 HNP HR EA TA P8 E8 T8
      go_wp2_with fail
      refine (HW.out _).mono ?_
      rintro e w' ⟨rfl, rfl⟩
      go_wp2_with fail
      refine (Ame (k := 10) 513 1 (by decide) (by decide) (by decide) (by decide) (by decide) EB.out.hi).mono ?_
      rintro e wc ⟨X, rfl, Oc, ec, xc⟩
      have PC := PB.out.ext ec (by decide) (by decide) (by decide) (by decide)
      have EC := hQd (EB.out.ext ec)
      have TC := hQd (TB.out.ext ec (by decide))
      have HMR := hQd (Ayj (k := 10) X (Ads 513 1) 99 16 16 Azj Azk.1 (fun i hi => Azk.2 i (by omega)) PC xc (by decide) EC.out.hi NN.out.1.1 (by have := NN.out.1.2; omega))
      clear ec xc PC
      go_wp2_with fail
      refine HMR.out.mono ?_
      rintro e wd ⟨rfl, Od, ed, PD, xd⟩
      have h16 : (Aec Abc (Aae 16) 99 (lmP.2.1, Ads 513 1)).1 = 16 := FF.out.1
      rw [h16]
      have ED := hQd (EC.out.ext ed)
      have TD := hQd (TC.out.ext ed (sx0 (by decide)))
      have PD : Hid (PW wd Od B ⟨1, 8, 3, 1, 16⟩ lmR.2.1) := hQd PD
      have XD : Hid (Acq wd Od 10 X lmR.2.2) := hQd xd
      have HBK := hQd (fun W => Al6 h 2 W LH.out.1 LH.out.2.1 (by decide) (by decide))
      rw [LH.out.2.2.2] at HBK
      clear ed xd h16 HMR EB TB PB EC TC
      go_wp2_with fail
      refine (HBK.out _).mono ?_
      rintro e w' ⟨rfl, rfl⟩
      obtain ⟨ee, te⟩ := Aat (S := SW) ED.out.hi #[.int .i64 2, .int .i64 0, .int .i64 0] 56 wd.heap.size rfl
      have hbe := bal wd (.cells #[.int .i64 2, .int .i64 0, .int .i64 0] 56)
      have PE := hQd (PD.out.below ED.out.hi hbe)
      have EE := hQd (ED.out.ext ee)
      have TE := hQd te
      have TF := hQd (TD.out.below hbe)
      have XE := hQd (XD.out.below ED.out.hi hbe)
      clear ee te hbe
      go_upto_region 15 with fail
      obtain ⟨we, hwe⟩ := exq (wd.alloc (.cells #[.int .i64 2, .int .i64 0, .int .i64 0] 56))
      rw [← hwe] at PE EE TE TF XE ⊢
      obtain ⟨M, hM⟩ := exq wd.heap.size
      rw [← hM] at TE ⊢
      clear hwe hM PD ED TD XD
      have te0 := TE.out.c 0 _ rfl
      have te1 := TE.out.c 1 _ rfl
      have te2 := TE.out.c 2 _ rfl
      have HS1 := Av3 (p := lmT) PE.out Azl EE.out.hi
      have hs0 : lmT.s = 0 := rfl
      rw [hs0, FF.out.2.2.1, FF.out.2.2.2.1] at HS1
      have HS1 := hQd HS1
      clear hs0
      go_wp2_with fail
      refine HS1.out.mono ?_
      rintro e wf ⟨rfl, hbf⟩
      have PF := hQd (PE.out.below EE.out.hi hbf)
      have EF := hQd (EE.out.ext (Ext.of_below (S := SW) EE.out.hi hbf))
      have TG := hQd (TF.out.below hbf)
      have XF := hQd (XE.out.below EE.out.hi hbf)
      have tf0 := TG.out.c 0 _ rfl
      have tf1 := TG.out.c 1 _ rfl
      have tf2 := TG.out.c 2 _ rfl
      have HS2 := Av3 (p := lmF) PF.out Art EF.out.hi
      have hs2 : lmF.s = 2 := rfl
      rw [hs2, FF.out.2.2.2.2.1, FF.out.2.2.2.2.2] at HS2
      have HS2 := hQd HS2
      clear hs2 hbf te0 te1 te2 HS1 PE EE TE TF XE
      go_wp2_with fail
      refine HS2.out.mono ?_
      rintro e wg ⟨rfl, hbg⟩
      have EG := hQd (EF.out.ext (Ext.of_below (S := SW) EF.out.hi hbg))
      have HL := Ao6 (XF.out.below EF.out.hi hbg)
      rw [FF.out.2.1] at HL
      have HL := hQd HL
      clear hbg tf0 tf1 tf2 HS2 PF EF TG XF
      go_wp2_with fail
      refine HL.out.mono ?_
      rintro e w' ⟨rfl, rfl⟩
      go_wp2_with fail
      refine (HTG.out _).mono ?_
      rintro e w' ⟨rfl, rfl⟩
      go_wp2_with fail
      go_ret
      exact ⟨rfl, EG.out.bel⟩
end
section
open Go.RowKit Go.Shelf
theorem Aw6 : (Tryz.prog.info? 95).map (fun i => (i.zero, i.size, i.bytes)) = some (some (.agg #[.pointer none, .pointer none]), 2, 16) := by kernel_rfl
theorem w_MovesPlay (v : Value) (F : Fst) (vl : Value) (l : List Ayt) (w : World) (g : Bax F) (c : Ant w v F) (gl : ∀ q ∈ l, Apf q) (hA : Arr w vl l.length 6 (Aaw Aln l)) :
 Calls Tryz.prog 6 #[v, vl] w fun e w' => e = .returned (.bool true) ∧ Below w.heap.size w w' := by
 obtain ⟨⟨fb, fg, ft, fq, fy⟩, gr, it, pu, st, ti⟩ := F
 obtain ⟨vi, vp, vs, rfl, a1, a2, a3⟩ := c.ex
 obtain ⟨ai, ci, rfl, hci, hmi⟩ := a1.shape
 obtain ⟨ap, cp, rfl, hcp, hmp⟩ := a2.shape
 obtain ⟨as', cs, rfl, hcs, hms⟩ := a3.shape
 obtain ⟨al, cl, rfl, hcl, hml⟩ := hA.shape
 unfold Aw8 at c ⊢
 dsimp only at c a1 a2 a3 ⊢
 have HC := hQd c
 have HA := hQd (aN a1 (aN a2 a3))
 have HG := hQd g
 have HL := hQd hA
 have HGL := hQd gl
 clear c a1 a2 a3 g hA gl
 obtain ⟨i0, hi, hz0, hz1, hz2⟩ := info_parts Aw6
 have HI := hQd (aN hi (aN hz0 (aN hz1 hz2)))
 clear hi hz0 hz1 hz2
 have hml9 : l.length ≤ 9223372036854775807 := by unfold maxLen at hml; omega
 go_enter Tryz.func6, Tryz.ntmps6
 go_wp2_with fail
 obtain ⟨W1, hW1⟩ := exq (w.alloc (.cells #[.int .i64 fb, .int .i64 fg, .int .i64 ft, .int .i64 fq, .int .i64 fy, .bool gr, .slice ai it.length ci, .slice ap pu.length cp, .slice as' st.length cs, .int .i64 ti] 81))
 have B1 : Hid (Below w.heap.size w W1) := hQd (by rw [hW1]; exact bal _ _)
 have n1 : w.heap.size < W1.heap.size := by rw [hW1]; simp
 have y0 : W1.cell? ⟨w.heap.size, 0, none⟩ = some (.int .i64 fb) := by rw [hW1]; simp
 have y1 : W1.cell? ⟨w.heap.size, 1, none⟩ = some (.int .i64 fg) := by rw [hW1]; simp
 have y2 : W1.cell? ⟨w.heap.size, 2, none⟩ = some (.int .i64 ft) := by rw [hW1]; simp
 have y3 : W1.cell? ⟨w.heap.size, 3, none⟩ = some (.int .i64 fq) := by rw [hW1]; simp
 have y4 : W1.cell? ⟨w.heap.size, 4, none⟩ = some (.int .i64 fy) := by rw [hW1]; simp
 have y5 : W1.cell? ⟨w.heap.size, 5, none⟩ = some (.bool gr) := by rw [hW1]; simp
 have y6 : W1.cell? ⟨w.heap.size, 6, none⟩ = some (.slice ai it.length ci) := by rw [hW1]; simp
 have y7 : W1.cell? ⟨w.heap.size, 7, none⟩ = some (.slice ap pu.length cp) := by rw [hW1]; simp
 have y8 : W1.cell? ⟨w.heap.size, 8, none⟩ = some (.slice as' st.length cs) := by rw [hW1]; simp
 have y9 : W1.cell? ⟨w.heap.size, 9, none⟩ = some (.int .i64 ti) := by rw [hW1]; simp
 rw [← hW1]
 clear hW1
 refine (Ayk (HC.out.below B1.out)).mono ?_
 rintro e w3 ⟨b, rfl, hb3, hbd⟩
 have B3 := hQd (B1.out.trans (hb3.mono B1.out.size))
 have HBD := hQd hbd
 cases b with
 | true =>
   clear hb3 hbd y0 y1 y2 y3 y4 y5 y6 y7 y8 y9
   go_wp2_with fail
   refine (Aif w3).mono ?_
   rintro e w4 ⟨rfl, hb4⟩
   go_wp2_with fail
   go_ret
   exact ⟨rfl, B3.out.trans (hb4.mono B3.out.size)⟩
 | false =>
   by_cases hl3 : 400 < l.length
   · have d3 : decide ((400 : Int) < (l.length : Int)) = true := by simp; omega
     clear hb3 hbd y0 y1 y2 y3 y4 y5 y6 y7 y8 y9
     go_wp2_with fail
     refine (Aif w3).mono ?_
     rintro e w4 ⟨rfl, hb4⟩
     go_wp2_with fail
     go_ret
     exact ⟨rfl, B3.out.trans (hb4.mono B3.out.size)⟩
   have d3 : decide ((400 : Int) < (l.length : Int)) = false := by simp; omega
   have k := fun j => hb3.cell (p := ⟨w.heap.size, j, none⟩) n1
   have z0 := (k 0).trans y0
   have z1 := (k 1).trans y1
   have z2 := (k 2).trans y2
   have z3 := (k 3).trans y3
   have z4 := (k 4).trans y4
   have z5 := (k 5).trans y5
   have z6 := (k 6).trans y6
   have z7 := (k 7).trans y7
   have z8 := (k 8).trans y8
   have z9 := (k 9).trans y9
   clear hb3 hbd k y0 y1 y2 y3 y4 y5 y6 y7 y8 y9
   have hbb := HBD.out (by first | rfl | trivial)
   have hBg := Ayl ⟨⟨fb, fg, ft, fq, fy⟩, gr, it, pu, st, ti⟩ (.slice ai it.length ci) (.slice ap pu.length cp) (.slice as' st.length cs) w3 ⟨HA.out.1.below B3.out, HA.out.2.1.below B3.out, HA.out.2.2.below B3.out, hbb.1, hbb.2.1, hbb.2.2.1, hbb.2.2.2, HG.out.pub, HG.out.stb, HG.out.ti0, HG.out.ti1⟩
   have hit40 := hbb.1
   have HKS := hQd (Aw5 hbb.2.2.2)
   unfold Aw8 at hBg
   dsimp only at hBg
   have HBg := hQd hBg
   clear hBg hbb
   go_wp2_with fail
   refine HBg.out.mono ?_
   rintro e w4 ⟨B, C, rfl, G, e4, s, m, pr, n0, n1, m1, hit, hnt⟩
   have E4 := Ap0 B3.out e4
   obtain ⟨f, hf⟩ : ∃ f : Cf, f = Avy ⟨fb, fg, ft, fq, fy⟩ := ⟨_, rfl⟩
   rw [← hf] at pr
   clear HBg e4 hf z0 z1 z2 z3 z4 z5 z6 z7 z8 z9
   obtain ⟨W5, hW5⟩ := exq (w4.alloc (.cells #[.pointer (some ⟨B.p, 0, none⟩), .pointer (some ⟨C.p, 0, none⟩)] 85))
   have b5 : Below w4.heap.size w4 W5 := by rw [hW5]; exact bal _ _
   have y0 : W5.cell? ⟨w4.heap.size, 0, none⟩ = some (.pointer (some ⟨B.p, 0, none⟩)) := by rw [hW5]; simp
   have y1 : W5.cell? ⟨w4.heap.size, 1, none⟩ = some (.pointer (some ⟨C.p, 0, none⟩)) := by rw [hW5]; simp
   have yl : w4.heap.size < W5.heap.size := by rw [hW5]; simp
   have H0 : QI MK 95 w B C f w4.heap.size 0 W5 (.slice none 0 0) G s m [] := ⟨E4.ext (S := fun _ => True) (Ext.of_below E4.hi b5), pr.below E4.hi b5, n0, by omega, by omega, by rw [hit]; exact hit40, by rw [hnt]; exact Nat.le_refl _, (fun n h => by rw [hnt] at h; cases h), Row.nil _ _ _ _ _, Nat.le_refl _, (fun j q h => by cases h), yl, Acn E4.hi (Nat.le_refl _), y0, y1⟩
   have HH0 := hQd H0
   have HM0 : Hid (MX [] s 0 it) := hQd ⟨fun q h => (by cases h), hit⟩
   clear H0 b5 pr E4 hit hnt hit40 n0 n1 m1
   go_wp2_with fail
   rw [← hW5]
   clear hW5
   obtain ⟨N, hN⟩ := exq w4.heap.size
   rw [← hN] at HH0 y0 y1 yl ⊢
   clear hN y0 y1 yl
   go_loopw [6, 7] (fun vo i wr => ∃ (k : Nat) (G : Om) (s : AW) (m : Nat) (lo : List Mop), k ≤ l.length ∧ i = .int .i64 k ∧ QI MK 95 w B C f N k wr vo G s m lo ∧ MX lo s k it) (fun _ i _ => l.length - (intOf i).toNat)
   case atStart => exact ⟨0, G, s, m, [], Nat.zero_le _, rfl, HH0.out, HM0.out⟩
   case round =>
    clear HH0 HM0
    obtain ⟨k, G, s, m, lo, hk, rfl, hr, hmx⟩ := hrel
    have HR := hQd hr
    have HMX := hQd hmx
    clear hmx
    obtain ⟨ao, cp2, rfl, hcp2, hmp2⟩ := (Arr.of_own hr.row.own).shape
    have hmo : lo.length ≤ 9223372036854775807 := by unfold maxLen at hmp2; omega
    have p0 := hr.p0
    have p1 := hr.p1
    have hlo : lo.length ≤ 400 := by have := hr.len; omega
    have hk400 : k ≤ 400 := by omega
    obtain ⟨L, hL⟩ := exq lo.length
    rw [← hL] at HR hcp2 hmo ⊢
    have HLL := hQd hL
    clear hr hL
    by_cases hk2 : k < l.length
    · obtain ⟨b', o', c', he, -, -, hlt, hx⟩ := HL.out.open (by omega) (by omega)
      cases he
      obtain ⟨x, hxe⟩ := exq (l[k])
      have hr : ∀ j, j < 6 → (Aaw Aln l)[k * 6 + j]? = (Aln x)[j]? := fun j hj => by rw [hxe]; exact Aa0 (f := Aln) (fun _ => rfl) l k j hk2 hj
      have hv : ∀ j u, j < 6 → (Aln x)[j]? = some u → wr.cell? ⟨b', o' + k * 6 + j, none⟩ = some u := fun j u hj hu => by
       have := (HR.out.env.bel.cell (p := ⟨b', o' + (k * 6 + j), none⟩) hlt).trans (hx _ _ ((hr j hj).trans hu))
       rwa [Nat.add_assoc]
      have v0 := hv 0 _ (by omega) rfl
      have v1 := hv 1 _ (by omega) rfl
      have v2 := hv 2 _ (by omega) rfl
      have v3 := hv 3 _ (by omega) rfl
      have v4 := hv 4 _ (by omega) rfl
      have v5 := hv 5 _ (by omega) rfl
      rw [Nat.add_zero] at v0
      have hok := HGL.out x (by rw [hxe]; exact List.getElem_mem _)
      obtain ⟨kd, wh, wd, bk, sa, sv⟩ := x
      obtain ⟨k0, k1, h0, h1, t0, t1, g0, g1, a0, a1, u0, u1⟩ := hok
      dsimp only at v0 v1 v2 v3 v4 v5 k0 k1 h0 h1 t0 t1 g0 g1 a0 a1 u0 u1
      have HBT := hQd (aN t0 (aN t1 (aN g0 g1)))
      clear t0 t1 g0 g1
      have hck : kd % 30 < 30 := Int.emod_lt_of_pos _ (by decide)
      have hck0 : 0 ≤ kd % 30 := Int.emod_nonneg _ (by decide)
      clear hxe hx hr hv
      obtain ⟨W2, hW2⟩ := exq (wr.alloc (.cells #[.int .u8 kd, .int .u8 wh, .int .u64 wd, .int .i64 bk, .int .u64 sa, .int .u64 sv] 91))
      have b2 : Below wr.heap.size wr W2 := by rw [hW2]; exact bal _ _
      have HR2 := hQd (HR.out.below b2)
      have q0 : W2.cell? ⟨wr.heap.size, 0, none⟩ = some (.int .u8 kd) := by rw [hW2]; simp
      have q1 : W2.cell? ⟨wr.heap.size, 1, none⟩ = some (.int .u8 wh) := by rw [hW2]; simp
      have q2 : W2.cell? ⟨wr.heap.size, 2, none⟩ = some (.int .u64 wd) := by rw [hW2]; simp
      have q3 : W2.cell? ⟨wr.heap.size, 3, none⟩ = some (.int .i64 bk) := by rw [hW2]; simp
      have q4 : W2.cell? ⟨wr.heap.size, 4, none⟩ = some (.int .u64 sa) := by rw [hW2]; simp
      have q5 : W2.cell? ⟨wr.heap.size, 5, none⟩ = some (.int .u64 sv) := by rw [hW2]; simp
      have ql : wr.heap.size < W2.heap.size := by rw [hW2]; simp
      have qo : Hid (G wr.heap.size = 0) := hQd (Acn HR.out.env.hi (Nat.le_refl _))
      by_cases h2 : kd % 30 = 0
      · have d2 : (kd % 30 == 0) = true := by simp [h2]
        clear h2
        go_upto_region 11 with fail
        rw [← hW2]
        clear hW2 v0 v1 v2 v3 v4 v5
        have S0 := hQd (show OpS W2 G (11 + 43 * lo.length) none W2.drew G from ⟨Ext.of_below HR2.out.env.hi (Aaa W2), fun n hn => by cases hn⟩)
        obtain ⟨G1, s1, -⟩ := S0.out.alloc 95 (by omega)
        have S1 := hQd (show OpS W2 G (11 + 43 * lo.length) (some W2.heap.size) _ G1 from s1)
        clear s1
        have HBA := hQd (aN HBT.out.1 (aN (show wd < 18446744073709551616 by have := HBT.out.2.1; omega) (aN HBT.out.2.2.1 HBT.out.2.2.2)))
        have hkk : 10 < 11 + 43 * lo.length := by omega
        obtain ⟨kk, hkd⟩ := exq (11 + 43 * lo.length)
        have HKD := hQd hkd
        rw [← hkd] at S0 S1 hkk
        clear hkd
        have hz5 := Aub wd bk
        have HZ5 := hQd hz5
        clear hz5
        have hdz : W2.drew.heap.size = W2.heap.size := rfl
        go_cut [10] (fun vp wx => Ayr W2 G kk (Ads wd bk) vp wx)
        case first =>
         go_region_held3 (fun w' => w'.cell? ⟨wr.heap.size, 2, none⟩ = some (.int .u64 wd) ∧ w'.cell? ⟨wr.heap.size, 3, none⟩ = some (.int .i64 bk)) ((first | assumption | (refine ⟨Ad4 ql6 c62 ?_, Ad4 ql6 c63 ?_⟩ <;> ((repeat (first | (with_reducible exact Below.refl _ _) | (with_reducible refine Below.drew ?_) | (with_reducible refine Below.alloc ?_ (by first | exact Nat.le_refl _ | simp; done | (simp; omega)) _))); done)) | (refine ⟨Ad4 ql5 c52 ?_, Ad4 ql5 c53 ?_⟩ <;> ((repeat (first | (with_reducible exact Below.refl _ _) | (with_reducible refine Below.drew ?_) | (with_reducible refine Below.alloc ?_ (by first | exact Nat.le_refl _ | simp; done | (simp; omega)) _))); done)) | (refine ⟨Ad4 ql q2 ?_, Ad4 ql q3 ?_⟩ <;> ((repeat (first | (with_reducible exact Below.refl _ _) | (with_reducible refine Below.drew ?_) | (with_reducible refine Below.alloc ?_ (by first | exact Nat.le_refl _ | simp; done | (simp; omega)) _))); done)) | (refine ⟨(Aay (.inl ?_)).trans ((Aay (.inl ?_)).trans c62), (Aay (.inl ?_)).trans ((Aay (.inl ?_)).trans c63)⟩ <;> omega)))
          ((first
            | (go_at_call 20
               first
                | refine (OpS.prog wd bk HBA.out.1 HBA.out.2.1 HBA.out.2.2.1 HBA.out.2.2.2 hkk S0.out).mono ?_
                | refine (OpS.prog wd bk HBA.out.1 HBA.out.2.1 HBA.out.2.2.1 HBA.out.2.2.2 hkk S1.out).mono ?_
               rintro e w5 ⟨X, G5, rfl, s5, x5, -⟩
               have c52 := (s5.e.nob (by omega) ql qo.out 2).trans q2
               have c53 := (s5.e.nob (by omega) ql qo.out 3).trans q3
               have ql5 := Nat.lt_of_lt_of_le ql s5.e.size
               have S5 := hQd s5
               have X5 := hQd x5
               clear s5 x5)
            | (go_at_call 37
               first
                | refine (OpS.doc wd bk HBA.out.1 HBA.out.2.1 HBA.out.2.2.1 HBA.out.2.2.2 hkk S0.out).mono ?_
                | refine (OpS.doc wd bk HBA.out.1 HBA.out.2.1 HBA.out.2.2.1 HBA.out.2.2.2 hkk S1.out).mono ?_
               rintro e w5 ⟨R, G5, rfl, s5, r5, -⟩
               have c52 := (s5.e.nob (by omega) ql qo.out 2).trans q2
               have c53 := (s5.e.nob (by omega) ql qo.out 3).trans q3
               have ql5 := Nat.lt_of_lt_of_le ql s5.e.size
               have S5 := hQd s5
               have R5 := hQd r5
               clear s5 r5)
            | (go_at_call 20
               first
                | (refine (OpS.prog wd bk HBA.out.1 HBA.out.2.1 HBA.out.2.2.1 HBA.out.2.2.2 hkk S5.out).mono ?_
                   rintro e w6 ⟨X, G6, rfl, s6, x6, k6⟩
                   have r6 := k6 _ _ R5.out)
                | (obtain ⟨Ga, sa, -, ra⟩ := S5.out.alloc 95 hkk
                   refine (OpS.prog wd bk HBA.out.1 HBA.out.2.1 HBA.out.2.2.1 HBA.out.2.2.2 hkk sa).mono ?_
                   rintro e w6 ⟨X, G6, rfl, s6, x6, k6⟩
                   have r6 := k6 _ _ (ra _ _ R5.out)
                   clear sa ra)
               have c62 := (s6.e.nob (by omega) ql qo.out 2).trans q2
               have c63 := (s6.e.nob (by omega) ql qo.out 3).trans q3
               have ql6 := Nat.lt_of_lt_of_le ql s6.e.size
               try (have o6 := s6.ob _ rfl
                    have o60 := o6.c 0 _ rfl
                    have o61 := o6.c 1 _ rfl
                    have o6f := o6.f 0
                    have o6g := o6.f 1
                    have o6l := o6.lt
                    clear o6)
               have S6 := hQd s6
               have X6 := hQd x6
               have R6 := hQd r6
               clear s6 x6 r6 k6)
            | (go_at_call 37
               first
                | (refine (OpS.doc wd bk HBA.out.1 HBA.out.2.1 HBA.out.2.2.1 HBA.out.2.2.2 hkk S5.out).mono ?_
                   rintro e w6 ⟨R, G6, rfl, s6, r6, k6⟩
                   have x6 := k6 _ _ X5.out)
                | (obtain ⟨Ga, sa, xa, -⟩ := S5.out.alloc 95 hkk
                   refine (OpS.doc wd bk HBA.out.1 HBA.out.2.1 HBA.out.2.2.1 HBA.out.2.2.2 hkk sa).mono ?_
                   rintro e w6 ⟨R, G6, rfl, s6, r6, k6⟩
                   have x6 := k6 _ _ (xa _ _ X5.out)
                   clear sa xa)
               have c62 := (s6.e.nob (by omega) ql qo.out 2).trans q2
               have c63 := (s6.e.nob (by omega) ql qo.out 3).trans q3
               have ql6 := Nat.lt_of_lt_of_le ql s6.e.size
               try (have o6 := s6.ob _ rfl
                    have o60 := o6.c 0 _ rfl
                    have o61 := o6.c 1 _ rfl
                    have o6f := o6.f 0
                    have o6g := o6.f 1
                    have o6l := o6.lt
                    clear o6)
               have S6 := hQd s6
               have X6 := hQd x6
               have R6 := hQd r6
               clear s6 x6 r6 k6)))
         all_goals
          go_wp2_with fail
          go_meet
          first
           | exact S6.out.new _ X6.out R6.out HZ5.out hkk
           | exact S6.out.old X6.out R6.out HZ5.out hkk
        case rest =>
        obtain ⟨n8, X, R, G6, rfl, o0, o1, ol, e6, hqi⟩ := hcut
        rw [HKD.out] at e6 hqi
        have HR7 := hQd (HR2.out.mk2 (e6.mono (T := fun t => t = 10 ∨ (opb MK.wd lo.length ≤ t ∧ t < opb MK.wd lo.length + MK.wd)) fun t _ h => by
         have hb : opb MK.wd lo.length = 11 + 43 * lo.length := rfl
         have hw : MK.wd = 43 := rfl
         rw [hb, hw]
         exact h))
        have HQ7 := hQd hqi
        clear hqi e6 p0 p1 q0 q1 q2 q3 q4 q5 ql S0 S1 HR2 HR
        go_wp2_with fail
        refine (Aoq HQ7.out HR7.out.env.hi).mono ?_
        rintro e w8 ⟨rfl, hb8⟩
        have s0 := (hb8.cell (p := ⟨n8, 0, none⟩) ol).trans o0
        have s1 := (hb8.cell (p := ⟨n8, 1, none⟩) ol).trans o1
        have HR8 := hQd (HR7.out.below hb8)
        have HQ8 := hQd (HQ7.out.below HR7.out.env.hi hb8)
        have HQ9 : Hid (MK.A w8 G6 (opb MK.wd lo.length) (⟨X, R, (Ads wd bk)⟩ : Mop)) := hQd (show Af7 w8 G6 (11 + 43 * lo.length) ⟨X, R, (Ads wd bk)⟩ from HQ8.out)
        clear hb8 o0 o1 HR7 HQ7 HQ8
        go_upto_region 14 with fail
        go_wp2_with (at_builtin; refine Aca w8 rfl _ _ 87 rfl 95 i0 (.agg #[.pointer none, .pointer none]) 2 16 Tryz.underlying87 HI.out.1 HI.out.2.1 HI.out.2.2.1 HI.out.2.2.2 rfl (by decide) (by decide) G6 9 (by decide) HR8.out.env.hi (.slice ao L cp2) lo.length (Aaw (opc MK) lo) rfl HR8.out.row (opc MK ⟨X, R, (Ads wd bk)⟩) _ rfl rfl (by simp [Value.oneCell', opc]) (by omega) ?_; intro gg cap Wz Gz ez rz; have HRn := hQd (QI.snoc HR8.out HQ9.out ez rz); have p0 := HRn.out.p0; have p1 := HRn.out.p1; clear ez rz)
        refine (Ail HRn.out.pr HRn.out.env.hi (by have := HRn.out.m1; omega)).mono ?_
        rintro e w9 ⟨rfl, hb9⟩
        have HR9 := hQd (HRn.out.below hb9)
        clear hb9 p0 p1 HRn
        go_wp2_with fail
        go_roundw
        case rel => exact ⟨k + 1, _, _, _, _, by omega, by go_num, HR9.out, HMX.out.snoc⟩
        case measure => simp [intOf]; omega
      · have d2 : (kd % 30 == 0) = false := by simp [h2]
        by_cases h3 : kd % 30 = 1
        · have d3 : (kd % 30 == 1) = true := by simp [h3]
          clear h2 h3
          go_upto_region 16 with fail
          rw [← hW2]
          clear hW2
          have p0 := HR2.out.p0
          have p1 := HR2.out.p1
          clear v0 v1 v2 v3 v4 v5
          go_wp2_with fail
          refine (Ad7 sa sv HR2.out.pr HR2.out.env.hi (by have := HR2.out.m1; omega) a0 (by omega) u0 (by omega) HR2.out.n0 (by have := HR2.out.n1; omega)).mono ?_
          rintro e w5 ⟨rfl, G5, e5, P5⟩
          have HRn := hQd (HR2.out.sp e5 P5 (by show 0 ≤ s.n + 1; have := HR2.out.n0; omega) (by show s.n + 1 ≤ _; have := HR2.out.n1; omega) (by have := HR2.out.m1; omega) (by have := HR2.out.hit; show s.it.length ≤ _; omega) (by have := HR2.out.hnt; show s.nt.length ≤ _; omega) HR2.out.hnk)
          clear e5 P5 p0 p1 q0 q1 q2 q3 q4 q5 HR2 HR
          have p0 := HRn.out.p0
          have p1 := HRn.out.p1
          go_wp2_with fail
          refine (Ail HRn.out.pr HRn.out.env.hi (by have := HRn.out.m1; omega)).mono ?_
          rintro e w9 ⟨rfl, hb9⟩
          have HR9 := hQd (HRn.out.below hb9)
          clear hb9 p0 p1 HRn
          go_wp2_with fail
          go_roundw
          case rel => exact ⟨k + 1, _, _, _, _, by omega, by go_num, HR9.out, HMX.out.up rfl (Nat.le_succ k)⟩
          case measure => simp [intOf]; omega
        · have d3 : (kd % 30 == 1) = false := by simp [h3]
          · clear h2 h3
            by_cases hl0 : L = 0
            · have t0 : decide ((0 : Int) < (L : Int)) = false := decide_eq_false (by omega)
              have t0' : decide (0 < L) = false := decide_eq_false (by omega)
              clear hl0
              go_upto_region 22 with fail
              rw [← hW2]
              clear hW2 v0 v1 v2 v3 v4 v5 q0 q1 q2 q3 q4 q5 p0 p1
              have HRn := hQd (HR2.out.up (Nat.le_succ k))
              have p0 := HRn.out.p0
              have p1 := HRn.out.p1
              clear HR2 HR
              go_wp2_with fail
              refine (Ail HRn.out.pr HRn.out.env.hi (by have := HRn.out.m1; omega)).mono ?_
              rintro e w9 ⟨rfl, hb9⟩
              have HR9 := hQd (HRn.out.below hb9)
              clear hb9 p0 p1 HRn
              go_wp2_with fail
              go_roundw
              case rel => exact ⟨k + 1, _, _, _, _, by omega, by go_num, HR9.out, HMX.out.up rfl (Nat.le_succ k)⟩
              case measure => simp [intOf]; omega
            · have t0 : decide ((0 : Int) < (L : Int)) = true := decide_eq_true (by omega)
              have t0' : decide (0 < L) = true := decide_eq_true (by omega)
              have tz : ((L : Int) == 0) = false := by rw [beq_eq_false_iff_ne]; omega
              obtain ⟨i, hwi⟩ : ∃ i : Nat, wh % (L : Int) = i := ⟨(wh % (L : Int)).toNat, by have := Int.emod_nonneg wh (show (L : Int) ≠ 0 by omega); omega⟩
              have hiL : i < L := by have := Int.emod_lt_of_pos wh (show (0 : Int) < L by omega); omega
              have hil : i < lo.length := by rw [← HLL.out]; exact hiL
              obtain ⟨q, hqi⟩ : ∃ q, lo[i]? = some q := ⟨_, List.getElem?_eq_getElem hil⟩
              have hqe := (List.getElem?_eq_some_iff.1 hqi).2
              obtain ⟨gb, go', gc, he, -, -, glt, gx⟩ := (Arr.of_own HR2.out.row.own).open (show 0 < lo.length by omega) (by omega)
              have hao := (Value.slice.inj he).1
              subst hao
              clear he
              have g0 : W2.cell? ⟨gb, go' + i * 2, none⟩ = some (.pointer (some ⟨q.x, 0, none⟩)) := gx _ _ ((Aa0 (Arf MK) lo i 0 hil (by omega)).trans (by rw [hqe]; rfl))
              have g1 : W2.cell? ⟨gb, go' + i * 2 + 1, none⟩ = some (.pointer (some ⟨q.R, 0, none⟩)) := gx _ _ ((Aa0 (Arf MK) lo i 1 hil (by omega)).trans (by rw [hqe]; rfl))
              have HQI := hQd hqi
              obtain ⟨x, hx⟩ := exq q.x
              obtain ⟨R, hR⟩ := exq q.R
              rw [← hx] at g0
              rw [← hR] at g1
              have HX := hQd (aN hx hR)
              clear hl0 gx hqi hqe hx hR hil
              go_upto_region 18 with fail
              rw [← hW2]
              clear hW2 v0 v1 v2 v3 v4 v5 p0 p1
              go_upto_region 19 with fail
              obtain ⟨W3, hW3⟩ := exq (W2.alloc (.cells #[.pointer (some ⟨x, 0, none⟩), .pointer (some ⟨R, 0, none⟩)] 95))
              have b3 : Below W2.heap.size W2 W3 := by rw [hW3]; exact bal _ _
              have s0 : W3.cell? ⟨W2.heap.size, 0, none⟩ = some (.pointer (some ⟨x, 0, none⟩)) := by rw [hW3]; simp
              have s1 : W3.cell? ⟨W2.heap.size, 1, none⟩ = some (.pointer (some ⟨R, 0, none⟩)) := by rw [hW3]; simp
              have sl : W2.heap.size < W3.heap.size := by rw [hW3]; simp
              have so : Hid (G W2.heap.size = 0) := hQd (Acn HR2.out.env.hi (Nat.le_refl _))
              have HR3 := hQd (HR2.out.below b3)
              have HQ3 : Af7 W3 G (11 + 43 * i) q := HR3.out.ops i q HQI.out
              rw [← hW3]
              clear hW3 q0 q1 q2 q3 q4 q5 b3 g0 g1 HR2 HR
              obtain ⟨Z, hZ⟩ := exq (Aae f.y (s, q.z))
              have hr3 : Acg W3 G (36 + 43 * i) q.R q.z := by have := HQ3.r; rwa [show 11 + 43 * i + 25 = 36 + 43 * i by omega] at this
              have hqm := HMX.out.1 q (List.mem_of_getElem? HQI.out)
              have hks : ∀ r, (Aen s.it r).key.size ≤ maxLen := by rw [HMX.out.2]; exact HKS.out
              have hil9 : s.it.length ≤ 1000000 := by have := HR3.out.hit; omega
              have HT := Asl HQ3.ok HR3.out.pr.r hr3 hqm.1 (by omega) hil9 hks (by omega) (by have := HR3.out.m1; omega) HR3.out.env.hi HR3.out.n0 (by have := HR3.out.n1; omega)
              rw [← hZ, ← HX.out.2] at HT
              unfold Adk at HT
              have HT := hQd HT
              have HQ3 := hQd HQ3
              have p0 := HR3.out.p0
              have p1 := HR3.out.p1
              have HZ := hQd hZ
              clear hZ hr3
              go_wp2_with fail
              refine HT.out.mono ?_
              rintro e w5 ⟨rfl, G5, e5, P5, x5⟩
              have n0K : ¬ SD (36 + 43 * i) (36 + 43 * i + 17) 0 := fun h => by unfold SD SR at h; omega
              have hR5 := x5
              obtain ⟨_, _, _, _, _, _, _, _, _, _, hob, hl2, -⟩ := hR5.ex
              have hlc := hob.c 0 _ rfl
              rw [hl2] at hlc
              clear hl2
              have hll := hob.lt
              obtain ⟨ln', hln⟩ : ∃ ln' : Int, ln' = Z.2.ln := ⟨_, rfl⟩
              rw [← hln] at hlc
              obtain ⟨b, hb⟩ := exq (Abc Z.2)
              have hov : (ln' == 0) = b := by rw [hb, hln]; rfl
              have P5' := hQd P5
              have X5' := hQd x5
              have E5 := hQd e5
              have y0 := (e5.nob n0K HR3.out.pN HR3.out.oN 0).trans p0
              have y1 := (e5.nob n0K HR3.out.pN HR3.out.oN 1).trans p1
              have z0 := (e5.nob n0K sl so.out 0).trans s0
              have z1 := (e5.nob n0K sl so.out 1).trans s1
              have hO5 := hQd ((e5.lo _ sl).trans so.out)
              have hOR := hQd hob.o
              have hN5 : N < w5.heap.size := Nat.lt_of_lt_of_le HR3.out.pN e5.size
              have hS5 : W2.heap.size < w5.heap.size := Nat.lt_of_lt_of_le sl e5.size
              have ON5 := hQd ((e5.lo _ HR3.out.pN).trans HR3.out.oN)
              have D5 : Ext (SX (11 + 43 * i) (11 + 43 * i + 24)) G5 w5 G5 w5.drew := Ext.of_below e5.hi (Aaa _)
              have HPT := Atb (k := 11 + 43 * i) HQ3.out.ok ((HR3.out.pr.p.ext e5 (fun h => by unfold SD SR at h; omega) (fun h => by unfold SD SR at h; omega) (fun h => by unfold SD SR at h; omega) (fun h => by unfold SD SR at h; omega)).below e5.hi (Aaa w5)) ((HQ3.out.e.ext e5 (fun t h1 h2 h => by unfold SD SR at h; omega)).below e5.hi (Aaa w5)) hqm.1 (by omega) hil9 hks (by omega) D5.hi HR3.out.n0 (by have := HR3.out.n1; omega)
              rw [← HZ.out, ← HX.out.1] at HPT
              rw [← hb] at HPT
              have HPT := hQd HPT
              have D5 := hQd D5
              clear hb n0K hob hR5 hqm hks hil9 P5 e5 x5 s0 s1 p0 p1 HT hln
              go_upto_region 20 with fail
              go_region_held3 (fun w' => w'.cell? ⟨N, 0, none⟩ = some (.pointer (some ⟨B.p, 0, none⟩)) ∧ w'.cell? ⟨N, 1, none⟩ = some (.pointer (some ⟨C.p, 0, none⟩)) ∧ w'.cell? ⟨W2.heap.size, 0, none⟩ = some (.pointer (some ⟨x, 0, none⟩)) ∧ w'.cell? ⟨W2.heap.size, 1, none⟩ = some (.pointer (some ⟨R, 0, none⟩)) ∧ w'.cell? ⟨R, 0, none⟩ = some (.int .i64 ln'))
               (first | assumption | exact ⟨Ad4 hN5 y0 (Aaa _), Ad4 hN5 y1 (Aaa _), Ad4 hS5 z0 (Aaa _), Ad4 hS5 z1 (Aaa _), Ad4 hll hlc (Aaa _)⟩ | exact ⟨a0', a1', a2', a3', a4'⟩ | exact ⟨c0', c1', c2', c3', c4'⟩ | go_keep)
               ((first
                 | (go_at_call 41
                    refine HPT.out.mono ?_
                    rintro e w6 ⟨rfl, G6, e6, P6, T6⟩
                    have hsx0 : ¬ SX (11 + 43 * i) (11 + 43 * i + 24) 0 := fun h => by unfold SX at h; omega
                    have e56 := D5.out.trans e6
                    have a0' := (e56.nob hsx0 hN5 ON5.out 0).trans y0
                    have a1' := (e56.nob hsx0 hN5 ON5.out 1).trans y1
                    have a2' := (e56.nob hsx0 hS5 hO5.out 0).trans z0
                    have a3' := (e56.nob hsx0 hS5 hO5.out 1).trans z1
                    have a4' := (e56.cell (p := ⟨R, 0, none⟩) hll (by show ¬ SX _ _ (G5 R); rw [hOR.out]; exact SX.not (by omega) (by omega))).trans hlc
                    have hS6 : W2.heap.size < w6.heap.size := Nat.lt_of_lt_of_le hS5 e56.size
                    have hR6 : R < w6.heap.size := Nat.lt_of_lt_of_le hll e56.size
                    have P5'' := P5'.out
                    have X5'' := X5'.out
                    rw [HX.out.2] at X5''
                    rw [HZ.out] at P5'' X5'' P6 T6
                    rw [HX.out.1] at T6
                    obtain ⟨q', hq', ex, eR, eT, hri⟩ := HR3.out.move HQI.out E5.out P5'' X5'' e56 P6 T6
                    have HMX7 := hQd (HMX.out.step HQI.out eT)
                    have HSM := Aoq hq' hri.env.hi
                    rw [ex, eR, ← HX.out.1, ← HX.out.2] at HSM
                    have HSM := hQd HSM
                    have HR7 := hQd hri
                    have hN6 := hri.pN
                    clear hq' ex eR eT hri P6 T6 P5'' X5'' e6 e56 hsx0)
                 | (go_at_call 38
                    refine HSM.out.mono ?_
                    rintro e w7 ⟨rfl, hb7⟩
                    have c0' := Ad4 hN6 a0' hb7
                    have c1' := Ad4 hN6 a1' hb7
                    have c2' := Ad4 hS6 a2' hb7
                    have c3' := Ad4 hS6 a3' hb7
                    have c4' := Ad4 hR6 a4' hb7
                    have HRn := hQd (HR7.out.below hb7)
                    clear hb7)))
              all_goals
               clear a0' a1' a2' a3' a4' c0' c1' c2' c3' c4' y0 y1 z0 z1
               have p0 := HRn.out.p0
               have p1 := HRn.out.p1
               go_wp2_with fail
               refine (Ail HRn.out.pr HRn.out.env.hi (by have := HRn.out.m1; omega)).mono ?_
               rintro e w9 ⟨rfl, hb9⟩
               have HR9 := hQd (HRn.out.below hb9)
               clear hb9 p0 p1 HRn
               go_wp2_with fail
               go_roundw
               case rel => exact ⟨k + 1, _, _, _, _, by omega, by go_num, HR9.out, HMX7.out⟩
               case measure => simp [intOf]; omega
    · obtain rfl : k = l.length := by omega
      have HB := hQd HR.out.env.bel
      go_wp2_with fail
      refine (Anl HR.out.pr HR.out.env.hi (by have := HR.out.m1; omega) (by have := HR.out.hnt; omega) HR.out.hnk (by have := HR.out.hit; omega)).mono ?_
      rintro e w5 ⟨rfl, hb5⟩
      have HB5 := hQd (HB.out.trans (hb5.mono HB.out.size))
      clear hb5 p0 p1
      go_wp2_with fail
      refine (Aif w5).mono ?_
      rintro e w6 ⟨rfl, hb6⟩
      have HB6 := hQd (HB5.out.trans (hb6.mono HB5.out.size))
      clear hb6
      go_wp2_with fail
      go_ret
      exact ⟨rfl, HB6.out⟩
end
end Go.Proofs.YtehdnclegipciaaGreat
