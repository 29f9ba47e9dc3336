/- Layer 26: what a change gives, whatever it is; an argument that is a slice of calls. A law's world with room, and its call in a block of its own. Layer 26: what ChangesRow's loop has at hand. -/
import Derived.Test.YtifkfhnbkjkakaaGreatDoorZrCgA
import Derived.Test.YtifkfhnbkjkakaaGreatDoorZrSK
import Derived.Test.YtifkfhnbkjkakaaGreatDoorZrSE
import Derived.Test.YtifkfhnbkjkakaaGreatDoorZrCg9
namespace Go.Proofs.YtifkfhnbkjkakaaGreatDoor
set_option linter.unusedSimpArgs false
set_option linter.unusedVariables false
section
open Go.RowKit
theorem c_gives (c : Clm) (x : It) (ep id : Int) (w : World) (hx : x.id ≠ 0) (e0 : 0 ≤ ep) (e1 : ep ≤ 18446744073709551615) (hv : c.verb = 8 ∨ c.verb = 9 ∨ c.verb = 10) (x0 : -9223372036854775808 ≤ c.exp) (x1 : c.exp ≤ 9223372036854775807) (b0 : 0 ≤ c.by_) (b1 : c.by_ < 18446744073709551616) (hvl : x.val.size ≤ maxLen) (hV : Va w OZ) :
 Calls Tryz.prog 13 #[clV c, itV x, .int .u64 ep, .int .u64 id] w fun e w' => e = .returned (.tuple #[ansV (chGiv c x ep id).an (chGiv c x ep id).nu, itV (chGiv c x ep id).it, .int .u64 (chGiv c x ep id).dr]) ∧ Below w.heap.size w w' := by
 have h7 : ¬ c.verb = 7 := by omega
 cases hal : epAlive x.dies x.gen ep with
 | false =>
   have hg : chGiv c x ep id = ⟨4, 0, x, 0⟩ := by unfold chGiv; rw [if_pos hal]
   rw [hg]
   exact c_gvDead hx hal e0 e1
 | true =>
   have hn : ¬ epAlive x.dies x.gen ep = false := by rw [hal]; decide
   by_cases h8 : c.verb = 8
   · have hg : chGiv c x ep id = ⟨7, 0, { x with dies := epDies ep c.exp }, 0⟩ := by unfold chGiv; rw [if_neg hn, if_neg h7, if_pos h8]
     rw [hg]
     exact c_gvTouch hx hal e0 e1 h8 x0 x1 _ rfl
   · have d7 : (c.verb == 7) = false := by simp [h7]
     have d8 : (c.verb == 8) = false := by simp [h8]
     cases hp : nuParse x.val with
     | none =>
       have hg : chGiv c x ep id = ⟨9, 0, x, 0⟩ := by unfold chGiv; rw [if_neg hn, if_neg h7, if_neg h8, hp]
       rw [hg]
       exact c_gvNo hx hal e0 e1 d7 d8 hp hvl hV
     | some u =>
       obtain ⟨-, u0, u1⟩ := nuParse_some _ _ hp
       have hg : chGiv c x ep id = ⟨8, nuBy c.verb u c.by_, { x with val := nuText (nuBy c.verb u c.by_), id := id }, 1⟩ := by unfold chGiv; rw [if_neg hn, if_neg h7, if_neg h8, hp]
       rw [hg]
       by_cases h9 : c.verb = 9
       · have hb : nuBy c.verb u c.by_ = nuBy 9 u c.by_ := by rw [h9]
         have he : nuBy 9 u c.by_ = (u + c.by_) % 18446744073709551616 := by unfold nuBy; rw [if_pos rfl]
         rw [hb]
         exact c_gvUp hx hal e0 e1 d7 d8 (by simp [h9]) u _ hp (fun W => c_nuIncr u c.by_ W u0 u1 b0 b1) (by omega) (by omega) hvl hV _ rfl
       · have h10 : c.verb = 10 := by omega
         have hb : nuBy c.verb u c.by_ = nuBy 10 u c.by_ := by rw [h10]
         have he : nuBy 10 u c.by_ = if u ≤ c.by_ then 0 else u - c.by_ := by unfold nuBy; rw [if_neg (by decide)]
         rw [hb]
         exact c_gvDown hx hal e0 e1 d7 d8 (by simp [h9]) u _ hp (fun W => c_nuDecr u c.by_ W u0 u1 b0 b1) (by rw [he]; split <;> omega) (by rw [he]; split <;> omega) hvl hV _ rfl
end
section
open Go.RowKit
structure SaW (w0 W : World) (G : Om) (B : Wb) (s : AW) (cb : Nat) (c : Clm) : Prop where
 p : PW W G B ⟨3, 8, 3, 1, 16⟩ s
 e : Env w0 G W
 x : Ob W G 42 cb (clCs c)
def As (W : World) (G : Om) (L : List (Nat × Int × Int)) : Prop := ∀ q ∈ L, Bx W G q.1 (aCs q.2.1 q.2.2)
section
variable {w0 W W' : World} {G G' : Om} {B : Wb} {s s' : AW} {cb : Nat} {c : Clm} {S : Nat → Prop} {L : List (Nat × Int × Int)}
theorem SaW.below (h : SaW w0 W G B s cb c) (hb : Below W.heap.size W W') : SaW w0 W' G B s cb c := ⟨h.p.below h.e.hi hb, h.e.ext (Ext.of_below (S := SW) h.e.hi hb), h.x.below hb⟩
theorem SaW.to (h : SaW w0 W G B s cb c) (e : Ext S G W G' W') (p : PW W' G' B ⟨3, 8, 3, 1, 16⟩ s') (hs : ¬ S 42) : SaW w0 W' G' B s' cb c := ⟨p, h.e.ext e, h.x.ext e hs⟩
theorem SaW.set (h : SaW w0 W G B s cb c) (j : Nat) (v : Value) (hj : j < 7) {c' : Clm} (hc : (clCs c).set j v = clCs c') : SaW w0 (W.setCell ⟨cb, j, none⟩ v) G B s cb c' ∧ Ext (fun t => t = 42) G W G (W.setCell ⟨cb, j, none⟩ v) := by
 have e : Ext (fun t => t = 42) G W G (W.setCell ⟨cb, j, none⟩ v) := Ext.of_set h.e.hi h.x.o (by decide) rfl
 exact ⟨⟨h.p.ext e (by decide) (by decide) (by decide) (by decide), h.e.ext e, by rw [← hc]; exact h.x.set j v (by show j < 7; exact hj)⟩, e⟩
theorem As.below (h : As W G L) (hb : Below W.heap.size W W') : As W' G L := fun q hq => (h q hq).below hb
theorem As.ext (h : As W G L) (e : Ext S G W G' W') : As W' G' L := fun q hq => (h q hq).ext e
theorem SaW.lay (h : SaW w0 W G B s cb c) (hA : As W G L) (an nu : Int) : ∃ V, V = W.alloc (.cells #[.int .u8 an, .int .u64 nu, .string ⟨#[]⟩, .string ⟨#[]⟩, .int .u32 0, .int .u64 0, .int .i64 0, .int .i64 0] 36) ∧ SaW w0 V G B s cb c ∧ As V G ((W.heap.size, an, nu) :: L) := by
 have hb := alloc_below W (.cells #[.int .u8 an, .int .u64 nu, .string ⟨#[]⟩, .string ⟨#[]⟩, .int .u32 0, .int .u64 0, .int .i64 0, .int .i64 0] 36)
 refine ⟨_, rfl, h.below hb, fun q hq => ?_⟩
 rcases List.mem_cons.1 hq with rfl | hq
 · exact Bx.new h.e.hi _ _ _ rfl
 · exact (hA q hq).below hb
end
theorem sa_own {w W1 : World} {O : Om} {B : Wb} {s : AW} {c : Clm} {ty : TypeId} (hP : PW W1 O B ⟨3, 8, 3, 1, 16⟩ s) (hE : Env (w.alloc (.cells (clCs c).toArray ty)) O W1) : ∃ G, SaW w W1 G B s w.heap.size c := by
 have hb := alloc_below w (.cells (clCs c).toArray ty)
 have hlt : w.heap.size < (w.alloc (.cells (clCs c).toArray ty)).heap.size := by simp
 have hO : O w.heap.size = 0 := by
  by_cases e : O w.heap.size = 0
  · exact e
  · have := hE.base _ e; omega
 obtain ⟨G, hG⟩ : ∃ G : Om, ∀ j, G j = if j = w.heap.size then 42 else O j := ⟨_, fun _ => rfl⟩
 have hne : ∀ j, O j ≠ 0 → G j = O j := fun j hj => by
  rw [hG, if_neg]
  intro e
  rw [e] at hj
  exact hj hO
 have hhi : ∀ j, G j ≠ 0 → j < W1.heap.size := fun j hj => by
  by_cases e : j = w.heap.size
  · rw [e]; exact Nat.lt_of_lt_of_le hlt hE.bel.size
  · rw [hG, if_neg e] at hj; exact hE.hi j hj
 refine ⟨G, hP.congr hne hhi, ⟨fun j hj => ?_, hhi, hb.trans (hE.bel.mono hb.size)⟩, ⟨?_, Nat.lt_of_lt_of_le hlt hE.bel.size, fun j u hu => ?_, fun j => ?_⟩⟩
 · by_cases e : j = w.heap.size
   · omega
   · rw [hG, if_neg e] at hj
     exact Nat.le_trans hb.size (hE.base j hj)
 · rw [hG, if_pos rfl]
 · exact (hE.bel.cell (p := ⟨w.heap.size, j, none⟩) hlt).trans (cell_newA w (clCs c).toArray ty _ rfl j u (by simpa using hu))
 · exact (hE.bel.frozen (p := ⟨w.heap.size, j, none⟩) hlt).trans (by simp)
end
section
open Go.RowKit
structure RwS (w0 W : World) (G : Om) (B : Wb) (s : AW) (cb : Nat) (c : Clm) (R : Nat) (x : It) (L : List (Nat × List Value)) : Prop where
 s : SaW w0 W G B s cb c
 r : Ob W G 43 R (itCs x)
 l : ∀ q ∈ L, Bx W G q.1 q.2
section
variable {w0 W W' : World} {G G' : Om} {B : Wb} {s s' : AW} {cb R : Nat} {c : Clm} {x : It} {L : List (Nat × List Value)} {S : Nat → Prop}
theorem RwS.below (h : RwS w0 W G B s cb c R x L) (hb : Below W.heap.size W W') : RwS w0 W' G B s cb c R x L := ⟨h.s.below hb, h.r.below hb, fun q hq => (h.l q hq).below hb⟩
theorem RwS.to (h : RwS w0 W G B s cb c R x L) (e : Ext S G W G' W') (p : PW W' G' B ⟨3, 8, 3, 1, 16⟩ s') (h2 : ¬ S 42) (h3 : ¬ S 43) : RwS w0 W' G' B s' cb c R x L := ⟨h.s.to e p h2, h.r.ext e h3, fun q hq => (h.l q hq).ext e⟩
theorem RwS.lay (h : RwS w0 W G B s cb c R x L) (cs : List Value) (ty : TypeId) : RwS w0 (W.alloc (.cells cs.toArray ty)) G B s cb c R x ((W.heap.size, cs) :: L) := by
 have hb := alloc_below W (.cells cs.toArray ty)
 refine ⟨h.s.below hb, h.r.below hb, fun q hq => ?_⟩
 rcases List.mem_cons.1 hq with rfl | hq
 · have := Bx.new h.s.e.hi cs.toArray ty W.heap.size rfl
   simpa using this
 · exact (h.l q hq).below hb
theorem RwS.over (h : RwS w0 W G B s cb c R x L) (y : It) : RwS w0 ((((((W.setCell ⟨R, 0, none⟩ (.string y.key)).setCell ⟨R, 1, none⟩ (.string y.val)).setCell ⟨R, 2, none⟩ (.int .u32 y.fl)).setCell ⟨R, 3, none⟩ (.int .u64 y.id)).setCell ⟨R, 4, none⟩ (.int .i64 y.dies)).setCell ⟨R, 5, none⟩ (.int .i64 y.gen)) G B s cb c R y L := by
 have one : ∀ (W : World) (cs : List Value) (j : Nat) (v : Value), SaW w0 W G B s cb c → Ob W G 43 R cs → (∀ q ∈ L, Bx W G q.1 q.2) → j < cs.length → SaW w0 (W.setCell ⟨R, j, none⟩ v) G B s cb c ∧ Ob (W.setCell ⟨R, j, none⟩ v) G 43 R (cs.set j v) ∧ ∀ q ∈ L, Bx (W.setCell ⟨R, j, none⟩ v) G q.1 q.2 := fun W cs j v h1 h2 h3 hj => by
  have e : Ext (fun t => t = 43) G W G (W.setCell ⟨R, j, none⟩ v) := Ext.of_set h1.e.hi h2.o (by decide) rfl
  exact ⟨h1.to e (h1.p.ext e (by decide) (by decide) (by decide) (by decide)) (by decide), h2.set j v hj, fun q hq => (h3 q hq).ext e⟩
 obtain ⟨a0, b0, c0⟩ := one W _ 0 (.string y.key) h.s h.r h.l (by simp [itCs])
 obtain ⟨a1, b1, c1⟩ := one _ _ 1 (.string y.val) a0 b0 c0 (by simp [itCs])
 obtain ⟨a2, b2, c2⟩ := one _ _ 2 (.int .u32 y.fl) a1 b1 c1 (by simp [itCs])
 obtain ⟨a3, b3, c3⟩ := one _ _ 3 (.int .u64 y.id) a2 b2 c2 (by simp [itCs])
 obtain ⟨a4, b4, c4⟩ := one _ _ 4 (.int .i64 y.dies) a3 b3 c3 (by simp [itCs])
 obtain ⟨a5, b5, c5⟩ := one _ _ 5 (.int .i64 y.gen) a4 b4 c4 (by simp [itCs])
 exact ⟨a5, b5, c5⟩
end
end
end Go.Proofs.YtifkfhnbkjkakaaGreatDoor
