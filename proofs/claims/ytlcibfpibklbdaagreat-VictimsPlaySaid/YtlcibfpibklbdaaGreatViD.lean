/- Layer 24: a Victim of both sides; its same. Layer 24: an op of both sides while it is being made. -/
import Derived.Test.YtlcibfpibklbdaaGreatViA
import Derived.Test.YtlcibfpibklbdaaGreatViC
import Derived.Test.YtlcibfpibklbdaaGreatBaJ
import Derived.BigQuiet
import Derived.Deep.QuietTactic
import Derived.ChangeKeysEq
import Derived.Laws.StructEq
namespace Go.Proofs.YtlcibfpibklbdaaGreat
set_option linter.unusedSimpArgs false
section
open Go.RowKit Go.Shelf
set_option linter.unusedVariables false

theorem VDrop.bel {O : Om} {w w' : World} {k X : Nat} {z : Vcm} {n bt bx : Nat} (h : VDrop w O k X z n bt bx) (e : Below w.heap.size w w') : VDrop w' O k X z n bt bx := by
  obtain ⟨T, bo, bs, m1, m2, U, h1, h2, h3, h4, h5, h6, h7, h8⟩ := h.ex
  exact ⟨T, bo, bs, m1, m2, U, h1.below e, h2.below e, h3.below e, h4.below e, h5.below e, fun g => (h6 g).below e, fun g => (h7 g).below e, fun g => (h8 g).below e⟩
theorem VDo.bel {O : Om} {w w' : World} {k X : Nat} {z : Vcm} {dv : Value} (h : VDo w O k X z dv) (e : Below w.heap.size w w') : VDo w' O k X z dv := by
  obtain ⟨h0, h1, h2, h3, h4⟩ := h
  refine ⟨h0, fun g => ?_, fun g => ?_, fun g => ?_, fun g => ?_⟩
  · obtain ⟨bs, bx, a, b, c⟩ := h1 g; exact ⟨bs, bx, a, b.below e, c.below e⟩
  · obtain ⟨bs, bx, a, b, c⟩ := h2 g; exact ⟨bs, bx, a, b.below e, c.below e⟩
  · obtain ⟨bs, bx, a, b, c⟩ := h3 g; exact ⟨bs, bx, a, b.below e, c.below e⟩
  · obtain ⟨bt, bx, a, b⟩ := h4 g; exact ⟨bt, bx, a, b.bel e⟩
theorem VcAt.bel {O : Om} {w w' : World} {k X : Nat} {z : Vcm} (h : VcAt w O k X z) (e : Below w.heap.size w w') : VcAt w' O k X z := by
  obtain ⟨lv, dv, h1, h2, h3, h4⟩ := h.ex
  exact ⟨lv, dv, h1.below e, fun g => (h2 g).below e, fun g => (h3 g).imp fun l h => h.below e, h4.bel e⟩
structure Vop where
  x : Nat
  R : Nat
  z : Vcm
structure VopAt (w : World) (G : Om) (k : Nat) (q : Vop) : Prop where
  e : VcAt w G k q.x q.z
  r : RvAt w G (k + 15) q.R q.z
  ok : VcOk q.z
theorem VopAt.ext {S : Nat → Prop} {O O' : Om} {w w' : World} {k : Nat} {q : Vop} (h : VopAt w O k q) (e : Ext S O w O' w') (hs : ∀ t, k ≤ t → t < k + 19 → ¬ S t) : VopAt w' O' k q :=
  ⟨h.e.ext e (fun t h1 h2 => hs t h1 (by omega)), h.r.ext e (hs _ (by omega) (by omega)) (hs _ (by omega) (by omega)) (hs _ (by omega) (by omega)) (hs _ (by omega) (by omega)), h.ok⟩
theorem VopAt.below {O : Om} {w w' : World} {k : Nat} {q : Vop} (h : VopAt w O k q) (hb : Below w.heap.size w w') : VopAt w' O k q := ⟨h.e.bel hb, h.r.below hb, h.ok⟩
def VK : OpK Vop := ⟨fun q => q.x, fun q => q.R, VopAt, 19, fun h e hs => h.ext e hs⟩
/-- A step of one Victim of both sides, the document's first. -/
theorem QI.victim {E : TypeId} {w0 w w1 w2 : World} {B C : Wb} {f : Cf} {N k i : Nat} {vo : Value} {G G1 G2 : Om} {s : AW} {m : Nat} {l : List Vop} {q : Vop} (h : QI VK E w0 B C f N k w vo G s m l) (hi : l[i]? = some q)
    (e1 : Ext (SD (26 + 19 * i) (26 + 19 * i + 3)) G w G1 w1) (r1 : RW w1 G1 C f (vcStep (s, q.z)).1 (m + 1)) (x1 : RvAt w1 G1 (26 + 19 * i) q.R (vcStep (s, q.z)).2)
    (e2 : Ext (SX (11 + 19 * i) (11 + 19 * i + 14)) G1 w1 G2 w2) (p2 : PW w2 G2 B f (vcStep (s, q.z)).1) (x2 : VcAt w2 G2 (11 + 19 * i) q.x (vcStep (s, q.z)).2) :
    ∃ q' : Vop, VopAt w2 G2 (11 + 19 * i) q' ∧ q'.x = q.x ∧ q'.R = q.R ∧ q'.z = (vcStep (s, q.z)).2 ∧ QI VK E w0 B C f N (k + 1) w2 vo G2 (vcStep (s, q.z)).1 (m + 1) (l.set i q') := by
  have h0 : VopAt w G (11 + 19 * i) q := h.ops i q hi
  have a := vcStep_aw s q.z h0.ok.l0 h0.ok.l1
  have hb : opb VK.wd i = 11 + 19 * i := rfl
  have hw : VK.wd = 19 := rfl
  have hq : VopAt w2 G2 (11 + 19 * i) ⟨q.x, q.R, (vcStep (s, q.z)).2⟩ := ⟨x2, by
    have := x1.ext e2 (SX.not (by omega) (by omega)) (SX.not (by omega) (by omega)) (SX.not (by omega) (by omega)) (SX.not (by omega) (by omega))
    show RvAt w2 G2 (11 + 19 * i + 15) q.R _
    rwa [show 11 + 19 * i + 15 = 26 + 19 * i by omega], vcStep_ok h.pr.p.bd h0.ok⟩
  have E12 : Ext (SO (opb VK.wd i) VK.wd) G w G2 w2 := by
    rw [hb]
    refine (e1.mono ?_).trans (e2.mono ?_)
    · intro t _ ht; show SO (11 + 19 * i) 19 t; unfold SD SR at ht; unfold SO; omega
    · intro t _ ht; show SO (11 + 19 * i) 19 t; unfold SX at ht; unfold SO; omega
  refine ⟨_, hq, rfl, rfl, rfl, h.step hi E12 ⟨p2, r1.ext e2 (SX.not (by omega) (by omega)) (SX.not (by omega) (by omega)) (SX.not (by omega) (by omega)) (SX.not (by omega) (by omega))⟩ (by rw [hb]; exact hq) rfl rfl (by have := h.n0; have := a.n0; omega) (by have := a.n1; omega) (by omega) (by rw [a.it]; omega) (by have := a.nt; omega) ?_⟩
  intro x hx
  rcases a.nk x hx with g | g
  · exact h.hnk x g
  · exact g
theorem cell_newH (w : World) (cs : Array Value) (t : TypeId) (n : Nat) (hn : n = w.heap.size) (j : Nat) (u : Value) (h : cs[j]? = some u) : (w.alloc (.cells cs t)).cell? ⟨n, j, none⟩ = some u := by
  subst hn; simp [h]
theorem below_dnH (w : World) (n : Nat) : Below w.heap.size w (w.drewN n) := ⟨rfl, rfl, rfl, Nat.le_refl _, fun _ _ => rfl⟩
set_option maxHeartbeats 4000000 in
set_option maxRecDepth 100000 in
theorem c_same24 {w : World} {O : Om} {k : Nat} {q : Vop} (h : VopAt w O k q) :
    Calls Tryz.prog 64 #[.agg #[.pointer (some ⟨q.x, 0, none⟩), .pointer (some ⟨q.R, 0, none⟩)]] w fun e w' => e = .returned (.bool true) ∧ Below w.heap.size w w' := by
  obtain ⟨X, hX⟩ : ∃ X, X = q.x := ⟨_, rfl⟩
  obtain ⟨R, hR⟩ : ∃ R, R = q.R := ⟨_, rfl⟩
  obtain ⟨sp, hsp⟩ : ∃ z, z = (vcGot q.z).1 := ⟨_, rfl⟩
  obtain ⟨iz, hrf⟩ : ∃ z, z = (vcGot q.z).2 := ⟨_, rfl⟩
  have HG : Hid (∀ W, Below w.heap.size w W → Calls Tryz.prog 42 #[.pointer (some ⟨X, 0, none⟩)] W fun e w' => e = .returned (.tuple #[sptV sp, .bool iz]) ∧ Below W.heap.size W w') := Lib.hid fun W hb => by rw [hrf, hsp, hX]; exact c_VcGot (h.e.bel hb)
  have HR : Hid (∀ W, Below w.heap.size w W → Calls Tryz.prog 131 #[.pointer (some ⟨R, 0, none⟩)] W fun e w' => e = .returned (.tuple #[spV2 sp, .bool iz]) ∧ Below W.heap.size W w') := Lib.hid fun W hb => by rw [hrf, hsp, hR]; exact c_rvGot (h.r.below hb)
  obtain ⟨ln, hln⟩ : ∃ z, z = q.z.ln := ⟨_, rfl⟩
  have r0 : w.cell? ⟨R, 0, none⟩ = some (.int .i64 ln) := by rw [hR, hln]; obtain ⟨a, u, ho, -⟩ := h.r.ex; exact ho.c 0 _ rfl
  have hRl := blk_lt r0
  have HO : Hid (∀ W, Below w.heap.size w W → Calls Tryz.prog 47 #[.pointer (some ⟨X, 0, none⟩)] W fun e w' => e = .returned (.bool (ln == 0)) ∧ W = w') := Lib.hid fun W hb => by rw [hX, hln]; exact c_VcOver (h.e.bel hb) h.ok
  obtain ⟨ov, hov⟩ : ∃ z, z = (ln == 0) := ⟨_, rfl⟩
  rw [← hov] at HO
  have hd : (ln == 0) = ov := hov.symm
  obtain ⟨sb, sq, ss⟩ := sp
  rw [← hX, ← hR]
  unfold sptV at HG
  unfold spV2 at HR
  dsimp only at HG HR hRl
  clear h hX hR hrf hsp hln hov
  go_enter Tryz.func64, Tryz.ntmps64
  go_wp2_with fail
  obtain ⟨W1, hW1⟩ : ∃ W1, W1 = w.alloc (.cells #[.pointer (some ⟨X, 0, none⟩), .pointer (some ⟨R, 0, none⟩)] 142) := ⟨_, rfl⟩
  have y0 : W1.cell? ⟨w.heap.size, 0, none⟩ = some (.pointer (some ⟨X, 0, none⟩)) := by rw [hW1]; simp
  have y1 : W1.cell? ⟨w.heap.size, 1, none⟩ = some (.pointer (some ⟨R, 0, none⟩)) := by rw [hW1]; simp
  have hl1 : w.heap.size < W1.heap.size := by rw [hW1]; simp
  have b1 : Below w.heap.size w W1 := by rw [hW1]; exact (Below.refl _ _).alloc (Nat.le_refl _) _
  rw [← hW1]
  clear hW1
  have HB1 := Lib.hid b1
  clear b1
  refine (HG.out W1 HB1.out).mono ?_
  rintro e W2 ⟨rfl, hb2⟩
  have HB2 := Lib.hid (HB1.out.trans (hb2.mono HB1.out.size))
  have z1 := (hb2.cell (p := ⟨w.heap.size, 1, none⟩) hl1).trans y1
  have z0 := (hb2.cell (p := ⟨w.heap.size, 0, none⟩) hl1).trans y0
  have hl2 : w.heap.size < W2.heap.size := Nat.lt_of_lt_of_le hl1 hb2.size
  clear hb2 y0 y1 HB1
  go_wp2_with fail
  obtain ⟨W3, hW3⟩ : ∃ W3, W3 = W2.alloc (.cells #[.int .i64 sb, .int .i64 sq, .int .i64 ss] 45) := ⟨_, rfl⟩
  have hc := fun j u hu => cell_newH W2 #[.int .i64 sb, .int .i64 sq, .int .i64 ss] 45 _ rfl j u hu
  rw [← hW3] at hc
  have b3 : Below W2.heap.size W2 W3 := by rw [hW3]; exact (Below.refl _ _).alloc (Nat.le_refl _) _
  have y0 := (b3.cell (p := ⟨w.heap.size, 0, none⟩) hl2).trans z0
  have y1 := (b3.cell (p := ⟨w.heap.size, 1, none⟩) hl2).trans z1
  have a0 := hc 0 _ rfl
  have a1 := hc 1 _ rfl
  have a2 := hc 2 _ rfl
  have hl3 : w.heap.size < W3.heap.size := Nat.lt_of_lt_of_le hl2 b3.size
  have hn2 : W2.heap.size < W3.heap.size := by rw [hW3]; simp
  have HB3 := Lib.hid (HB2.out.trans (b3.mono HB2.out.size))
  rw [← hW3]
  clear hW3 hc b3 z0 z1 HB2
  obtain ⟨n2, hn⟩ : ∃ n, n = W2.heap.size := ⟨_, rfl⟩
  rw [← hn] at a0 a1 a2 hn2 ⊢
  clear hn
  refine (HR.out W3 HB3.out).mono ?_
  rintro e W4 ⟨rfl, hb4⟩
  have c := fun j => hb4.cell (p := ⟨n2, j, none⟩) hn2
  have d0 := (c 0).trans a0
  have d1 := (c 1).trans a1
  have d2 := (c 2).trans a2
  have z0 := (hb4.cell (p := ⟨w.heap.size, 0, none⟩) hl3).trans y0
  have z1 := (hb4.cell (p := ⟨w.heap.size, 1, none⟩) hl3).trans y1
  have hl4 : w.heap.size < W4.heap.size := Nat.lt_of_lt_of_le hl3 hb4.size
  have hn4 : n2 < W4.heap.size := Nat.lt_of_lt_of_le hn2 hb4.size
  have HB4 := Lib.hid (HB3.out.trans (hb4.mono HB3.out.size))
  clear c hb4 a0 a1 a2 y0 y1 HB3 HR HG
  go_upto_region 3 with fail
  obtain ⟨W5, hW5⟩ : ∃ W5, W5 = W4.alloc (.cells #[.int .i64 sb, .int .i64 sq, .int .i64 ss] 45) := ⟨_, rfl⟩
  have hc := fun j u hu => cell_newH W4 #[.int .i64 sb, .int .i64 sq, .int .i64 ss] 45 _ rfl j u hu
  rw [← hW5] at hc
  have b5 : Below W4.heap.size W4 W5 := by rw [hW5]; exact (Below.refl _ _).alloc (Nat.le_refl _) _
  have c := fun j => b5.cell (p := ⟨n2, j, none⟩) hn4
  have e0 := (c 0).trans d0
  have e1 := (c 1).trans d1
  have e2 := (c 2).trans d2
  have g0 := hc 0 _ rfl
  have g1 := hc 1 _ rfl
  have g2 := hc 2 _ rfl
  have y0 := (b5.cell (p := ⟨w.heap.size, 0, none⟩) hl4).trans z0
  have y1 := (b5.cell (p := ⟨w.heap.size, 1, none⟩) hl4).trans z1
  have HB5 := Lib.hid (HB4.out.trans (b5.mono HB4.out.size))
  have x0 := (HB5.out.cell (p := ⟨R, 0, none⟩) hRl).trans r0
  rw [← hW5]
  clear hW5 hc c b5 z0 z1 d0 d1 d2 HB4 r0
  have HOQ := Lib.hid (fun W (h : ∃ n, W = W5.drewN n) => HO.out W (by obtain ⟨n, rfl⟩ := h; exact HB5.out.trans ((below_dnH W5 n).mono HB5.out.size)))
  go_quiet ((go_at_call 47; exact quietS (HOQ.out _ ⟨_, rfl⟩)))
  go_wp2
  go_ret
  exact ⟨rfl, HB5.out.trans ((below_dnH W5 nq).mono HB5.out.size)⟩
end
section
open Go.RowKit Go.Shelf
set_option linter.unusedVariables false

theorem VopAt.mk1 {S : Nat → Prop} {w5 w6 : World} {G5 G6 : Om} {k X R : Nat} {z : Vcm} (hx : VcAt w5 G5 k X z) (e : Ext (fun t => t = k + 15) G5 w5 G6 w6) (hr : RvAt w6 G6 (k + 15) R z) (hz : VcOk z) : VopAt w6 G6 k ⟨X, R, z⟩ :=
  ⟨hx.ext e (fun t h1 h2 => by show ¬ t = k + 15; omega), hr, hz⟩
theorem VopAt.mk2 {w5 w6 : World} {G5 G6 : Om} {k X R : Nat} {z : Vcm} (hr : RvAt w5 G5 (k + 15) R z) (e : Ext (fun t => k ≤ t ∧ t ≤ k + 14) G5 w5 G6 w6) (hx : VcAt w6 G6 k X z) (hz : VcOk z) : VopAt w6 G6 k ⟨X, R, z⟩ :=
  ⟨hx, hr.ext e (by omega) (by omega) (by omega) (by omega), hz⟩
/-- What is there of an op: its block (or not yet), all else as it was. -/
structure OpS (W2 : World) (G : Om) (k : Nat) (on : Option Nat) (W : World) (G' : Om) : Prop where
  e : Ext (fun t => t = 10 ∨ (k ≤ t ∧ t < k + 19)) G W2 G' W
  ob : ∀ n, on = some n → Ob W G' 10 n [.pointer none, .pointer none]
section
variable {W2 W W' : World} {G G' G'' : Om} {k : Nat} {on : Option Nat}
theorem OpS.ext {S : Nat → Prop} (h : OpS W2 G k on W G') (e : Ext S G' W G'' W') (hs : ∀ t, S t → k ≤ t ∧ t < k + 19) (hk : 10 < k) : OpS W2 G k on W' G'' :=
  ⟨h.e.trans (e.mono fun t _ ht => .inr (hs t ht)), fun n hn => (h.ob n hn).ext e fun g => by have := hs _ g; omega⟩
theorem OpS.alloc (ty : TypeId) (h : OpS W2 G k none W G') (hk : 10 < k) : ∃ G'', OpS W2 G k (some W.heap.size) (W.alloc (.cells #[.pointer none, .pointer none] ty)) G'' ∧ (∀ X z, VcAt W G' k X z → VcAt (W.alloc (.cells #[.pointer none, .pointer none] ty)) G'' k X z) ∧ ∀ R z, RvAt W G' (k + 15) R z → RvAt (W.alloc (.cells #[.pointer none, .pointer none] ty)) G'' (k + 15) R z := by
  obtain ⟨G1, e1, b1, k1⟩ := alloc_ob h.e.hi 10 #[.pointer none, .pointer none] ty W.heap.size rfl
  exact ⟨G1, ⟨h.e.trans (e1.mono fun t _ ht => .inl ht), fun n hn => by cases hn; exact b1⟩, fun X z hx => hx.ext e1 (fun t h1 h2 => by show ¬ t = 10; omega), fun R z hr => hr.ext e1 (by omega) (by omega) (by omega) (by omega)⟩
theorem OpS.below (h : OpS W2 G k on W G') (hb : Below W.heap.size W W') (hk : 10 < k) : OpS W2 G k on W' G' := h.ext (S := fun _ => False) (Ext.of_below h.e.hi hb) (fun _ h => h.elim) hk
theorem OpS.prog (bt hs : Int) (b0 : -9223372036854775808 ≤ bt) (b1 : bt ≤ 9223372036854775807) (h0 : 0 ≤ hs) (h1 : hs < 18446744073709551616) (hk : 10 < k) (h : OpS W2 G k on W G') :
    Calls Tryz.prog 41 #[.int .i64 bt, .int .u64 hs] W fun e w5 => ∃ X G5, e = .returned (.pointer (some ⟨X, 0, none⟩)) ∧ OpS W2 G k on w5 G5 ∧ VcAt w5 G5 k X (vcNew bt hs) ∧ ∀ R z, RvAt W G' (k + 15) R z → RvAt w5 G5 (k + 15) R z := by
  refine (c_NewVictim (w := W) (O := G') (k := k) bt hs b0 b1 h0 h1 (by omega) h.e.hi).mono ?_
  rintro e w5 ⟨X, rfl, G5, e5, f5⟩
  exact ⟨X, G5, rfl, h.ext e5 (fun t ht => by have : k ≤ t ∧ t ≤ k + 14 := ht; omega) hk, f5, fun R z hr => hr.ext e5 (by omega) (by omega) (by omega) (by omega)⟩
theorem OpS.doc (bt hs : Int) (b0 : -9223372036854775808 ≤ bt) (b1 : bt ≤ 9223372036854775807) (h0 : 0 ≤ hs) (h1 : hs < 18446744073709551616) (hk : 10 < k) (h : OpS W2 G k on W G') :
    Calls Tryz.prog 63 #[.int .i64 bt, .int .u64 hs] W fun e w5 => ∃ R G5, e = .returned (.pointer (some ⟨R, 0, none⟩)) ∧ OpS W2 G k on w5 G5 ∧ RvAt w5 G5 (k + 15) R (vcNew bt hs) ∧ ∀ X z, VcAt W G' k X z → VcAt w5 G5 k X z := by
  refine (c_rvNew (w := W) (O := G') (k := k + 15) bt hs b0 b1 h0 h1 (by omega) h.e.hi).mono ?_
  rintro e w5 ⟨R, rfl, G5, e5, f5⟩
  exact ⟨R, G5, rfl, h.ext e5 (fun t ht => by have : t = k + 15 := ht; omega) hk, f5, fun X z hx => hx.ext e5 (fun t h1 h2 => by show ¬ t = k + 15; omega)⟩
/-- An op that is whole. -/
def OpCut (W2 : World) (G : Om) (k : Nat) (z : Vcm) (vp : Value) (wx : World) : Prop :=
  ∃ (n8 X R : Nat) (G6 : Om), vp = .pointer (some ⟨n8, 0, none⟩) ∧ wx.cell? ⟨n8, 0, none⟩ = some (.pointer (some ⟨X, 0, none⟩)) ∧ wx.cell? ⟨n8, 1, none⟩ = some (.pointer (some ⟨R, 0, none⟩)) ∧ n8 < wx.heap.size ∧ Ext (fun t => t = 10 ∨ (k ≤ t ∧ t < k + 19)) G W2 G6 wx ∧ VopAt wx G6 k ⟨X, R, z⟩
theorem OpS.old {n8 X R : Nat} {z : Vcm} (h : OpS W2 G k (some n8) W G') (hx : VcAt W G' k X z) (hr : RvAt W G' (k + 15) R z) (hz : VcOk z) (hk : 10 < k) :
    OpCut W2 G k z (.pointer (some ⟨n8, 0, none⟩)) ((W.setCell ⟨n8, 0, none⟩ (.pointer (some ⟨X, 0, none⟩))).setCell ⟨n8, 1, none⟩ (.pointer (some ⟨R, 0, none⟩))) := by
  have o := h.ob n8 rfl
  have e1 := ext_set (j := 0) (v := .pointer (some ⟨X, 0, none⟩)) h.e.hi o (by decide)
  have o1 := o.set 0 (.pointer (some ⟨X, 0, none⟩)) (by decide)
  have e2 := ext_set (j := 1) (v := .pointer (some ⟨R, 0, none⟩)) e1.hi o1 (by decide)
  have o2 := o1.set 1 (.pointer (some ⟨R, 0, none⟩)) (by simp)
  have e := e1.trans e2
  exact ⟨n8, X, R, G', rfl, o2.c 0 _ rfl, o2.c 1 _ rfl, o2.lt, h.e.trans (e.mono fun t _ ht => .inl ht), ⟨hx.ext e (fun t h1 h2 => by show ¬ t = 10; omega), hr.ext e (by omega) (by omega) (by omega) (by omega), hz⟩⟩
theorem OpS.new {X R : Nat} {z : Vcm} (ty : TypeId) (h : OpS W2 G k none W G') (hx : VcAt W G' k X z) (hr : RvAt W G' (k + 15) R z) (hz : VcOk z) (hk : 10 < k) :
    OpCut W2 G k z (.pointer (some ⟨W.heap.size, 0, none⟩)) (W.alloc (.cells #[.pointer (some ⟨X, 0, none⟩), .pointer (some ⟨R, 0, none⟩)] ty)) := by
  obtain ⟨G1, e1, b1, k1⟩ := alloc_ob h.e.hi 10 #[.pointer (some ⟨X, 0, none⟩), .pointer (some ⟨R, 0, none⟩)] ty W.heap.size rfl
  exact ⟨W.heap.size, X, R, G1, rfl, b1.c 0 _ rfl, b1.c 1 _ rfl, b1.lt, h.e.trans (e1.mono fun t _ ht => .inl ht), ⟨hx.ext e1 (fun t h1 h2 => by show ¬ t = 10; omega), hr.ext e1 (by omega) (by omega) (by omega) (by omega), hz⟩⟩
end
end
end Go.Proofs.YtlcibfpibklbdaaGreat
