/- Layer 23: what an Evict's step keeps; an Evict of both sides. Layer 23: same of an operation of both sides. -/
import Derived.Test.YtkpkhibknaoboaaGreatRxA
import Derived.Test.YtkpkhibknaoboaaGreatQxA
import Derived.BigQuiet
import Derived.Deep.QuietTactic
import Derived.ChangeKeysEq
import Derived.Laws.StructEq
namespace Go.Proofs.YtkpkhibknaoboaaGreat
set_option linter.unusedSimpArgs false
section
open Go.RowKit
set_option linter.unusedVariables false

theorem evNew_ok : EvOk evNew := by
  constructor <;> (unfold evNew; dsimp only; omega)
theorem evNext_ok {z : Evm} (t0 : 0 ≤ z.t) (t1 : z.t < 18446744073709551616) (h0 : 0 ≤ z.h) (h1 : z.h < 32768) (n0 : 0 ≤ z.n) (n2 : z.n < 2 * plSpots z.t) (r0 : -9223372036854775808 ≤ z.ref) (r1 : z.ref ≤ 9223372036854775807) (m0 : 0 ≤ z.mw) (m1 : z.mw < 18446744073709551616) (w0 : 0 ≤ z.o.w) (w1 : z.o.w < 18446744073709551616) : EvOk (evNext z) := by
  have hs := plSpots_bd z.t
  unfold evNext
  by_cases h : z.n + 1 = 2 * plSpots z.t
  · rw [if_pos h]
    constructor <;> (dsimp only; omega)
  · rw [if_neg h]
    constructor <;> (dsimp only; omega)
theorem wrap64_bd (x : Int) : -9223372036854775808 ≤ wrap64 x ∧ wrap64 x ≤ 9223372036854775807 := by unfold wrap64; omega
theorem outStep_w {p : Spt} {s : AW} {o : Otm} (hb : Bd s.M) (w0 : 0 ≤ o.w) (w1 : o.w < 18446744073709551616) : 0 ≤ (outStep p s o).2.w ∧ (outStep p s o).2.w < 18446744073709551616 := by
  unfold outStep
  split
  · exact hb _
  · split
    · exact ⟨w0, w1⟩
    · split
      · exact ⟨w0, w1⟩
      · exact ⟨w0, w1⟩
theorem outStep_lnH {p : Spt} {s : AW} {o : Otm} (h : o.ln < 3) : (outStep p s o).2.ln = o.ln + 1 := by
  have h3 : o.ln = 0 ∨ o.ln = 1 ∨ o.ln = 2 := by omega
  rcases h3 with e | e | e <;> (unfold outStep; simp [e])
theorem evStep_ok {s : AW} {z : Evm} (hb : Bd s.M) (hz : EvOk z) : EvOk (evStep (s, z)).2 := by
  obtain ⟨l0, l1, t0, t1, h0, h1, m0, m1, m2, r0, r1, k0, k1, w0, w1, o8⟩ := hz
  by_cases e0 : z.ln = 0
  · rw [evStep_0 s z e0]
    exact ⟨l0, l1, t0, t1, h0, h1, m0, m1, m2, r0, r1, k0, k1, w0, w1, o8⟩
  have h : z.ln = 1 ∨ z.ln = 2 ∨ z.ln = 3 ∨ z.ln = 4 ∨ z.ln = 5 ∨ z.ln = 6 ∨ z.ln = 7 ∨ z.ln = 8 ∨ z.ln = 9 ∨ z.ln = 10 ∨ z.ln = 11 ∨ z.ln = 12 := by omega
  have hs := plSpots_bd z.t
  rcases h with h | h | h | h | h | h | h | h | h | h | h | h
  · rw [evStep_1 s z h]
    constructor <;> (dsimp only; omega)
  · rw [evStep_2 s z h]
    have := hb 2
    constructor <;> (dsimp only; omega)
  · rw [evStep_3 s z h]
    have a0 := Int.emod_nonneg (s.M 4) (show plSpots z.t ≠ 0 by omega)
    have a1 := Int.emod_lt_of_pos (s.M 4) (show 0 < plSpots z.t by omega)
    constructor <;> (dsimp only; omega)
  · rw [evStep_4 s z h]
    have hn := m2 (by omega)
    have hh := h1 (by omega)
    dsimp only
    by_cases hr : evRef s z = 0
    · rw [if_pos hr]
      exact evNext_ok t0 t1 h0 hh m0 hn (by dsimp only; omega) (by dsimp only; omega) k0 k1 w0 w1
    · rw [if_neg hr]
      have hw : -9223372036854775808 ≤ evRef s z ∧ evRef s z ≤ 9223372036854775807 := wrap64_bd _
      constructor <;> (dsimp only; omega)
  · rw [evStep_5 s z h]
    have := hb (plRef z.ref)
    have hn := m2 (by omega)
    have hh := h1 (by omega)
    dsimp only
    by_cases hr : s.M (plRef z.ref) % 2 = 0
    · rw [if_pos hr]
      constructor <;> (dsimp only; omega)
    · rw [if_neg hr]
      constructor <;> (dsimp only; omega)
  · rw [evStep_6 s z h]
    exact evNext_ok t0 t1 h0 (h1 (by omega)) m0 (m2 (by omega)) r0 r1 k0 k1 w0 w1
  · rw [evStep_7 s z h]
    have hn := m2 (by omega)
    have hh := h1 (by omega)
    have := o8 (by omega)
    constructor <;> (dsimp only; omega)
  · rw [evStep_8 s z h]
    have hn := m2 (by omega)
    have hh := h1 (by omega)
    have ho := o8 (by omega)
    obtain ⟨a0, a1⟩ := outStep_w (p := evSpot z) hb w0 w1
    have a2 := outStep_lnH (p := evSpot z) (s := s) ho
    obtain ⟨q, hq⟩ : ∃ q, q = (outStep (evSpot z) s z.o).2 := ⟨_, rfl⟩
    rw [← hq] at a0 a1 a2 ⊢
    dsimp only
    by_cases e2 : z.o.ln = 2
    · rw [if_pos e2]
      constructor <;> (dsimp only; omega)
    · rw [if_neg e2]
      constructor <;> (dsimp only; omega)
  · rw [evStep_9 s z h]
    have hn := m2 (by omega)
    have hh := h1 (by omega)
    constructor <;> (dsimp only; omega)
  · rw [evStep_10 s z h]
    have hn := m2 (by omega)
    have hh := h1 (by omega)
    constructor <;> (dsimp only; omega)
  · rw [evStep_11 s z h]
    have hh := h1 (by omega)
    constructor <;> (dsimp only; omega)
  · rw [evStep_12 s z h]
    have hh := h1 (by omega)
    constructor <;> (dsimp only; omega)
/-- What a step makes of counts, items and notes: at most one access and one note, of kind 1 or 8. -/
structure Aw1 (s r : AW) : Prop where
  n0 : s.n ≤ r.n
  n1 : r.n ≤ s.n + 1
  it : r.it = s.it
  nt : r.nt.length ≤ s.nt.length + 1
  nk : ∀ x ∈ r.nt, x ∈ s.nt ∨ (0 ≤ x.kind ∧ x.kind ≤ 255)
theorem Aw1.refl (s : AW) : Aw1 s s := ⟨Int.le_refl _, by omega, rfl, by omega, fun x h => .inl h⟩
theorem Aw1.note {s r : AW} (h : Aw1 s r) (hn : r.nt = s.nt) (k ref b q sl v : Int) (k0 : 0 ≤ k) (k1 : k ≤ 255) : Aw1 s (awNote k ref b q sl v r) := by
  refine ⟨h.n0, h.n1, h.it, ?_, ?_⟩
  · show (ntAdd r.nt _).length ≤ _
    unfold ntAdd
    split
    · rw [List.length_append, hn]; simp
    · rw [hn]; omega
  · intro x hx
    have hx : x ∈ ntAdd r.nt ⟨r.n, r.ho, k, ref, b, q, sl, v⟩ := hx
    unfold ntAdd at hx
    split at hx
    · rw [List.mem_append, hn] at hx
      rcases hx with hx | hx
      · exact .inl hx
      · rw [List.mem_singleton] at hx
        subst hx
        exact .inr ⟨k0, k1⟩
    · rw [hn] at hx; exact .inl hx
theorem aw1_load (a : Int) (s : AW) : Aw1 s (awLoad a s) := ⟨by show s.n ≤ s.n + 1; omega, Int.le_refl _, rfl, by show s.nt.length ≤ _; omega, fun x h => .inl h⟩
theorem aw1_store (a v : Int) (s : AW) : Aw1 s (awStore a v s) := ⟨by show s.n ≤ s.n + 1; omega, Int.le_refl _, rfl, by show s.nt.length ≤ _; omega, fun x h => .inl h⟩
theorem aw1_add (a v : Int) (s : AW) : Aw1 s (awAdd a v s) := ⟨by show s.n ≤ s.n + 1; omega, Int.le_refl _, rfl, by show s.nt.length ≤ _; omega, fun x h => .inl h⟩
theorem outStep_aw (p : Spt) (s : AW) (o : Otm) : Aw1 s (outStep p s o).1 ∧ (outStep p s o).1.nt = s.nt := by
  unfold outStep
  split
  · exact ⟨aw1_load _ _, rfl⟩
  · split
    · exact ⟨aw1_store _ _ _, rfl⟩
    · split
      · exact ⟨aw1_store _ _ _, rfl⟩
      · exact ⟨Aw1.refl _, rfl⟩
theorem evStep_aw (s : AW) (z : Evm) (l0 : 0 ≤ z.ln) (l1 : z.ln ≤ 12) : Aw1 s (evStep (s, z)).1 := by
  have h : z.ln = 0 ∨ z.ln = 1 ∨ z.ln = 2 ∨ z.ln = 3 ∨ z.ln = 4 ∨ z.ln = 5 ∨ z.ln = 6 ∨ z.ln = 7 ∨ z.ln = 8 ∨ z.ln = 9 ∨ z.ln = 10 ∨ z.ln = 11 ∨ z.ln = 12 := by omega
  rcases h with h | h | h | h | h | h | h | h | h | h | h | h | h
  · rw [evStep_0 s z h]; exact Aw1.refl _
  · rw [evStep_1 s z h]; exact aw1_store _ _ _
  · rw [evStep_2 s z h]; exact aw1_load _ _
  · rw [evStep_3 s z h]; exact aw1_load _ _
  · rw [evStep_4 s z h]; exact aw1_load _ _
  · rw [evStep_5 s z h]; exact aw1_load _ _
  · rw [evStep_6 s z h]; exact aw1_store _ _ _
  · rw [evStep_7 s z h]; exact aw1_add _ _ _
  · rw [evStep_8 s z h]
    obtain ⟨a, b⟩ := outStep_aw (evSpot z) s z.o
    dsimp only
    by_cases e : z.o.ln = 1
    · rw [if_pos e]; refine Aw1.note a b _ _ _ _ _ _ ?_ ?_ <;> decide
    · rw [if_neg e]; exact a
  · rw [evStep_9 s z h]; exact aw1_add _ _ _
  · rw [evStep_10 s z h]; exact aw1_add _ _ _
  · rw [evStep_11 s z h]
    dsimp only
    by_cases e : z.ref = 0
    · rw [if_pos e]; refine Aw1.note (aw1_store _ _ _) rfl _ _ _ _ _ _ ?_ ?_ <;> decide
    · rw [if_neg e]; refine Aw1.note (aw1_store _ _ _) rfl _ _ _ _ _ _ ?_ ?_ <;> decide
  · rw [evStep_12 s z h]; exact aw1_store _ _ _
structure Hop where
  x : Nat
  R : Nat
  z : Evm
structure HopAt (w : World) (G : Om) (k : Nat) (q : Hop) : Prop where
  e : EvAt w G k q.x q.z
  r : ReAt w G (k + 6) q.R q.z
  ok : EvOk q.z
theorem HopAt.ext {S : Nat → Prop} {O O' : Om} {w w' : World} {k : Nat} {q : Hop} (h : HopAt w O k q) (e : Ext S O w O' w') (hs : ∀ t, k ≤ t → t < k + 10 → ¬ S t) : HopAt w' O' k q :=
  ⟨h.e.ext e (fun t h1 h2 => hs t h1 (by omega)), h.r.ext e (hs _ (by omega) (by omega)) (hs _ (by omega) (by omega)) (hs _ (by omega) (by omega)) (hs _ (by omega) (by omega)), h.ok⟩
theorem HopAt.below {O : Om} {w w' : World} {k : Nat} {q : Hop} (h : HopAt w O k q) (hb : Below w.heap.size w w') : HopAt w' O k q := ⟨h.e.below hb, h.r.below hb, h.ok⟩
def HK : OpK Hop := ⟨fun q => q.x, fun q => q.R, HopAt, 10, fun h e hs => h.ext e hs⟩
/-- A step of one Evict of both sides, the document's first. -/
theorem QI.evict {E : TypeId} {w0 w w1 w2 : World} {B C : Wb} {f : Cf} {N k i : Nat} {vo : Value} {G G1 G2 : Om} {s : AW} {m : Nat} {l : List Hop} {q : Hop} (h : QI HK E w0 B C f N k w vo G s m l) (hi : l[i]? = some q)
    (e1 : Ext (SD (17 + 10 * i) (17 + 10 * i + 3)) G w G1 w1) (r1 : RW w1 G1 C f (evStep (s, q.z)).1 (m + 1)) (x1 : ReAt w1 G1 (17 + 10 * i) q.R (evStep (s, q.z)).2)
    (e2 : Ext (SX (11 + 10 * i) (11 + 10 * i + 5)) G1 w1 G2 w2) (p2 : PW w2 G2 B f (evStep (s, q.z)).1) (x2 : EvAt w2 G2 (11 + 10 * i) q.x (evStep (s, q.z)).2) :
    ∃ q' : Hop, HopAt w2 G2 (11 + 10 * i) q' ∧ q'.x = q.x ∧ q'.R = q.R ∧ q'.z = (evStep (s, q.z)).2 ∧ QI HK E w0 B C f N (k + 1) w2 vo G2 (evStep (s, q.z)).1 (m + 1) (l.set i q') := by
  have h0 : HopAt w G (11 + 10 * i) q := h.ops i q hi
  have a := evStep_aw s q.z h0.ok.l0 h0.ok.l1
  have hb : opb HK.wd i = 11 + 10 * i := rfl
  have hq : HopAt w2 G2 (11 + 10 * i) ⟨q.x, q.R, (evStep (s, q.z)).2⟩ := ⟨x2, by
    have := x1.ext e2 (SX.not (by omega) (by omega)) (SX.not (by omega) (by omega)) (SX.not (by omega) (by omega)) (SX.not (by omega) (by omega))
    show ReAt w2 G2 (11 + 10 * i + 6) q.R _
    rwa [show 11 + 10 * i + 6 = 17 + 10 * i by omega], evStep_ok h.pr.p.bd h0.ok⟩
  have E12 : Ext (SO (opb HK.wd i) HK.wd) G w G2 w2 := by
    rw [hb]
    refine (e1.mono ?_).trans (e2.mono ?_)
    · intro t _ ht; show SO (11 + 10 * i) 10 t; unfold SD SR at ht; unfold SO; omega
    · intro t _ ht; show SO (11 + 10 * i) 10 t; unfold SX at ht; unfold SO; omega
  refine ⟨_, hq, rfl, rfl, rfl, h.step hi E12 ⟨p2, r1.ext e2 (SX.not (by omega) (by omega)) (SX.not (by omega) (by omega)) (SX.not (by omega) (by omega)) (SX.not (by omega) (by omega))⟩ (by rw [hb]; exact hq) rfl rfl (by have := h.n0; have := a.n0; omega) (by have := a.n1; omega) (by omega) (by rw [a.it]; omega) (by have := a.nt; omega) ?_⟩
  intro x hx
  rcases a.nk x hx with g | g
  · exact h.hnk x g
  · exact g
end
section
open Go.RowKit
set_option linter.unusedVariables false

theorem cell_newH (w : World) (cs : Array Value) (t : TypeId) (n : Nat) (hn : n = w.heap.size) (j : Nat) (u : Value) (h : cs[j]? = some u) : (w.alloc (.cells cs t)).cell? ⟨n, j, none⟩ = some u := by
  subst hn; simp [h]
theorem below_dnH (w : World) (n : Nat) : Below w.heap.size w (w.drewN n) := ⟨rfl, rfl, rfl, Nat.le_refl _, fun _ _ => rfl⟩
set_option maxHeartbeats 4000000 in
set_option maxRecDepth 100000 in
theorem c_same23 {w : World} {O : Om} {k : Nat} {q : Hop} (h : HopAt w O k q) :
    Calls Tryz.prog 86 #[.agg #[.pointer (some ⟨q.x, 0, none⟩), .pointer (some ⟨q.R, 0, none⟩)]] w fun e w' => e = .returned (.bool true) ∧ Below w.heap.size w w' := by
  obtain ⟨X, hX⟩ : ∃ X, X = q.x := ⟨_, rfl⟩
  obtain ⟨R, hR⟩ : ∃ R, R = q.R := ⟨_, rfl⟩
  obtain ⟨rf, hrf⟩ : ∃ z, z = (evGot q.z).1 := ⟨_, rfl⟩
  obtain ⟨sp, hsp⟩ : ∃ z, z = (evGot q.z).2 := ⟨_, rfl⟩
  have HG : Hid (∀ W, Below w.heap.size w W → Calls Tryz.prog 50 #[.pointer (some ⟨X, 0, none⟩)] W fun e w' => e = .returned (.tuple #[.int .i64 rf, spV sp]) ∧ Below W.heap.size W w') := Lib.hid fun W hb => by rw [hrf, hsp, hX]; exact c_EvGot (h.e.below hb) h.ok
  have HR : Hid (∀ W, Below w.heap.size w W → Calls Tryz.prog 164 #[.pointer (some ⟨R, 0, none⟩)] W fun e w' => e = .returned (.tuple #[.int .i64 rf, spV sp]) ∧ Below W.heap.size W w') := Lib.hid fun W hb => by rw [hrf, hsp, hR]; exact c_reGot (h.r.below hb)
  obtain ⟨ln, hln⟩ : ∃ z, z = q.z.ln := ⟨_, rfl⟩
  have xr : w.cell? ⟨X, 0, none⟩ = some (.int .i64 ln) := by rw [hX, hln]; exact h.e.cell0
  have r0 : w.cell? ⟨R, 0, none⟩ = some (.int .i64 ln) := by rw [hR, hln]; obtain ⟨p, a, u, ho, -⟩ := h.r.ex; exact ho.c 0 _ rfl
  have hXl := blk_lt xr
  have hRl := blk_lt r0
  have HO : Hid (∀ W, Below w.heap.size w W → Calls Tryz.prog 51 #[.pointer (some ⟨X, 0, none⟩)] W fun e w' => e = .returned (.bool (ln == 0)) ∧ W = w') := Lib.hid fun W hb => c_EvOver ((hb.cell (p := ⟨X, 0, none⟩) hXl).trans xr)
  obtain ⟨ov, hov⟩ : ∃ z, z = (ln == 0) := ⟨_, rfl⟩
  rw [← hov] at HO
  have hd : (ln == 0) = ov := hov.symm
  obtain ⟨sb, sq, ss⟩ := sp
  rw [← hX, ← hR]
  unfold spV at HG HR
  dsimp only at HG HR hRl
  clear h hX hR hrf hsp hln hov xr hXl
  go_enter Tryz.func86, Tryz.ntmps86
  go_wp2_with fail
  obtain ⟨W1, hW1⟩ : ∃ W1, W1 = w.alloc (.cells #[.pointer (some ⟨X, 0, none⟩), .pointer (some ⟨R, 0, none⟩)] 156) := ⟨_, rfl⟩
  have y0 : W1.cell? ⟨w.heap.size, 0, none⟩ = some (.pointer (some ⟨X, 0, none⟩)) := by rw [hW1]; simp
  have y1 : W1.cell? ⟨w.heap.size, 1, none⟩ = some (.pointer (some ⟨R, 0, none⟩)) := by rw [hW1]; simp
  have hl1 : w.heap.size < W1.heap.size := by rw [hW1]; simp
  have b1 : Below w.heap.size w W1 := by rw [hW1]; exact (Below.refl _ _).alloc (Nat.le_refl _) _
  rw [← hW1]
  clear hW1
  have HB1 := Lib.hid b1
  clear b1
  refine (HG.out W1 HB1.out).mono ?_
  rintro e W2 ⟨rfl, hb2⟩
  have HB2 := Lib.hid (HB1.out.trans (hb2.mono HB1.out.size))
  have z1 := (hb2.cell (p := ⟨w.heap.size, 1, none⟩) hl1).trans y1
  have z0 := (hb2.cell (p := ⟨w.heap.size, 0, none⟩) hl1).trans y0
  have hl2 : w.heap.size < W2.heap.size := Nat.lt_of_lt_of_le hl1 hb2.size
  clear hb2 y0 y1 HB1
  go_wp2_with fail
  obtain ⟨W3, hW3⟩ : ∃ W3, W3 = W2.alloc (.cells #[.int .i64 sb, .int .i64 sq, .int .i64 ss] 56) := ⟨_, rfl⟩
  have hc := fun j u hu => cell_newH W2 #[.int .i64 sb, .int .i64 sq, .int .i64 ss] 56 _ rfl j u hu
  rw [← hW3] at hc
  have b3 : Below W2.heap.size W2 W3 := by rw [hW3]; exact (Below.refl _ _).alloc (Nat.le_refl _) _
  have y0 := (b3.cell (p := ⟨w.heap.size, 0, none⟩) hl2).trans z0
  have y1 := (b3.cell (p := ⟨w.heap.size, 1, none⟩) hl2).trans z1
  have a0 := hc 0 _ rfl
  have a1 := hc 1 _ rfl
  have a2 := hc 2 _ rfl
  have hl3 : w.heap.size < W3.heap.size := Nat.lt_of_lt_of_le hl2 b3.size
  have hn2 : W2.heap.size < W3.heap.size := by rw [hW3]; simp
  have HB3 := Lib.hid (HB2.out.trans (b3.mono HB2.out.size))
  rw [← hW3]
  clear hW3 hc b3 z0 z1 HB2
  obtain ⟨n2, hn⟩ : ∃ n, n = W2.heap.size := ⟨_, rfl⟩
  rw [← hn] at a0 a1 a2 hn2 ⊢
  clear hn
  refine (HR.out W3 HB3.out).mono ?_
  rintro e W4 ⟨rfl, hb4⟩
  have c := fun j => hb4.cell (p := ⟨n2, j, none⟩) hn2
  have d0 := (c 0).trans a0
  have d1 := (c 1).trans a1
  have d2 := (c 2).trans a2
  have z0 := (hb4.cell (p := ⟨w.heap.size, 0, none⟩) hl3).trans y0
  have z1 := (hb4.cell (p := ⟨w.heap.size, 1, none⟩) hl3).trans y1
  have hl4 : w.heap.size < W4.heap.size := Nat.lt_of_lt_of_le hl3 hb4.size
  have hn4 : n2 < W4.heap.size := Nat.lt_of_lt_of_le hn2 hb4.size
  have HB4 := Lib.hid (HB3.out.trans (hb4.mono HB3.out.size))
  clear c hb4 a0 a1 a2 y0 y1 HB3 HR HG
  go_upto_region 3 with fail
  obtain ⟨W5, hW5⟩ : ∃ W5, W5 = W4.alloc (.cells #[.int .i64 sb, .int .i64 sq, .int .i64 ss] 56) := ⟨_, rfl⟩
  have hc := fun j u hu => cell_newH W4 #[.int .i64 sb, .int .i64 sq, .int .i64 ss] 56 _ rfl j u hu
  rw [← hW5] at hc
  have b5 : Below W4.heap.size W4 W5 := by rw [hW5]; exact (Below.refl _ _).alloc (Nat.le_refl _) _
  have c := fun j => b5.cell (p := ⟨n2, j, none⟩) hn4
  have e0 := (c 0).trans d0
  have e1 := (c 1).trans d1
  have e2 := (c 2).trans d2
  have g0 := hc 0 _ rfl
  have g1 := hc 1 _ rfl
  have g2 := hc 2 _ rfl
  have y0 := (b5.cell (p := ⟨w.heap.size, 0, none⟩) hl4).trans z0
  have y1 := (b5.cell (p := ⟨w.heap.size, 1, none⟩) hl4).trans z1
  have HB5 := Lib.hid (HB4.out.trans (b5.mono HB4.out.size))
  have x0 := (HB5.out.cell (p := ⟨R, 0, none⟩) hRl).trans r0
  rw [← hW5]
  clear hW5 hc c b5 z0 z1 d0 d1 d2 HB4 r0
  have HOQ := Lib.hid (fun W (h : ∃ n, W = W5.drewN n) => HO.out W (by obtain ⟨n, rfl⟩ := h; exact HB5.out.trans ((below_dnH W5 n).mono HB5.out.size)))
  go_quiet ((go_at_call 51; exact quietS (HOQ.out _ ⟨_, rfl⟩)))
  go_wp2
  go_ret
  exact ⟨rfl, HB5.out.trans ((below_dnH W5 nq).mono HB5.out.size)⟩
end
end Go.Proofs.YtkpkhibknaoboaaGreat
