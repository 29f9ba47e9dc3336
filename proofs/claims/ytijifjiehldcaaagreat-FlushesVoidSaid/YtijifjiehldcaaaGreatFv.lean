/- Layer 27: FlushesVoid. -/
import Derived.Test.YtijifjiehldcaaaGreatBg
import Derived.Test.YtijifjiehldcaaaGreatSb
import Derived.Test.YtijifjiehldcaaaGreatFlL
namespace Go.Proofs.YtijifjiehldcaaaGreat
set_option linter.unusedSimpArgs false
open Go.RowKit
set_option linter.unusedVariables false

theorem extF_below {S : Nat → Prop} {w w' : World} {G : Om} (e : Ext S O0 w G w') : Below w.heap.size w w' :=
  e.wr.below (fun k _ hk => absurd rfl hk.2) (Nat.le_refl _)
def O7 : Om := fun _ => 7
/-- A Flush that is over from the first. -/
def VoidF (w : World) (v : Value) : Prop := v = .pointer none ∨ ∃ b, v = .pointer (some ⟨b, 0, none⟩) ∧ Ob w O7 7 b (flCs .nilFunc 0 0 0)
theorem Ob.wrote {S : Nat → Prop} {O : Om} {w w' : World} {g b : Nat} {cs : List Value} (h : Ob w O g b cs) (hw : Wrote S w w') (hs : ¬ S b) : Ob w' O g b cs :=
  ⟨h.o, Nat.lt_of_lt_of_le h.lt hw.size, fun j u hu => (hw.cell (p := ⟨b, j, none⟩) h.lt hs).trans (h.c j u hu), fun j => (hw.frozen (p := ⟨b, j, none⟩) h.lt hs).trans (h.f j)⟩
theorem VoidF.below {w w' : World} {v : Value} (h : VoidF w v) (hb : Below w.heap.size w w') : VoidF w' v := by
  rcases h with h | ⟨b, h1, h2⟩
  · exact .inl h
  · exact .inr ⟨b, h1, h2.below hb⟩
theorem VoidF.ptr {w : World} {v : Value} (h : VoidF w v) : ∃ a, v = .pointer a := by
  rcases h with h | ⟨b, h1, _⟩
  · exact ⟨_, h⟩
  · exact ⟨_, h1⟩
theorem c_fover_void {w : World} {v : Value} (h : VoidF w v) : Calls Tryz.prog 31 #[v] w fun e w' => e = .returned (.bool true) ∧ w = w' := by
  rcases h with rfl | ⟨b, rfl, h2⟩
  · go_enter Tryz.func31, Tryz.ntmps31
    go_wp2
    go_ret
    exact ⟨rfl, rfl⟩
  · exact c_FOver b .nilFunc w (h2.c 0 _ rfl) true (.inl ⟨rfl, rfl⟩)
set_option maxRecDepth 100000 in
theorem c_fgot_void {w : World} {v : Value} (h : VoidF w v) : Calls Tryz.prog 30 #[v] w fun e w' => e = .returned (.tuple #[anV 0, .int .u64 0, .int .i64 0]) ∧ Below w.heap.size w w' := by
  rcases h with rfl | ⟨b, rfl, h2⟩
  · go_enter Tryz.func30, Tryz.ntmps30
    go_wp2
    exact bodyPost_ret (v := .tuple #[anV 0, .int .u64 0, .int .i64 0]) (by simp [results, Tryz.results30, go_sem, anV]) rfl ⟨rfl, by first | exact ((Below.refl _ _).alloc (Nat.le_refl _) _) | (repeat (first | (with_reducible exact Below.refl _ _) | (with_reducible refine below_alloc ?_ _) | (with_reducible refine below_setCell ?_ (by simp) _ _)))⟩
  · exact c_FGot w O7 7 b 0 0 0 h2
theorem c_fstep_void {w : World} {v : Value} (u : Option Addr) (h : VoidF w v) : Calls Tryz.prog 29 #[v, .pointer u] w fun e w' => e = .returned (.bool true) ∧ w = w' := by
  have ho := c_fover_void h
  obtain ⟨a, rfl⟩ := h.ptr
  clear h
  go_enter Tryz.func29, Tryz.ntmps29
  go_wp2_with fail
  refine ho.mono ?_
  rintro e w' ⟨rfl, rfl⟩
  go_wp2_with fail
  refine ho.mono ?_
  rintro e w' ⟨rfl, rfl⟩
  go_wp2
  go_ret
  exact ⟨rfl, rfl⟩
/-- A Flush that begins takes no step without a world. -/
theorem c_fstep_none {w : World} {X : Nat} {f : Fn} {a c : Array Value} (hc : w.cell? ⟨X, 0, none⟩ = some (.func f a c)) : Calls Tryz.prog 29 #[.pointer (some ⟨X, 0, none⟩), .pointer none] w fun e w' => e = .returned (.bool false) ∧ w = w' := by
  have ho := c_FOver X _ w hc false (.inr ⟨f, a, c, rfl, rfl⟩)
  clear hc
  go_enter Tryz.func29, Tryz.ntmps29
  go_wp2_with fail
  refine ho.mono ?_
  rintro e w' ⟨rfl, rfl⟩
  go_wp2_with fail
  refine ho.mono ?_
  rintro e w' ⟨rfl, rfl⟩
  go_wp2
  go_ret
  exact ⟨rfl, rfl⟩
theorem c_NewTakeBad (t : Int) (w : World) (h : ¬ (0 ≤ t ∧ t < 64)) :
    Calls Tryz.prog 65 #[.int .i64 t] w fun e w' => e = .returned (.pointer (some ⟨w.heap.size, 0, none⟩)) ∧ w.alloc (.cells #[.int .i64 t, .int .u64 0, .bool false, .nilFunc] 201) = w' := by
  have hd : decide (0 ≤ t ∧ t < 64) = false := by simp; omega
  go_enter Tryz.func65, Tryz.ntmps65
  go_wp2_with fail
  refine (c_thread t _).mono ?_
  rintro e w' ⟨rfl, rfl⟩
  rw [hd]
  go_wp2
  go_ret
  exact ⟨rfl, rfl⟩
set_option maxRecDepth 100000 in
theorem c_NewFlushBad (t d : Int) (w : World) (h : ¬ (0 ≤ t ∧ t < 64)) :
    Calls Tryz.prog 24 #[.int .i64 t, .int .i64 d] w fun e w' => ∃ b, e = .returned (.pointer (some ⟨b, 0, none⟩)) ∧ w.heap.size ≤ b ∧ Below w.heap.size w w' ∧ VoidF w' (.pointer (some ⟨b, 0, none⟩)) := by
  go_enter Tryz.func24, Tryz.ntmps24
  go_wp2_with fail
  obtain ⟨W3, hW3⟩ : ∃ W3, W3 = ((w.alloc (.cells #[.int .i64 d] 2)).alloc (.cells #[.nilFunc, .int .u8 0, .int .u64 0, .string ⟨#[]⟩, .string ⟨#[]⟩, .int .u32 0, .int .u64 0, .int .i64 0, .int .i64 0, .int .u64 0, .int .i64 0] 84)).alloc (.cells #[.pointer (some ⟨w.heap.size + 1, 0, none⟩)] 63) := ⟨_, rfl⟩
  have b3 : Below w.heap.size w W3 := by rw [hW3]; exact (((Below.refl _ _).alloc (Nat.le_refl _) _).alloc (by simp) _).alloc (by simp; omega) _
  have x3 : Ob W3 O7 7 (w.heap.size + 1) (flCs .nilFunc 0 0 0) := by
    have h1 := Ob.new (w.alloc (.cells #[.int .i64 d] 2)) O0 7 #[.nilFunc, .int .u8 0, .int .u64 0, .string ⟨#[]⟩, .string ⟨#[]⟩, .int .u32 0, .int .u64 0, .int .i64 0, .int .i64 0, .int .u64 0, .int .i64 0] 84
    have h2 := h1.below ((Below.refl _ _).alloc (Nat.le_refl _) (.cells #[.pointer (some ⟨w.heap.size + 1, 0, none⟩)] 63))
    rw [← hW3] at h2
    have hz : (w.alloc (.cells #[.int .i64 d] 2)).heap.size = w.heap.size + 1 := by simp
    rw [hz] at h2
    exact ⟨rfl, h2.lt, h2.c, h2.f⟩
  have y3 : W3.cell? ⟨w.heap.size + 1 + 1, 0, none⟩ = some (.pointer (some ⟨w.heap.size + 1, 0, none⟩)) := by rw [hW3]; exact cell_newA _ #[.pointer (some ⟨w.heap.size + 1, 0, none⟩)] _ _ (by simp) 0 _ rfl
  have l3 : Hid (W3.heap.size = w.heap.size + 1 + 1 + 1) := Lib.hid (by rw [hW3]; simp)
  rw [← hW3]
  clear hW3
  refine (c_NewTakeBad t W3 h).mono ?_
  rintro e W4 ⟨rfl, hW4⟩
  have b34 : Below W3.heap.size W3 W4 := by rw [← hW4]; exact (Below.refl _ _).alloc (Nat.le_refl _) _
  have q4 : W4.cell? ⟨W3.heap.size, 3, none⟩ = some .nilFunc := by rw [← hW4]; simp
  have l4 : W3.heap.size < W4.heap.size := by rw [← hW4]; simp
  have y4 := (b34.cell (p := ⟨w.heap.size + 1 + 1, 0, none⟩) (show w.heap.size + 1 + 1 < W3.heap.size by have := l3.out; omega)).trans y3
  have l5 : w.heap.size + 1 + 1 < W4.heap.size := by have := l3.out; omega
  have X4 := Lib.hid (x3.below b34)
  have B4 := Lib.hid (b3.trans (b34.mono b3.size))
  clear b3 x3 y3 b34 hW4
  go_wp2_with fail
  refine (c_TakeOver W3.heap.size .nilFunc _ ((((Below.refl W4.heap.size W4).alloc (Nat.le_refl _) _).cell (p := ⟨W3.heap.size, 3, none⟩) l4).trans q4) true (.inl ⟨rfl, rfl⟩)).mono ?_
  rintro e w' ⟨rfl, rfl⟩
  go_wp2_with fail
  go_ret
  exact ⟨_, rfl, by omega, B4.out.alloc (by omega) _, .inr ⟨_, rfl, X4.out.below ((Below.refl _ _).alloc (Nat.le_refl _) _)⟩⟩
def fstZ : Fst := ⟨⟨0, 0, 0, 0, 0⟩, false, [], [], [], 0⟩
theorem fstZ_in (w : World) : FstIn w fstZ (.slice none 0 0) (.slice none 0 0) (.slice none 0 0) where
  it := Arr.nil _ _
  pu := Arr.nil _ _
  st := Arr.nil _ _
  it1 := by decide
  pu1 := by decide
  st1 := by decide
  key := by intro x hx; cases hx
  pub := by intro x hx; cases hx
  stb := by intro x hx; cases hx
  ti0 := by decide
  ti1 := by decide
theorem infoFp : (Tryz.prog.info? 63).map (fun i => (i.zero, i.size, i.bytes)) = some (some (.pointer none), 1, 8) := by kernel_rfl
set_option maxHeartbeats 4000000 in
set_option maxRecDepth 100000 in
theorem w_FlushesVoid (t delay : Int) (w : World) (r0 : -9223372036854775808 ≤ t) (r1 : t ≤ 9223372036854775807) (d0 : -9223372036854775808 ≤ delay) (d1 : delay ≤ 9223372036854775807) :
    Calls Tryz.prog 6 #[.int .i64 t, .int .i64 delay] w fun e w' => e = .returned (.bool true) ∧ Below w.heap.size w w' := by
  have hB := c_Begin fstZ _ _ _ w (fstZ_in w)
  unfold fstV fstZ at hB
  dsimp only at hB
  go_enter Tryz.func6, Tryz.ntmps6
  go_wp2_with fail
  refine hB.mono ?_
  rintro e w1 ⟨B, C, rfl, G, e1, s, m, pr, n0, n1, m1, hit, hnt⟩
  have HP := Lib.hid pr
  have HH := Lib.hid e1.hi
  have HB := Lib.hid (extF_below e1)
  have HIt := Lib.hid hit
  have HNt := Lib.hid hnt
  clear hB e1 pr hit hnt
  go_wp2_with fail
  obtain ⟨W3, hW3⟩ : ∃ W3, W3 = (w1.alloc (.cells #[.pointer (some ⟨B.p, 0, none⟩), .pointer (some ⟨C.p, 0, none⟩)] 34)).alloc (.cells #[.nilFunc, .int .u8 0, .int .u64 0, .string ⟨#[]⟩, .string ⟨#[]⟩, .int .u32 0, .int .u64 0, .int .i64 0, .int .i64 0, .int .u64 0, .int .i64 0] 84) := ⟨_, rfl⟩
  have hz3 : Hid (W3.heap.size = w1.heap.size + 1 + 1) := Lib.hid (by rw [hW3]; simp)
  have b3 : Below w1.heap.size w1 W3 := by rw [hW3]; exact ((Below.refl _ _).alloc (Nat.le_refl _) _).alloc (by simp) _
  have y0 : W3.cell? ⟨w1.heap.size, 0, none⟩ = some (.pointer (some ⟨B.p, 0, none⟩)) := by rw [hW3]; simp
  have y1 : W3.cell? ⟨w1.heap.size, 1, none⟩ = some (.pointer (some ⟨C.p, 0, none⟩)) := by rw [hW3]; simp
  have v1 : VoidF W3 (.pointer (some ⟨w1.heap.size + 1, 0, none⟩)) := .inr ⟨_, rfl, by
    have h1 := Ob.new (w1.alloc (.cells #[.pointer (some ⟨B.p, 0, none⟩), .pointer (some ⟨C.p, 0, none⟩)] 34)) O0 7 #[.nilFunc, .int .u8 0, .int .u64 0, .string ⟨#[]⟩, .string ⟨#[]⟩, .int .u32 0, .int .u64 0, .int .i64 0, .int .i64 0, .int .u64 0, .int .i64 0] 84
    rw [← hW3] at h1
    have hz : (w1.alloc (.cells #[.pointer (some ⟨B.p, 0, none⟩), .pointer (some ⟨C.p, 0, none⟩)] 34)).heap.size = w1.heap.size + 1 := by simp
    rw [hz] at h1
    exact ⟨rfl, h1.lt, h1.c, h1.f⟩⟩
  rw [← hW3]
  clear hW3
  refine (c_NewFlushBad (-1) delay W3 (by decide)).mono ?_
  rintro e W4 ⟨t2, rfl, ht2, b34, v2⟩
  have hN3 : w1.heap.size < W3.heap.size := by have := hz3.out; omega
  have x0 := (b34.cell (p := ⟨w1.heap.size, 0, none⟩) hN3).trans y0
  have x1 := (b34.cell (p := ⟨w1.heap.size, 1, none⟩) hN3).trans y1
  have hN4 : w1.heap.size < W4.heap.size := by have := b34.size; omega
  go_wp2_with fail
  refine (c_NewFlushBad 64 delay W4 (by decide)).mono ?_
  rintro e W5 ⟨t3, rfl, ht3, b45, v3⟩
  have x0' := (b45.cell (p := ⟨w1.heap.size, 0, none⟩) hN4).trans x0
  have x1' := (b45.cell (p := ⟨w1.heap.size, 1, none⟩) hN4).trans x1
  have B5 := Lib.hid (b3.trans ((b34.trans (b45.mono b34.size)).mono (by omega)))
  have V1 := Lib.hid ((v1.below b34).below b45)
  have V2 := Lib.hid (v2.below b45)
  have V3 := Lib.hid v3
  have V0 : Hid (VoidF W5 (.pointer none)) := Lib.hid (.inl rfl)
  obtain ⟨p1, hp1⟩ : ∃ p1 : Option Addr, p1 = some ⟨w1.heap.size + 1, 0, none⟩ := ⟨_, rfl⟩
  obtain ⟨p2, hp2⟩ : ∃ p2 : Option Addr, p2 = some ⟨t2, 0, none⟩ := ⟨_, rfl⟩
  obtain ⟨p3, hp3⟩ : ∃ p3 : Option Addr, p3 = some ⟨t3, 0, none⟩ := ⟨_, rfl⟩
  rw [← hp1] at V1
  rw [← hp2] at V2
  rw [← hp3] at V3
  have hN5 : w1.heap.size < W5.heap.size := by have := b45.size; omega
  clear b3 b34 b45 v1 v2 v3 x0 x1 y0 y1 hN3 hN4 hz3 ht2 ht3
  have HR : Hid (¬ (0 ≤ t ∧ t < 64) ∨ (0 ≤ t ∧ t < 64)) := Lib.hid (by omega)
  by_cases hr : t < 0
  · as_aux_lemma =>
    have hbad : ¬ (0 ≤ t ∧ t < 64) := by omega
    go_wp2_with fail
    rw [← hp1, ← hp2, ← hp3]
    clear hp1 hp2 hp3
    obtain ⟨bz, hbze⟩ : ∃ bz, bz = W5.heap.size := ⟨_, rfl⟩
    obtain ⟨Wy, hWy⟩ : ∃ Wy, Wy = W5.alloc (.cells #[.pointer p1, .pointer none, .pointer p2, .pointer p3] 63) := ⟨_, rfl⟩
    have hby : Hid (Wy.heap.size = bz + 1) := Lib.hid (by rw [hWy, hbze]; simp)
    have b5y : Below W5.heap.size W5 Wy := by rw [hWy]; exact (Below.refl _ _).alloc (Nat.le_refl _) _
    have hown : Hid (Wy.ownsRow bz 63 1 (.slice (some ⟨bz, 0, none⟩) 4 4) 4 [.pointer p1, .pointer none, .pointer p2, .pointer p3]) := Lib.hid (by
      rw [hWy, hbze]
      exact ⟨rfl, .inr ⟨_, 4, #[.pointer p1, .pointer none, .pointer p2, .pointer p3], rfl, Nat.le_refl _, heap_alloc_new _ _, by decide, by unfold maxLen; decide, rfl, rfl⟩⟩)
    have y0 := (b5y.cell (p := ⟨w1.heap.size, 0, none⟩) hN5).trans x0'
    have y1 := (b5y.cell (p := ⟨w1.heap.size, 1, none⟩) hN5).trans x1'
    rw [← hWy, ← hbze]
    clear hWy
    refine (c_NewFlushBad t delay Wy hbad).mono ?_
    rintro e W6 ⟨t4, rfl, ht4, by6, v4⟩
    have hown6 := Lib.hid (ownsRow_below hown.out by6)
    have hNy : w1.heap.size < Wy.heap.size := by have := hby.out; omega
    have z0 := (by6.cell (p := ⟨w1.heap.size, 0, none⟩) hNy).trans y0
    have z1 := (by6.cell (p := ⟨w1.heap.size, 1, none⟩) hNy).trans y1
    have hN6 : w1.heap.size < W6.heap.size := by have := by6.size; omega
    have B6 := Lib.hid ((B5.out.trans (b5y.mono (by omega))).trans (by6.mono (by omega)))
    have U := Lib.hid (fun v (h : VoidF W5 v) => (h.below b5y).below by6)
    have U4 := Lib.hid v4
    have hb6 : bz ≤ W6.heap.size := by have := by6.size; have := hby.out; omega
    obtain ⟨p4, hp4⟩ : ∃ p4 : Option Addr, p4 = some ⟨t4, 0, none⟩ := ⟨_, rfl⟩
    have HP4 := Lib.hid hp4
    have HBe := Lib.hid hbze
    have HT4 : Hid (bz < t4) := Lib.hid (by have := hby.out; omega)
    rw [← hp4] at U4
    rw [← hp4]
    clear hown b5y by6 x0' x1' y0 y1 v4 hbze hp4 hNy ht4
    obtain ⟨i0, hi, hi0, hi1, hi2⟩ := info_parts infoFp
    go_wp2_with (at_builtin; refine append_one W6 rfl _ _ 85 rfl bz 63 i0 _ 1 8 Tryz.underlying85 hi hi0 hi1 hi2 rfl (by decide) (by decide) (.slice (some ⟨bz, 0, none⟩) 4 4) 4 [.pointer p1, .pointer none, .pointer p2, .pointer p3] rfl hown6.out [.pointer p4] _ rfl rfl (by simp [Value.oneCell']) (by decide) hb6 ?_; intro gg cap Wz hownz hgr; have HOz := Lib.hid hownz; have HGr := Lib.hid hgr; clear hownz hgr)
    have hWr : Hid (Wrote (fun k => k = bz) W6 Wz) := Lib.hid ((Wrote.refl _ _).grown HGr.out fun k hk _ => by cases hk; rfl)
    have y0 := (hWr.out.cell (p := ⟨w1.heap.size, 0, none⟩) hN6 (by show ¬ w1.heap.size = bz; rw [HBe.out]; omega)).trans z0
    have y1 := (hWr.out.cell (p := ⟨w1.heap.size, 1, none⟩) hN6 (by show ¬ w1.heap.size = bz; rw [HBe.out]; omega)).trans z1
    have hNz : w1.heap.size < Wz.heap.size := Nat.lt_of_lt_of_le hN6 hWr.out.size
    obtain ⟨bz', hbz'⟩ : ∃ b', b' = gg := ⟨_, rfl⟩
    subst hbz'
    have hbz := (HOz.out.lt bz' rfl).2
    have HBz : Hid (Below w1.heap.size w1 Wz) := Lib.hid (B6.out.trans (hWr.out.below (fun k _ hk => by rw [hk, HBe.out]; omega) (by omega)))
    have hcs := fun j u hj => HOz.out.cells (g := bz') rfl j u hj
    have hadd : ∀ j, (⟨bz', 0, none⟩ : Addr).add j = ⟨bz', j, none⟩ := fun j => by unfold Addr.add; split <;> simp_all
    have hvw : ∀ v, VoidF W6 v → (∀ b, v = .pointer (some ⟨b, 0, none⟩) → b ≠ bz) → VoidF Wz v := fun v h hn => by
      rcases h with h | ⟨b, h1, h2⟩
      · exact .inl h
      · exact .inr ⟨b, h1, h2.wrote hWr.out (hn b h1)⟩
    have hw5 : ∀ p, VoidF W5 (.pointer p) → VoidF Wz (.pointer p) := fun p h => hvw _ (U.out _ h) fun b hb => by
      rcases h with h | ⟨b2, h1, h2⟩
      · rw [h] at hb; cases hb
      · rw [h1] at hb; cases hb; have := h2.lt; rw [HBe.out]; omega
    have HVz : Hid (∀ k, k < 5 → ∃ v, Wz.cell? ⟨bz', k, none⟩ = some v ∧ VoidF Wz v) := Lib.hid fun k hk => by
      rcases (show k = 0 ∨ k = 1 ∨ k = 2 ∨ k = 3 ∨ k = 4 by omega) with rfl | rfl | rfl | rfl | rfl
      · exact ⟨_, by rw [← hadd]; exact hcs 0 _ rfl, hw5 _ V1.out⟩
      · exact ⟨_, by rw [← hadd]; exact hcs 1 _ rfl, hw5 _ V0.out⟩
      · exact ⟨_, by rw [← hadd]; exact hcs 2 _ rfl, hw5 _ V2.out⟩
      · exact ⟨_, by rw [← hadd]; exact hcs 3 _ rfl, hw5 _ V3.out⟩
      · exact ⟨_, by rw [← hadd]; exact hcs 4 _ rfl, hvw _ U4.out fun b hb => by rw [HP4.out] at hb; cases hb; have := HT4.out; omega⟩
    clear z0 z1 hcs hadd hvw hw5 hN6 hb6 hN5 hbad

    go_loopw [9] (fun i wr => ∃ k : Nat, k ≤ 5 ∧ i = .int .i64 k ∧ Below Wz.heap.size Wz wr)
      (fun i _ => 5 - (intOf i).toNat)
    case atStart => exact ⟨0, by decide, rfl, Below.refl _ _⟩
    case round =>
      obtain ⟨k, hk, rfl, hb⟩ := hrel
      have HBr := Lib.hid hb
      have x0 := (hb.cell (p := ⟨w1.heap.size, 0, none⟩) hNz).trans y0
      have x1 := (hb.cell (p := ⟨w1.heap.size, 1, none⟩) hNz).trans y1
      have hNr : w1.heap.size < wr.heap.size := Nat.lt_of_lt_of_le hNz hb.size
      by_cases hk2 : k < 5
      · obtain ⟨v, hvc, hvv⟩ := HVz.out k hk2
        have l0 := (hb.cell (p := ⟨bz', k, none⟩) hbz).trans hvc
        have HV := Lib.hid (hvv.below hb)
        obtain ⟨a, rfl⟩ := hvv.ptr
        have hbr : bz' < wr.heap.size := Nat.lt_of_lt_of_le hbz hb.size
        clear hvc hvv hb y0 y1
        go_wp2_with fail
        refine (c_fgot_void HV.out).mono ?_
        rintro e W2 ⟨rfl, hbg⟩
        have HBg : Hid (Below Wz.heap.size Wz W2) := Lib.hid (HBr.out.trans (hbg.mono HBr.out.size))
        have HV2 := Lib.hid (HV.out.below hbg)
        have z0 := (hbg.cell (p := ⟨w1.heap.size, 0, none⟩) hNr).trans x0
        have z1 := (hbg.cell (p := ⟨w1.heap.size, 1, none⟩) hNr).trans x1
        have lg := (hbg.cell (p := ⟨bz', k, none⟩) hbr).trans l0
        have hNg : w1.heap.size < W2.heap.size := Nat.lt_of_lt_of_le hNr hbg.size
        have hbg2 : bz' < W2.heap.size := Nat.lt_of_lt_of_le hbr hbg.size
        clear hbg HV HBr x0 x1 l0 hbr
        unfold anV
        go_wp2_with fail
        obtain ⟨W3, hW3⟩ : ∃ W3, W3 = W2.alloc (.cells #[.int .u8 0, .int .u64 0, .string ⟨#[]⟩, .string ⟨#[]⟩, .int .u32 0, .int .u64 0, .int .i64 0, .int .i64 0] 77) := ⟨_, rfl⟩
        have b23 : Below W2.heap.size W2 W3 := by rw [hW3]; exact (Below.refl _ _).alloc (Nat.le_refl _) _
        have c0 : W3.cell? ⟨W2.heap.size, 0, none⟩ = some (.int .u8 0) := by rw [hW3]; simp
        have c1 : W3.cell? ⟨W2.heap.size, 1, none⟩ = some (.int .u64 0) := by rw [hW3]; simp
        have c2 : W3.cell? ⟨W2.heap.size, 2, none⟩ = some (.string ⟨#[]⟩) := by rw [hW3]; simp
        have c3 : W3.cell? ⟨W2.heap.size, 3, none⟩ = some (.string ⟨#[]⟩) := by rw [hW3]; simp
        have c4 : W3.cell? ⟨W2.heap.size, 4, none⟩ = some (.int .u32 0) := by rw [hW3]; simp
        have c5 : W3.cell? ⟨W2.heap.size, 5, none⟩ = some (.int .u64 0) := by rw [hW3]; simp
        have c6 : W3.cell? ⟨W2.heap.size, 6, none⟩ = some (.int .i64 0) := by rw [hW3]; simp
        have c7 : W3.cell? ⟨W2.heap.size, 7, none⟩ = some (.int .i64 0) := by rw [hW3]; simp
        have hw23 : W2.heap.size < W3.heap.size := by rw [hW3]; simp
        have x0 := (b23.cell (p := ⟨w1.heap.size, 0, none⟩) hNg).trans z0
        have x1 := (b23.cell (p := ⟨w1.heap.size, 1, none⟩) hNg).trans z1
        have l0 := (b23.cell (p := ⟨bz', k, none⟩) hbg2).trans lg
        have HV := Lib.hid (HV2.out.below b23)
        have HB3 : Hid (Below Wz.heap.size Wz W3) := Lib.hid (HBg.out.trans (b23.mono HBg.out.size))
        have hN3 : w1.heap.size < W3.heap.size := by omega
        have hb3 : bz' < W3.heap.size := by omega
        rw [← hW3]
        clear hW3 z0 z1 lg b23 HV2 HBg
        go_wp2_with fail
        refine wp_region_via (by kernel_rfl) (by kernel_rfl) ?_
        try simp only [List.append_eq, List.cons_append, List.nil_append]
        repeat (go_big_quiet_step ((first
          | (go_at_call 31; exact viaS (c_fover_void (HV.out.below (via_below _ _))))
          | (go_at_call 29; exact viaS (c_fstep_void _ (HV.out.below (via_below _ _)))))))
        refine wpQuiet_nil ?_
        rintro _ ⟨e, rfl⟩
        go_wp2_with fail
        go_roundw
        case rel => exact ⟨k + 1, by omega, by go_num, HB3.out.trans ((via_below W3 e).mono HB3.out.size)⟩
        case measure => simp [intOf]; omega
      · obtain rfl : k = 5 := by omega
        have HB9 : Hid (Below w1.heap.size w1 wr) := Lib.hid (HBz.out.trans (hb.mono HBz.out.size))
        clear hb y0 y1 HBr
        go_wp2_with fail
        refine (c_NewFlush wr O0 10 5 delay (by decide) (by decide) (o0_hi wr)).mono ?_
        rintro e W8 ⟨b, rfl, G8, e8, f8⟩
        have b8 : Below wr.heap.size wr W8 := extF_below e8
        have hq : Hid (W8.cell? ⟨b.X, 0, none⟩ = some (TAKESV b)) := Lib.hid (f8.x.c 0 _ rfl)
        have HB8 : Hid (Below w1.heap.size w1 W8) := Lib.hid (HB9.out.trans (b8.mono HB9.out.size))
        have z0 := (b8.cell (p := ⟨w1.heap.size, 0, none⟩) hNr).trans x0
        have z1 := (b8.cell (p := ⟨w1.heap.size, 1, none⟩) hNr).trans x1
        clear e8 f8 b8 x0 x1 HB9
        go_wp2_with fail
        refine (c_fstep_none hq.out).mono ?_
        rintro e w' ⟨rfl, rfl⟩
        go_wp2_with fail
        refine (c_FOver b.X _ _ hq.out false (.inr ⟨_, _, _, rfl, rfl⟩)).mono ?_
        rintro e w' ⟨rfl, rfl⟩
        go_wp2_with fail
        refine (c_PSameAll (HP.out.below HH.out HB8.out) (fun j hj => Nat.lt_of_lt_of_le (HH.out j hj) HB8.out.size) (by omega) HNt.out (by rw [HIt.out]; decide)).mono ?_
        rintro e W9 ⟨rfl, hb9⟩
        have HB9 : Hid (Below w1.heap.size w1 W9) := Lib.hid (HB8.out.trans (hb9.mono HB8.out.size))
        clear hb9 z0 z1
        go_wp2_with fail
        refine (c_lives27 W9).mono ?_
        rintro e W10 ⟨rfl, hb10⟩
        go_wp2_with fail
        go_ret
        exact ⟨rfl, HB.out.trans ((HB9.out.trans (hb10.mono HB9.out.size)).mono HB.out.size)⟩
  · by_cases hr2 : 63 < t
    · as_aux_lemma =>
      have hbad : ¬ (0 ≤ t ∧ t < 64) := by omega
      go_wp2_with fail
      rw [← hp1, ← hp2, ← hp3]
      clear hp1 hp2 hp3
      obtain ⟨bz, hbze⟩ : ∃ bz, bz = W5.heap.size := ⟨_, rfl⟩
      obtain ⟨Wy, hWy⟩ : ∃ Wy, Wy = W5.alloc (.cells #[.pointer p1, .pointer none, .pointer p2, .pointer p3] 63) := ⟨_, rfl⟩
      have hby : Hid (Wy.heap.size = bz + 1) := Lib.hid (by rw [hWy, hbze]; simp)
      have b5y : Below W5.heap.size W5 Wy := by rw [hWy]; exact (Below.refl _ _).alloc (Nat.le_refl _) _
      have hown : Hid (Wy.ownsRow bz 63 1 (.slice (some ⟨bz, 0, none⟩) 4 4) 4 [.pointer p1, .pointer none, .pointer p2, .pointer p3]) := Lib.hid (by
        rw [hWy, hbze]
        exact ⟨rfl, .inr ⟨_, 4, #[.pointer p1, .pointer none, .pointer p2, .pointer p3], rfl, Nat.le_refl _, heap_alloc_new _ _, by decide, by unfold maxLen; decide, rfl, rfl⟩⟩)
      have y0 := (b5y.cell (p := ⟨w1.heap.size, 0, none⟩) hN5).trans x0'
      have y1 := (b5y.cell (p := ⟨w1.heap.size, 1, none⟩) hN5).trans x1'
      rw [← hWy, ← hbze]
      clear hWy
      refine (c_NewFlushBad t delay Wy hbad).mono ?_
      rintro e W6 ⟨t4, rfl, ht4, by6, v4⟩
      have hown6 := Lib.hid (ownsRow_below hown.out by6)
      have hNy : w1.heap.size < Wy.heap.size := by have := hby.out; omega
      have z0 := (by6.cell (p := ⟨w1.heap.size, 0, none⟩) hNy).trans y0
      have z1 := (by6.cell (p := ⟨w1.heap.size, 1, none⟩) hNy).trans y1
      have hN6 : w1.heap.size < W6.heap.size := by have := by6.size; omega
      have B6 := Lib.hid ((B5.out.trans (b5y.mono (by omega))).trans (by6.mono (by omega)))
      have U := Lib.hid (fun v (h : VoidF W5 v) => (h.below b5y).below by6)
      have U4 := Lib.hid v4
      have hb6 : bz ≤ W6.heap.size := by have := by6.size; have := hby.out; omega
      obtain ⟨p4, hp4⟩ : ∃ p4 : Option Addr, p4 = some ⟨t4, 0, none⟩ := ⟨_, rfl⟩
      have HP4 := Lib.hid hp4
      have HBe := Lib.hid hbze
      have HT4 : Hid (bz < t4) := Lib.hid (by have := hby.out; omega)
      rw [← hp4] at U4
      rw [← hp4]
      clear hown b5y by6 x0' x1' y0 y1 v4 hbze hp4 hNy ht4
      obtain ⟨i0, hi, hi0, hi1, hi2⟩ := info_parts infoFp
      go_wp2_with (at_builtin; refine append_one W6 rfl _ _ 85 rfl bz 63 i0 _ 1 8 Tryz.underlying85 hi hi0 hi1 hi2 rfl (by decide) (by decide) (.slice (some ⟨bz, 0, none⟩) 4 4) 4 [.pointer p1, .pointer none, .pointer p2, .pointer p3] rfl hown6.out [.pointer p4] _ rfl rfl (by simp [Value.oneCell']) (by decide) hb6 ?_; intro gg cap Wz hownz hgr; have HOz := Lib.hid hownz; have HGr := Lib.hid hgr; clear hownz hgr)
      have hWr : Hid (Wrote (fun k => k = bz) W6 Wz) := Lib.hid ((Wrote.refl _ _).grown HGr.out fun k hk _ => by cases hk; rfl)
      have y0 := (hWr.out.cell (p := ⟨w1.heap.size, 0, none⟩) hN6 (by show ¬ w1.heap.size = bz; rw [HBe.out]; omega)).trans z0
      have y1 := (hWr.out.cell (p := ⟨w1.heap.size, 1, none⟩) hN6 (by show ¬ w1.heap.size = bz; rw [HBe.out]; omega)).trans z1
      have hNz : w1.heap.size < Wz.heap.size := Nat.lt_of_lt_of_le hN6 hWr.out.size
      obtain ⟨bz', hbz'⟩ : ∃ b', b' = gg := ⟨_, rfl⟩
      subst hbz'
      have hbz := (HOz.out.lt bz' rfl).2
      have HBz : Hid (Below w1.heap.size w1 Wz) := Lib.hid (B6.out.trans (hWr.out.below (fun k _ hk => by rw [hk, HBe.out]; omega) (by omega)))
      have hcs := fun j u hj => HOz.out.cells (g := bz') rfl j u hj
      have hadd : ∀ j, (⟨bz', 0, none⟩ : Addr).add j = ⟨bz', j, none⟩ := fun j => by unfold Addr.add; split <;> simp_all
      have hvw : ∀ v, VoidF W6 v → (∀ b, v = .pointer (some ⟨b, 0, none⟩) → b ≠ bz) → VoidF Wz v := fun v h hn => by
        rcases h with h | ⟨b, h1, h2⟩
        · exact .inl h
        · exact .inr ⟨b, h1, h2.wrote hWr.out (hn b h1)⟩
      have hw5 : ∀ p, VoidF W5 (.pointer p) → VoidF Wz (.pointer p) := fun p h => hvw _ (U.out _ h) fun b hb => by
        rcases h with h | ⟨b2, h1, h2⟩
        · rw [h] at hb; cases hb
        · rw [h1] at hb; cases hb; have := h2.lt; rw [HBe.out]; omega
      have HVz : Hid (∀ k, k < 5 → ∃ v, Wz.cell? ⟨bz', k, none⟩ = some v ∧ VoidF Wz v) := Lib.hid fun k hk => by
        rcases (show k = 0 ∨ k = 1 ∨ k = 2 ∨ k = 3 ∨ k = 4 by omega) with rfl | rfl | rfl | rfl | rfl
        · exact ⟨_, by rw [← hadd]; exact hcs 0 _ rfl, hw5 _ V1.out⟩
        · exact ⟨_, by rw [← hadd]; exact hcs 1 _ rfl, hw5 _ V0.out⟩
        · exact ⟨_, by rw [← hadd]; exact hcs 2 _ rfl, hw5 _ V2.out⟩
        · exact ⟨_, by rw [← hadd]; exact hcs 3 _ rfl, hw5 _ V3.out⟩
        · exact ⟨_, by rw [← hadd]; exact hcs 4 _ rfl, hvw _ U4.out fun b hb => by rw [HP4.out] at hb; cases hb; have := HT4.out; omega⟩
      clear z0 z1 hcs hadd hvw hw5 hN6 hb6 hN5 hbad

      go_loopw [9] (fun i wr => ∃ k : Nat, k ≤ 5 ∧ i = .int .i64 k ∧ Below Wz.heap.size Wz wr)
        (fun i _ => 5 - (intOf i).toNat)
      case atStart => exact ⟨0, by decide, rfl, Below.refl _ _⟩
      case round =>
        obtain ⟨k, hk, rfl, hb⟩ := hrel
        have HBr := Lib.hid hb
        have x0 := (hb.cell (p := ⟨w1.heap.size, 0, none⟩) hNz).trans y0
        have x1 := (hb.cell (p := ⟨w1.heap.size, 1, none⟩) hNz).trans y1
        have hNr : w1.heap.size < wr.heap.size := Nat.lt_of_lt_of_le hNz hb.size
        by_cases hk2 : k < 5
        · obtain ⟨v, hvc, hvv⟩ := HVz.out k hk2
          have l0 := (hb.cell (p := ⟨bz', k, none⟩) hbz).trans hvc
          have HV := Lib.hid (hvv.below hb)
          obtain ⟨a, rfl⟩ := hvv.ptr
          have hbr : bz' < wr.heap.size := Nat.lt_of_lt_of_le hbz hb.size
          clear hvc hvv hb y0 y1
          go_wp2_with fail
          refine (c_fgot_void HV.out).mono ?_
          rintro e W2 ⟨rfl, hbg⟩
          have HBg : Hid (Below Wz.heap.size Wz W2) := Lib.hid (HBr.out.trans (hbg.mono HBr.out.size))
          have HV2 := Lib.hid (HV.out.below hbg)
          have z0 := (hbg.cell (p := ⟨w1.heap.size, 0, none⟩) hNr).trans x0
          have z1 := (hbg.cell (p := ⟨w1.heap.size, 1, none⟩) hNr).trans x1
          have lg := (hbg.cell (p := ⟨bz', k, none⟩) hbr).trans l0
          have hNg : w1.heap.size < W2.heap.size := Nat.lt_of_lt_of_le hNr hbg.size
          have hbg2 : bz' < W2.heap.size := Nat.lt_of_lt_of_le hbr hbg.size
          clear hbg HV HBr x0 x1 l0 hbr
          unfold anV
          go_wp2_with fail
          obtain ⟨W3, hW3⟩ : ∃ W3, W3 = W2.alloc (.cells #[.int .u8 0, .int .u64 0, .string ⟨#[]⟩, .string ⟨#[]⟩, .int .u32 0, .int .u64 0, .int .i64 0, .int .i64 0] 77) := ⟨_, rfl⟩
          have b23 : Below W2.heap.size W2 W3 := by rw [hW3]; exact (Below.refl _ _).alloc (Nat.le_refl _) _
          have c0 : W3.cell? ⟨W2.heap.size, 0, none⟩ = some (.int .u8 0) := by rw [hW3]; simp
          have c1 : W3.cell? ⟨W2.heap.size, 1, none⟩ = some (.int .u64 0) := by rw [hW3]; simp
          have c2 : W3.cell? ⟨W2.heap.size, 2, none⟩ = some (.string ⟨#[]⟩) := by rw [hW3]; simp
          have c3 : W3.cell? ⟨W2.heap.size, 3, none⟩ = some (.string ⟨#[]⟩) := by rw [hW3]; simp
          have c4 : W3.cell? ⟨W2.heap.size, 4, none⟩ = some (.int .u32 0) := by rw [hW3]; simp
          have c5 : W3.cell? ⟨W2.heap.size, 5, none⟩ = some (.int .u64 0) := by rw [hW3]; simp
          have c6 : W3.cell? ⟨W2.heap.size, 6, none⟩ = some (.int .i64 0) := by rw [hW3]; simp
          have c7 : W3.cell? ⟨W2.heap.size, 7, none⟩ = some (.int .i64 0) := by rw [hW3]; simp
          have hw23 : W2.heap.size < W3.heap.size := by rw [hW3]; simp
          have x0 := (b23.cell (p := ⟨w1.heap.size, 0, none⟩) hNg).trans z0
          have x1 := (b23.cell (p := ⟨w1.heap.size, 1, none⟩) hNg).trans z1
          have l0 := (b23.cell (p := ⟨bz', k, none⟩) hbg2).trans lg
          have HV := Lib.hid (HV2.out.below b23)
          have HB3 : Hid (Below Wz.heap.size Wz W3) := Lib.hid (HBg.out.trans (b23.mono HBg.out.size))
          have hN3 : w1.heap.size < W3.heap.size := by omega
          have hb3 : bz' < W3.heap.size := by omega
          rw [← hW3]
          clear hW3 z0 z1 lg b23 HV2 HBg
          go_wp2_with fail
          refine wp_region_via (by kernel_rfl) (by kernel_rfl) ?_
          try simp only [List.append_eq, List.cons_append, List.nil_append]
          repeat (go_big_quiet_step ((first
            | (go_at_call 31; exact viaS (c_fover_void (HV.out.below (via_below _ _))))
            | (go_at_call 29; exact viaS (c_fstep_void _ (HV.out.below (via_below _ _)))))))
          refine wpQuiet_nil ?_
          rintro _ ⟨e, rfl⟩
          go_wp2_with fail
          go_roundw
          case rel => exact ⟨k + 1, by omega, by go_num, HB3.out.trans ((via_below W3 e).mono HB3.out.size)⟩
          case measure => simp [intOf]; omega
        · obtain rfl : k = 5 := by omega
          have HB9 : Hid (Below w1.heap.size w1 wr) := Lib.hid (HBz.out.trans (hb.mono HBz.out.size))
          clear hb y0 y1 HBr
          go_wp2_with fail
          refine (c_NewFlush wr O0 10 5 delay (by decide) (by decide) (o0_hi wr)).mono ?_
          rintro e W8 ⟨b, rfl, G8, e8, f8⟩
          have b8 : Below wr.heap.size wr W8 := extF_below e8
          have hq : Hid (W8.cell? ⟨b.X, 0, none⟩ = some (TAKESV b)) := Lib.hid (f8.x.c 0 _ rfl)
          have HB8 : Hid (Below w1.heap.size w1 W8) := Lib.hid (HB9.out.trans (b8.mono HB9.out.size))
          have z0 := (b8.cell (p := ⟨w1.heap.size, 0, none⟩) hNr).trans x0
          have z1 := (b8.cell (p := ⟨w1.heap.size, 1, none⟩) hNr).trans x1
          clear e8 f8 b8 x0 x1 HB9
          go_wp2_with fail
          refine (c_fstep_none hq.out).mono ?_
          rintro e w' ⟨rfl, rfl⟩
          go_wp2_with fail
          refine (c_FOver b.X _ _ hq.out false (.inr ⟨_, _, _, rfl, rfl⟩)).mono ?_
          rintro e w' ⟨rfl, rfl⟩
          go_wp2_with fail
          refine (c_PSameAll (HP.out.below HH.out HB8.out) (fun j hj => Nat.lt_of_lt_of_le (HH.out j hj) HB8.out.size) (by omega) HNt.out (by rw [HIt.out]; decide)).mono ?_
          rintro e W9 ⟨rfl, hb9⟩
          have HB9 : Hid (Below w1.heap.size w1 W9) := Lib.hid (HB8.out.trans (hb9.mono HB8.out.size))
          clear hb9 z0 z1
          go_wp2_with fail
          refine (c_lives27 W9).mono ?_
          rintro e W10 ⟨rfl, hb10⟩
          go_wp2_with fail
          go_ret
          exact ⟨rfl, HB.out.trans ((HB9.out.trans (hb10.mono HB9.out.size)).mono HB.out.size)⟩
    · as_aux_lemma =>
      go_wp2_with fail
      rw [← hp1, ← hp2, ← hp3]
      clear hp1 hp2 hp3
      obtain ⟨bz, hbze⟩ : ∃ bz, bz = W5.heap.size := ⟨_, rfl⟩
      obtain ⟨Wz, hWz⟩ : ∃ Wz, Wz = W5.alloc (.cells #[.pointer p1, .pointer none, .pointer p2, .pointer p3] 63) := ⟨_, rfl⟩
      have b5z : Below W5.heap.size W5 Wz := by rw [hWz]; exact (Below.refl _ _).alloc (Nat.le_refl _) _
      have hNz : w1.heap.size < Wz.heap.size := Nat.lt_of_lt_of_le hN5 b5z.size
      have hbz : bz < Wz.heap.size := by rw [hWz, hbze]; simp
      have HBz := Lib.hid (B5.out.trans (b5z.mono (by omega)))
      have y0 := (b5z.cell (p := ⟨w1.heap.size, 0, none⟩) hN5).trans x0'
      have y1 := (b5z.cell (p := ⟨w1.heap.size, 1, none⟩) hN5).trans x1'
      have HVz : Hid (∀ k, k < 4 → ∃ v, Wz.cell? ⟨bz, k, none⟩ = some v ∧ VoidF Wz v) := Lib.hid fun k hk => by
        rcases (show k = 0 ∨ k = 1 ∨ k = 2 ∨ k = 3 by omega) with rfl | rfl | rfl | rfl
        · exact ⟨_, by rw [hWz, hbze]; simp, V1.out.below b5z⟩
        · exact ⟨_, by rw [hWz, hbze]; simp, V0.out.below b5z⟩
        · exact ⟨_, by rw [hWz, hbze]; simp, V2.out.below b5z⟩
        · exact ⟨_, by rw [hWz, hbze]; simp, V3.out.below b5z⟩
      rw [← hWz, ← hbze]
      clear hWz hbze x0' x1' hN5 b5z

      go_loopw [9] (fun i wr => ∃ k : Nat, k ≤ 4 ∧ i = .int .i64 k ∧ Below Wz.heap.size Wz wr)
        (fun i _ => 4 - (intOf i).toNat)
      case atStart => exact ⟨0, by decide, rfl, Below.refl _ _⟩
      case round =>
        obtain ⟨k, hk, rfl, hb⟩ := hrel
        have HBr := Lib.hid hb
        have x0 := (hb.cell (p := ⟨w1.heap.size, 0, none⟩) hNz).trans y0
        have x1 := (hb.cell (p := ⟨w1.heap.size, 1, none⟩) hNz).trans y1
        have hNr : w1.heap.size < wr.heap.size := Nat.lt_of_lt_of_le hNz hb.size
        by_cases hk2 : k < 4
        · obtain ⟨v, hvc, hvv⟩ := HVz.out k hk2
          have l0 := (hb.cell (p := ⟨bz, k, none⟩) hbz).trans hvc
          have HV := Lib.hid (hvv.below hb)
          obtain ⟨a, rfl⟩ := hvv.ptr
          have hbr : bz < wr.heap.size := Nat.lt_of_lt_of_le hbz hb.size
          clear hvc hvv hb y0 y1
          go_wp2_with fail
          refine (c_fgot_void HV.out).mono ?_
          rintro e W2 ⟨rfl, hbg⟩
          have HBg : Hid (Below Wz.heap.size Wz W2) := Lib.hid (HBr.out.trans (hbg.mono HBr.out.size))
          have HV2 := Lib.hid (HV.out.below hbg)
          have z0 := (hbg.cell (p := ⟨w1.heap.size, 0, none⟩) hNr).trans x0
          have z1 := (hbg.cell (p := ⟨w1.heap.size, 1, none⟩) hNr).trans x1
          have lg := (hbg.cell (p := ⟨bz, k, none⟩) hbr).trans l0
          have hNg : w1.heap.size < W2.heap.size := Nat.lt_of_lt_of_le hNr hbg.size
          have hbg2 : bz < W2.heap.size := Nat.lt_of_lt_of_le hbr hbg.size
          clear hbg HV HBr x0 x1 l0 hbr
          unfold anV
          go_wp2_with fail
          obtain ⟨W3, hW3⟩ : ∃ W3, W3 = W2.alloc (.cells #[.int .u8 0, .int .u64 0, .string ⟨#[]⟩, .string ⟨#[]⟩, .int .u32 0, .int .u64 0, .int .i64 0, .int .i64 0] 77) := ⟨_, rfl⟩
          have b23 : Below W2.heap.size W2 W3 := by rw [hW3]; exact (Below.refl _ _).alloc (Nat.le_refl _) _
          have c0 : W3.cell? ⟨W2.heap.size, 0, none⟩ = some (.int .u8 0) := by rw [hW3]; simp
          have c1 : W3.cell? ⟨W2.heap.size, 1, none⟩ = some (.int .u64 0) := by rw [hW3]; simp
          have c2 : W3.cell? ⟨W2.heap.size, 2, none⟩ = some (.string ⟨#[]⟩) := by rw [hW3]; simp
          have c3 : W3.cell? ⟨W2.heap.size, 3, none⟩ = some (.string ⟨#[]⟩) := by rw [hW3]; simp
          have c4 : W3.cell? ⟨W2.heap.size, 4, none⟩ = some (.int .u32 0) := by rw [hW3]; simp
          have c5 : W3.cell? ⟨W2.heap.size, 5, none⟩ = some (.int .u64 0) := by rw [hW3]; simp
          have c6 : W3.cell? ⟨W2.heap.size, 6, none⟩ = some (.int .i64 0) := by rw [hW3]; simp
          have c7 : W3.cell? ⟨W2.heap.size, 7, none⟩ = some (.int .i64 0) := by rw [hW3]; simp
          have hw23 : W2.heap.size < W3.heap.size := by rw [hW3]; simp
          have x0 := (b23.cell (p := ⟨w1.heap.size, 0, none⟩) hNg).trans z0
          have x1 := (b23.cell (p := ⟨w1.heap.size, 1, none⟩) hNg).trans z1
          have l0 := (b23.cell (p := ⟨bz, k, none⟩) hbg2).trans lg
          have HV := Lib.hid (HV2.out.below b23)
          have HB3 : Hid (Below Wz.heap.size Wz W3) := Lib.hid (HBg.out.trans (b23.mono HBg.out.size))
          have hN3 : w1.heap.size < W3.heap.size := by omega
          have hb3 : bz < W3.heap.size := by omega
          rw [← hW3]
          clear hW3 z0 z1 lg b23 HV2 HBg
          go_wp2_with fail
          refine wp_region_via (by kernel_rfl) (by kernel_rfl) ?_
          try simp only [List.append_eq, List.cons_append, List.nil_append]
          repeat (go_big_quiet_step ((first
            | (go_at_call 31; exact viaS (c_fover_void (HV.out.below (via_below _ _))))
            | (go_at_call 29; exact viaS (c_fstep_void _ (HV.out.below (via_below _ _)))))))
          refine wpQuiet_nil ?_
          rintro _ ⟨e, rfl⟩
          go_wp2_with fail
          go_roundw
          case rel => exact ⟨k + 1, by omega, by go_num, HB3.out.trans ((via_below W3 e).mono HB3.out.size)⟩
          case measure => simp [intOf]; omega
        · obtain rfl : k = 4 := by omega
          have HB9 : Hid (Below w1.heap.size w1 wr) := Lib.hid (HBz.out.trans (hb.mono HBz.out.size))
          clear hb y0 y1 HBr
          go_wp2_with fail
          refine (c_NewFlush wr O0 10 5 delay (by decide) (by decide) (o0_hi wr)).mono ?_
          rintro e W8 ⟨b, rfl, G8, e8, f8⟩
          have b8 : Below wr.heap.size wr W8 := extF_below e8
          have hq : Hid (W8.cell? ⟨b.X, 0, none⟩ = some (TAKESV b)) := Lib.hid (f8.x.c 0 _ rfl)
          have HB8 : Hid (Below w1.heap.size w1 W8) := Lib.hid (HB9.out.trans (b8.mono HB9.out.size))
          have z0 := (b8.cell (p := ⟨w1.heap.size, 0, none⟩) hNr).trans x0
          have z1 := (b8.cell (p := ⟨w1.heap.size, 1, none⟩) hNr).trans x1
          clear e8 f8 b8 x0 x1 HB9
          go_wp2_with fail
          refine (c_fstep_none hq.out).mono ?_
          rintro e w' ⟨rfl, rfl⟩
          go_wp2_with fail
          refine (c_FOver b.X _ _ hq.out false (.inr ⟨_, _, _, rfl, rfl⟩)).mono ?_
          rintro e w' ⟨rfl, rfl⟩
          go_wp2_with fail
          refine (c_PSameAll (HP.out.below HH.out HB8.out) (fun j hj => Nat.lt_of_lt_of_le (HH.out j hj) HB8.out.size) (by omega) HNt.out (by rw [HIt.out]; decide)).mono ?_
          rintro e W9 ⟨rfl, hb9⟩
          have HB9 : Hid (Below w1.heap.size w1 W9) := Lib.hid (HB8.out.trans (hb9.mono HB8.out.size))
          clear hb9 z0 z1
          go_wp2_with fail
          refine (c_lives27 W9).mono ?_
          rintro e W10 ⟨rfl, hb10⟩
          go_wp2_with fail
          go_ret
          exact ⟨rfl, HB.out.trans ((HB9.out.trans (hb10.mono HB9.out.size)).mono HB.out.size)⟩
end Go.Proofs.YtijifjiehldcaaaGreat
