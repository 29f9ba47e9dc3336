/- A pair of worlds: contracts of put and of what it calls. -/
import Derived.Test.YtijifjiehldcaaaGreatDo3
import Derived.Test.YtijifjiehldcaaaGreatPr
namespace Go.Proofs.YtijifjiehldcaaaGreat
set_option linter.unusedSimpArgs false
open Go.RowKit
set_option linter.unusedVariables false

theorem c_rTag2 (x s : Int) (w : World) (x0 : 0 ≤ x) (x1 : x < 18446744073709551616) (s0 : 0 ≤ s) (s1 : s ≤ 3) :
    Calls Tryz.prog 137 #[.int .u64 x, .int .i64 s] w fun e w' => (∃ v : Int, e = .returned (.int .i64 v) ∧ 0 ≤ v ∧ v ≤ 255) ∧ w = w' := by
  go_enter Tryz.func137, Tryz.ntmps137
  go_wp2
  go_loop [0, 5] (fun y i => ∃ k : Nat, ∃ z : Int, (k : Int) ≤ s ∧ i = .int .i64 k ∧ y = .int .u64 z ∧ 0 ≤ z ∧ z < 18446744073709551616) (fun _ i => s.toNat - (intOf i).toNat)
  case atStart => exact ⟨0, x, by omega, rfl, rfl, x0, x1⟩
  case round =>
    obtain ⟨k, z, hk, rfl, rfl, z0, z1⟩ := hrel
    by_cases hlt : (k : Int) < s
    · go_wp2
      go_round
      case rel => exact ⟨k + 1, z / 256, by omega, by go_num, rfl, by omega, by omega⟩
      case measure => simp [intOf]; omega
    · go_wp2
      go_ret
      exact ⟨⟨z % 256, rfl, by omega, by omega⟩, rfl⟩
theorem c_rWith2 (x s t : Int) (w : World) (x0 : 0 ≤ x) (x1 : x < 18446744073709551616) (s0 : 0 ≤ s) (s1 : s ≤ 3) (t0 : 0 ≤ t) (t1 : t ≤ 255) :
    Calls Tryz.prog 96 #[.int .u64 x, .int .i64 s, .int .i64 t] w fun e w' => (∃ v : Int, e = .returned (.int .u64 v) ∧ 0 ≤ v ∧ v < 18446744073709551616) ∧ w = w' := by
  go_enter Tryz.func96, Tryz.ntmps96
  go_wp2
  go_loop [7, 8] (fun y i => ∃ k : Nat, ∃ z : Int, (k : Int) ≤ s ∧ i = .int .i64 k ∧ y = .int .u64 z ∧ 0 ≤ z ∧ z < 18446744073709551616) (fun _ i => s.toNat - (intOf i).toNat)
  case atStart => exact ⟨0, 1, by omega, rfl, rfl, by decide, by decide⟩
  case round =>
    obtain ⟨k, z, hk, rfl, rfl, z0, z1⟩ := hrel
    by_cases hlt : (k : Int) < s
    · go_wp2
      go_round
      case rel => exact ⟨k + 1, _, by omega, by go_num, rfl, by simp only [IntKind.wrap_u64]; omega, by simp only [IntKind.wrap_u64]; omega⟩
      case measure => simp [intOf]; omega
    · go_wp2_with (go_at_call 137; refine (c_rTag2 _ _ _ x0 x1 s0 s1).mono ?_; rintro e w' ⟨⟨v, rfl, v0, v1⟩, rfl⟩)
      go_ret
      exact ⟨⟨_, rfl, by simp only [IntKind.wrap_u64]; omega, by simp only [IntKind.wrap_u64]; omega⟩, rfl⟩
set_option maxHeartbeats 1000000 in
set_option maxRecDepth 100000 in
theorem c_rItem10 (r : Int) (k : Nat) (x : It) {w : World} {O : Om} {C : Wb} {f : Cf} {s : AW} {m : Nat} (h : RW w O C f s m) (hhi : ∀ j, O j ≠ 0 → j < w.heap.size) (hl : s.it.length ≤ 1000000) (hk : s.it[k]? = some x) (hr : r = k + 1) :
    Calls Tryz.prog 93 #[.pointer (some ⟨C.p, 0, none⟩), .int .i64 r] w fun e w' => e = .returned (.agg #[.string x.key, .string x.val, .int .u32 x.fl, .int .u64 x.id, .int .i64 x.dies, .int .i64 x.gen]) ∧ Below w.heap.size w w' := by
  subst hr
  have hB : Below w.heap.size w (w.alloc (.cells #[.string ⟨#[]⟩, .string ⟨#[]⟩, .int .u32 0, .int .u64 0, .int .i64 0, .int .i64 0] 75)) := (Below.refl _ _).alloc (Nat.le_refl _) _
  have q0 := hB.cell (p := ⟨C.p, 1, none⟩) h.wo.lt |>.trans h.wo.c1
  have hpl := h.wo.lt
  have HA := Lib.hid (c_r6At_yes (k + 1) k x (h.below hhi hB).ar hl hk rfl)
  have HB := Lib.hid hB
  have hc0 : ∀ j u, ([.string ⟨#[]⟩, .string ⟨#[]⟩, .int .u32 0, .int .u64 0, .int .i64 0, .int .i64 0] : List Value)[j]? = some u → (w.alloc (.cells #[.string ⟨#[]⟩, .string ⟨#[]⟩, .int .u32 0, .int .u64 0, .int .i64 0, .int .i64 0] 75)).cell? ⟨w.heap.size, j, none⟩ = some u := fun j u hu => cell_newA w #[.string ⟨#[]⟩, .string ⟨#[]⟩, .int .u32 0, .int .u64 0, .int .i64 0, .int .i64 0] _ _ rfl j u (by simpa using hu)
  have HC0 := Lib.hid hc0
  clear h hhi hB hc0
  go_enter Tryz.func93, Tryz.ntmps93
  go_wp2_with fail
  refine (HA.out).mono ?_
  rintro e w1 ⟨rfl, hb⟩
  have hz := hb.size
  have HB1 := Lib.hid (HB.out.trans (hb.mono (by simp)))
  simp only [World.heap_size_alloc'] at hz
  have hc1 : ∀ j u, ([.string ⟨#[]⟩, .string ⟨#[]⟩, .int .u32 0, .int .u64 0, .int .i64 0, .int .i64 0] : List Value)[j]? = some u → w1.cell? ⟨w.heap.size, j, none⟩ = some u := fun j u hu => (hb.cell (p := ⟨w.heap.size, j, none⟩) (by simp)).trans (HC0.out j u hu)
  have hf1 : ∀ j, w1.frozen? ⟨w.heap.size, j, none⟩ = false := fun j => (hb.frozen (p := ⟨w.heap.size, j, none⟩) (by simp)).trans (by simp)
  have c0 := hc1 0 _ rfl
  have c1 := hc1 1 _ rfl
  have c2 := hc1 2 _ rfl
  have c3 := hc1 3 _ rfl
  have c4 := hc1 4 _ rfl
  have c5 := hc1 5 _ rfl
  have f0 := hf1 0
  have f1 := hf1 1
  have f2 := hf1 2
  have f3 := hf1 3
  have f4 := hf1 4
  have f5 := hf1 5
  have hz1 : w.heap.size < w1.heap.size := by omega
  have hz2 : ¬ w.heap.size = w1.heap.size := by omega
  clear hb hc1 hf1
  go_wp2
  have HS := below_set6 HB1.out (Nat.le_refl _) (.string x.key) (.string x.val) (.int .u32 x.fl) (.int .u64 x.id) (.int .i64 x.dies) (.int .i64 x.gen)
  refine bodyPost_ret (v := .agg #[.string x.key, .string x.val, .int .u32 x.fl, .int .u64 x.id, .int .i64 x.dies, .int .i64 x.gen]) ?_ rfl ⟨rfl, HS.alloc HS.size _⟩
  simp [results, Tryz.results93, go_sem, hz1, hz2, c0, c1, c2, c3, c4, c5]
theorem Ext.nob {S : Nat → Prop} {O O' : Om} {w w' : World} (e : Ext S O w O' w') (hs : ¬ S 0) {b : Nat} (hb : b < w.heap.size) (ho : O b = 0) (j : Nat) : w'.cell? ⟨b, j, none⟩ = w.cell? ⟨b, j, none⟩ :=
  e.cell (p := ⟨b, j, none⟩) hb (by show ¬ S (O b); rw [ho]; exact hs)
@[go_sem] theorem fld_it0 (a b c d e f : Value) (w : World) : (Instr.field 75 (.agg #[a, b, c, d, e, f]) 0).run Tryz.prog w = .ok a w := by kernel_rfl
theorem sp0 : ¬ SP 0 := fun h => absurd h.1 (by decide)
set_option maxHeartbeats 4000000 in
set_option maxRecDepth 100000 in
theorem c_PPut (a b c : Int) (n : Int) {w : World} {O : Om} {B C : Wb} {f : Cf} {s : AW} {m : Nat} (h : PR w O B C f s m) (hhi : ∀ j, O j ≠ 0 → j < w.heap.size) (hn : n = s.it.length) (hn1 : 0 < s.it.length) (hk : ∀ x ∈ s.it, x.key.size ≤ 400) (hl : s.it.length ≤ 1000) (hm : m ≤ 900000) (n0 : 0 ≤ s.n) (n1 : s.n ≤ 1000000) (a0 : 0 ≤ a) (a1 : a < 256) (b0 : 0 ≤ b) (b1 : b < 256) (c0 : 0 ≤ c) (c1 : c < 256) :
    Calls Tryz.prog 43 #[.agg #[.pointer (some ⟨B.p, 0, none⟩), .pointer (some ⟨C.p, 0, none⟩)], .agg #[.int .u8 a, .int .u8 b, .int .u8 c], .int .i64 n] w (RP SP w O (.tuple #[]) fun W G => ∃ s2, PR W G B C f s2 (m + 2) ∧ s2.n = s.n + 2 ∧ s2.it = s.it ∧ s2.nt = s.nt) := by
  subst hn
  obtain ⟨W, hW⟩ : ∃ W, W = (w.alloc (.cells #[.pointer (some ⟨B.p, 0, none⟩), .pointer (some ⟨C.p, 0, none⟩)] 34)).alloc (.cells #[.int .u8 a, .int .u8 b, .int .u8 c] 109) := ⟨_, rfl⟩
  have b1' : Below w.heap.size w (w.alloc (.cells #[.pointer (some ⟨B.p, 0, none⟩), .pointer (some ⟨C.p, 0, none⟩)] 34)) := (Below.refl _ _).alloc (Nat.le_refl _) _
  have b2' : Below (w.heap.size + 1) (w.alloc (.cells #[.pointer (some ⟨B.p, 0, none⟩), .pointer (some ⟨C.p, 0, none⟩)] 34)) W := by rw [hW, ← World.heap_size_alloc' w (.cells #[.pointer (some ⟨B.p, 0, none⟩), .pointer (some ⟨C.p, 0, none⟩)] 34)]; exact (Below.refl _ _).alloc (Nat.le_refl _) _
  have hB : Below w.heap.size w W := b1'.trans (b2'.mono (by omega))
  have hz : W.heap.size = w.heap.size + 2 := by rw [hW]; simp
  have p0 : W.cell? ⟨w.heap.size, 0, none⟩ = some (.pointer (some ⟨B.p, 0, none⟩)) := (b2'.cell (p := ⟨w.heap.size, 0, none⟩) (by show w.heap.size < w.heap.size + 1; omega)).trans (cell_newA w #[.pointer (some ⟨B.p, 0, none⟩), .pointer (some ⟨C.p, 0, none⟩)] _ _ rfl 0 _ rfl)
  have p1 : W.cell? ⟨w.heap.size, 1, none⟩ = some (.pointer (some ⟨C.p, 0, none⟩)) := (b2'.cell (p := ⟨w.heap.size, 1, none⟩) (by show w.heap.size < w.heap.size + 1; omega)).trans (cell_newA w #[.pointer (some ⟨B.p, 0, none⟩), .pointer (some ⟨C.p, 0, none⟩)] _ _ rfl 1 _ rfl)
  have k0 : W.cell? ⟨w.heap.size + 1, 0, none⟩ = some (.int .u8 a) := by rw [hW]; exact cell_newA _ #[.int .u8 a, .int .u8 b, .int .u8 c] _ _ (by simp) 0 _ rfl
  have k1 : W.cell? ⟨w.heap.size + 1, 1, none⟩ = some (.int .u8 b) := by rw [hW]; exact cell_newA _ #[.int .u8 a, .int .u8 b, .int .u8 c] _ _ (by simp) 1 _ rfl
  have k2 : W.cell? ⟨w.heap.size + 1, 2, none⟩ = some (.int .u8 c) := by rw [hW]; exact cell_newA _ #[.int .u8 a, .int .u8 b, .int .u8 c] _ _ (by simp) 2 _ rfl
  have HP := Lib.hid (h.below hhi hB)
  have E0 := Lib.hid (Ext.of_below (S := SP) hhi hB)
  have O1 := Lib.hid (zero_own hhi (Nat.le_refl w.heap.size))
  have O2 := Lib.hid (zero_own hhi (show w.heap.size ≤ w.heap.size + 1 by omega))
  have ha : a % s.it.length < s.it.length := Int.emod_lt_of_pos _ (by omega)
  have ha0 : 0 ≤ a % s.it.length := Int.emod_nonneg _ (by omega)
  obtain ⟨k, hkk⟩ := Int.eq_ofNat_of_zero_le ha0
  have hkl : k < s.it.length := by omega
  obtain ⟨x, hx⟩ : ∃ x, s.it[k]? = some x := ⟨_, List.getElem?_eq_getElem hkl⟩
  have hxk := hk x (List.mem_of_getElem? hx)
  have HI := Lib.hid (c_rItem10 (1 + a % s.it.length) k x HP.out.r E0.out.hi (by omega) hx (by omega))
  have HX := Lib.hid hx
  have HL := Lib.hid (And.intro hl hn1)
  clear h hhi hB b1' b2' hk hx hkk hl
  obtain ⟨N, hN⟩ : ∃ N : Int, N = s.it.length := ⟨_, rfl⟩
  rw [← hN] at HI ha ha0 ⊢
  have hNp : 0 < N := by omega
  have hNb : N ≤ 1000 := by rw [hN]; exact_mod_cast HL.out.1
  have hN0 : (N == 0) = false := beq_eq_false_iff_ne.2 (by omega)
  clear hN hn1 hkl
  go_enter Tryz.func43, Tryz.ntmps43
  go_wp2_with (fail)
  rw [← hW]
  clear hW
  refine (HI.out).mono ?_
  rintro e w1 ⟨rfl, hb1⟩
  have hs1 := hb1.size
  have x1 : x.key.size ≤ maxLen := by unfold maxLen; omega
  have q0 : w1.cell? ⟨w.heap.size, 0, none⟩ = some (.pointer (some ⟨B.p, 0, none⟩)) := (hb1.cell (p := ⟨w.heap.size, 0, none⟩) (by show w.heap.size < W.heap.size; omega)).trans p0
  have q1 : w1.cell? ⟨w.heap.size, 1, none⟩ = some (.pointer (some ⟨C.p, 0, none⟩)) := (hb1.cell (p := ⟨w.heap.size, 1, none⟩) (by show w.heap.size < W.heap.size; omega)).trans p1
  have l1 : w1.cell? ⟨w.heap.size + 1, 1, none⟩ = some (.int .u8 b) := (hb1.cell (p := ⟨w.heap.size + 1, 1, none⟩) (by show w.heap.size + 1 < W.heap.size; omega)).trans k1
  have l2 : w1.cell? ⟨w.heap.size + 1, 2, none⟩ = some (.int .u8 c) := (hb1.cell (p := ⟨w.heap.size + 1, 2, none⟩) (by show w.heap.size + 1 < W.heap.size; omega)).trans k2
  have E1 := Lib.hid (E0.out.below hb1)
  have P1 := Lib.hid (HP.out.below E0.out.hi hb1)
  obtain ⟨H, hH⟩ : ∃ H, H = fnvHash x.key.data.toList := ⟨_, rfl⟩
  have hHb := fnvHash_bd x.key.data.toList
  have HH := Lib.hid (c_rHash x.key w1 x1)
  rw [← hH] at hHb HH
  have hMb := P1.out.p.bd
  obtain ⟨X, hX⟩ : ∃ X, X = s.M 2 := ⟨_, rfl⟩
  have hXb := hMb 2
  have HK := Lib.hid (c_rwPeek 2 P1.out.r (by omega))
  rw [← hX] at hXb HK
  obtain ⟨n2, hn2⟩ : ∃ n2, n2 = (plPlaces H X).length := ⟨_, rfl⟩
  have hn2p : 0 < n2 := by rw [hn2]; exact plPlaces_pos H X
  have hn2b : n2 ≤ 4 := by rw [hn2]; exact plPlaces_le H X
  have hbm : b % (n2 : Int) < n2 := Int.emod_lt_of_pos _ (by omega)
  obtain ⟨j, hj⟩ := Int.eq_ofNat_of_zero_le (show 0 ≤ b % (n2 : Int) from Int.emod_nonneg _ (by omega))
  rw [hj] at hbm
  have hjn : j < n2 := by omega
  obtain ⟨pl, hpl⟩ : ∃ p, p = (plPlaces H X)[j]'(by omega) := ⟨_, rfl⟩
  have hpb := plPlaces_bd hHb.1 hHb.2 (p := pl) (by rw [hpl]; exact List.getElem_mem _)
  have hfs := fnvSize_bd pl.1
  have HPC := Lib.hid (c_rPlaces H X w1 hHb.1 hHb.2 hXb.1 hXb.2)
  have HPL : Hid (∀ (w : World) (b o : Nat), (∀ j u, (rowOf plc (plPlaces H X))[j]? = some u → w.cell? ⟨b, o + j, none⟩ = some u) → w.cell? ⟨b, o + j * 2, none⟩ = some (.int .i64 pl.1) ∧ w.cell? ⟨b, o + j * 2 + 1, none⟩ = some (.int .i64 pl.2)) := fun w b o hw => by rw [hpl]; exact plc_cells hw j (by omega)
  clear hpl
  have hn20 : ((n2 : Int) == 0) = false := beq_eq_false_iff_ne.2 (by omega)
  obtain ⟨L, hL⟩ : ∃ L, L = plPlaces H X := ⟨_, rfl⟩
  have HTg := Lib.hid (c_rTag H)
  rw [← hL] at HPC HPL hn2
  rw [← hn2] at HPC
  have HN2 := Lib.hid hn2
  clear hb1 p0 p1 k0 k1 k2 HP HI hH hX hMb HX hxk x1 hL hn2
  go_wp2_with (first | (go_at_call 92; refine (HH.out).mono ?_; rintro e w' ⟨rfl, rfl⟩) | (go_at_call 16; refine (HK.out).mono ?_; rintro e w' ⟨rfl, rfl⟩) | (go_at_call 94; refine (HPC.out).mono ?_; rintro e w2 ⟨⟨v2, rfl, hown2⟩, hb2⟩; obtain ⟨b2, o2, c2, rfl, hc2, hm2, hlt2, hx2⟩ := (Arr.of_own hown2).open hn2p (by omega); obtain ⟨g0, g1⟩ := HPL.out _ _ _ hx2; have hs2 := hb2.size; have hz2 : w.heap.size < w2.heap.size := (by omega); have hz3 : w.heap.size + 1 < w2.heap.size := (by omega); have hz4 : ¬ w.heap.size = w2.heap.size := (by omega); have hz5 : ¬ w.heap.size + 1 = w2.heap.size := (by omega); have r0 := (hb2.cell (p := ⟨w.heap.size, 0, none⟩) (by show w.heap.size < w1.heap.size; omega)).trans q0; have r1 := (hb2.cell (p := ⟨w.heap.size, 1, none⟩) (by show w.heap.size < w1.heap.size; omega)).trans q1; have s1 := (hb2.cell (p := ⟨w.heap.size + 1, 1, none⟩) (by show w.heap.size + 1 < w1.heap.size; omega)).trans l1; have s2 := (hb2.cell (p := ⟨w.heap.size + 1, 2, none⟩) (by show w.heap.size + 1 < w1.heap.size; omega)).trans l2; have E2 := Lib.hid (E1.out.below hb2); have P2 := Lib.hid (P1.out.below E1.out.hi hb2); clear hb2 hx2 hown2 q0 q1 l1 l2 HK HH HPC HPL))
  go_region
  obtain ⟨W3, hW3⟩ : ∃ W3, W3 = (w2.alloc (.cells #[.int .i64 pl.1, .int .i64 pl.2, .int .i64 (c % 4)] 138)).drew := ⟨_, rfl⟩
  have b3 : Below w2.heap.size w2 W3 := by rw [hW3]; exact ((Below.refl _ _).alloc (Nat.le_refl _) _).drew
  have hz6 : w2.heap.size < W3.heap.size := by rw [hW3]; simp
  have t0 : W3.cell? ⟨w2.heap.size, 0, none⟩ = some (.int .i64 pl.1) := by rw [hW3]; simp
  have t1 : W3.cell? ⟨w2.heap.size, 1, none⟩ = some (.int .i64 pl.2) := by rw [hW3]; simp
  have t2 : W3.cell? ⟨w2.heap.size, 2, none⟩ = some (.int .i64 (c % 4)) := by rw [hW3]; simp
  have u0 := (b3.cell (p := ⟨w.heap.size, 0, none⟩) hz2).trans r0
  have u1 := (b3.cell (p := ⟨w.heap.size, 1, none⟩) hz2).trans r1
  have E3 := Lib.hid (E2.out.below b3)
  have P3 := Lib.hid (P2.out.below E2.out.hi b3)
  have OS := Lib.hid (zero_own E2.out.hi (Nat.le_refl w2.heap.size))
  rw [← hW3]
  have hc4 : 0 ≤ c % 4 ∧ c % 4 ≤ 3 := by omega
  obtain ⟨c4, hc4e⟩ : ∃ c4, c4 = c % 4 := ⟨_, rfl⟩
  rw [← hc4e] at t2 hc4
  clear b3 hW3 hc4e r0 r1 s1 s2 g0 g1 hbm hj hlt2 E0 E1 P1 HN2 HL
  have hT := Lib.hid (plTags_in (b := pl.1) (k := pl.2) ⟨hpb.2.2.1, hpb.2.2.2⟩)
  have hTb : 0 ≤ plTags pl.1 pl.2 ∧ plTags pl.1 pl.2 ≤ 100000 := by rw [hT.out]; omega
  have hIb : 0 ≤ plItem pl.1 pl.2 c4 ∧ plItem pl.1 pl.2 c4 ≤ 100010 := by rw [plItem_in ⟨hpb.2.2.1, hpb.2.2.2⟩ hc4]; omega
  go_wp2_with fail
  refine (c_rTags pl.1 pl.2 W3 (by omega) (by omega) (by omega) (by omega)).mono ?_
  rintro e w4 ⟨rfl, hb4⟩
  have hs4 := hb4.size
  have hz7 : w2.heap.size < w4.heap.size := by omega
  have hz8 : w.heap.size < w4.heap.size := by omega
  have y0 := (hb4.cell (p := ⟨w2.heap.size, 0, none⟩) hz6).trans t0
  have y1 := (hb4.cell (p := ⟨w2.heap.size, 1, none⟩) hz6).trans t1
  have y2 := (hb4.cell (p := ⟨w2.heap.size, 2, none⟩) hz6).trans t2
  have z0 := (hb4.cell (p := ⟨w.heap.size, 0, none⟩) (by show w.heap.size < W3.heap.size; omega)).trans u0
  have z1 := (hb4.cell (p := ⟨w.heap.size, 1, none⟩) (by show w.heap.size < W3.heap.size; omega)).trans u1
  have E4 := Lib.hid (E3.out.below hb4).drew
  have P4 := Lib.hid ((P3.out.below E3.out.hi hb4).below (E3.out.below hb4).hi (drew_below w4))
  clear hb4 t0 t1 t2 u0 u1 E3 P3 E2 P2
  obtain ⟨T, hTe⟩ : ∃ T, T = plTags pl.1 pl.2 := ⟨_, rfl⟩
  rw [← hTe] at hTb
  simp only [← hTe]
  have hMb := P4.out.p.bd T
  obtain ⟨V, hV⟩ : ∃ V, V = s.M T := ⟨_, rfl⟩
  have HK := Lib.hid (c_rwPeek T P4.out.r (by omega))
  rw [← hV] at hMb HK
  have htg := fnvTag_bd H hHb.1 hHb.2
  clear hTe hV hT
  go_wp2_with fail
  go_region_held3 (fun w' => w'.cell? ⟨w.heap.size, 0, none⟩ = some (.pointer (some ⟨B.p, 0, none⟩)) ∧ w'.cell? ⟨w.heap.size, 1, none⟩ = some (.pointer (some ⟨C.p, 0, none⟩)) ∧ w'.cell? ⟨w2.heap.size, 2, none⟩ = some (.int .i64 c4)) (go_keep)
    (first
      | (go_at_call 16; refine (HK.out).mono ?_; rintro e w' ⟨rfl, rfl⟩)
      | (go_at_call 97; refine (HTg.out _ hHb.1 hHb.2).mono ?_; rintro e w' ⟨rfl, rfl⟩)
      | (go_at_call 96; refine (c_rWith2 _ _ _ _ hMb.1 hMb.2 hc4.1 hc4.2 (by omega) (by omega)).mono ?_; rintro e w' ⟨⟨sv, rfl, sv0, sv1⟩, rfl⟩)
      | (go_at_call 13
         refine (c_PStore T sv P4.out E4.out.hi (by omega) (by omega) (by omega) sv0 sv1 n0 (by omega)).mono ?_
         rintro e w5 ⟨rfl, G5, e5, pr5⟩
         have hs5 := e5.size
         have hz9 : w2.heap.size < w5.heap.size := Nat.lt_of_lt_of_le hz7 hs5
         have f0 := (e5.nob sp0 hz8 O1.out 0).trans z0
         have f1 := (e5.nob sp0 hz8 O1.out 1).trans z1
         have f2 := (e5.nob sp0 hz7 OS.out 0).trans y0
         have f3 := (e5.nob sp0 hz7 OS.out 1).trans y1
         have f4 := (e5.nob sp0 hz7 OS.out 2).trans y2
         have OG1 := Lib.hid ((e5.lo w.heap.size hz8).trans O1.out)
         have OG2 := Lib.hid ((e5.lo w2.heap.size hz7).trans OS.out)
         have E5 := Lib.hid (E4.out.trans e5)
         have P5 := Lib.hid pr5
         clear e5 pr5))
  all_goals
    clear y0 y1 y2 z0 z1 P4 E4 HK HTg OS O1 O2 hMb
    go_wp2_with fail
    have n0' : 0 ≤ (awStore T sv s).n := by show 0 ≤ s.n + 1; omega
    have n1' : (awStore T sv s).n ≤ 4611686018427387904 := by show s.n + 1 ≤ 4611686018427387904; omega
    have hwN : IntKind.u64.wrap N = N := by simp only [IntKind.wrap_u64]; omega
    have E5' := Lib.hid E5.out.drew
    have P5' := Lib.hid (P5.out.below E5.out.hi (drew_below w5))
    go_region_held3 (fun w' => w'.cell? ⟨w.heap.size, 0, none⟩ = some (.pointer (some ⟨B.p, 0, none⟩)) ∧ w'.cell? ⟨w.heap.size, 1, none⟩ = some (.pointer (some ⟨C.p, 0, none⟩)) ∧ w'.cell? ⟨w2.heap.size, 0, none⟩ = some (.int .i64 pl.1) ∧ w'.cell? ⟨w2.heap.size, 1, none⟩ = some (.int .i64 pl.2) ∧ w'.cell? ⟨w2.heap.size, 2, none⟩ = some (.int .i64 c4)) (go_keep)
      (first
        | (go_at_call 98
           refine (c_rItem pl.1 pl.2 c4 w5.drew (by omega) (by omega) (by omega) (by omega) (by omega) (by omega)).mono ?_
           rintro e w6 ⟨rfl, hb6⟩
           have hs6 : w5.heap.size ≤ w6.heap.size := hb6.size
           have hz10 : w.heap.size < w6.heap.size := by omega
           have hz11 : w2.heap.size < w6.heap.size := by omega
           have f0' := (hb6.cell (p := ⟨w.heap.size, 0, none⟩) (by show w.heap.size < w5.heap.size; omega)).trans f0
           have f1' := (hb6.cell (p := ⟨w.heap.size, 1, none⟩) (by show w.heap.size < w5.heap.size; omega)).trans f1
           have f2' := (hb6.cell (p := ⟨w2.heap.size, 0, none⟩) (by show w2.heap.size < w5.heap.size; omega)).trans f2
           have f3' := (hb6.cell (p := ⟨w2.heap.size, 1, none⟩) (by show w2.heap.size < w5.heap.size; omega)).trans f3
           have f4' := (hb6.cell (p := ⟨w2.heap.size, 2, none⟩) (by show w2.heap.size < w5.heap.size; omega)).trans f4
           have E6 := Lib.hid (E5'.out.below hb6)
           have P6 := Lib.hid (P5'.out.below E5'.out.hi hb6)
           clear hb6)
        | (go_at_call 13
           refine (c_PStore (plItem pl.1 pl.2 c4) _ P6.out E6.out.hi (by omega) (by omega) (by omega) (by first | omega | (simp only [IntKind.wrap_u64]; omega)) (by first | omega | (simp only [IntKind.wrap_u64]; omega)) n0' n1').mono ?_
           rintro e w7 ⟨rfl, G7, e7, pr7⟩
           have j0 := (e7.nob sp0 hz10 OG1.out 0).trans f0'
           have j1 := (e7.nob sp0 hz10 OG1.out 1).trans f1'
           have j2 := (e7.nob sp0 hz11 OG2.out 0).trans f2'
           have j3 := (e7.nob sp0 hz11 OG2.out 1).trans f3'
           have j4 := (e7.nob sp0 hz11 OG2.out 2).trans f4'
           have HE := Lib.hid (And.intro (E6.out.trans e7) pr7)
           clear e7 pr7))
    all_goals
      go_wp2
      go_end0
      exact ⟨rfl, G7, HE.out.1, _, HE.out.2, by show s.n + 1 + 1 = s.n + 2; omega, rfl, rfl⟩
end Go.Proofs.YtijifjiehldcaaaGreat
