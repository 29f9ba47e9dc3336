/- Layer 25: StoresAgain. -/
import Derived.Test.YthpedifjclofoaaGreatSE
import Derived.BigQuiet
import Derived.Deep.QuietTactic
namespace Go.Proofs.YthpedifjclofoaaGreat
set_option linter.unusedSimpArgs false
open Go.RowKit
set_option linter.unusedVariables false
/-- A law's world, and its call in a block of its own. -/
structure SaW (w0 W : World) (G : Om) (B : Wb) (s : AW) (cb : Nat) (c : Clm) : Prop where
  p : PW W G B ⟨3, 8, 3, 1, 16⟩ s
  e : Env w0 G W
  x : Ob W G 42 cb (clCs c)
/-- Answers laid down. -/
def As (W : World) (G : Om) (L : List (Nat × Int × Int)) : Prop := ∀ q ∈ L, Bx W G q.1 (aCs q.2.1 q.2.2)
section
variable {w0 W W' : World} {G G' : Om} {B : Wb} {s s' : AW} {cb : Nat} {c : Clm} {S : Nat → Prop} {L : List (Nat × Int × Int)}
theorem SaW.below (h : SaW w0 W G B s cb c) (hb : Below W.heap.size W W') : SaW w0 W' G B s cb c := ⟨h.p.below h.e.hi hb, h.e.ext (Ext.of_below (S := SW) h.e.hi hb), h.x.below hb⟩
theorem SaW.to (h : SaW w0 W G B s cb c) (e : Ext S G W G' W') (p : PW W' G' B ⟨3, 8, 3, 1, 16⟩ s') (hs : ¬ S 42) : SaW w0 W' G' B s' cb c := ⟨p, h.e.ext e, h.x.ext e hs⟩
theorem SaW.set (h : SaW w0 W G B s cb c) (j : Nat) (v : Value) (hj : j < 7) {c' : Clm} (hc : (clCs c).set j v = clCs c') : SaW w0 (W.setCell ⟨cb, j, none⟩ v) G B s cb c' ∧ Ext (fun t => t = 42) G W G (W.setCell ⟨cb, j, none⟩ v) := by
  have e : Ext (fun t => t = 42) G W G (W.setCell ⟨cb, j, none⟩ v) := Ext.of_set h.e.hi h.x.o (by decide) rfl
  exact ⟨⟨h.p.ext e (by decide) (by decide) (by decide) (by decide), h.e.ext e, by rw [← hc]; exact h.x.set j v (by show j < 7; exact hj)⟩, e⟩
theorem As.below (h : As W G L) (hb : Below W.heap.size W W') : As W' G L := fun q hq => (h q hq).below hb
theorem As.ext (h : As W G L) (e : Ext S G W G' W') : As W' G' L := fun q hq => (h q hq).ext e
/-- An answer is laid down. -/
theorem SaW.lay (h : SaW w0 W G B s cb c) (hA : As W G L) (an nu : Int) : ∃ V, V = W.alloc (.cells #[.int .u8 an, .int .u64 nu, .string ⟨#[]⟩, .string ⟨#[]⟩, .int .u32 0, .int .u64 0, .int .i64 0, .int .i64 0] 34) ∧ SaW w0 V G B s cb c ∧ As V G ((W.heap.size, an, nu) :: L) := by
  have hb := alloc_below W (.cells #[.int .u8 an, .int .u64 nu, .string ⟨#[]⟩, .string ⟨#[]⟩, .int .u32 0, .int .u64 0, .int .i64 0, .int .i64 0] 34)
  refine ⟨_, rfl, h.below hb, fun q hq => ?_⟩
  rcases List.mem_cons.1 hq with rfl | hq
  · exact Bx.new h.e.hi _ _ _ rfl
  · exact (hA q hq).below hb
end
theorem sa_own {w W1 : World} {O : Om} {B : Wb} {s : AW} {c : Clm} {ty : TypeId} (hP : PW W1 O B ⟨3, 8, 3, 1, 16⟩ s) (hE : Env (w.alloc (.cells (clCs c).toArray ty)) O W1) : ∃ G, SaW w W1 G B s w.heap.size c := by
  have hb := alloc_below w (.cells (clCs c).toArray ty)
  have hlt : w.heap.size < (w.alloc (.cells (clCs c).toArray ty)).heap.size := by simp
  have hO : O w.heap.size = 0 := by
    by_cases e : O w.heap.size = 0
    · exact e
    · have := hE.base _ e; omega
  obtain ⟨G, hG⟩ : ∃ G : Om, ∀ j, G j = if j = w.heap.size then 42 else O j := ⟨_, fun _ => rfl⟩
  have hne : ∀ j, O j ≠ 0 → G j = O j := fun j hj => by
    rw [hG, if_neg]
    intro e
    rw [e] at hj
    exact hj hO
  have hhi : ∀ j, G j ≠ 0 → j < W1.heap.size := fun j hj => by
    by_cases e : j = w.heap.size
    · rw [e]; exact Nat.lt_of_lt_of_le hlt hE.bel.size
    · rw [hG, if_neg e] at hj; exact hE.hi j hj
  refine ⟨G, hP.congr hne hhi, ⟨fun j hj => ?_, hhi, hb.trans (hE.bel.mono hb.size)⟩, ⟨?_, Nat.lt_of_lt_of_le hlt hE.bel.size, fun j u hu => ?_, fun j => ?_⟩⟩
  · by_cases e : j = w.heap.size
    · omega
    · rw [hG, if_neg e] at hj
      exact Nat.le_trans hb.size (hE.base j hj)
  · rw [hG, if_pos rfl]
  · exact (hE.bel.cell (p := ⟨w.heap.size, j, none⟩) hlt).trans (cell_newA w (clCs c).toArray ty _ rfl j u (by simpa using hu))
  · exact (hE.bel.frozen (p := ⟨w.heap.size, j, none⟩) hlt).trans (by simp)
theorem qBelowT {a W w : World} (k : Below a.heap.size a W) (h : Below W.heap.size W w) : Below a.heap.size a w := k.trans (h.mono k.size)
theorem qKeepW {W W' : World} {n j : Nat} {v : Value} (hl : n < W.heap.size) (h : W.cell? ⟨n, j, none⟩ = some v) (hb : Below W.heap.size W W') : W'.cell? ⟨n, j, none⟩ = some v := (hb.cell (p := ⟨n, j, none⟩) hl).trans h
theorem qKeepSI {W W' : World} {n m i j : Nat} {v u : Value} (hl : n < W.heap.size) (hm : m < W.heap.size) (h : W.cell? ⟨n, i, none⟩ = some v) (k : W.cell? ⟨m, j, none⟩ = some u) (hb : Below W.heap.size W W') : W'.cell? ⟨n, i, none⟩ = some v ∧ W'.cell? ⟨m, j, none⟩ = some u := ⟨qKeepW hl h hb, qKeepW hm k hb⟩
theorem qRecFacts {w v W : World} {T : TypeId} {N : Nat} (hb : Below v.heap.size v W) (hv : N = w.heap.size ∧ v = w.alloc (.cells #[.string ⟨#[]⟩, .string ⟨#[]⟩, .int .u32 0, .int .u64 0, .int .i64 0, .int .i64 0] T)) :
    W.cell? ⟨N, 0, none⟩ = some (.string ⟨#[]⟩) ∧ W.cell? ⟨N, 1, none⟩ = some (.string ⟨#[]⟩) ∧ W.cell? ⟨N, 2, none⟩ = some (.int .u32 0) ∧ W.cell? ⟨N, 3, none⟩ = some (.int .u64 0) ∧ W.cell? ⟨N, 4, none⟩ = some (.int .i64 0) ∧ W.cell? ⟨N, 5, none⟩ = some (.int .i64 0) ∧
    W.frozen? ⟨N, 0, none⟩ = false ∧ W.frozen? ⟨N, 1, none⟩ = false ∧ W.frozen? ⟨N, 2, none⟩ = false ∧ W.frozen? ⟨N, 3, none⟩ = false ∧ W.frozen? ⟨N, 4, none⟩ = false ∧ W.frozen? ⟨N, 5, none⟩ = false := by
  obtain ⟨rfl, rfl⟩ := hv
  have hl : w.heap.size < (w.alloc (.cells #[.string ⟨#[]⟩, .string ⟨#[]⟩, .int .u32 0, .int .u64 0, .int .i64 0, .int .i64 0] T)).heap.size := by simp
  have hc := fun j => hb.cell (p := ⟨w.heap.size, j, none⟩) hl
  have hf := fun j => hb.frozen (p := ⟨w.heap.size, j, none⟩) hl
  refine ⟨(hc 0).trans ?_, (hc 1).trans ?_, (hc 2).trans ?_, (hc 3).trans ?_, (hc 4).trans ?_, (hc 5).trans ?_, (hf 0).trans ?_, (hf 1).trans ?_, (hf 2).trans ?_, (hf 3).trans ?_, (hf 4).trans ?_, (hf 5).trans ?_⟩ <;> simp
theorem qBelow6 {wd w : World} {N : Nat} {v0 v1 v2 v3 v4 v5 : Value} (hN : N = wd.heap.size) (h : Below wd.heap.size wd w) : Below wd.heap.size wd ((((((w.setCell ⟨N, 0, none⟩ v0).setCell ⟨N, 1, none⟩ v1).setCell ⟨N, 2, none⟩ v2).setCell ⟨N, 3, none⟩ v3).setCell ⟨N, 4, none⟩ v4).setCell ⟨N, 5, none⟩ v5) := by
  have hb : wd.heap.size ≤ N := by omega
  exact (((((h.setCell (p := ⟨N, 0, none⟩) hb _).setCell (p := ⟨N, 1, none⟩) hb _).setCell (p := ⟨N, 2, none⟩) hb _).setCell (p := ⟨N, 3, none⟩) hb _).setCell (p := ⟨N, 4, none⟩) hb _).setCell (p := ⟨N, 5, none⟩) hb _
/-- A record is boxed. -/
def QItCut (w : World) (x : It) (is : Bool) (s4 s5 : Value) (wx : World) : Prop := s5 = .bool is ∧ ∃ N, s4 = .pointer (some ⟨N, 0, none⟩) ∧ w.heap.size ≤ N ∧ N < wx.heap.size ∧ Below w.heap.size w wx ∧ ∀ j u, [Value.string x.key, .string x.val, .int .u32 x.fl, .int .u64 x.id, .int .i64 x.dies, .int .i64 x.gen][j]? = some u → wx.cell? ⟨N, j, none⟩ = some u
theorem qItCut6 {w4 wd w : World} {N : Nat} {x : It} {is : Bool} {z0' z1' z2' z3' z4' z5' : Value} (hd : Below w4.heap.size w4 wd) (hN : N = wd.heap.size) (h : Below wd.heap.size wd w) (z0 : w.cell? ⟨N, 0, none⟩ = some z0') (z1 : w.cell? ⟨N, 1, none⟩ = some z1') (z2 : w.cell? ⟨N, 2, none⟩ = some z2') (z3 : w.cell? ⟨N, 3, none⟩ = some z3') (z4 : w.cell? ⟨N, 4, none⟩ = some z4') (z5 : w.cell? ⟨N, 5, none⟩ = some z5') :
    QItCut w4 x is (.pointer (some ⟨N, 0, none⟩)) (.bool is) ((((((w.setCell ⟨N, 0, none⟩ (.string x.key)).setCell ⟨N, 1, none⟩ (.string x.val)).setCell ⟨N, 2, none⟩ (.int .u32 x.fl)).setCell ⟨N, 3, none⟩ (.int .u64 x.id)).setCell ⟨N, 4, none⟩ (.int .i64 x.dies)).setCell ⟨N, 5, none⟩ (.int .i64 x.gen)) := by
  refine ⟨rfl, N, rfl, by have := hd.size; omega, ?_, qBelowT hd (qBelow6 hN h), fun j u hu => ?_⟩
  · have := blk_lt z0
    simpa using this
  · match j, hu with
    | 0, hu => cases hu; simp [go_sem, z0]
    | 1, hu => cases hu; simp [go_sem, z1]
    | 2, hu => cases hu; simp [go_sem, z2]
    | 3, hu => cases hu; simp [go_sem, z3]
    | 4, hu => cases hu; simp [go_sem, z4]
    | 5, hu => cases hu; simp [go_sem, z5]
    | n + 6, hu => cases hu
theorem qItCutA {w4 wd w : World} {x : It} {is : Bool} {T : TypeId} (hd : Below w4.heap.size w4 wd) (h : Below wd.heap.size wd w) : QItCut w4 x is (.pointer (some ⟨w.heap.size, 0, none⟩)) (.bool is) (w.alloc (.cells #[.string x.key, .string x.val, .int .u32 x.fl, .int .u64 x.id, .int .i64 x.dies, .int .i64 x.gen] T)) :=
  ⟨rfl, w.heap.size, rfl, Nat.le_trans hd.size h.size, by simp, qBelowT hd (h.alloc h.size _), fun j u hu => cell_newA w #[.string x.key, .string x.val, .int .u32 x.fl, .int .u64 x.id, .int .i64 x.dies, .int .i64 x.gen] T _ rfl j u (by simpa using hu)⟩
section
set_option maxHeartbeats 8000000 in
set_option maxRecDepth 100000 in
theorem w_StoresAgain (t verb : Int) (key val : ByteArray) (fl exp id by_ : Int) (w : World) (t0 : 0 ≤ t) (t1 : t ≤ 255) (a0 : 0 ≤ verb) (a1 : verb ≤ 255) (hkz : key.size ≤ maxLen) (hvz : val.size ≤ maxLen) (f0 : 0 ≤ fl) (f1 : fl ≤ 4294967295) (x0 : -9223372036854775808 ≤ exp) (x1 : exp ≤ 9223372036854775807) (i0 : 0 ≤ id) (i1 : id ≤ 18446744073709551615) (b0 : 0 ≤ by_) (b1 : by_ ≤ 18446744073709551615) :
    Calls Tryz.prog 3 #[.int .u8 t, .agg #[.int .u8 verb, .string key, .string val, .int .u32 fl, .int .i64 exp, .int .u64 id, .int .u64 by_]] w fun e w' => e = .returned (.bool true) ∧ Below w.heap.size w w' := by
  obtain ⟨c, hc⟩ : ∃ c : Clm, c = ⟨verb, key, val, fl, exp, id, by_⟩ := ⟨_, rfl⟩
  have hcv : clCs c = [.int .u8 verb, .string key, .string val, .int .u32 fl, .int .i64 exp, .int .u64 id, .int .u64 by_] := by rw [hc]; rfl
  have HW := Lib.hid (c_WorldP 3 (w.alloc (.cells (clCs c).toArray 26)) (by decide) (by decide))
  have HOWN := Lib.hid (fun W1 O B (hP : PW W1 O B ⟨3, 8, 3, 1, 16⟩ (aw0 3)) (hE : Env (w.alloc (.cells (clCs c).toArray 26)) O W1) => sa_own hP hE)
  rw [hcv] at HW HOWN
  have HCV := Lib.hid hcv
  have HC := Lib.hid hc
  have HKZ := Lib.hid (And.intro hkz hvz)
  obtain ⟨sm, hw⟩ : ∃ sm, IntKind.i64.wrap ((key.size : Int) + val.size) = sm := ⟨_, rfl⟩
  clear hc hcv hkz hvz a0 a1 f0 f1 x0 x1 i0 i1 b0 b1
  go_enter Tryz.func3, Tryz.ntmps3
  go_wp2_with fail
  refine HW.out.mono ?_
  rintro e w1 ⟨B, O1, rfl, p1, E1⟩
  obtain ⟨G1, S1⟩ := HOWN.out _ _ _ p1 E1
  have HS1 := Lib.hid S1
  have ob := S1.x
  rw [HCV.out] at ob
  have k0 := ob.c 0 _ rfl
  have k1 := ob.c 1 _ rfl
  have k2 := ob.c 2 _ rfl
  have k4 := ob.c 4 _ rfl
  have g0 := ob.f 0
  have g4 := ob.f 4
  obtain ⟨cb, hcb⟩ : ∃ n, n = w.heap.size := ⟨_, rfl⟩
  rw [← hcb] at k0 k1 k2 k4 g0 g4 HS1
  have HCB := Lib.hid hcb
  clear p1 E1 S1 HW HOWN ob
  by_cases hs2 : 3000 < sm
  · go_upto_region 2 with fail
    rw [← hcb]
    clear hcb
    go_wp2_with fail
    refine (c_lives25 _).mono ?_
    rintro e w9 ⟨rfl, hb9⟩
    go_wp2_with fail
    go_ret
    exact ⟨rfl, HS1.out.e.bel.trans (hb9.mono HS1.out.e.bel.size)⟩
  · go_upto_region 2 with fail
    rw [← hcb]
    clear hcb
    go_upto_region 6 with fail
    obtain ⟨c1, hc1⟩ : ∃ c1 : Clm, c1 = ⟨3, key, val, fl, 0, id, by_⟩ := ⟨_, rfl⟩
    have S2 := ((HS1.out.set 0 (.int .u8 3) (by decide) (c' := ⟨3, key, val, fl, exp, id, by_⟩) (by rw [HC.out]; rfl)).1.set 4 (.int .i64 0) (by decide) (c' := c1) (by rw [hc1]; rfl)).1
    have HC1 := Lib.hid hc1
    obtain ⟨w2, hw2⟩ : ∃ W, W = (w1.setCell ⟨cb, 0, none⟩ (.int .u8 3)).setCell ⟨cb, 4, none⟩ (.int .i64 0) := ⟨_, rfl⟩
    rw [← hw2] at S2 ⊢
    have HS2 := Lib.hid S2
    have ob := S2.x
    rw [hc1] at ob
    have k0 := ob.c 0 _ rfl
    have k1 := ob.c 1 _ rfl
    have k2 := ob.c 2 _ rfl
    have k3 := ob.c 3 _ rfl
    have k4 := ob.c 4 _ rfl
    have k5 := ob.c 5 _ rfl
    have k6 := ob.c 6 _ rfl
    clear hw2 S2 ob hc1 HS1 HC HCV g0 g4
    go_upto_region 7 with fail
    obtain ⟨k, hk⟩ : ∃ k : Nat, t % 64 = (k : Int) := ⟨(t % 64).toNat, by omega⟩
    have hk64 : k < 64 := by omega
    rw [hk]
    clear hk t0 t1
    have hk1 : c1.key = key := by rw [HC1.out]
    have hv1 : c1.val = val := by rw [HC1.out]
    have he1 : c1.exp = 0 := by rw [HC1.out]
    have hb1 : c1.verb = 3 := by rw [HC1.out]
    have hmb : ∀ c' : Clm, c'.key = key → c'.val = val → (c'.verb = 3 ∨ c'.verb = 4 ∨ c'.verb = 6) → mayB c' = (kyOk key && kyVal val) := fun c' h1 h2 h3 => by
      unfold mayB
      rw [h1, h2, decide_eq_true (by omega), Bool.true_and]
    have hcl1 : clV c1 = .agg #[.int .u8 3, .string key, .string val, .int .u32 fl, .int .i64 0, .int .u64 id, .int .u64 by_] := by rw [HC1.out]; rfl
    have HOK := Lib.hid (fun W => c_kyOk key W HKZ.out.1)
    have HVO := Lib.hid (fun W => c_kyValue val W HKZ.out.2)
    have HMB := Lib.hid hmb
    clear hmb
    obtain ⟨ok, hok⟩ : ∃ b, b = kyOk key := ⟨_, rfl⟩
    obtain ⟨vo, hvo⟩ : ∃ b, b = kyVal val := ⟨_, rfl⟩
    rw [← hok, ← hvo] at HMB
    rw [← hok] at HOK
    rw [← hvo] at HVO
    clear hok hvo
    by_cases hm : (ok && vo) = true
    · have HD1 : Hid (∃ (s1 : AW) (p : Spt) (T : Tab), AgS 3 key s1 p T 1 (stIt c1 1 0) 1 ∧ ∀ W G, PW W G B ⟨3, 8, 3, 1, 16⟩ (aw0 3) → (∀ j, G j ≠ 0 → j < W.heap.size) → Calls Tryz.prog 10 #[.pointer (some ⟨B.p, 0, none⟩), .int .i64 k, .agg #[.int .u8 3, .string key, .string val, .int .u32 fl, .int .i64 0, .int .u64 id, .int .u64 by_]] W (RP (SX 10 41) W G (ansV 1 1) fun W G => PW W G B ⟨3, 8, 3, 1, 16⟩ s1)) := Lib.hid (by
        obtain ⟨m, s1, z1, p, T, r1, o1, an1, nu1, A1⟩ := ag_new (b := 3) (by decide) (by decide) k c1 (by rw [hb1]; decide)
        rw [hk1] at A1
        refine ⟨s1, p, T, A1, fun W G hP hh => ?_⟩
        have h := c_DoesI (f := ⟨3, 8, 3, 1, 16⟩) (aw0_sti hP.bd (by decide) (by decide) c1 (g := 8) (by decide)) r1 o1 hP hk64 ((HMB.out c1 hk1 hv1 (.inl hb1)).trans hm) (by rw [he1]; decide) (by rw [hk1]; exact HKZ.out.1) (by rw [hv1]; exact HKZ.out.2) (by show (1 : Int) ≤ 8; decide) (by show (8 : Int) ≤ 65536; decide) hh (Int.le_refl _) (by show (0 : Int) + 200000 ≤ _; decide)
        rw [an1, nu1, hcl1] at h
        exact h)
      obtain ⟨s1, p, T1, A1, D1⟩ := HD1.out
      have hn1 := A1.n1
      obtain ⟨c2, hc2⟩ : ∃ c2 : Clm, c2 = ⟨4, key, val, fl, 0, id, by_⟩ := ⟨_, rfl⟩
      obtain ⟨c3, hc3⟩ : ∃ c3 : Clm, c3 = ⟨6, key, val, fl, 0, 2, by_⟩ := ⟨_, rfl⟩
      have hb2 : c2.verb = 4 := by rw [hc2]
      have he2 : c2.exp = 0 := by rw [hc2]
      have hb3 : c3.verb = 6 := by rw [hc3]
      have he3 : c3.exp = 0 := by rw [hc3]
      have hi3 : c3.id = 2 := by rw [hc3]
      obtain ⟨s2, T2, A2, D2⟩ : ∃ (s2 : AW) (T2 : Tab), AgS 3 key s2 p T2 2 (stIt c1 2 0) 2 ∧ ∀ W G, PW W G B ⟨3, 8, 3, 1, 16⟩ s1 → (∀ j, G j ≠ 0 → j < W.heap.size) → Calls Tryz.prog 10 #[.pointer (some ⟨B.p, 0, none⟩), .int .i64 k, .agg #[.int .u8 3, .string key, .string val, .int .u32 fl, .int .i64 0, .int .u64 id, .int .u64 by_]] W (RP (SX 10 41) W G (ansV 1 2) fun W G => PW W G B ⟨3, 8, 3, 1, 16⟩ s2) := by
        obtain ⟨m, s2, z2, T2, r, o, an, nu, A2⟩ := ag_repl A1 k c1 hk1 (dec_set hb1) (by decide) (by decide)
        refine ⟨s2, T2, A2, fun W G hP hh => ?_⟩
        have h := c_DoesI (f := ⟨3, 8, 3, 1, 16⟩) (ag_sti A1 hP.bd c1 (g := 8) (by decide) (by decide)) r o hP hk64 ((HMB.out c1 hk1 hv1 (.inl hb1)).trans hm) (by rw [he1]; decide) (by rw [hk1]; exact HKZ.out.1) (by rw [hv1]; exact HKZ.out.2) (by show (1 : Int) ≤ 8; decide) (by show (8 : Int) ≤ 65536; decide) hh A1.n0 (by have := A1.n1; omega)
        rw [an, nu, hcl1] at h
        exact h
      obtain ⟨s3, A3, D3⟩ : ∃ (s3 : AW), AgS 3 key s3 p T2 2 (stIt c1 2 0) 3 ∧ ∀ W G, PW W G B ⟨3, 8, 3, 1, 16⟩ s2 → (∀ j, G j ≠ 0 → j < W.heap.size) → Calls Tryz.prog 10 #[.pointer (some ⟨B.p, 0, none⟩), .int .i64 k, .agg #[.int .u8 4, .string key, .string val, .int .u32 fl, .int .i64 0, .int .u64 id, .int .u64 by_]] W (RP (SX 10 41) W G (ansV 2 0) fun W G => PW W G B ⟨3, 8, 3, 1, 16⟩ s3) := by
        obtain ⟨m, s3, z3, r, o, an, nu, A3⟩ := ag_tell A2 k c2 (by rw [hc2]) (dec_add (by rw [hc2]) he1) (by decide)
        refine ⟨s3, A3, fun W G hP hh => ?_⟩
        have h := c_DoesI (f := ⟨3, 8, 3, 1, 16⟩) (ag_sti A2 hP.bd c2 (g := 8) (by decide) (by decide)) r o hP hk64 ((HMB.out c2 (by rw [hc2]) (by rw [hc2]) (by rw [hb2]; decide)).trans hm) (by rw [he2]; decide) (by rw [hc2]; exact HKZ.out.1) (by rw [hc2]; exact HKZ.out.2) (by show (1 : Int) ≤ 8; decide) (by show (8 : Int) ≤ 65536; decide) hh A2.n0 (by have := A2.n1; omega)
        rw [an, nu, show clV c2 = .agg #[.int .u8 4, .string key, .string val, .int .u32 fl, .int .i64 0, .int .u64 id, .int .u64 by_] from by rw [hc2]; rfl] at h
        exact h
      obtain ⟨s4, T4, A4, D4⟩ : ∃ (s4 : AW) (T4 : Tab), AgS 3 key s4 p T4 3 (stIt c3 3 0) 4 ∧ ∀ W G, PW W G B ⟨3, 8, 3, 1, 16⟩ s3 → (∀ j, G j ≠ 0 → j < W.heap.size) → Calls Tryz.prog 10 #[.pointer (some ⟨B.p, 0, none⟩), .int .i64 k, .agg #[.int .u8 6, .string key, .string val, .int .u32 fl, .int .i64 0, .int .u64 2, .int .u64 by_]] W (RP (SX 10 41) W G (ansV 1 3) fun W G => PW W G B ⟨3, 8, 3, 1, 16⟩ s4) := by
        obtain ⟨m, s4, z4, T4, r, o, an, nu, A4⟩ := ag_repl A3 k c3 (by rw [hc3]) (by rw [dec_cas (by rw [hc3]) he1, if_pos (by rw [hc3])]) (by decide) (by decide)
        refine ⟨s4, T4, A4, fun W G hP hh => ?_⟩
        have h := c_DoesI (f := ⟨3, 8, 3, 1, 16⟩) (ag_sti A3 hP.bd c3 (g := 8) (by decide) (by decide)) r o hP hk64 ((HMB.out c3 (by rw [hc3]) (by rw [hc3]) (by rw [hb3]; decide)).trans hm) (by rw [he3]; decide) (by rw [hc3]; exact HKZ.out.1) (by rw [hc3]; exact HKZ.out.2) (by show (1 : Int) ≤ 8; decide) (by show (8 : Int) ≤ 65536; decide) hh A3.n0 (by have := A3.n1; omega)
        rw [an, nu, show clV c3 = .agg #[.int .u8 6, .string key, .string val, .int .u32 fl, .int .i64 0, .int .u64 2, .int .u64 by_] from by rw [hc3]; rfl] at h
        exact h
      obtain ⟨s5, A5, D5⟩ : ∃ (s5 : AW), AgS 3 key s5 p T4 3 (stIt c3 3 0) 5 ∧ ∀ W G, PW W G B ⟨3, 8, 3, 1, 16⟩ s4 → (∀ j, G j ≠ 0 → j < W.heap.size) → Calls Tryz.prog 10 #[.pointer (some ⟨B.p, 0, none⟩), .int .i64 k, .agg #[.int .u8 6, .string key, .string val, .int .u32 fl, .int .i64 0, .int .u64 2, .int .u64 by_]] W (RP (SX 10 41) W G (ansV 3 0) fun W G => PW W G B ⟨3, 8, 3, 1, 16⟩ s5) := by
        obtain ⟨m, s5, z5, r, o, an, nu, A5⟩ := ag_tell A4 k c3 (a := 3) (by rw [hc3]) (by rw [dec_cas (by rw [hc3]) (by rw [hc3]), if_neg (by rw [hi3]; decide)]) (by decide)
        refine ⟨s5, A5, fun W G hP hh => ?_⟩
        have h := c_DoesI (f := ⟨3, 8, 3, 1, 16⟩) (ag_sti A4 hP.bd c3 (g := 8) (by decide) (by decide)) r o hP hk64 ((HMB.out c3 (by rw [hc3]) (by rw [hc3]) (by rw [hb3]; decide)).trans hm) (by rw [he3]; decide) (by rw [hc3]; exact HKZ.out.1) (by rw [hc3]; exact HKZ.out.2) (by show (1 : Int) ≤ 8; decide) (by show (8 : Int) ≤ 65536; decide) hh A4.n0 (by have := A4.n1; omega)
        rw [an, nu, show clV c3 = .agg #[.int .u8 6, .string key, .string val, .int .u32 fl, .int .i64 0, .int .u64 2, .int .u64 by_] from by rw [hc3]; rfl] at h
        exact h
      have HDD1 := Lib.hid (D1 _ _ HS2.out.p HS2.out.e.hi)
      have HDD2 := Lib.hid D2
      have HDD3 := Lib.hid D3
      have HDD4 := Lib.hid D4
      have HDD5 := Lib.hid D5
      have HC2 := Lib.hid hc2
      have HC3 := Lib.hid hc3
      have HA5 := Lib.hid A5
      have HK1 := Lib.hid (And.intro hk1 (And.intro hv1 (And.intro he1 (And.intro hb1 hcl1))))
      unfold ansV at HDD1 HDD2 HDD3 HDD4 HDD5
      have hok : ok = true := by cases ok <;> simp_all
      have hvo : vo = true := by cases vo <;> simp_all
      subst hok hvo
      clear A1 A2 A3 A4 A5 D1 D2 D3 D4 D5 HD1 hc2 hc3 hk1 hv1 he1 hb1 hcl1 hm hn1 hb2 he2 hb3 he3 hi3
      go_wp2_with fail
      refine HDD1.out.mono ?_
      rintro e w3 ⟨rfl, G3, e3, p3⟩
      obtain ⟨V3, hV3, S3, L3⟩ := (HS2.out.to e3 p3 (by unfold SX; omega)).lay (L := []) (fun q hq => by cases hq) 1 1
      have ob := S3.x
      rw [HC1.out] at ob
      have k0 := ob.c 0 _ rfl
      have k1 := ob.c 1 _ rfl
      have k2 := ob.c 2 _ rfl
      have k3 := ob.c 3 _ rfl
      have k4 := ob.c 4 _ rfl
      have k5 := ob.c 5 _ rfl
      have k6 := ob.c 6 _ rfl
      have HS3 := Lib.hid (And.intro S3 L3)
      clear e3 p3 S3 L3 ob HS2 HDD1
      go_upto_region 8 with fail
      rw [← hV3]
      clear hV3
      go_wp2_with fail
      refine (HOK.out _).mono ?_
      rintro e w' ⟨rfl, rfl⟩
      go_wp2_with fail
      refine (HVO.out _).mono ?_
      rintro e w' ⟨rfl, rfl⟩
      have HX := Lib.hid (HDD2.out _ _ HS3.out.1.p HS3.out.1.e.hi)
      go_wp2_with fail
      refine HX.out.mono ?_
      rintro e w4 ⟨rfl, G4, e4, p4⟩
      obtain ⟨V4, hV4, S4, L4⟩ := (HS3.out.1.to e4 p4 (by unfold SX; omega)).lay (HS3.out.2.ext e4) 1 2
      clear k0 k1 k2 k3 k4 k5 k6
      have ob := S4.x
      rw [HC1.out] at ob
      have k0 := ob.c 0 _ rfl
      have k1 := ob.c 1 _ rfl
      have k2 := ob.c 2 _ rfl
      have k3 := ob.c 3 _ rfl
      have k4 := ob.c 4 _ rfl
      have k5 := ob.c 5 _ rfl
      have k6 := ob.c 6 _ rfl
      have g0 := ob.f 0
      have g5 := ob.f 5
      have HS4 := Lib.hid (And.intro S4 L4)
      clear e4 p4 S4 L4 ob HS3 HX HDD2 HOK HVO
      go_upto_region 11 with fail
      rw [← hV4]
      clear hV4
      have S5 := HS4.out.1.set 0 (.int .u8 4) (by decide) (c' := c2) (by rw [HC1.out, HC2.out]; rfl)
      obtain ⟨V5, hV5⟩ : ∃ V, V = V4.setCell ⟨cb, 0, none⟩ (.int .u8 4) := ⟨_, rfl⟩
      rw [← hV5] at S5
      have HS5 := Lib.hid (And.intro S5.1 (HS4.out.2.ext S5.2))
      have HX := Lib.hid (HDD3.out _ _ S5.1.p S5.1.e.hi)
      go_upto_region 12 with fail
      rw [← hV5]
      clear hV5 k0 k1 k2 k3 k4 k5 k6 g0 g5
      have ob := HS5.out.1.x
      rw [HC2.out] at ob
      have k0 := ob.c 0 _ rfl
      have k1 := ob.c 1 _ rfl
      have k2 := ob.c 2 _ rfl
      have k3 := ob.c 3 _ rfl
      have k4 := ob.c 4 _ rfl
      have k5 := ob.c 5 _ rfl
      have k6 := ob.c 6 _ rfl
      have g0 := ob.f 0
      have g5 := ob.f 5
      clear ob S5 HS4
      go_wp2_with fail
      refine HX.out.mono ?_
      rintro e w6 ⟨rfl, G6, e6, p6⟩
      obtain ⟨V6, hV6, S6, L6⟩ := (HS5.out.1.to e6 p6 (by unfold SX; omega)).lay (HS5.out.2.ext e6) 2 0
      clear k0 k1 k2 k3 k4 k5 k6 g0 g5
      have ob := S6.x
      rw [HC2.out] at ob
      have k0 := ob.c 0 _ rfl
      have k1 := ob.c 1 _ rfl
      have k2 := ob.c 2 _ rfl
      have k3 := ob.c 3 _ rfl
      have k4 := ob.c 4 _ rfl
      have k5 := ob.c 5 _ rfl
      have k6 := ob.c 6 _ rfl
      have g0 := ob.f 0
      have g5 := ob.f 5
      have HS6 := Lib.hid (And.intro S6 L6)
      clear e6 p6 S6 L6 ob HS5 HX HDD3
      go_upto_region 13 with fail
      rw [← hV6]
      clear hV6
      have S7 := HS6.out.1.set 0 (.int .u8 6) (by decide) (c' := ⟨6, key, val, fl, 0, id, by_⟩) (by rw [HC2.out]; rfl)
      obtain ⟨V7, hV7⟩ : ∃ V, V = V6.setCell ⟨cb, 0, none⟩ (.int .u8 6) := ⟨_, rfl⟩
      rw [← hV7] at S7
      have HS7 := Lib.hid (And.intro S7.1 (HS6.out.2.ext S7.2))
      go_upto_region 14 with fail
      rw [← hV7]
      clear hV7 k0 k1 k2 k3 k4 k5 k6 g0 g5
      have ob := HS7.out.1.x
      have k5 := ob.c 5 _ rfl
      have g5 := ob.f 5
      have n1 := (HS7.out.2 (w4.heap.size, 1, 2) (by simp)).c 1 _ rfl
      dsimp only at n1
      have S8 := HS7.out.1.set 5 (.int .u64 2) (by decide) (c' := c3) (by rw [HC3.out]; rfl)
      obtain ⟨V8, hV8⟩ : ∃ V, V = V7.setCell ⟨cb, 5, none⟩ (.int .u64 2) := ⟨_, rfl⟩
      rw [← hV8] at S8
      have HS8 := Lib.hid (And.intro S8.1 (HS7.out.2.ext S8.2))
      have HX := Lib.hid (HDD4.out _ _ S8.1.p S8.1.e.hi)
      clear ob S7 HS6
      go_upto_region 15 with fail
      rw [← hV8]
      clear hV8 k5 g5 n1
      have ob := HS8.out.1.x
      rw [HC3.out] at ob
      have k0 := ob.c 0 _ rfl
      have k1 := ob.c 1 _ rfl
      have k2 := ob.c 2 _ rfl
      have k3 := ob.c 3 _ rfl
      have k4 := ob.c 4 _ rfl
      have k5 := ob.c 5 _ rfl
      have k6 := ob.c 6 _ rfl
      have g0 := ob.f 0
      have g5 := ob.f 5
      clear ob S8 HS7
      go_wp2_with fail
      refine HX.out.mono ?_
      rintro e w9 ⟨rfl, G9, e9, p9⟩
      obtain ⟨V9, hV9, S9, L9⟩ := (HS8.out.1.to e9 p9 (by unfold SX; omega)).lay (HS8.out.2.ext e9) 1 3
      clear k0 k1 k2 k3 k4 k5 k6 g0 g5
      have ob := S9.x
      rw [HC3.out] at ob
      have k0 := ob.c 0 _ rfl
      have k1 := ob.c 1 _ rfl
      have k2 := ob.c 2 _ rfl
      have k3 := ob.c 3 _ rfl
      have k4 := ob.c 4 _ rfl
      have k5 := ob.c 5 _ rfl
      have k6 := ob.c 6 _ rfl
      have g0 := ob.f 0
      have g5 := ob.f 5
      have HS9 := Lib.hid (And.intro S9 L9)
      have HX := Lib.hid (HDD5.out _ _ S9.p S9.e.hi)
      clear e9 p9 S9 L9 ob HS8 HDD4
      go_upto_region 16 with fail
      rw [← hV9]
      clear hV9
      go_wp2_with fail
      refine HX.out.mono ?_
      rintro e w10 ⟨rfl, G10, e10, p10⟩
      obtain ⟨V10, hV10, S10, L10⟩ := (HS9.out.1.to e10 p10 (by unfold SX; omega)).lay (HS9.out.2.ext e10) 3 0
      clear k0 k1 k2 k3 k4 k5 k6 g0 g5
      have ob := S10.x
      rw [HC3.out] at ob
      have k0 := ob.c 0 _ rfl
      have k1 := ob.c 1 _ rfl
      have k2 := ob.c 2 _ rfl
      have k3 := ob.c 3 _ rfl
      have k4 := ob.c 4 _ rfl
      have k5 := ob.c 5 _ rfl
      have k6 := ob.c 6 _ rfl
      have g0 := ob.f 0
      have g5 := ob.f 5
      have HS10 := Lib.hid (And.intro S10 L10)
      have HAT := Lib.hid (c_At14 (key := key) 10 (by decide) S10.p HKZ.out.1 (by rw [HA5.out.len]; decide) S10.e.hi)
      rw [atL_one HA5.out] at HAT
      clear e10 p10 S10 L10 ob HS9 HX HDD5
      go_upto_region 17 with fail
      rw [← hV10]
      clear hV10
      go_wp2_with fail
      refine HAT.out.mono ?_
      rintro e w11 ⟨lv, rfl, G11, e11, p11, r11⟩
      obtain ⟨lb, lo, lc, rfl, -, -, hXl, hlx⟩ := (Arr.of_own r11.own).open (by decide) (by decide)
      have l0 : w11.cell? ⟨lb, lo + 0, none⟩ = some (.int .i64 3) := hlx 0 _ rfl
      rw [Nat.add_zero] at l0
      have HS11 := Lib.hid (And.intro (HS10.out.1.to e11 p11 (by decide)) (HS10.out.2.ext e11))
      have hc6 : s5.M 6 = 1 := HA5.out.cnt
      have hc1 : s5.M 1 = 5 := HA5.out.srv
      have HP6 := Lib.hid (c_Peek 6 p11.ce (by decide) (by decide))
      have HP1 := Lib.hid (c_Peek 1 p11.ce (by decide) (by decide))
      rw [hc6] at HP6
      rw [hc1] at HP1
      have y0 := p11.wo.c0
      have yh := p11.wo.ho
      rw [HA5.out.ho] at yh
      have y1 := p11.wo.c1
      have hBl : B.p < w11.heap.size := p11.wo.lt
      have HAt : Hid (∃ is, ∀ W, Below w11.heap.size w11 W → Calls Tryz.prog 16 #[.pointer (some ⟨B.ip, 0, none⟩), .int .i64 3] W fun e w' => e = .returned (.tuple #[.agg #[.string key, .string val, .int .u32 fl, .int .u64 3, .int .i64 (-1), .int .i64 0], .bool is]) ∧ Below W.heap.size W w') := Lib.hid ⟨itIs s5.it 3, fun W hb => by
        have h := c_IAtB (w := W) (O := G11) 3 (p11.below e11.hi hb).ar (by rw [HA5.out.len]; decide)
        have hl : itAt s5.it 3 = ⟨key, val, fl, 3, -1, 0⟩ := by
          have := HA5.out.last
          rw [HC3.out] at this
          exact this
        rw [hl] at h
        exact h⟩
      obtain ⟨is, HAt'⟩ := HAt.out
      have HAt := Lib.hid HAt'
      clear e11 p11 r11 hlx hc6 hc1 HAt' HS10 HAT k0 k1 k2 k3 k4 k5 k6 g0 g5
      go_wp2_with fail
      refine HP6.out.mono ?_
      rintro e w' ⟨rfl, rfl⟩
      go_wp2_with fail
      refine HP1.out.mono ?_
      rintro e w' ⟨rfl, rfl⟩
      have y4 := l0
      go_upto_region 20 with fail
      clear l0 y0 yh HP6 HP1
      obtain ⟨x', hx'⟩ : ∃ x' : It, x' = ⟨key, val, fl, 3, -1, 0⟩ := ⟨_, rfl⟩
      go_cut [13, 14] (fun s4 s5 wx => QItCut w11 ⟨key, val, fl, 3, -1, 0⟩ is s4 s5 wx)
      case first =>
            refine wp_region_held_drew (S := fun w' => w'.cell? ⟨B.p, 1, none⟩ = some (.pointer (some ⟨B.ip, 0, none⟩)) ∧ w'.cell? ⟨lb, lo, none⟩ = some (.int .i64 3)) (by kernel_rfl) ?sA (fun hH0 => ?rA)
            case sA => exact ⟨y1, y4⟩
            obtain ⟨wd, hwd0⟩ : ∃ z, z = w11.drew := ⟨_, rfl⟩
            have hwd : Hid (Below w11.heap.size w11 wd) := Lib.hid (by rw [hwd0]; exact drew_below _)
            have hBl1 : B.p < wd.heap.size := by rw [hwd0]; exact hBl
            have hXl1 : lb < wd.heap.size := by rw [hwd0]; exact hXl
            rw [← hwd0] at hH0 ⊢
            clear y1 y4 hwd0
            obtain ⟨p1, x4⟩ := hH0
            have hH0 := And.intro p1 x4
            have HBd := Lib.hid (Below.refl wd.heap.size wd)
            try simp only [Act.put, List.setIfInBounds_toArray, List.set_cons_zero, List.set_cons_succ]
            refine' wpAnyH_take (i := 0) (List.getElem?_toArray.trans rfl) (by kernel_rfl) (by kernel_rfl) (by kernel_rfl) (fun _ _ _ h => h) (Or.inl ⟨by rfl, ?y1⟩) hH0 ?r1
            case y1 => (intro w hSw; (try dsimp only at hSw); go_simp; try with_reducible rfl)
            try simp only [Act.put, List.setIfInBounds_toArray, List.set_cons_zero, List.set_cons_succ]
            refine' wpAnyH_take (i := 1) (List.getElem?_toArray.trans rfl) (by kernel_rfl) (by kernel_rfl) (by kernel_rfl) (fun _ _ _ h => h) (Or.inl ⟨by rfl, ?y2⟩) hH0 ?r2
            case y2 => (intro w hSw; (try dsimp only at hSw); go_simp; try with_reducible rfl)
            try simp only [Act.put, List.setIfInBounds_toArray, List.set_cons_zero, List.set_cons_succ]
            refine' wpAnyH_take (i := 2) (List.getElem?_toArray.trans rfl) (by kernel_rfl) (by kernel_rfl) (by kernel_rfl) (fun _ _ _ h => h) (Or.inl ⟨by rfl, ?y3⟩) hH0 ?r3
            case y3 => (intro w hSw; (try dsimp only at hSw); go_simp; try with_reducible rfl)
            try simp only [Act.put, List.setIfInBounds_toArray, List.set_cons_zero, List.set_cons_succ]
            refine' wpAnyH_take (i := 3) (List.getElem?_toArray.trans rfl) (by kernel_rfl) (by kernel_rfl) (by kernel_rfl) (fun _ _ _ h => h) (Or.inl ⟨by rfl, ?y4⟩) hH0 ?r4
            case y4 => (intro w hSw; (try dsimp only at hSw); go_simp; try with_reducible rfl)
            try simp only [Act.put, List.setIfInBounds_toArray, List.set_cons_zero, List.set_cons_succ]
            refine' wpAnyH_take (i := 4) (List.getElem?_toArray.trans rfl) (by kernel_rfl) (by kernel_rfl) (by kernel_rfl) (fun _ _ _ h => h) (Or.inl ⟨by rfl, ?y5⟩) hH0 ?r5
            case y5 => (intro w hSw; (try dsimp only at hSw); go_simp; try with_reducible rfl)
            try simp only [Act.put, List.setIfInBounds_toArray, List.set_cons_zero, List.set_cons_succ]
            refine' wpAnyH_take (i := 5) (List.getElem?_toArray.trans rfl) (by kernel_rfl) (by kernel_rfl) (by kernel_rfl) (fun _ _ _ h => h) (Or.inl ⟨by rfl, ?y6⟩) hH0 ?r6
            case y6 => (intro w hSw; (try dsimp only at hSw); go_simp; try with_reducible rfl)
            try simp only [Act.put, List.setIfInBounds_toArray, List.set_cons_zero, List.set_cons_succ]
            refine' wpAnyH_take (i := 6) (List.getElem?_toArray.trans rfl) (by kernel_rfl) (by kernel_rfl) (by kernel_rfl) (fun _ _ _ h => h) (Or.inl ⟨by rfl, ?y7⟩) hH0 ?r7
            case y7 => (intro w hSw; (try dsimp only at hSw); go_simp; try with_reducible rfl)
            try simp only [Act.put, List.setIfInBounds_toArray, List.set_cons_zero, List.set_cons_succ]
            refine wpAnyH_ready (rs := [7, 11]) (by kernel_rfl) (by simp) ?_
            refine' AllReadyH.cons (List.getElem?_toArray.trans rfl) (fun K hK => ?st8) ?more8
            case st8 =>
              go_simp
              refine' Calls.mono (HAt.out wd (qBelowT hwd.out HBd.out)) ?c9
              rintro e w9 ⟨rfl, hb9⟩
              have HB9 := Lib.hid (qBelowT HBd.out hb9)
              clear hb9
              try go_wp2_with fail
              refine hK.out _ _ ?s9 (fun hH9 => ?r9)
              case s9 => ((try dsimp only); exact qKeepSI hBl1 hXl1 p1 x4 HB9.out)
              clear hK K hH0
              try simp only [Act.put, List.setIfInBounds_toArray, List.set_cons_zero, List.set_cons_succ]
              refine' wpAnyH_take (i := 8) (List.getElem?_toArray.trans rfl) (by kernel_rfl) (by kernel_rfl) (by kernel_rfl) (fun _ _ _ h => h) (Or.inl ⟨by rfl, ?y10⟩) hH9 ?r10
              case y10 => (intro w hSw; (try dsimp only at hSw); go_simp; try with_reducible rfl)
              try simp only [Act.put, List.setIfInBounds_toArray, List.set_cons_zero, List.set_cons_succ]
              refine' wpAnyH_take (i := 9) (List.getElem?_toArray.trans rfl) (by kernel_rfl) (by kernel_rfl) (by kernel_rfl) (fun _ _ _ h => h) (Or.inl ⟨by rfl, ?y11⟩) hH9 ?r11
              case y11 => (intro w hSw; (try dsimp only at hSw); go_simp; try with_reducible rfl)
              try simp only [Act.put, List.setIfInBounds_toArray, List.set_cons_zero, List.set_cons_succ]
              refine' wpAnyH_take (i := 10) (List.getElem?_toArray.trans rfl) (by kernel_rfl) (by kernel_rfl) (by kernel_rfl) (fun _ _ _ h => h) (Or.inl ⟨by rfl, ?y12⟩) hH9 ?r12
              case y12 => (intro w hSw; (try dsimp only at hSw); go_simp; try with_reducible rfl)
              try simp only [Act.put, List.setIfInBounds_toArray, List.set_cons_zero, List.set_cons_succ]
              refine wpAnyH_ready (rs := [11]) (by kernel_rfl) (by simp) ?_
              refine' AllReadyH.cons (List.getElem?_toArray.trans rfl) (fun K hK => ?st13) ?more13
              case st13 =>
                go_simp
                refine hK.out _ _ ?s14 (fun hH14 => ?r14)
                case s14 => ((try dsimp only); exact qKeepSI hBl1 hXl1 p1 x4 (HB9.out.alloc HB9.out.size _))
                clear hK K hH9
                try simp only [Act.put, List.setIfInBounds_toArray, List.set_cons_zero, List.set_cons_succ]
                refine wpAnyH_ready (rs := [12]) (by kernel_rfl) (by simp) ?_
                refine' AllReadyH.cons (List.getElem?_toArray.trans rfl) (fun K hK => ?st15) ?more15
                case st15 =>
                  go_simp
                  refine hK.out _ _ ?s16 (fun hH16 => ?r16)
                  case s16 => ((try dsimp only); exact qKeepSI hBl1 hXl1 p1 x4 (HB9.out.alloc HB9.out.size _))
                  clear hK K hH14
                  try simp only [Act.put, List.setIfInBounds_toArray, List.set_cons_zero, List.set_cons_succ]
                  refine' wpAnyH_take (i := 13) (List.getElem?_toArray.trans rfl) (by kernel_rfl) (by kernel_rfl) (by kernel_rfl) (fun _ _ _ h => h) (Or.inl ⟨by rfl, ?y17⟩) hH16 ?r17
                  case y17 => (intro w hSw; (try dsimp only at hSw); go_simp; try with_reducible rfl)
                  try simp only [Act.put, List.setIfInBounds_toArray, List.set_cons_zero, List.set_cons_succ]
                  refine wpAnyH_done (by kernel_rfl) ?_ _
                  go_wp2_with fail
                  go_meet
                  exact qItCutA hwd.out HB9.out
                exact AllReadyH.nil
              exact AllReadyH.nil
            refine' AllReadyH.cons (List.getElem?_toArray.trans rfl) (fun K hK => ?st18) ?more18
            case st18 =>
              go_simp
              refine hK.out _ _ ?s19 (fun hH19 => ?r19)
              case s19 => ((try dsimp only); exact qKeepSI hBl1 hXl1 p1 x4 ((Below.refl _ _).alloc (Nat.le_refl _) _))
              obtain ⟨v19, hv19⟩ : ∃ v, v = wd.alloc (.cells #[.string ⟨#[]⟩, .string ⟨#[]⟩, .int .u32 0, .int .u64 0, .int .i64 0, .int .i64 0] 32) := ⟨_, rfl⟩
              obtain ⟨N19, hn19⟩ : ∃ N, N = wd.heap.size := ⟨_, rfl⟩
              rw [← hv19] at hH19
              rw [← hv19, ← hn19]
              have HB19 : Hid (Below wd.heap.size wd v19) := Lib.hid (by rw [hv19]; exact (Below.refl _ _).alloc (Nat.le_refl _) _)
              have hN19 := Lib.hid (And.intro hn19 hv19)
              clear hv19 hn19
              clear hK K hH0
              try simp only [Act.put, List.setIfInBounds_toArray, List.set_cons_zero, List.set_cons_succ]
              refine wpAnyH_ready (rs := [7]) (by kernel_rfl) (by simp) ?_
              refine' AllReadyH.cons (List.getElem?_toArray.trans rfl) (fun K hK => ?st20) ?more20
              case st20 =>
                go_simp
                refine' Calls.mono (HAt.out v19 (qBelowT hwd.out HB19.out)) ?c21
                rintro e w21 ⟨rfl, hb21⟩
                obtain ⟨z0, z1, z2, z3, z4, z5, zf0, zf1, zf2, zf3, zf4, zf5⟩ := qRecFacts hb21 hN19.out
                have HB21 := Lib.hid (qBelowT HB19.out hb21)
                clear hb21
                try go_wp2_with fail
                refine hK.out _ _ ?s21 (fun hH21 => ?r21)
                case s21 => ((try dsimp only); exact qKeepSI hBl1 hXl1 p1 x4 HB21.out)
                clear hK K hH19
                try simp only [Act.put, List.setIfInBounds_toArray, List.set_cons_zero, List.set_cons_succ]
                refine' wpAnyH_take (i := 8) (List.getElem?_toArray.trans rfl) (by kernel_rfl) (by kernel_rfl) (by kernel_rfl) (fun _ _ _ h => h) (Or.inl ⟨by rfl, ?y22⟩) hH21 ?r22
                case y22 => (intro w hSw; (try dsimp only at hSw); go_simp; try with_reducible rfl)
                try simp only [Act.put, List.setIfInBounds_toArray, List.set_cons_zero, List.set_cons_succ]
                refine' wpAnyH_take (i := 9) (List.getElem?_toArray.trans rfl) (by kernel_rfl) (by kernel_rfl) (by kernel_rfl) (fun _ _ _ h => h) (Or.inl ⟨by rfl, ?y23⟩) hH21 ?r23
                case y23 => (intro w hSw; (try dsimp only at hSw); go_simp; try with_reducible rfl)
                try simp only [Act.put, List.setIfInBounds_toArray, List.set_cons_zero, List.set_cons_succ]
                refine' wpAnyH_take (i := 10) (List.getElem?_toArray.trans rfl) (by kernel_rfl) (by kernel_rfl) (by kernel_rfl) (fun _ _ _ h => h) (Or.inl ⟨by rfl, ?y24⟩) hH21 ?r24
                case y24 => (intro w hSw; (try dsimp only at hSw); go_simp; try with_reducible rfl)
                try simp only [Act.put, List.setIfInBounds_toArray, List.set_cons_zero, List.set_cons_succ]
                refine wpAnyH_ready (rs := [12]) (by kernel_rfl) (by simp) ?_
                refine' AllReadyH.cons (List.getElem?_toArray.trans rfl) (fun K hK => ?st25) ?more25
                case st25 =>
                  go_simp
                  refine hK.out _ _ ?s26 (fun hH26 => ?r26)
                  case s26 => ((try dsimp only); exact qKeepSI hBl1 hXl1 p1 x4 (qBelow6 hN19.out.1 HB21.out))
                  clear hK K hH21
                  try simp only [Act.put, List.setIfInBounds_toArray, List.set_cons_zero, List.set_cons_succ]
                  refine' wpAnyH_take (i := 13) (List.getElem?_toArray.trans rfl) (by kernel_rfl) (by kernel_rfl) (by kernel_rfl) (fun _ _ _ h => h) (Or.inl ⟨by rfl, ?y27⟩) hH26 ?r27
                  case y27 => (intro w hSw; (try dsimp only at hSw); go_simp; try with_reducible rfl)
                  try simp only [Act.put, List.setIfInBounds_toArray, List.set_cons_zero, List.set_cons_succ]
                  refine wpAnyH_done (by kernel_rfl) ?_ _
                  go_wp2_with fail
                  go_meet
                  exact qItCut6 hwd.out hN19.out.1 HB21.out z0 z1 z2 z3 z4 z5
                exact AllReadyH.nil
              exact AllReadyH.nil
            exact AllReadyH.nil

      obtain ⟨rfl, N, rfl, hN4, hNl, hb5, hkc⟩ := hcut
      have HS12 := Lib.hid (And.intro (HS11.out.1.below hb5) (HS11.out.2.below hb5))
      have ob := HS12.out.1.x
      rw [HC3.out] at ob
      have k1 := ob.c 1 _ rfl
      have k2 := ob.c 2 _ rfl
      have k3 := ob.c 3 _ rfl
      have v0 := hkc 0 _ rfl
      have v1 := hkc 1 _ rfl
      have v2 := hkc 2 _ rfl
      have v3 := hkc 3 _ rfl
      have v4 := hkc 4 _ rfl
      have v5 := hkc 5 _ rfl
      have n00 := (HS12.out.2 (w10.heap.size, 3, 0) (by simp)).c 0 _ rfl
      have n01 := (HS12.out.2 (w10.heap.size, 3, 0) (by simp)).c 1 _ rfl
      have n02 := (HS12.out.2 (w10.heap.size, 3, 0) (by simp)).c 2 _ rfl
      have n03 := (HS12.out.2 (w10.heap.size, 3, 0) (by simp)).c 3 _ rfl
      have n04 := (HS12.out.2 (w10.heap.size, 3, 0) (by simp)).c 4 _ rfl
      have n05 := (HS12.out.2 (w10.heap.size, 3, 0) (by simp)).c 5 _ rfl
      have n06 := (HS12.out.2 (w10.heap.size, 3, 0) (by simp)).c 6 _ rfl
      have n07 := (HS12.out.2 (w10.heap.size, 3, 0) (by simp)).c 7 _ rfl
      have n10 := (HS12.out.2 (w9.heap.size, 1, 3) (by simp)).c 0 _ rfl
      have n11 := (HS12.out.2 (w9.heap.size, 1, 3) (by simp)).c 1 _ rfl
      have n12 := (HS12.out.2 (w9.heap.size, 1, 3) (by simp)).c 2 _ rfl
      have n13 := (HS12.out.2 (w9.heap.size, 1, 3) (by simp)).c 3 _ rfl
      have n14 := (HS12.out.2 (w9.heap.size, 1, 3) (by simp)).c 4 _ rfl
      have n15 := (HS12.out.2 (w9.heap.size, 1, 3) (by simp)).c 5 _ rfl
      have n16 := (HS12.out.2 (w9.heap.size, 1, 3) (by simp)).c 6 _ rfl
      have n17 := (HS12.out.2 (w9.heap.size, 1, 3) (by simp)).c 7 _ rfl
      have n20 := (HS12.out.2 (w6.heap.size, 2, 0) (by simp)).c 0 _ rfl
      have n21 := (HS12.out.2 (w6.heap.size, 2, 0) (by simp)).c 1 _ rfl
      have n22 := (HS12.out.2 (w6.heap.size, 2, 0) (by simp)).c 2 _ rfl
      have n23 := (HS12.out.2 (w6.heap.size, 2, 0) (by simp)).c 3 _ rfl
      have n24 := (HS12.out.2 (w6.heap.size, 2, 0) (by simp)).c 4 _ rfl
      have n25 := (HS12.out.2 (w6.heap.size, 2, 0) (by simp)).c 5 _ rfl
      have n26 := (HS12.out.2 (w6.heap.size, 2, 0) (by simp)).c 6 _ rfl
      have n27 := (HS12.out.2 (w6.heap.size, 2, 0) (by simp)).c 7 _ rfl
      have n30 := (HS12.out.2 (w4.heap.size, 1, 2) (by simp)).c 0 _ rfl
      have n31 := (HS12.out.2 (w4.heap.size, 1, 2) (by simp)).c 1 _ rfl
      have n32 := (HS12.out.2 (w4.heap.size, 1, 2) (by simp)).c 2 _ rfl
      have n33 := (HS12.out.2 (w4.heap.size, 1, 2) (by simp)).c 3 _ rfl
      have n34 := (HS12.out.2 (w4.heap.size, 1, 2) (by simp)).c 4 _ rfl
      have n35 := (HS12.out.2 (w4.heap.size, 1, 2) (by simp)).c 5 _ rfl
      have n36 := (HS12.out.2 (w4.heap.size, 1, 2) (by simp)).c 6 _ rfl
      have n37 := (HS12.out.2 (w4.heap.size, 1, 2) (by simp)).c 7 _ rfl
      have n40 := (HS12.out.2 (w3.heap.size, 1, 1) (by simp)).c 0 _ rfl
      have n41 := (HS12.out.2 (w3.heap.size, 1, 1) (by simp)).c 1 _ rfl
      have n42 := (HS12.out.2 (w3.heap.size, 1, 1) (by simp)).c 2 _ rfl
      have n43 := (HS12.out.2 (w3.heap.size, 1, 1) (by simp)).c 3 _ rfl
      have n44 := (HS12.out.2 (w3.heap.size, 1, 1) (by simp)).c 4 _ rfl
      have n45 := (HS12.out.2 (w3.heap.size, 1, 1) (by simp)).c 5 _ rfl
      have n46 := (HS12.out.2 (w3.heap.size, 1, 1) (by simp)).c 6 _ rfl
      have n47 := (HS12.out.2 (w3.heap.size, 1, 1) (by simp)).c 7 _ rfl
      dsimp only at v0 v1 v2 v3 v4 v5
      clear hN4 hb5 hkc ob HS11 hx' HAt hBl hXl y1 y4
      go_wp2_with fail
      refine (c_lives25 _).mono ?_
      rintro e w13 ⟨rfl, hb13⟩
      go_wp2_with fail
      go_ret
      exact ⟨rfl, HS12.out.1.e.bel.trans (hb13.mono HS12.out.1.e.bel.size)⟩
    · have hvd : mayB c1 = false := by
        rw [HMB.out c1 hk1 hv1 (.inl hb1)]
        cases h : (ok && vo) with
        | true => exact absurd h hm
        | false => rfl
      have HDV := Lib.hid (c_DoesV (w := w2) B.p k c1 hvd (by rw [hk1]; exact HKZ.out.1) (by rw [hv1]; exact HKZ.out.2))
      rw [hcl1] at HDV
      unfold ansV at HDV
      have HMm := Lib.hid hm
      clear hvd hcl1 hk1 hv1 he1 hb1 HMB hm
      go_wp2_with fail
      refine HDV.out.mono ?_
      rintro e w3 ⟨rfl, hb3⟩
      obtain ⟨V3, hV3, S3, L3⟩ := (HS2.out.below hb3).lay (L := []) (fun q hq => by cases hq) 0 0
      have ob := S3.x
      rw [HC1.out] at ob
      clear k0 k1 k2 k3 k4 k5 k6
      have k1 := ob.c 1 _ rfl
      have k2 := ob.c 2 _ rfl
      have n00 := (L3 (w3.heap.size, 0, 0) (by simp)).c 0 _ rfl
      have n01 := (L3 (w3.heap.size, 0, 0) (by simp)).c 1 _ rfl
      have n02 := (L3 (w3.heap.size, 0, 0) (by simp)).c 2 _ rfl
      have n03 := (L3 (w3.heap.size, 0, 0) (by simp)).c 3 _ rfl
      have n04 := (L3 (w3.heap.size, 0, 0) (by simp)).c 4 _ rfl
      have n05 := (L3 (w3.heap.size, 0, 0) (by simp)).c 5 _ rfl
      have n06 := (L3 (w3.heap.size, 0, 0) (by simp)).c 6 _ rfl
      have n07 := (L3 (w3.heap.size, 0, 0) (by simp)).c 7 _ rfl
      have HST := Lib.hid (c_WSteps V3 G1 B ⟨3, 8, 3, 1, 16⟩ (aw0 3) S3.p)
      have HS3 := Lib.hid S3
      rw [show (aw0 3).n = 0 from rfl] at HST
      dsimp only at n00 n01
      clear hb3 S3 L3 ob HS2 HDV
      go_upto_region 8 with fail
      rw [← hV3]
      clear hV3
      cases ok with
      | false =>
        go_wp2_with fail
        refine (HOK.out _).mono ?_
        rintro e w' ⟨rfl, rfl⟩
        go_wp2_with fail
        refine HST.out.mono ?_
        rintro e w' ⟨rfl, rfl⟩
        go_wp2_with fail
        refine (c_lives25 _).mono ?_
        rintro e w13 ⟨rfl, hb13⟩
        go_wp2_with fail
        go_ret
        exact ⟨rfl, HS3.out.e.bel.trans (hb13.mono HS3.out.e.bel.size)⟩
      | true =>
        have hvf : vo = false := by
          cases vo with
          | true => exact absurd rfl HMm.out
          | false => rfl
        subst hvf
        go_wp2_with fail
        refine (HOK.out _).mono ?_
        rintro e w' ⟨rfl, rfl⟩
        go_wp2_with fail
        refine (HVO.out _).mono ?_
        rintro e w' ⟨rfl, rfl⟩
        go_wp2_with fail
        refine HST.out.mono ?_
        rintro e w' ⟨rfl, rfl⟩
        go_wp2_with fail
        refine (c_lives25 _).mono ?_
        rintro e w13 ⟨rfl, hb13⟩
        go_wp2_with fail
        go_ret
        exact ⟨rfl, HS3.out.e.bel.trans (hb13.mono HS3.out.e.bel.size)⟩
end
end Go.Proofs.YthpedifjclofoaaGreat
