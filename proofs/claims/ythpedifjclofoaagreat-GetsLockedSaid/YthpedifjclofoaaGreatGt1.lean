/- Layer 28: the program's Get: its struct; over; what it tells. -/
import Derived.Test.YthpedifjclofoaaGreatGtP
import Derived.Test.YthpedifjclofoaaGreatIat
import Derived.Test.YthpedifjclofoaaGreatLkA
import Derived.Test.YthpedifjclofoaaGreatSeR
import Derived.Test.YthpedifjclofoaaGreatEpA
namespace Go.Proofs.YthpedifjclofoaaGreat
set_option linter.unusedSimpArgs false
open Go.RowKit
set_option linter.unusedVariables false
def gtTl (z : Gtm) : List Value := [.int .i64 z.ref, .int .u64 z.ep, .int .i64 z.pt, .int .u8 z.an, .int .u64 0, .string z.im.key, .string z.im.val, .int .u32 z.im.fl, .int .u64 z.im.id, .int .i64 z.im.dies, .int .i64 z.im.gen]
def gtCs (t : Nat) (key : ByteArray) (be : Bool) (pv : Value) (z : Gtm) : List Value := .int .i64 t :: .string key :: .bool be :: pv :: gtTl z
/-- Is a Get over? -/
def GIdle (w : World) (X : Nat) (t : Bool) : Prop := (t = true ∧ w.cell? ⟨X, 2, none⟩ = some (.bool false) ∧ w.cell? ⟨X, 3, none⟩ = some .nilIface) ∨ (t = false ∧ (w.cell? ⟨X, 2, none⟩ = some (.bool true) ∨ (w.cell? ⟨X, 2, none⟩ = some (.bool false) ∧ ∃ ty v, w.cell? ⟨X, 3, none⟩ = some (.iface ty v))))
section
variable {w w0 : World} {O O0 : Om} {B : Wb} {f : Cf} {s : AW} {k X t : Nat} {key : ByteArray} {be : Bool} {pv : Value} {z : Gtm}
set_option maxRecDepth 100000 in
theorem c_GtOver {b : Bool} (h : GIdle w X b) : Calls Tryz.prog 24 #[.pointer (some ⟨X, 0, none⟩)] w fun e w' => e = .returned (.bool b) ∧ w = w' := by
  rcases h with ⟨rfl, q2, q3⟩ | ⟨rfl, q2 | ⟨q2, ty, v, q3⟩⟩
  · go_enter Tryz.func24, Tryz.ntmps24
    go_wp2
    go_ret
    exact ⟨rfl, rfl⟩
  · go_enter Tryz.func24, Tryz.ntmps24
    go_wp2
    go_ret
    exact ⟨rfl, rfl⟩
  · go_enter Tryz.func24, Tryz.ntmps24
    go_wp2
    go_ret
    exact ⟨rfl, rfl⟩
theorem c_GtOverNil (w : World) : Calls Tryz.prog 24 #[.pointer none] w fun e w' => e = .returned (.bool true) ∧ w = w' := by
  go_enter Tryz.func24, Tryz.ntmps24
  go_wp2
  go_ret
  exact ⟨rfl, rfl⟩
set_option maxHeartbeats 2000000 in
set_option maxRecDepth 100000 in
theorem c_GtPoint (M : Me k (k + 12) w0 O0 w O B f s k X (gtCs t key be pv z)) (hk : 10 ≤ k) (n0 : 0 ≤ s.n) (n1 : s.n ≤ 4611686018427387904) :
    Calls Tryz.prog 344 #[.agg #[.pointer (some ⟨X, 0, none⟩)], .pointer (some ⟨B.p, 0, none⟩)] w fun e w' => e = .returned (.bool true) ∧ ∃ G, Me k (k + 12) w0 O0 w' G B f (awLoad 8 s) k X (gtCs t key be pv { z with ep := s.M 8, pt := s.n + 1 }) := by
  have b1 := alloc_below w (.cells #[.pointer (some ⟨X, 0, none⟩)] 256)
  obtain ⟨W, hW⟩ : ∃ W, W = w.alloc (.cells #[.pointer (some ⟨X, 0, none⟩)] 256) := ⟨_, rfl⟩
  have M1 := M.below b1
  have BX : Bx (w.alloc (.cells #[.pointer (some ⟨X, 0, none⟩)] 256)) O w.heap.size [.pointer (some ⟨X, 0, none⟩)] := Bx.new M.e.hi _ _ _ rfl
  rw [← hW] at M1 BX
  have MD := M1.drew
  have HL := Lib.hid (c_LoadP 8 MD.p MD.e.hi (by decide) (by decide) n0 n1)
  have x0 := BX.c 0 _ rfl
  have p0 := M1.p.wo.c0
  have HB := Lib.hid (BX.below (drew_below W))
  have HM := Lib.hid MD
  obtain ⟨bx, hbx⟩ : ∃ n, n = w.heap.size := ⟨_, rfl⟩
  rw [← hbx] at x0 HB
  clear M M1 MD BX b1
  go_enter Tryz.func344, Tryz.ntmps344
  go_upto_region 1 with fail
  rw [← hW, ← hbx]
  clear hW hbx
  go_region_held3 (fun w' => w'.cell? ⟨bx, 0, none⟩ = some (.pointer (some ⟨X, 0, none⟩)) ∧ w'.cell? ⟨B.p, 0, none⟩ = some (.pointer (some ⟨B.c, 0, none⟩))) (first | go_keep | (refine ⟨?_, ?_⟩ <;> simp [go_sem, hne1, hne2, x0, p0']))
    (first
      | (go_at_call 143
         refine HL.out.mono ?_
         rintro e w1 ⟨rfl, G1, e1, p1⟩
         have m1 := HM.out.world hk e1 p1
         have b1 := HB.out.ext e1
         have x0 : w1.cell? ⟨bx, 0, none⟩ = some (.pointer (some ⟨X, 0, none⟩)) := b1.c 0 _ rfl
         have p0' := p1.wo.c0
         have hne1 : ¬ X = bx := fun e => by have h1 := m1.t.o; have h2 := b1.o; rw [e, h2] at h1; omega
         have hne2 : ¬ X = B.p := fun e => by have h1 := m1.t.o; have h2 := m1.p.o; rw [e, h2] at h1; omega
         have q5 := m1.t.c 5 _ rfl
         have f5 := m1.t.f 5
         have m2 := m1.set hk (by omega) (by omega) 5 (.int .u64 (s.M 8)) (by simp [gtCs, gtTl])
         have b2 : Bx (w1.setCell ⟨X, 5, none⟩ (.int .u64 (s.M 8))) G1 bx [.pointer (some ⟨X, 0, none⟩)] := b1.ext (Ext.of_set (S := fun t => t = k) m1.e.hi m1.t.o (by omega) rfl)
         have HM2 := Lib.hid (And.intro m2 b2)
         clear e1 p1 m1 m2 b1 b2))
  all_goals
    rename_i hheld
    clear hheld x0 p0'
    have x0 : (w1.setCell ⟨X, 5, none⟩ (.int .u64 (s.M 8))).cell? ⟨bx, 0, none⟩ = some (.pointer (some ⟨X, 0, none⟩)) := HM2.out.2.c 0 _ rfl
    obtain ⟨w2, hw2⟩ : ∃ w2, w2 = w1.setCell ⟨X, 5, none⟩ (.int .u64 (s.M 8)) := ⟨_, rfl⟩
    rw [← hw2] at HM2 x0 ⊢
    clear hw2 q5 f5
    have HM3 := Lib.hid (And.intro HM2.out.1.drew (HM2.out.2.below (drew_below w2)))
    have HW := Lib.hid (c_WSteps _ _ _ _ _ HM3.out.1.p)
    have HF := Lib.hid (HM3.out.1.set hk (by omega) (by omega) 6 (.int .i64 (s.n + 1)) (by simp [gtCs, gtTl]))
    clear HM2
    go_upto_region 2 with fail
    go_region_held3 (fun w' => w'.cell? ⟨bx, 0, none⟩ = some (.pointer (some ⟨X, 0, none⟩))) (first | go_keep | (simp [go_sem, hne1, x0]))
      (first
        | (go_at_call 13
           refine HW.out.mono ?_
           rintro e w' ⟨rfl, rfl⟩
           have q6 := HM3.out.1.t.c 6 _ rfl
           have f6 := HM3.out.1.t.f 6
           have x0 := HM3.out.2.c 0 _ rfl))
    all_goals
      go_wp2_with fail
      go_ret
      exact ⟨rfl, G1, HF.out⟩
/-- An answer is stored. -/
theorem Me.gans (M : Me k (k + 12) w0 O0 w O B f s k X (gtCs t key be pv z)) (hk : 10 ≤ k) (an : Int) (x : It) :
    Me k (k + 12) w0 O0 ((((((((w.setCell ⟨X, 7, none⟩ (.int .u8 an)).setCell ⟨X, 8, none⟩ (.int .u64 0)).setCell ⟨X, 9, none⟩ (.string x.key)).setCell ⟨X, 10, none⟩ (.string x.val)).setCell ⟨X, 11, none⟩ (.int .u32 x.fl)).setCell ⟨X, 12, none⟩ (.int .u64 x.id)).setCell ⟨X, 13, none⟩ (.int .i64 x.dies)).setCell ⟨X, 14, none⟩ (.int .i64 x.gen)) O B f s k X (gtCs t key be pv { z with an := an, im := x }) :=
  (((((((M.set hk (by omega) (by omega) 7 (.int .u8 an) (by simp [gtCs, gtTl])).set hk (by omega) (by omega) 8 (.int .u64 0) (by simp [gtCs, gtTl])).set hk (by omega) (by omega) 9 (.string x.key) (by simp [gtCs, gtTl])).set hk (by omega) (by omega) 10 (.string x.val) (by simp [gtCs, gtTl])).set hk (by omega) (by omega) 11 (.int .u32 x.fl) (by simp [gtCs, gtTl])).set hk (by omega) (by omega) 12 (.int .u64 x.id) (by simp [gtCs, gtTl])).set hk (by omega) (by omega) 13 (.int .i64 x.dies) (by simp [gtCs, gtTl])).set hk (by omega) (by omega) 14 (.int .i64 x.gen) (by simp [gtCs, gtTl])
theorem gBelowT {a W w : World} (k : Below a.heap.size a W) (h : Below W.heap.size W w) : Below a.heap.size a w := k.trans (h.mono k.size)
theorem gKeepW {W W' : World} {n j : Nat} {v : Value} (hl : n < W.heap.size) (h : W.cell? ⟨n, j, none⟩ = some v) (hb : Below W.heap.size W W') : W'.cell? ⟨n, j, none⟩ = some v := (hb.cell (p := ⟨n, j, none⟩) hl).trans h
theorem gKeepSI {W W' : World} {n m i j : Nat} {v u : Value} (hl : n < W.heap.size) (hm : m < W.heap.size) (h : W.cell? ⟨n, i, none⟩ = some v) (k : W.cell? ⟨m, j, none⟩ = some u) (hb : Below W.heap.size W W') : W'.cell? ⟨n, i, none⟩ = some v ∧ W'.cell? ⟨m, j, none⟩ = some u := ⟨gKeepW hl h hb, gKeepW hm k hb⟩
theorem gRecFacts {w v W : World} {T : TypeId} {N : Nat} (hb : Below v.heap.size v W) (hv : N = w.heap.size ∧ v = w.alloc (.cells #[.string ⟨#[]⟩, .string ⟨#[]⟩, .int .u32 0, .int .u64 0, .int .i64 0, .int .i64 0] T)) :
    W.cell? ⟨N, 0, none⟩ = some (.string ⟨#[]⟩) ∧ W.cell? ⟨N, 1, none⟩ = some (.string ⟨#[]⟩) ∧ W.cell? ⟨N, 2, none⟩ = some (.int .u32 0) ∧ W.cell? ⟨N, 3, none⟩ = some (.int .u64 0) ∧ W.cell? ⟨N, 4, none⟩ = some (.int .i64 0) ∧ W.cell? ⟨N, 5, none⟩ = some (.int .i64 0) ∧
    W.frozen? ⟨N, 0, none⟩ = false ∧ W.frozen? ⟨N, 1, none⟩ = false ∧ W.frozen? ⟨N, 2, none⟩ = false ∧ W.frozen? ⟨N, 3, none⟩ = false ∧ W.frozen? ⟨N, 4, none⟩ = false ∧ W.frozen? ⟨N, 5, none⟩ = false := by
  obtain ⟨rfl, rfl⟩ := hv
  have hl : w.heap.size < (w.alloc (.cells #[.string ⟨#[]⟩, .string ⟨#[]⟩, .int .u32 0, .int .u64 0, .int .i64 0, .int .i64 0] T)).heap.size := by simp
  have hc := fun j => hb.cell (p := ⟨w.heap.size, j, none⟩) hl
  have hf := fun j => hb.frozen (p := ⟨w.heap.size, j, none⟩) hl
  refine ⟨(hc 0).trans ?_, (hc 1).trans ?_, (hc 2).trans ?_, (hc 3).trans ?_, (hc 4).trans ?_, (hc 5).trans ?_, (hf 0).trans ?_, (hf 1).trans ?_, (hf 2).trans ?_, (hf 3).trans ?_, (hf 4).trans ?_, (hf 5).trans ?_⟩ <;> simp
theorem gBelow6 {wd w : World} {N : Nat} {v0 v1 v2 v3 v4 v5 : Value} (hN : N = wd.heap.size) (h : Below wd.heap.size wd w) : Below wd.heap.size wd ((((((w.setCell ⟨N, 0, none⟩ v0).setCell ⟨N, 1, none⟩ v1).setCell ⟨N, 2, none⟩ v2).setCell ⟨N, 3, none⟩ v3).setCell ⟨N, 4, none⟩ v4).setCell ⟨N, 5, none⟩ v5) := by
  have hb : wd.heap.size ≤ N := by omega
  exact (((((h.setCell (p := ⟨N, 0, none⟩) hb _).setCell (p := ⟨N, 1, none⟩) hb _).setCell (p := ⟨N, 2, none⟩) hb _).setCell (p := ⟨N, 3, none⟩) hb _).setCell (p := ⟨N, 4, none⟩) hb _).setCell (p := ⟨N, 5, none⟩) hb _
/-- A record is boxed. -/
def GItCut (w : World) (x : It) (is : Bool) (s4 s5 : Value) (wx : World) : Prop := s5 = .bool is ∧ ∃ N, s4 = .pointer (some ⟨N, 0, none⟩) ∧ w.heap.size ≤ N ∧ N < wx.heap.size ∧ Below w.heap.size w wx ∧ ∀ j u, [Value.string x.key, .string x.val, .int .u32 x.fl, .int .u64 x.id, .int .i64 x.dies, .int .i64 x.gen][j]? = some u → wx.cell? ⟨N, j, none⟩ = some u
theorem gItCut6 {w4 wd w : World} {N : Nat} {x : It} {is : Bool} {z0' z1' z2' z3' z4' z5' : Value} (hd : Below w4.heap.size w4 wd) (hN : N = wd.heap.size) (h : Below wd.heap.size wd w) (z0 : w.cell? ⟨N, 0, none⟩ = some z0') (z1 : w.cell? ⟨N, 1, none⟩ = some z1') (z2 : w.cell? ⟨N, 2, none⟩ = some z2') (z3 : w.cell? ⟨N, 3, none⟩ = some z3') (z4 : w.cell? ⟨N, 4, none⟩ = some z4') (z5 : w.cell? ⟨N, 5, none⟩ = some z5') :
    GItCut w4 x is (.pointer (some ⟨N, 0, none⟩)) (.bool is) ((((((w.setCell ⟨N, 0, none⟩ (.string x.key)).setCell ⟨N, 1, none⟩ (.string x.val)).setCell ⟨N, 2, none⟩ (.int .u32 x.fl)).setCell ⟨N, 3, none⟩ (.int .u64 x.id)).setCell ⟨N, 4, none⟩ (.int .i64 x.dies)).setCell ⟨N, 5, none⟩ (.int .i64 x.gen)) := by
  refine ⟨rfl, N, rfl, by have := hd.size; omega, ?_, gBelowT hd (gBelow6 hN h), fun j u hu => ?_⟩
  · have := blk_lt z0
    simpa using this
  · match j, hu with
    | 0, hu => cases hu; simp [go_sem, z0]
    | 1, hu => cases hu; simp [go_sem, z1]
    | 2, hu => cases hu; simp [go_sem, z2]
    | 3, hu => cases hu; simp [go_sem, z3]
    | 4, hu => cases hu; simp [go_sem, z4]
    | 5, hu => cases hu; simp [go_sem, z5]
    | n + 6, hu => cases hu
theorem gItCutA {w4 wd w : World} {x : It} {is : Bool} {T : TypeId} (hd : Below w4.heap.size w4 wd) (h : Below wd.heap.size wd w) : GItCut w4 x is (.pointer (some ⟨w.heap.size, 0, none⟩)) (.bool is) (w.alloc (.cells #[.string x.key, .string x.val, .int .u32 x.fl, .int .u64 x.id, .int .i64 x.dies, .int .i64 x.gen] T)) :=
  ⟨rfl, w.heap.size, rfl, Nat.le_trans hd.size h.size, by simp, gBelowT hd (h.alloc h.size _), fun j u hu => cell_newA w #[.string x.key, .string x.val, .int .u32 x.fl, .int .u64 x.id, .int .i64 x.dies, .int .i64 x.gen] T _ rfl j u (by simpa using hu)⟩
set_option maxHeartbeats 4000000 in
set_option maxRecDepth 100000 in
theorem c_GtTells (M : Me k (k + 12) w0 O0 w O B f s k X (gtCs t key be pv z)) (hil : s.it.length ≤ 1000000) (hr : -9223372036854775808 ≤ z.ref ∧ z.ref ≤ 9223372036854775807) (hep : 0 ≤ z.ep ∧ z.ep ≤ 18446744073709551615) (hk : 10 ≤ k) :
    Calls Tryz.prog 140 #[.pointer (some ⟨X, 0, none⟩), .pointer (some ⟨B.p, 0, none⟩)] w fun e w' => e = .returned (.tuple #[]) ∧ ∃ G pv', Me k (k + 12) w0 O0 w' G B f s k X (gtCs t key be pv' (gtTells s.it z)) ∧ (((gtTells s.it z).ln = 0 ∧ pv' = .nilIface) ∨ ((gtTells s.it z).ln = 7 ∧ ∃ x, pv' = .iface 291 (.pointer (some ⟨x, 0, none⟩)) ∧ TAt w' x (gtTells s.it z).tc ∧ G x = k + 10)) := by
  obtain ⟨x, hx⟩ : ∃ x, x = itAt s.it z.ref := ⟨_, rfl⟩
  obtain ⟨is, his⟩ : ∃ b, b = itIs s.it z.ref := ⟨_, rfl⟩
  obtain ⟨al, hal⟩ : ∃ b, b = epAlive x.dies x.gen z.ep := ⟨_, rfl⟩
  have HAL := Lib.hid (fun W => c_Alive x.key x.val x.fl x.id x.dies x.gen z.ep W hep.1 hep.2)
  have HATC := Lib.hid (fun (W : World) (G : Om) (q : Ar W G 3 B.ip s.it) => c_IAtB (w := W) (O := G) z.ref q hil)
  have hrr : is = true → plRef z.ref ≠ 0 := fun h => by
    rw [his] at h
    have h := of_decide_eq_true h
    unfold plRef
    rw [if_neg (by omega)]
    omega
  have hT : gtTells s.it z = if (is && al) = true then { z with an := 11, im := x, ln := if plRef z.ref = 0 then 0 else 7, tc := tcNew (plRef z.ref) } else { z with an := 12, im := it0, ln := 0 } := by
    unfold gtTells
    rw [← hx, ← his, ← hal]
  have HNT := Lib.hid (fun (W : World) (G : Om) (hh : ∀ j, G j ≠ 0 → j < W.heap.size) => c_PNewT z.ref (w := W) (O := G) (k + 10) hh hr.1 hr.2)
  rw [← hal] at HAL
  rw [← hx, ← his] at HATC
  have HT := Lib.hid hT
  obtain ⟨rf, hrf⟩ : ∃ r, r = z.ref := ⟨_, rfl⟩
  obtain ⟨ep, hep'⟩ : ∃ r, r = z.ep := ⟨_, rfl⟩
  have q3 := M.t.c 3 _ rfl
  have f3 := M.t.f 3
  have q4 : w.cell? ⟨X, 4, none⟩ = some (.int .i64 z.ref) := M.t.c 4 _ rfl
  have p1 := M.p.wo.c1
  have m1 := M.set hk (by omega) (by omega) 3 .nilIface (by simp [gtCs])
  have m1 : Me k (k + 12) w0 O0 (w.setCell ⟨X, 3, none⟩ .nilIface) O B f s k X (gtCs t key be .nilIface z) := m1
  obtain ⟨w1, hw1⟩ : ∃ W, W = w.setCell ⟨X, 3, none⟩ .nilIface := ⟨_, rfl⟩
  rw [← hw1] at m1
  have y4 : w1.cell? ⟨X, 4, none⟩ = some (.int .i64 z.ref) := m1.t.c 4 _ rfl
  have y1 := m1.p.wo.c1
  have HM := Lib.hid m1
  have HRR := Lib.hid hrr
  rw [← hrf] at y4 HATC HNT HRR
  rw [← hep'] at HAL
  have HRF := Lib.hid hrf
  have HEP := Lib.hid hep'
  clear M m1 hil hr hep hx his hal hT hrr q4 p1 hrf hep'
  go_enter Tryz.func140, Tryz.ntmps140
  go_upto_region 1 with fail
  rw [← hw1]
  clear hw1 q3 f3
  have hBl : B.p < w1.heap.size := HM.out.p.wo.lt
  have hXl : X < w1.heap.size := HM.out.t.lt
  have HAt : Hid (∀ W, Below w1.heap.size w1 W → Calls Tryz.prog 16 #[.pointer (some ⟨B.ip, 0, none⟩), .int .i64 rf] W fun e w' => e = .returned (.tuple #[.agg #[.string x.key, .string x.val, .int .u32 x.fl, .int .u64 x.id, .int .i64 x.dies, .int .i64 x.gen], .bool is]) ∧ Below W.heap.size W w') := Lib.hid fun W hb => HATC.out W _ (HM.out.below hb).p.ar
  clear HATC
  go_cut [4, 5] (fun s4 s5 wx => GItCut w1 x is s4 s5 wx)
  case first =>
    refine wp_region_held_drew (S := fun w' => w'.cell? ⟨B.p, 1, none⟩ = some (.pointer (some ⟨B.ip, 0, none⟩)) ∧ w'.cell? ⟨X, 4, none⟩ = some (.int .i64 rf)) (by kernel_rfl) ?sA (fun hH0 => ?rA)
    case sA => exact ⟨y1, y4⟩
    obtain ⟨wd, hwd0⟩ : ∃ z, z = w1.drew := ⟨_, rfl⟩
    have hwd : Hid (Below w1.heap.size w1 wd) := Lib.hid (by rw [hwd0]; exact drew_below _)
    have hBl1 : B.p < wd.heap.size := by rw [hwd0]; exact hBl
    have hXl1 : X < wd.heap.size := by rw [hwd0]; exact hXl
    rw [← hwd0] at hH0 ⊢
    clear y1 y4 hwd0
    obtain ⟨p1, x4⟩ := hH0
    have hH0 := And.intro p1 x4
    have HBd := Lib.hid (Below.refl wd.heap.size wd)
    try simp only [Act.put, List.setIfInBounds_toArray, List.set_cons_zero, List.set_cons_succ]
    refine' wpAnyH_take (i := 0) (List.getElem?_toArray.trans rfl) (by kernel_rfl) (by kernel_rfl) (by kernel_rfl) (fun _ _ _ h => h) (Or.inl ⟨by rfl, ?y1⟩) hH0 ?r1
    case y1 => (intro w hSw; (try dsimp only at hSw); go_simp; try with_reducible rfl)
    try simp only [Act.put, List.setIfInBounds_toArray, List.set_cons_zero, List.set_cons_succ]
    refine' wpAnyH_take (i := 1) (List.getElem?_toArray.trans rfl) (by kernel_rfl) (by kernel_rfl) (by kernel_rfl) (fun _ _ _ h => h) (Or.inl ⟨by rfl, ?y2⟩) hH0 ?r2
    case y2 => (intro w hSw; (try dsimp only at hSw); go_simp; try with_reducible rfl)
    try simp only [Act.put, List.setIfInBounds_toArray, List.set_cons_zero, List.set_cons_succ]
    refine' wpAnyH_take (i := 2) (List.getElem?_toArray.trans rfl) (by kernel_rfl) (by kernel_rfl) (by kernel_rfl) (fun _ _ _ h => h) (Or.inl ⟨by rfl, ?y3⟩) hH0 ?r3
    case y3 => (intro w hSw; (try dsimp only at hSw); go_simp; try with_reducible rfl)
    try simp only [Act.put, List.setIfInBounds_toArray, List.set_cons_zero, List.set_cons_succ]
    refine' wpAnyH_take (i := 3) (List.getElem?_toArray.trans rfl) (by kernel_rfl) (by kernel_rfl) (by kernel_rfl) (fun _ _ _ h => h) (Or.inl ⟨by rfl, ?y4⟩) hH0 ?r4
    case y4 => (intro w hSw; (try dsimp only at hSw); go_simp; try with_reducible rfl)
    try simp only [Act.put, List.setIfInBounds_toArray, List.set_cons_zero, List.set_cons_succ]
    refine' wpAnyH_take (i := 4) (List.getElem?_toArray.trans rfl) (by kernel_rfl) (by kernel_rfl) (by kernel_rfl) (fun _ _ _ h => h) (Or.inl ⟨by rfl, ?y5⟩) hH0 ?r5
    case y5 => (intro w hSw; (try dsimp only at hSw); go_simp; try with_reducible rfl)
    try simp only [Act.put, List.setIfInBounds_toArray, List.set_cons_zero, List.set_cons_succ]
    refine' wpAnyH_take (i := 5) (List.getElem?_toArray.trans rfl) (by kernel_rfl) (by kernel_rfl) (by kernel_rfl) (fun _ _ _ h => h) (Or.inl ⟨by rfl, ?y6⟩) hH0 ?r6
    case y6 => (intro w hSw; (try dsimp only at hSw); go_simp; try with_reducible rfl)
    try simp only [Act.put, List.setIfInBounds_toArray, List.set_cons_zero, List.set_cons_succ]
    refine' wpAnyH_take (i := 6) (List.getElem?_toArray.trans rfl) (by kernel_rfl) (by kernel_rfl) (by kernel_rfl) (fun _ _ _ h => h) (Or.inl ⟨by rfl, ?y7⟩) hH0 ?r7
    case y7 => (intro w hSw; (try dsimp only at hSw); go_simp; try with_reducible rfl)
    try simp only [Act.put, List.setIfInBounds_toArray, List.set_cons_zero, List.set_cons_succ]
    refine' wpAnyH_take (i := 7) (List.getElem?_toArray.trans rfl) (by kernel_rfl) (by kernel_rfl) (by kernel_rfl) (fun _ _ _ h => h) (Or.inl ⟨by rfl, ?y8⟩) hH0 ?r8
    case y8 => (intro w hSw; (try dsimp only at hSw); go_simp; try with_reducible rfl)
    try simp only [Act.put, List.setIfInBounds_toArray, List.set_cons_zero, List.set_cons_succ]
    refine wpAnyH_ready (rs := [8, 12]) (by kernel_rfl) (by simp) ?_
    refine' AllReadyH.cons (List.getElem?_toArray.trans rfl) (fun K hK => ?st9) ?more9
    case st9 =>
      go_simp
      refine' Calls.mono (HAt.out wd (gBelowT hwd.out HBd.out)) ?c10
      rintro e w10 ⟨rfl, hb10⟩
      have HB10 := Lib.hid (gBelowT HBd.out hb10)
      clear hb10
      try go_wp2_with fail
      refine hK.out _ _ ?s10 (fun hH10 => ?r10)
      case s10 => ((try dsimp only); exact gKeepSI hBl1 hXl1 p1 x4 HB10.out)
      clear hK K hH0
      try simp only [Act.put, List.setIfInBounds_toArray, List.set_cons_zero, List.set_cons_succ]
      refine' wpAnyH_take (i := 9) (List.getElem?_toArray.trans rfl) (by kernel_rfl) (by kernel_rfl) (by kernel_rfl) (fun _ _ _ h => h) (Or.inl ⟨by rfl, ?y11⟩) hH10 ?r11
      case y11 => (intro w hSw; (try dsimp only at hSw); go_simp; try with_reducible rfl)
      try simp only [Act.put, List.setIfInBounds_toArray, List.set_cons_zero, List.set_cons_succ]
      refine' wpAnyH_take (i := 10) (List.getElem?_toArray.trans rfl) (by kernel_rfl) (by kernel_rfl) (by kernel_rfl) (fun _ _ _ h => h) (Or.inl ⟨by rfl, ?y12⟩) hH10 ?r12
      case y12 => (intro w hSw; (try dsimp only at hSw); go_simp; try with_reducible rfl)
      try simp only [Act.put, List.setIfInBounds_toArray, List.set_cons_zero, List.set_cons_succ]
      refine' wpAnyH_take (i := 11) (List.getElem?_toArray.trans rfl) (by kernel_rfl) (by kernel_rfl) (by kernel_rfl) (fun _ _ _ h => h) (Or.inl ⟨by rfl, ?y13⟩) hH10 ?r13
      case y13 => (intro w hSw; (try dsimp only at hSw); go_simp; try with_reducible rfl)
      try simp only [Act.put, List.setIfInBounds_toArray, List.set_cons_zero, List.set_cons_succ]
      refine wpAnyH_ready (rs := [12]) (by kernel_rfl) (by simp) ?_
      refine' AllReadyH.cons (List.getElem?_toArray.trans rfl) (fun K hK => ?st14) ?more14
      case st14 =>
        go_simp
        refine hK.out _ _ ?s15 (fun hH15 => ?r15)
        case s15 => ((try dsimp only); exact gKeepSI hBl1 hXl1 p1 x4 (HB10.out.alloc HB10.out.size _))
        clear hK K hH10
        try simp only [Act.put, List.setIfInBounds_toArray, List.set_cons_zero, List.set_cons_succ]
        refine wpAnyH_ready (rs := [13]) (by kernel_rfl) (by simp) ?_
        refine' AllReadyH.cons (List.getElem?_toArray.trans rfl) (fun K hK => ?st16) ?more16
        case st16 =>
          go_simp
          refine hK.out _ _ ?s17 (fun hH17 => ?r17)
          case s17 => ((try dsimp only); exact gKeepSI hBl1 hXl1 p1 x4 (HB10.out.alloc HB10.out.size _))
          clear hK K hH15
          try simp only [Act.put, List.setIfInBounds_toArray, List.set_cons_zero, List.set_cons_succ]
          refine' wpAnyH_take (i := 14) (List.getElem?_toArray.trans rfl) (by kernel_rfl) (by kernel_rfl) (by kernel_rfl) (fun _ _ _ h => h) (Or.inl ⟨by rfl, ?y18⟩) hH17 ?r18
          case y18 => (intro w hSw; (try dsimp only at hSw); go_simp; try with_reducible rfl)
          try simp only [Act.put, List.setIfInBounds_toArray, List.set_cons_zero, List.set_cons_succ]
          refine wpAnyH_done (by kernel_rfl) ?_ _
          go_wp2_with fail
          go_meet
          exact gItCutA hwd.out HB10.out
        exact AllReadyH.nil
      exact AllReadyH.nil
    refine' AllReadyH.cons (List.getElem?_toArray.trans rfl) (fun K hK => ?st19) ?more19
    case st19 =>
      go_simp
      refine hK.out _ _ ?s20 (fun hH20 => ?r20)
      case s20 => ((try dsimp only); exact gKeepSI hBl1 hXl1 p1 x4 ((Below.refl _ _).alloc (Nat.le_refl _) _))
      obtain ⟨v20, hv20⟩ : ∃ v, v = wd.alloc (.cells #[.string ⟨#[]⟩, .string ⟨#[]⟩, .int .u32 0, .int .u64 0, .int .i64 0, .int .i64 0] 32) := ⟨_, rfl⟩
      obtain ⟨N20, hn20⟩ : ∃ N, N = wd.heap.size := ⟨_, rfl⟩
      rw [← hv20] at hH20
      rw [← hv20, ← hn20]
      have HB20 : Hid (Below wd.heap.size wd v20) := Lib.hid (by rw [hv20]; exact (Below.refl _ _).alloc (Nat.le_refl _) _)
      have hN20 := Lib.hid (And.intro hn20 hv20)
      clear hv20 hn20
      clear hK K hH0
      try simp only [Act.put, List.setIfInBounds_toArray, List.set_cons_zero, List.set_cons_succ]
      refine wpAnyH_ready (rs := [8]) (by kernel_rfl) (by simp) ?_
      refine' AllReadyH.cons (List.getElem?_toArray.trans rfl) (fun K hK => ?st21) ?more21
      case st21 =>
        go_simp
        refine' Calls.mono (HAt.out v20 (gBelowT hwd.out HB20.out)) ?c22
        rintro e w22 ⟨rfl, hb22⟩
        obtain ⟨z0, z1, z2, z3, z4, z5, zf0, zf1, zf2, zf3, zf4, zf5⟩ := gRecFacts hb22 hN20.out
        have HB22 := Lib.hid (gBelowT HB20.out hb22)
        clear hb22
        try go_wp2_with fail
        refine hK.out _ _ ?s22 (fun hH22 => ?r22)
        case s22 => ((try dsimp only); exact gKeepSI hBl1 hXl1 p1 x4 HB22.out)
        clear hK K hH20
        try simp only [Act.put, List.setIfInBounds_toArray, List.set_cons_zero, List.set_cons_succ]
        refine' wpAnyH_take (i := 9) (List.getElem?_toArray.trans rfl) (by kernel_rfl) (by kernel_rfl) (by kernel_rfl) (fun _ _ _ h => h) (Or.inl ⟨by rfl, ?y23⟩) hH22 ?r23
        case y23 => (intro w hSw; (try dsimp only at hSw); go_simp; try with_reducible rfl)
        try simp only [Act.put, List.setIfInBounds_toArray, List.set_cons_zero, List.set_cons_succ]
        refine' wpAnyH_take (i := 10) (List.getElem?_toArray.trans rfl) (by kernel_rfl) (by kernel_rfl) (by kernel_rfl) (fun _ _ _ h => h) (Or.inl ⟨by rfl, ?y24⟩) hH22 ?r24
        case y24 => (intro w hSw; (try dsimp only at hSw); go_simp; try with_reducible rfl)
        try simp only [Act.put, List.setIfInBounds_toArray, List.set_cons_zero, List.set_cons_succ]
        refine' wpAnyH_take (i := 11) (List.getElem?_toArray.trans rfl) (by kernel_rfl) (by kernel_rfl) (by kernel_rfl) (fun _ _ _ h => h) (Or.inl ⟨by rfl, ?y25⟩) hH22 ?r25
        case y25 => (intro w hSw; (try dsimp only at hSw); go_simp; try with_reducible rfl)
        try simp only [Act.put, List.setIfInBounds_toArray, List.set_cons_zero, List.set_cons_succ]
        refine wpAnyH_ready (rs := [13]) (by kernel_rfl) (by simp) ?_
        refine' AllReadyH.cons (List.getElem?_toArray.trans rfl) (fun K hK => ?st26) ?more26
        case st26 =>
          go_simp
          refine hK.out _ _ ?s27 (fun hH27 => ?r27)
          case s27 => ((try dsimp only); exact gKeepSI hBl1 hXl1 p1 x4 (gBelow6 hN20.out.1 HB22.out))
          clear hK K hH22
          try simp only [Act.put, List.setIfInBounds_toArray, List.set_cons_zero, List.set_cons_succ]
          refine' wpAnyH_take (i := 14) (List.getElem?_toArray.trans rfl) (by kernel_rfl) (by kernel_rfl) (by kernel_rfl) (fun _ _ _ h => h) (Or.inl ⟨by rfl, ?y28⟩) hH27 ?r28
          case y28 => (intro w hSw; (try dsimp only at hSw); go_simp; try with_reducible rfl)
          try simp only [Act.put, List.setIfInBounds_toArray, List.set_cons_zero, List.set_cons_succ]
          refine wpAnyH_done (by kernel_rfl) ?_ _
          go_wp2_with fail
          go_meet
          exact gItCut6 hwd.out hN20.out.1 HB22.out z0 z1 z2 z3 z4 z5
        exact AllReadyH.nil
      exact AllReadyH.nil
    exact AllReadyH.nil
  obtain ⟨rfl, N, rfl, hN4, hNl, hb5, hkc⟩ := hcut
  have HM5 := Lib.hid (HM.out.below hb5)
  have HBW : Hid (Bx wc O N [Value.string x.key, .string x.val, .int .u32 x.fl, .int .u64 x.id, .int .i64 x.dies, .int .i64 x.gen]) := Lib.hid ⟨own_new HM.out.e.hi hN4, hNl, hkc⟩
  clear hN4 hNl hb5 hkc HM hBl hXl HAt y4 y1
  have HANS : Hid (∀ (W : World) (G : Om) (an : Int) (x' : It), Me k (k + 12) w0 O0 W G B f s k X (gtCs t key be .nilIface z) → Me k (k + 12) w0 O0 ((((((((W.setCell ⟨X, 7, none⟩ (.int .u8 an)).setCell ⟨X, 8, none⟩ (.int .u64 0)).setCell ⟨X, 9, none⟩ (.string x'.key)).setCell ⟨X, 10, none⟩ (.string x'.val)).setCell ⟨X, 11, none⟩ (.int .u32 x'.fl)).setCell ⟨X, 12, none⟩ (.int .u64 x'.id)).setCell ⟨X, 13, none⟩ (.int .i64 x'.dies)).setCell ⟨X, 14, none⟩ (.int .i64 x'.gen)) G B f s k X (gtCs t key be .nilIface { z with an := an, im := x' })) := Lib.hid fun W G an x' m => m.gans hk an x'
  cases is with
  | false =>
    have hT : gtTells s.it z = { z with an := 12, im := it0, ln := 0 } := by rw [HT.out]; rfl
    have HT2 := Lib.hid hT
    have q7 := HM5.out.t.c 7 _ rfl
    have q8 := HM5.out.t.c 8 _ rfl
    have q9 := HM5.out.t.c 9 _ rfl
    have q10 := HM5.out.t.c 10 _ rfl
    have q11 := HM5.out.t.c 11 _ rfl
    have q12 := HM5.out.t.c 12 _ rfl
    have q13 := HM5.out.t.c 13 _ rfl
    have q14 := HM5.out.t.c 14 _ rfl
    have f7 := HM5.out.t.f 7
    have f8 := HM5.out.t.f 8
    have f9 := HM5.out.t.f 9
    have f10 := HM5.out.t.f 10
    have f11 := HM5.out.t.f 11
    have f12 := HM5.out.t.f 12
    have f13 := HM5.out.t.f 13
    have f14 := HM5.out.t.f 14
    clear hT HT HAL HNT HRR
    go_upto_region 2 with fail
    go_quiet (fail)
    have HQ := Lib.hid (HANS.out _ _ 12 it0 (HM5.out.below (below_drewN (Below.refl _ _) nq)))
    go_wp2_with fail
    refine bodyPost_ret (v := .tuple #[]) (by simp [results, Tryz.results140, go_sem]) rfl ?_
    refine ⟨rfl, O, .nilIface, ?_, .inl ⟨?_, rfl⟩⟩
    · rw [HT2.out]; exact HQ.out
    · rw [HT2.out]
  | true =>
    have y5 : wc.cell? ⟨X, 5, none⟩ = some (.int .u64 z.ep) := HM5.out.t.c 5 _ rfl
    rw [← HEP.out] at y5
    have w0' := HBW.out.c 0 _ rfl
    have w1' := HBW.out.c 1 _ rfl
    have w2' := HBW.out.c 2 _ rfl
    have w3' := HBW.out.c 3 _ rfl
    have w4' := HBW.out.c 4 _ rfl
    have w5' := HBW.out.c 5 _ rfl
    go_upto_region 2 with fail
    go_region_held3 (fun w' => w'.cell? ⟨X, 5, none⟩ = some (.int .u64 ep) ∧ w'.cell? ⟨N, 0, none⟩ = some (.string x.key) ∧ w'.cell? ⟨N, 1, none⟩ = some (.string x.val) ∧ w'.cell? ⟨N, 2, none⟩ = some (.int .u32 x.fl) ∧ w'.cell? ⟨N, 3, none⟩ = some (.int .u64 x.id) ∧ w'.cell? ⟨N, 4, none⟩ = some (.int .i64 x.dies) ∧ w'.cell? ⟨N, 5, none⟩ = some (.int .i64 x.gen)) (go_keep)
      (first
        | (go_at_call 25
           refine (HAL.out _).mono ?_
           rintro e w5 ⟨rfl, hb5⟩
           have bd := (drew_below _).trans (hb5.mono (Nat.le_refl _))
           have m6 := HM5.out.below bd
           have BW6 := HBW.out.below bd
           have y5' : w5.cell? ⟨X, 5, none⟩ = some (.int .u64 z.ep) := m6.t.c 5 _ rfl
           have y5 : w5.cell? ⟨X, 5, none⟩ = some (.int .u64 ep) := by rw [HEP.out]; exact y5'
           have w0' := BW6.c 0 _ rfl
           have w1' := BW6.c 1 _ rfl
           have w2' := BW6.c 2 _ rfl
           have w3' := BW6.c 3 _ rfl
           have w4' := BW6.c 4 _ rfl
           have w5' := BW6.c 5 _ rfl
           have HM6 := Lib.hid m6
           clear hb5 bd m6 BW6 y5'))
    all_goals
      rename_i hheld
      clear hheld HM5 HAL HBW
      have q7 := HM6.out.t.c 7 _ rfl
      have q8 := HM6.out.t.c 8 _ rfl
      have q9 := HM6.out.t.c 9 _ rfl
      have q10 := HM6.out.t.c 10 _ rfl
      have q11 := HM6.out.t.c 11 _ rfl
      have q12 := HM6.out.t.c 12 _ rfl
      have q13 := HM6.out.t.c 13 _ rfl
      have q14 := HM6.out.t.c 14 _ rfl
      have f7 := HM6.out.t.f 7
      have f8 := HM6.out.t.f 8
      have f9 := HM6.out.t.f 9
      have f10 := HM6.out.t.f 10
      have f11 := HM6.out.t.f 11
      have f12 := HM6.out.t.f 12
      have f13 := HM6.out.t.f 13
      have f14 := HM6.out.t.f 14
      cases al with
      | false =>
        have hT : gtTells s.it z = { z with an := 12, im := it0, ln := 0 } := by rw [HT.out]; rfl
        have HT2 := Lib.hid hT
        have HQ := Lib.hid (HANS.out _ _ 12 it0 HM6.out)
        clear hT HT HNT HRR
        go_wp2_with fail
        refine bodyPost_ret (v := .tuple #[]) (by simp [results, Tryz.results140, go_sem]) rfl ?_
        refine ⟨rfl, O, .nilIface, ?_, .inl ⟨?_, rfl⟩⟩
        · rw [HT2.out]; exact HQ.out
        · rw [HT2.out]
      | true =>
        have hrf : plRef z.ref ≠ 0 := by rw [← HRF.out]; exact HRR.out (by first | rfl | trivial)
        have hT : gtTells s.it z = { z with an := 11, im := x, ln := 7, tc := tcNew (plRef z.ref) } := by
          rw [HT.out, if_pos (show (true && true) = true from rfl), if_neg hrf]
        rw [← HRF.out] at hrf
        have HT2 := Lib.hid hT
        have HTO : Hid (tcOver (tcNew (plRef rf)) = false) := Lib.hid (decide_eq_false hrf)
        have M7 := HANS.out _ _ 11 x HM6.out
        obtain ⟨W7, hW7⟩ : ∃ W, W = ((((((((w5.setCell ⟨X, 7, none⟩ (.int .u8 11)).setCell ⟨X, 8, none⟩ (.int .u64 0)).setCell ⟨X, 9, none⟩ (.string x.key)).setCell ⟨X, 10, none⟩ (.string x.val)).setCell ⟨X, 11, none⟩ (.int .u32 x.fl)).setCell ⟨X, 12, none⟩ (.int .u64 x.id)).setCell ⟨X, 13, none⟩ (.int .i64 x.dies)).setCell ⟨X, 14, none⟩ (.int .i64 x.gen)) := ⟨_, rfl⟩
        rw [← hW7] at M7
        have v4' : W7.cell? ⟨X, 4, none⟩ = some (.int .i64 z.ref) := M7.t.c 4 _ rfl
        have v4 : W7.cell? ⟨X, 4, none⟩ = some (.int .i64 rf) := by rw [HRF.out]; exact v4'
        have HN7 := Lib.hid (HNT.out W7 O M7.e.hi)
        have HM7 := Lib.hid M7
        clear hT hrf HT HNT HRR M7 v4'
        go_upto_region 5 with fail
        rw [← hW7]
        clear hW7 q7 q8 q9 q10 q11 q12 q13 q14 f7 f8 f9 f10 f11 f12 f13 f14 w0' w1' w2' w3' w4' w5' y5 HM6
        go_wp2_with fail
        refine HN7.out.mono ?_
        rintro e w8 ⟨rfl, G8, e8, t8, o8⟩
        have HOv := Lib.hid (c_Over W7.heap.size (tcNew (plRef rf)) w8 t8)
        rw [HTO.out] at HOv
        have m8 := HM7.out.oth hk e8 (by intro t ht; omega)
        have q3 := m8.t.c 3 _ rfl
        have f3 := m8.t.f 3
        have m9 := m8.set hk (by omega) (by omega) 3 (.iface 291 (.pointer (some ⟨W7.heap.size, 0, none⟩))) (by simp [gtCs])
        have m9 : Me k (k + 12) w0 O0 (w8.setCell ⟨X, 3, none⟩ (.iface 291 (.pointer (some ⟨W7.heap.size, 0, none⟩)))) G8 B f s k X (gtCs t key be (.iface 291 (.pointer (some ⟨W7.heap.size, 0, none⟩))) { z with an := 11, im := x, ln := 7, tc := tcNew (plRef z.ref) }) := m9
        have t9 := t8.ext (Ext.of_set (j := 3) (v := .iface 291 (.pointer (some ⟨W7.heap.size, 0, none⟩))) (S := fun t => t = k) m8.e.hi m8.t.o (by omega) rfl) (by omega)
        have HQ := Lib.hid (And.intro m9 (And.intro t9 o8))
        clear e8 t8 o8 m8 m9 t9 HN7 HM7 v4
        go_wp2_with fail
        refine HOv.out.mono ?_
        rintro e w' ⟨rfl, rfl⟩
        go_wp2_with fail
        go_end0
        refine ⟨rfl, G8, _, ?_, .inr ⟨?_, W7.heap.size, rfl, ?_, HQ.out.2.2⟩⟩
        · rw [HT2.out]; exact HQ.out.1
        · rw [HT2.out]
        · rw [HT2.out]
          have h := HQ.out.2.1
          rw [HRF.out] at h
          exact h
end
end Go.Proofs.YthpedifjclofoaaGreat
