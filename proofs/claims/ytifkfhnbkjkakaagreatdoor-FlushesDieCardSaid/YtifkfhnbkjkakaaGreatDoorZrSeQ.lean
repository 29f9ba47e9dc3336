/- Layer 25: a Store decides (line 5). Layer 25: a Store's record (lines 6, 19). Layer 25: a Store replaces (lines 6, 7), misses (line 9). -/
import Derived.Test.YtifkfhnbkjkakaaGreatDoorZrSeP
import Derived.Test.YtifkfhnbkjkakaaGreatDoorZrEpA
namespace Go.Proofs.YtifkfhnbkjkakaaGreatDoor
set_option linter.unusedSimpArgs false
set_option linter.unusedVariables false
set_option maxHeartbeats 8000000
set_option maxRecDepth 100000
section
open Go.RowKit
def GIVESV (X : Nat) : Value := .func (.func 231) #[.pointer (some ⟨X, 0, none⟩)] #[]
def REC1V (bx : Nat) : Value := .func (.func 227) #[] #[.pointer (some ⟨bx, 0, none⟩)]
section
variable {w w0 : World} {O O0 : Om} {B : Wb} {f : Cf} {s : AW} {k X : Nat} {op th ac : Value} {tl : List Value} {c : Clm} {p : Spt} {an nu ep pt : Int}
theorem c_StDecT {r : Int} {i : Nat} {x : It} {al : Bool} (a : Int) (M : Me k (k + 30) w0 O0 w O B f s k X (stCs op th ac c p an nu ep pt)) (hp : p.ok) (hx : s.it[i]? = some x) (hr : r = i + 1) (hal : epAlive x.dies x.gen (s.M 8) = al)
 (hc : (a = 2 ∧ c.verb = 4 ∧ al = true) ∨ (a = 2 ∧ c.verb = 5 ∧ al = false) ∨ (a = 4 ∧ c.verb = 6 ∧ al = false) ∨ (a = 3 ∧ c.verb = 6 ∧ al = true ∧ x.id ≠ c.id)) (hil : s.it.length ≤ 1000000) (hk : 10 ≤ k) (n0 : 0 ≤ s.n) (n1 : s.n ≤ 4611686018427387904) :
 Calls Tryz.prog 166 #[.pointer (some ⟨X, 0, none⟩), .pointer (some ⟨B.p, 0, none⟩), .int .i64 r] w fun e w' => ∃ Mk, StQ k w0 O0 w O B f (awLoad 8 s) X (.iface 246 (.pointer (some ⟨Mk, 0, none⟩))) (GIVESV X) .nilFunc (stTl c p a 0 (s.M 8) (s.n + 1)) (fun W G => MkAt W G (k + 6) Mk [p.ver]) e w' := by
 have b1 := alloc_below w (.cells #[.pointer (some ⟨X, 0, none⟩)] 134)
 have BX := Bx.new M.e.hi #[.pointer (some ⟨X, 0, none⟩)] 134 w.heap.size rfl
 have M1 := M.below b1
 have HPT := Lib.hid (c_StPoints M1 hk n0 n1)
 have HX1 := Lib.hid (And.intro BX (Ext.of_below (S := SX k (k + 30)) M.e.hi b1))
 have q0 := BX.c 0 _ rfl
 have hep := M.p.bd 8
 have HAL := Lib.hid (fun W => c_Alive x.key x.val x.fl x.id x.dies x.gen (s.M 8) W hep.1 (by omega))
 rw [hal] at HAL
 have HATC := Lib.hid (fun (W : World) (G : Om) (q : Ar W G 3 B.ip s.it) => c_IAt_yes r i x q hil hx hr)
 clear M b1 BX M1 hal hep hx hr hil
 have HHP := Lib.hid hp
 clear hp
 have hcc : (a = 2 ∧ (c.verb == 4) = true ∧ al = true) ∨ (a = 2 ∧ (c.verb == 4) = false ∧ (c.verb == 5) = true ∧ al = false) ∨ (a = 4 ∧ (c.verb == 4) = false ∧ (c.verb == 5) = false ∧ (c.verb == 6) = true ∧ al = false) ∨ (a = 3 ∧ (c.verb == 4) = false ∧ (c.verb == 5) = false ∧ (c.verb == 6) = true ∧ al = true ∧ (x.id != c.id) = true) := by
  rcases hc with ⟨h1, h2, h3⟩ | ⟨h1, h2, h3⟩ | ⟨h1, h2, h3⟩ | ⟨h1, h2, h3, h4⟩
  · left; simp [h1, h2, h3]
  · right; left; simp [h1, h2, h3]
  · right; right; left; simp [h1, h2, h3]
  · right; right; right; simp [h1, h2, h3, h4]
 clear hc
 rcases hcc with ⟨rfl, d4, rfl⟩ | ⟨rfl, d4, d5, rfl⟩ | ⟨rfl, d4, d5, d6, rfl⟩ | ⟨rfl, d4, d5, d6, rfl, dn⟩
 · go_enter Tryz.func166, Tryz.ntmps166
   go_wp2_with fail
   refine HPT.out.mono ?_
   rintro e w2 ⟨rfl, G2, m2, e2⟩
   have bx2 := HX1.out.1.ext e2
   have p1 := m2.p.wo.c1
   have HAt := Lib.hid (HATC.out _ _ m2.p.ar)
   have HM2 := Lib.hid (And.intro m2 (And.intro bx2 (HX1.out.2.trans e2)))
   clear m2 e2 bx2 HPT
   go_wp2_with fail
   refine HAt.out.mono ?_
   rintro e w3 ⟨rfl, hb3⟩
   have b4 := hb3.trans ((alloc_below w3 (.cells #[.string x.key, .string x.val, .int .u32 x.fl, .int .u64 x.id, .int .i64 x.dies, .int .i64 x.gen] 34)).mono hb3.size)
   have m4 := HM2.out.1.below b4
   have bx4 := HM2.out.2.1.below b4
   have BW := Bx.new (hi_below HM2.out.1.e.hi hb3) #[.string x.key, .string x.val, .int .u32 x.fl, .int .u64 x.id, .int .i64 x.dies, .int .i64 x.gen] 34 w3.heap.size rfl
   have hw3 : w3.heap.size < (w3.alloc (.cells #[.string x.key, .string x.val, .int .u32 x.fl, .int .u64 x.id, .int .i64 x.dies, .int .i64 x.gen] 34)).heap.size := by simp
   have HM4 := Lib.hid (And.intro m4 (And.intro bx4 (And.intro BW (HM2.out.2.2.below b4))))
   have y0 := bx4.c 0 _ rfl
   have y22 := m4.t.c 22 _ rfl
   have y3 := m4.t.c 3 _ rfl
   have w0' := BW.c 0 _ rfl
   have w1' := BW.c 1 _ rfl
   have w2' := BW.c 2 _ rfl
   have w3' := BW.c 3 _ rfl
   have w4' := BW.c 4 _ rfl
   have w5' := BW.c 5 _ rfl
   clear m4 bx4 BW b4 hb3 HAt HM2 p1
   go_upto_region 3 with fail
   go_region_held3 (fun w' => w'.cell? ⟨w.heap.size, 0, none⟩ = some (.pointer (some ⟨X, 0, none⟩)) ∧ w'.cell? ⟨X, 22, none⟩ = some (.int .u64 (s.M 8)) ∧ w'.cell? ⟨w3.heap.size, 0, none⟩ = some (.string x.key) ∧ w'.cell? ⟨w3.heap.size, 1, none⟩ = some (.string x.val) ∧ w'.cell? ⟨w3.heap.size, 2, none⟩ = some (.int .u32 x.fl) ∧ w'.cell? ⟨w3.heap.size, 3, none⟩ = some (.int .u64 x.id) ∧ w'.cell? ⟨w3.heap.size, 4, none⟩ = some (.int .i64 x.dies) ∧ w'.cell? ⟨w3.heap.size, 5, none⟩ = some (.int .i64 x.gen)) (go_keep)
    (first
      | (go_at_call 15
         refine (HAL.out _).mono ?_
         rintro e w5 ⟨rfl, hb5⟩
         have bd := (drew_below _).trans (hb5.mono (Nat.le_refl _))
         have m5 := HM4.out.1.below bd
         have bx5 := HM4.out.2.1.below bd
         have BW5 := HM4.out.2.2.1.below bd
         have y0 := bx5.c 0 _ rfl
         have y22 := m5.t.c 22 _ rfl
         have y3 := m5.t.c 3 _ rfl
         have y8 := m5.t.c 8 _ rfl
         have w0' := BW5.c 0 _ rfl
         have w1' := BW5.c 1 _ rfl
         have w2' := BW5.c 2 _ rfl
         have w3' := BW5.c 3 _ rfl
         have w4' := BW5.c 4 _ rfl
         have w5' := BW5.c 5 _ rfl
         have HM5 := Lib.hid (And.intro m5 (And.intro bx5 (HM4.out.2.2.2.below bd)))
         clear hb5 bd m5 bx5 BW5))
   all_goals
    rename_i hheld
    clear hheld HM4 HAL w0' w1' w2' w4' w5' y22
    have HTL := Lib.hid (c_StTells 2 0 HM5.out.1 hk)
    go_wp2_with fail
    refine HTL.out.mono ?_
    rintro e w6 ⟨rfl, m6, e6⟩
    have bx6 := HM5.out.2.1.ext e6
    have y0 := bx6.c 0 _ rfl
    have HCL := Lib.hid (c_StCloses (.pointer (some ⟨B.p, 0, none⟩)) m6 HHP.out hk)
    have HE6 := Lib.hid (HM5.out.2.2.trans (e6.mono fun t _ ht => SX.one ht))
    clear m6 e6 bx6 HTL
    go_wp2_with fail
    refine HCL.out.mono ?_
    rintro e w7 ⟨Mk, rfl, G7, m7, e7, k7⟩
    have HQ := Lib.hid (And.intro m7 (And.intro (HE6.out.trans e7) k7))
    clear m7 e7 k7
    go_wp2_with fail
    go_end0
    exact ⟨Mk, rfl, G7, HQ.out.1, HQ.out.2.1, HQ.out.2.2⟩
 · go_enter Tryz.func166, Tryz.ntmps166
   go_wp2_with fail
   refine HPT.out.mono ?_
   rintro e w2 ⟨rfl, G2, m2, e2⟩
   have bx2 := HX1.out.1.ext e2
   have p1 := m2.p.wo.c1
   have HAt := Lib.hid (HATC.out _ _ m2.p.ar)
   have HM2 := Lib.hid (And.intro m2 (And.intro bx2 (HX1.out.2.trans e2)))
   clear m2 e2 bx2 HPT
   go_wp2_with fail
   refine HAt.out.mono ?_
   rintro e w3 ⟨rfl, hb3⟩
   have b4 := hb3.trans ((alloc_below w3 (.cells #[.string x.key, .string x.val, .int .u32 x.fl, .int .u64 x.id, .int .i64 x.dies, .int .i64 x.gen] 34)).mono hb3.size)
   have m4 := HM2.out.1.below b4
   have bx4 := HM2.out.2.1.below b4
   have BW := Bx.new (hi_below HM2.out.1.e.hi hb3) #[.string x.key, .string x.val, .int .u32 x.fl, .int .u64 x.id, .int .i64 x.dies, .int .i64 x.gen] 34 w3.heap.size rfl
   have hw3 : w3.heap.size < (w3.alloc (.cells #[.string x.key, .string x.val, .int .u32 x.fl, .int .u64 x.id, .int .i64 x.dies, .int .i64 x.gen] 34)).heap.size := by simp
   have HM4 := Lib.hid (And.intro m4 (And.intro bx4 (And.intro BW (HM2.out.2.2.below b4))))
   have y0 := bx4.c 0 _ rfl
   have y22 := m4.t.c 22 _ rfl
   have y3 := m4.t.c 3 _ rfl
   have w0' := BW.c 0 _ rfl
   have w1' := BW.c 1 _ rfl
   have w2' := BW.c 2 _ rfl
   have w3' := BW.c 3 _ rfl
   have w4' := BW.c 4 _ rfl
   have w5' := BW.c 5 _ rfl
   clear m4 bx4 BW b4 hb3 HAt HM2 p1
   go_upto_region 3 with fail
   go_region_held3 (fun w' => w'.cell? ⟨w.heap.size, 0, none⟩ = some (.pointer (some ⟨X, 0, none⟩)) ∧ w'.cell? ⟨X, 22, none⟩ = some (.int .u64 (s.M 8)) ∧ w'.cell? ⟨w3.heap.size, 0, none⟩ = some (.string x.key) ∧ w'.cell? ⟨w3.heap.size, 1, none⟩ = some (.string x.val) ∧ w'.cell? ⟨w3.heap.size, 2, none⟩ = some (.int .u32 x.fl) ∧ w'.cell? ⟨w3.heap.size, 3, none⟩ = some (.int .u64 x.id) ∧ w'.cell? ⟨w3.heap.size, 4, none⟩ = some (.int .i64 x.dies) ∧ w'.cell? ⟨w3.heap.size, 5, none⟩ = some (.int .i64 x.gen)) (go_keep)
    (first
      | (go_at_call 15
         refine (HAL.out _).mono ?_
         rintro e w5 ⟨rfl, hb5⟩
         have bd := (drew_below _).trans (hb5.mono (Nat.le_refl _))
         have m5 := HM4.out.1.below bd
         have bx5 := HM4.out.2.1.below bd
         have BW5 := HM4.out.2.2.1.below bd
         have y0 := bx5.c 0 _ rfl
         have y22 := m5.t.c 22 _ rfl
         have y3 := m5.t.c 3 _ rfl
         have y8 := m5.t.c 8 _ rfl
         have w0' := BW5.c 0 _ rfl
         have w1' := BW5.c 1 _ rfl
         have w2' := BW5.c 2 _ rfl
         have w3' := BW5.c 3 _ rfl
         have w4' := BW5.c 4 _ rfl
         have w5' := BW5.c 5 _ rfl
         have HM5 := Lib.hid (And.intro m5 (And.intro bx5 (HM4.out.2.2.2.below bd)))
         clear hb5 bd m5 bx5 BW5))
   all_goals
    rename_i hheld
    clear hheld HM4 HAL w0' w1' w2' w4' w5' y22
    have HTL := Lib.hid (c_StTells 2 0 HM5.out.1 hk)
    go_wp2_with fail
    refine HTL.out.mono ?_
    rintro e w6 ⟨rfl, m6, e6⟩
    have bx6 := HM5.out.2.1.ext e6
    have y0 := bx6.c 0 _ rfl
    have HCL := Lib.hid (c_StCloses (.pointer (some ⟨B.p, 0, none⟩)) m6 HHP.out hk)
    have HE6 := Lib.hid (HM5.out.2.2.trans (e6.mono fun t _ ht => SX.one ht))
    clear m6 e6 bx6 HTL
    go_wp2_with fail
    refine HCL.out.mono ?_
    rintro e w7 ⟨Mk, rfl, G7, m7, e7, k7⟩
    have HQ := Lib.hid (And.intro m7 (And.intro (HE6.out.trans e7) k7))
    clear m7 e7 k7
    go_wp2_with fail
    go_end0
    exact ⟨Mk, rfl, G7, HQ.out.1, HQ.out.2.1, HQ.out.2.2⟩
 · go_enter Tryz.func166, Tryz.ntmps166
   go_wp2_with fail
   refine HPT.out.mono ?_
   rintro e w2 ⟨rfl, G2, m2, e2⟩
   have bx2 := HX1.out.1.ext e2
   have p1 := m2.p.wo.c1
   have HAt := Lib.hid (HATC.out _ _ m2.p.ar)
   have HM2 := Lib.hid (And.intro m2 (And.intro bx2 (HX1.out.2.trans e2)))
   clear m2 e2 bx2 HPT
   go_wp2_with fail
   refine HAt.out.mono ?_
   rintro e w3 ⟨rfl, hb3⟩
   have b4 := hb3.trans ((alloc_below w3 (.cells #[.string x.key, .string x.val, .int .u32 x.fl, .int .u64 x.id, .int .i64 x.dies, .int .i64 x.gen] 34)).mono hb3.size)
   have m4 := HM2.out.1.below b4
   have bx4 := HM2.out.2.1.below b4
   have BW := Bx.new (hi_below HM2.out.1.e.hi hb3) #[.string x.key, .string x.val, .int .u32 x.fl, .int .u64 x.id, .int .i64 x.dies, .int .i64 x.gen] 34 w3.heap.size rfl
   have hw3 : w3.heap.size < (w3.alloc (.cells #[.string x.key, .string x.val, .int .u32 x.fl, .int .u64 x.id, .int .i64 x.dies, .int .i64 x.gen] 34)).heap.size := by simp
   have HM4 := Lib.hid (And.intro m4 (And.intro bx4 (And.intro BW (HM2.out.2.2.below b4))))
   have y0 := bx4.c 0 _ rfl
   have y22 := m4.t.c 22 _ rfl
   have y3 := m4.t.c 3 _ rfl
   have w0' := BW.c 0 _ rfl
   have w1' := BW.c 1 _ rfl
   have w2' := BW.c 2 _ rfl
   have w3' := BW.c 3 _ rfl
   have w4' := BW.c 4 _ rfl
   have w5' := BW.c 5 _ rfl
   clear m4 bx4 BW b4 hb3 HAt HM2 p1
   go_upto_region 3 with fail
   go_region_held3 (fun w' => w'.cell? ⟨w.heap.size, 0, none⟩ = some (.pointer (some ⟨X, 0, none⟩)) ∧ w'.cell? ⟨X, 22, none⟩ = some (.int .u64 (s.M 8)) ∧ w'.cell? ⟨w3.heap.size, 0, none⟩ = some (.string x.key) ∧ w'.cell? ⟨w3.heap.size, 1, none⟩ = some (.string x.val) ∧ w'.cell? ⟨w3.heap.size, 2, none⟩ = some (.int .u32 x.fl) ∧ w'.cell? ⟨w3.heap.size, 3, none⟩ = some (.int .u64 x.id) ∧ w'.cell? ⟨w3.heap.size, 4, none⟩ = some (.int .i64 x.dies) ∧ w'.cell? ⟨w3.heap.size, 5, none⟩ = some (.int .i64 x.gen)) (go_keep)
    (first
      | (go_at_call 15
         refine (HAL.out _).mono ?_
         rintro e w5 ⟨rfl, hb5⟩
         have bd := (drew_below _).trans (hb5.mono (Nat.le_refl _))
         have m5 := HM4.out.1.below bd
         have bx5 := HM4.out.2.1.below bd
         have BW5 := HM4.out.2.2.1.below bd
         have y0 := bx5.c 0 _ rfl
         have y22 := m5.t.c 22 _ rfl
         have y3 := m5.t.c 3 _ rfl
         have y8 := m5.t.c 8 _ rfl
         have w0' := BW5.c 0 _ rfl
         have w1' := BW5.c 1 _ rfl
         have w2' := BW5.c 2 _ rfl
         have w3' := BW5.c 3 _ rfl
         have w4' := BW5.c 4 _ rfl
         have w5' := BW5.c 5 _ rfl
         have HM5 := Lib.hid (And.intro m5 (And.intro bx5 (HM4.out.2.2.2.below bd)))
         clear hb5 bd m5 bx5 BW5))
   all_goals
    rename_i hheld
    clear hheld HM4 HAL w0' w1' w2' w4' w5' y22
    have HTL := Lib.hid (c_StTells 4 0 HM5.out.1 hk)
    go_wp2_with fail
    refine HTL.out.mono ?_
    rintro e w6 ⟨rfl, m6, e6⟩
    have bx6 := HM5.out.2.1.ext e6
    have y0 := bx6.c 0 _ rfl
    have HCL := Lib.hid (c_StCloses (.pointer (some ⟨B.p, 0, none⟩)) m6 HHP.out hk)
    have HE6 := Lib.hid (HM5.out.2.2.trans (e6.mono fun t _ ht => SX.one ht))
    clear m6 e6 bx6 HTL
    go_wp2_with fail
    refine HCL.out.mono ?_
    rintro e w7 ⟨Mk, rfl, G7, m7, e7, k7⟩
    have HQ := Lib.hid (And.intro m7 (And.intro (HE6.out.trans e7) k7))
    clear m7 e7 k7
    go_wp2_with fail
    go_end0
    exact ⟨Mk, rfl, G7, HQ.out.1, HQ.out.2.1, HQ.out.2.2⟩
 · go_enter Tryz.func166, Tryz.ntmps166
   go_wp2_with fail
   refine HPT.out.mono ?_
   rintro e w2 ⟨rfl, G2, m2, e2⟩
   have bx2 := HX1.out.1.ext e2
   have p1 := m2.p.wo.c1
   have HAt := Lib.hid (HATC.out _ _ m2.p.ar)
   have HM2 := Lib.hid (And.intro m2 (And.intro bx2 (HX1.out.2.trans e2)))
   clear m2 e2 bx2 HPT
   go_wp2_with fail
   refine HAt.out.mono ?_
   rintro e w3 ⟨rfl, hb3⟩
   have b4 := hb3.trans ((alloc_below w3 (.cells #[.string x.key, .string x.val, .int .u32 x.fl, .int .u64 x.id, .int .i64 x.dies, .int .i64 x.gen] 34)).mono hb3.size)
   have m4 := HM2.out.1.below b4
   have bx4 := HM2.out.2.1.below b4
   have BW := Bx.new (hi_below HM2.out.1.e.hi hb3) #[.string x.key, .string x.val, .int .u32 x.fl, .int .u64 x.id, .int .i64 x.dies, .int .i64 x.gen] 34 w3.heap.size rfl
   have hw3 : w3.heap.size < (w3.alloc (.cells #[.string x.key, .string x.val, .int .u32 x.fl, .int .u64 x.id, .int .i64 x.dies, .int .i64 x.gen] 34)).heap.size := by simp
   have HM4 := Lib.hid (And.intro m4 (And.intro bx4 (And.intro BW (HM2.out.2.2.below b4))))
   have y0 := bx4.c 0 _ rfl
   have y22 := m4.t.c 22 _ rfl
   have y3 := m4.t.c 3 _ rfl
   have w0' := BW.c 0 _ rfl
   have w1' := BW.c 1 _ rfl
   have w2' := BW.c 2 _ rfl
   have w3' := BW.c 3 _ rfl
   have w4' := BW.c 4 _ rfl
   have w5' := BW.c 5 _ rfl
   clear m4 bx4 BW b4 hb3 HAt HM2 p1
   go_upto_region 3 with fail
   go_region_held3 (fun w' => w'.cell? ⟨w.heap.size, 0, none⟩ = some (.pointer (some ⟨X, 0, none⟩)) ∧ w'.cell? ⟨X, 22, none⟩ = some (.int .u64 (s.M 8)) ∧ w'.cell? ⟨w3.heap.size, 0, none⟩ = some (.string x.key) ∧ w'.cell? ⟨w3.heap.size, 1, none⟩ = some (.string x.val) ∧ w'.cell? ⟨w3.heap.size, 2, none⟩ = some (.int .u32 x.fl) ∧ w'.cell? ⟨w3.heap.size, 3, none⟩ = some (.int .u64 x.id) ∧ w'.cell? ⟨w3.heap.size, 4, none⟩ = some (.int .i64 x.dies) ∧ w'.cell? ⟨w3.heap.size, 5, none⟩ = some (.int .i64 x.gen)) (go_keep)
    (first
      | (go_at_call 15
         refine (HAL.out _).mono ?_
         rintro e w5 ⟨rfl, hb5⟩
         have bd := (drew_below _).trans (hb5.mono (Nat.le_refl _))
         have m5 := HM4.out.1.below bd
         have bx5 := HM4.out.2.1.below bd
         have BW5 := HM4.out.2.2.1.below bd
         have y0 := bx5.c 0 _ rfl
         have y22 := m5.t.c 22 _ rfl
         have y3 := m5.t.c 3 _ rfl
         have y8 := m5.t.c 8 _ rfl
         have w0' := BW5.c 0 _ rfl
         have w1' := BW5.c 1 _ rfl
         have w2' := BW5.c 2 _ rfl
         have w3' := BW5.c 3 _ rfl
         have w4' := BW5.c 4 _ rfl
         have w5' := BW5.c 5 _ rfl
         have HM5 := Lib.hid (And.intro m5 (And.intro bx5 (HM4.out.2.2.2.below bd)))
         clear hb5 bd m5 bx5 BW5))
   all_goals
    rename_i hheld
    clear hheld HM4 HAL w0' w1' w2' w4' w5' y22
    go_upto_region 11 with fail
    go_quiet (fail)
    have bq : Below w5.heap.size w5 (w5.drewN nq) := below_drewN (Below.refl _ _) nq
    replace HM5 := Lib.hid (And.intro (HM5.out.1.below bq) (And.intro (HM5.out.2.1.below bq) (HM5.out.2.2.below bq)))
    have y0 := HM5.out.2.1.c 0 _ rfl
    clear bq
    have HTL := Lib.hid (c_StTells 3 0 HM5.out.1 hk)
    go_wp2_with fail
    refine HTL.out.mono ?_
    rintro e w6 ⟨rfl, m6, e6⟩
    have bx6 := HM5.out.2.1.ext e6
    have y0 := bx6.c 0 _ rfl
    have HCL := Lib.hid (c_StCloses (.pointer (some ⟨B.p, 0, none⟩)) m6 HHP.out hk)
    have HE6 := Lib.hid (HM5.out.2.2.trans (e6.mono fun t _ ht => SX.one ht))
    clear m6 e6 bx6 HTL
    go_wp2_with fail
    refine HCL.out.mono ?_
    rintro e w7 ⟨Mk, rfl, G7, m7, e7, k7⟩
    have HQ := Lib.hid (And.intro m7 (And.intro (HE6.out.trans e7) k7))
    clear m7 e7 k7
    go_wp2_with fail
    go_end0
    exact ⟨Mk, rfl, G7, HQ.out.1, HQ.out.2.1, HQ.out.2.2⟩
theorem c_StDecA {r : Int} {i : Nat} {x : It} {al : Bool} (M : Me k (k + 30) w0 O0 w O B f s k X (stCs op th ac c p an nu ep pt)) (hx : s.it[i]? = some x) (hr : r = i + 1) (hal : epAlive x.dies x.gen (s.M 8) = al)
 (hc : (c.verb = 4 ∧ al = false) ∨ (c.verb = 5 ∧ al = true) ∨ (c.verb = 6 ∧ al = true ∧ x.id = c.id) ∨ (c.verb ≠ 4 ∧ c.verb ≠ 5 ∧ c.verb ≠ 6)) (hil : s.it.length ≤ 1000000) (hk : 10 ≤ k) (n0 : 0 ≤ s.n) (n1 : s.n ≤ 4611686018427387904) :
 Calls Tryz.prog 166 #[.pointer (some ⟨X, 0, none⟩), .pointer (some ⟨B.p, 0, none⟩), .int .i64 r] w fun e w' => ∃ bx, StQ k w0 O0 w O B f (awLoad 8 s) X .nilIface th (REC1V bx) (stTl c p an nu (s.M 8) (s.n + 1)) (fun W G => Bx W G bx [.pointer (some ⟨X, 0, none⟩)]) e w' := by
 have b1 := alloc_below w (.cells #[.pointer (some ⟨X, 0, none⟩)] 134)
 have BX := Bx.new M.e.hi #[.pointer (some ⟨X, 0, none⟩)] 134 w.heap.size rfl
 have M1 := M.below b1
 have HPT := Lib.hid (c_StPoints M1 hk n0 n1)
 have HX1 := Lib.hid (And.intro BX (Ext.of_below (S := SX k (k + 30)) M.e.hi b1))
 have q0 := BX.c 0 _ rfl
 have hep := M.p.bd 8
 have HAL := Lib.hid (fun W => c_Alive x.key x.val x.fl x.id x.dies x.gen (s.M 8) W hep.1 (by omega))
 rw [hal] at HAL
 have HATC := Lib.hid (fun (W : World) (G : Om) (q : Ar W G 3 B.ip s.it) => c_IAt_yes r i x q hil hx hr)
 clear M b1 BX M1 hal hep hx hr hil
 have hcc : ((c.verb == 4) = true ∧ (c.verb == 5) = false ∧ (c.verb == 6) = false ∧ al = false) ∨ ((c.verb == 4) = false ∧ (c.verb == 5) = true ∧ (c.verb == 6) = false ∧ al = true) ∨ ((c.verb == 4) = false ∧ (c.verb == 5) = false ∧ (c.verb == 6) = true ∧ al = true ∧ (x.id != c.id) = false) ∨ ((c.verb == 4) = false ∧ (c.verb == 5) = false ∧ (c.verb == 6) = false) := by
  rcases hc with ⟨h1, h2⟩ | ⟨h1, h2⟩ | ⟨h1, h2, h3⟩ | ⟨h1, h2, h3⟩
  · left; simp [h1, h2]
  · right; left; simp [h1, h2]
  · right; right; left; simp [h1, h2, h3]
  · right; right; right; simp [h1, h2, h3]
 clear hc
 rcases hcc with ⟨d4, d5, d6, rfl⟩ | ⟨d4, d5, d6, rfl⟩ | ⟨d4, d5, d6, rfl, dn⟩ | ⟨d4, d5, d6⟩
 · go_enter Tryz.func166, Tryz.ntmps166
   go_wp2_with fail
   refine HPT.out.mono ?_
   rintro e w2 ⟨rfl, G2, m2, e2⟩
   have bx2 := HX1.out.1.ext e2
   have p1 := m2.p.wo.c1
   have HAt := Lib.hid (HATC.out _ _ m2.p.ar)
   have HM2 := Lib.hid (And.intro m2 (And.intro bx2 (HX1.out.2.trans e2)))
   clear m2 e2 bx2 HPT
   go_wp2_with fail
   refine HAt.out.mono ?_
   rintro e w3 ⟨rfl, hb3⟩
   have b4 := hb3.trans ((alloc_below w3 (.cells #[.string x.key, .string x.val, .int .u32 x.fl, .int .u64 x.id, .int .i64 x.dies, .int .i64 x.gen] 34)).mono hb3.size)
   have m4 := HM2.out.1.below b4
   have bx4 := HM2.out.2.1.below b4
   have BW := Bx.new (hi_below HM2.out.1.e.hi hb3) #[.string x.key, .string x.val, .int .u32 x.fl, .int .u64 x.id, .int .i64 x.dies, .int .i64 x.gen] 34 w3.heap.size rfl
   have hw3 : w3.heap.size < (w3.alloc (.cells #[.string x.key, .string x.val, .int .u32 x.fl, .int .u64 x.id, .int .i64 x.dies, .int .i64 x.gen] 34)).heap.size := by simp
   have HM4 := Lib.hid (And.intro m4 (And.intro bx4 (And.intro BW (HM2.out.2.2.below b4))))
   have y0 := bx4.c 0 _ rfl
   have y22 := m4.t.c 22 _ rfl
   have y3 := m4.t.c 3 _ rfl
   have w0' := BW.c 0 _ rfl
   have w1' := BW.c 1 _ rfl
   have w2' := BW.c 2 _ rfl
   have w3' := BW.c 3 _ rfl
   have w4' := BW.c 4 _ rfl
   have w5' := BW.c 5 _ rfl
   clear m4 bx4 BW b4 hb3 HAt HM2 p1
   go_upto_region 3 with fail
   go_region_held3 (fun w' => w'.cell? ⟨w.heap.size, 0, none⟩ = some (.pointer (some ⟨X, 0, none⟩)) ∧ w'.cell? ⟨X, 22, none⟩ = some (.int .u64 (s.M 8)) ∧ w'.cell? ⟨w3.heap.size, 0, none⟩ = some (.string x.key) ∧ w'.cell? ⟨w3.heap.size, 1, none⟩ = some (.string x.val) ∧ w'.cell? ⟨w3.heap.size, 2, none⟩ = some (.int .u32 x.fl) ∧ w'.cell? ⟨w3.heap.size, 3, none⟩ = some (.int .u64 x.id) ∧ w'.cell? ⟨w3.heap.size, 4, none⟩ = some (.int .i64 x.dies) ∧ w'.cell? ⟨w3.heap.size, 5, none⟩ = some (.int .i64 x.gen)) (go_keep)
    (first
      | (go_at_call 15
         refine (HAL.out _).mono ?_
         rintro e w5 ⟨rfl, hb5⟩
         have bd := (drew_below _).trans (hb5.mono (Nat.le_refl _))
         have m5 := HM4.out.1.below bd
         have bx5 := HM4.out.2.1.below bd
         have BW5 := HM4.out.2.2.1.below bd
         have y0 := bx5.c 0 _ rfl
         have y22 := m5.t.c 22 _ rfl
         have y3 := m5.t.c 3 _ rfl
         have y8 := m5.t.c 8 _ rfl
         have w0' := BW5.c 0 _ rfl
         have w1' := BW5.c 1 _ rfl
         have w2' := BW5.c 2 _ rfl
         have w3' := BW5.c 3 _ rfl
         have w4' := BW5.c 4 _ rfl
         have w5' := BW5.c 5 _ rfl
         have HM5 := Lib.hid (And.intro m5 (And.intro bx5 (HM4.out.2.2.2.below bd)))
         clear hb5 bd m5 bx5 BW5))
   all_goals
    rename_i hheld
    clear hheld HM4 HAL w0' w1' w2' w4' w5' y22
    go_upto_region 11 with fail
    go_quiet (fail)
    have bq : Below w5.heap.size w5 (w5.drewN nq) := below_drewN (Below.refl _ _) nq
    replace HM5 := Lib.hid (And.intro (HM5.out.1.below bq) (And.intro (HM5.out.2.1.below bq) (HM5.out.2.2.below bq)))
    have y0 := HM5.out.2.1.c 0 _ rfl
    have HAC := Lib.hid (c_goAccess (.func 227) #[] #[.pointer (some ⟨w.heap.size, 0, none⟩)] HM5.out.1 hk (Nat.le_refl _) (by omega))
    clear bq
    go_wp2_with fail
    refine HAC.out.mono ?_
    rintro e w6 ⟨rfl, m6, e6⟩
    have HQ := Lib.hid (And.intro m6 (And.intro (HM5.out.2.2.trans (e6.mono fun t _ ht => SX.one ht)) (HM5.out.2.1.ext e6)))
    clear m6 e6
    go_wp2_with fail
    refine bodyPost_ret (v := .tuple #[]) (results_none (by rfl) _ _ _) rfl ?_
    exact ⟨w.heap.size, rfl, G2, HQ.out.1, HQ.out.2.1, HQ.out.2.2⟩
 · go_enter Tryz.func166, Tryz.ntmps166
   go_wp2_with fail
   refine HPT.out.mono ?_
   rintro e w2 ⟨rfl, G2, m2, e2⟩
   have bx2 := HX1.out.1.ext e2
   have p1 := m2.p.wo.c1
   have HAt := Lib.hid (HATC.out _ _ m2.p.ar)
   have HM2 := Lib.hid (And.intro m2 (And.intro bx2 (HX1.out.2.trans e2)))
   clear m2 e2 bx2 HPT
   go_wp2_with fail
   refine HAt.out.mono ?_
   rintro e w3 ⟨rfl, hb3⟩
   have b4 := hb3.trans ((alloc_below w3 (.cells #[.string x.key, .string x.val, .int .u32 x.fl, .int .u64 x.id, .int .i64 x.dies, .int .i64 x.gen] 34)).mono hb3.size)
   have m4 := HM2.out.1.below b4
   have bx4 := HM2.out.2.1.below b4
   have BW := Bx.new (hi_below HM2.out.1.e.hi hb3) #[.string x.key, .string x.val, .int .u32 x.fl, .int .u64 x.id, .int .i64 x.dies, .int .i64 x.gen] 34 w3.heap.size rfl
   have hw3 : w3.heap.size < (w3.alloc (.cells #[.string x.key, .string x.val, .int .u32 x.fl, .int .u64 x.id, .int .i64 x.dies, .int .i64 x.gen] 34)).heap.size := by simp
   have HM4 := Lib.hid (And.intro m4 (And.intro bx4 (And.intro BW (HM2.out.2.2.below b4))))
   have y0 := bx4.c 0 _ rfl
   have y22 := m4.t.c 22 _ rfl
   have y3 := m4.t.c 3 _ rfl
   have w0' := BW.c 0 _ rfl
   have w1' := BW.c 1 _ rfl
   have w2' := BW.c 2 _ rfl
   have w3' := BW.c 3 _ rfl
   have w4' := BW.c 4 _ rfl
   have w5' := BW.c 5 _ rfl
   clear m4 bx4 BW b4 hb3 HAt HM2 p1
   go_upto_region 3 with fail
   go_region_held3 (fun w' => w'.cell? ⟨w.heap.size, 0, none⟩ = some (.pointer (some ⟨X, 0, none⟩)) ∧ w'.cell? ⟨X, 22, none⟩ = some (.int .u64 (s.M 8)) ∧ w'.cell? ⟨w3.heap.size, 0, none⟩ = some (.string x.key) ∧ w'.cell? ⟨w3.heap.size, 1, none⟩ = some (.string x.val) ∧ w'.cell? ⟨w3.heap.size, 2, none⟩ = some (.int .u32 x.fl) ∧ w'.cell? ⟨w3.heap.size, 3, none⟩ = some (.int .u64 x.id) ∧ w'.cell? ⟨w3.heap.size, 4, none⟩ = some (.int .i64 x.dies) ∧ w'.cell? ⟨w3.heap.size, 5, none⟩ = some (.int .i64 x.gen)) (go_keep)
    (first
      | (go_at_call 15
         refine (HAL.out _).mono ?_
         rintro e w5 ⟨rfl, hb5⟩
         have bd := (drew_below _).trans (hb5.mono (Nat.le_refl _))
         have m5 := HM4.out.1.below bd
         have bx5 := HM4.out.2.1.below bd
         have BW5 := HM4.out.2.2.1.below bd
         have y0 := bx5.c 0 _ rfl
         have y22 := m5.t.c 22 _ rfl
         have y3 := m5.t.c 3 _ rfl
         have y8 := m5.t.c 8 _ rfl
         have w0' := BW5.c 0 _ rfl
         have w1' := BW5.c 1 _ rfl
         have w2' := BW5.c 2 _ rfl
         have w3' := BW5.c 3 _ rfl
         have w4' := BW5.c 4 _ rfl
         have w5' := BW5.c 5 _ rfl
         have HM5 := Lib.hid (And.intro m5 (And.intro bx5 (HM4.out.2.2.2.below bd)))
         clear hb5 bd m5 bx5 BW5))
   all_goals
    rename_i hheld
    clear hheld HM4 HAL w0' w1' w2' w4' w5' y22
    go_upto_region 11 with fail
    go_quiet (fail)
    have bq : Below w5.heap.size w5 (w5.drewN nq) := below_drewN (Below.refl _ _) nq
    replace HM5 := Lib.hid (And.intro (HM5.out.1.below bq) (And.intro (HM5.out.2.1.below bq) (HM5.out.2.2.below bq)))
    have y0 := HM5.out.2.1.c 0 _ rfl
    have HAC := Lib.hid (c_goAccess (.func 227) #[] #[.pointer (some ⟨w.heap.size, 0, none⟩)] HM5.out.1 hk (Nat.le_refl _) (by omega))
    clear bq
    go_wp2_with fail
    refine HAC.out.mono ?_
    rintro e w6 ⟨rfl, m6, e6⟩
    have HQ := Lib.hid (And.intro m6 (And.intro (HM5.out.2.2.trans (e6.mono fun t _ ht => SX.one ht)) (HM5.out.2.1.ext e6)))
    clear m6 e6
    go_wp2_with fail
    refine bodyPost_ret (v := .tuple #[]) (results_none (by rfl) _ _ _) rfl ?_
    exact ⟨w.heap.size, rfl, G2, HQ.out.1, HQ.out.2.1, HQ.out.2.2⟩
 · go_enter Tryz.func166, Tryz.ntmps166
   go_wp2_with fail
   refine HPT.out.mono ?_
   rintro e w2 ⟨rfl, G2, m2, e2⟩
   have bx2 := HX1.out.1.ext e2
   have p1 := m2.p.wo.c1
   have HAt := Lib.hid (HATC.out _ _ m2.p.ar)
   have HM2 := Lib.hid (And.intro m2 (And.intro bx2 (HX1.out.2.trans e2)))
   clear m2 e2 bx2 HPT
   go_wp2_with fail
   refine HAt.out.mono ?_
   rintro e w3 ⟨rfl, hb3⟩
   have b4 := hb3.trans ((alloc_below w3 (.cells #[.string x.key, .string x.val, .int .u32 x.fl, .int .u64 x.id, .int .i64 x.dies, .int .i64 x.gen] 34)).mono hb3.size)
   have m4 := HM2.out.1.below b4
   have bx4 := HM2.out.2.1.below b4
   have BW := Bx.new (hi_below HM2.out.1.e.hi hb3) #[.string x.key, .string x.val, .int .u32 x.fl, .int .u64 x.id, .int .i64 x.dies, .int .i64 x.gen] 34 w3.heap.size rfl
   have hw3 : w3.heap.size < (w3.alloc (.cells #[.string x.key, .string x.val, .int .u32 x.fl, .int .u64 x.id, .int .i64 x.dies, .int .i64 x.gen] 34)).heap.size := by simp
   have HM4 := Lib.hid (And.intro m4 (And.intro bx4 (And.intro BW (HM2.out.2.2.below b4))))
   have y0 := bx4.c 0 _ rfl
   have y22 := m4.t.c 22 _ rfl
   have y3 := m4.t.c 3 _ rfl
   have w0' := BW.c 0 _ rfl
   have w1' := BW.c 1 _ rfl
   have w2' := BW.c 2 _ rfl
   have w3' := BW.c 3 _ rfl
   have w4' := BW.c 4 _ rfl
   have w5' := BW.c 5 _ rfl
   clear m4 bx4 BW b4 hb3 HAt HM2 p1
   go_upto_region 3 with fail
   go_region_held3 (fun w' => w'.cell? ⟨w.heap.size, 0, none⟩ = some (.pointer (some ⟨X, 0, none⟩)) ∧ w'.cell? ⟨X, 22, none⟩ = some (.int .u64 (s.M 8)) ∧ w'.cell? ⟨w3.heap.size, 0, none⟩ = some (.string x.key) ∧ w'.cell? ⟨w3.heap.size, 1, none⟩ = some (.string x.val) ∧ w'.cell? ⟨w3.heap.size, 2, none⟩ = some (.int .u32 x.fl) ∧ w'.cell? ⟨w3.heap.size, 3, none⟩ = some (.int .u64 x.id) ∧ w'.cell? ⟨w3.heap.size, 4, none⟩ = some (.int .i64 x.dies) ∧ w'.cell? ⟨w3.heap.size, 5, none⟩ = some (.int .i64 x.gen)) (go_keep)
    (first
      | (go_at_call 15
         refine (HAL.out _).mono ?_
         rintro e w5 ⟨rfl, hb5⟩
         have bd := (drew_below _).trans (hb5.mono (Nat.le_refl _))
         have m5 := HM4.out.1.below bd
         have bx5 := HM4.out.2.1.below bd
         have BW5 := HM4.out.2.2.1.below bd
         have y0 := bx5.c 0 _ rfl
         have y22 := m5.t.c 22 _ rfl
         have y3 := m5.t.c 3 _ rfl
         have y8 := m5.t.c 8 _ rfl
         have w0' := BW5.c 0 _ rfl
         have w1' := BW5.c 1 _ rfl
         have w2' := BW5.c 2 _ rfl
         have w3' := BW5.c 3 _ rfl
         have w4' := BW5.c 4 _ rfl
         have w5' := BW5.c 5 _ rfl
         have HM5 := Lib.hid (And.intro m5 (And.intro bx5 (HM4.out.2.2.2.below bd)))
         clear hb5 bd m5 bx5 BW5))
   all_goals
    rename_i hheld
    clear hheld HM4 HAL w0' w1' w2' w4' w5' y22
    go_upto_region 11 with fail
    go_quiet (fail)
    have bq : Below w5.heap.size w5 (w5.drewN nq) := below_drewN (Below.refl _ _) nq
    replace HM5 := Lib.hid (And.intro (HM5.out.1.below bq) (And.intro (HM5.out.2.1.below bq) (HM5.out.2.2.below bq)))
    have y0 := HM5.out.2.1.c 0 _ rfl
    have HAC := Lib.hid (c_goAccess (.func 227) #[] #[.pointer (some ⟨w.heap.size, 0, none⟩)] HM5.out.1 hk (Nat.le_refl _) (by omega))
    clear bq
    go_wp2_with fail
    refine HAC.out.mono ?_
    rintro e w6 ⟨rfl, m6, e6⟩
    have HQ := Lib.hid (And.intro m6 (And.intro (HM5.out.2.2.trans (e6.mono fun t _ ht => SX.one ht)) (HM5.out.2.1.ext e6)))
    clear m6 e6
    go_wp2_with fail
    refine bodyPost_ret (v := .tuple #[]) (results_none (by rfl) _ _ _) rfl ?_
    exact ⟨w.heap.size, rfl, G2, HQ.out.1, HQ.out.2.1, HQ.out.2.2⟩
 · go_enter Tryz.func166, Tryz.ntmps166
   go_wp2_with fail
   refine HPT.out.mono ?_
   rintro e w2 ⟨rfl, G2, m2, e2⟩
   have bx2 := HX1.out.1.ext e2
   have p1 := m2.p.wo.c1
   have HAt := Lib.hid (HATC.out _ _ m2.p.ar)
   have HM2 := Lib.hid (And.intro m2 (And.intro bx2 (HX1.out.2.trans e2)))
   clear m2 e2 bx2 HPT
   go_wp2_with fail
   refine HAt.out.mono ?_
   rintro e w3 ⟨rfl, hb3⟩
   have b4 := hb3.trans ((alloc_below w3 (.cells #[.string x.key, .string x.val, .int .u32 x.fl, .int .u64 x.id, .int .i64 x.dies, .int .i64 x.gen] 34)).mono hb3.size)
   have m4 := HM2.out.1.below b4
   have bx4 := HM2.out.2.1.below b4
   have BW := Bx.new (hi_below HM2.out.1.e.hi hb3) #[.string x.key, .string x.val, .int .u32 x.fl, .int .u64 x.id, .int .i64 x.dies, .int .i64 x.gen] 34 w3.heap.size rfl
   have hw3 : w3.heap.size < (w3.alloc (.cells #[.string x.key, .string x.val, .int .u32 x.fl, .int .u64 x.id, .int .i64 x.dies, .int .i64 x.gen] 34)).heap.size := by simp
   have HM4 := Lib.hid (And.intro m4 (And.intro bx4 (And.intro BW (HM2.out.2.2.below b4))))
   have y0 := bx4.c 0 _ rfl
   have y22 := m4.t.c 22 _ rfl
   have y3 := m4.t.c 3 _ rfl
   have w0' := BW.c 0 _ rfl
   have w1' := BW.c 1 _ rfl
   have w2' := BW.c 2 _ rfl
   have w3' := BW.c 3 _ rfl
   have w4' := BW.c 4 _ rfl
   have w5' := BW.c 5 _ rfl
   clear m4 bx4 BW b4 hb3 HAt HM2 p1
   go_upto_region 3 with fail
   go_region_held3 (fun w' => w'.cell? ⟨w.heap.size, 0, none⟩ = some (.pointer (some ⟨X, 0, none⟩)) ∧ w'.cell? ⟨X, 22, none⟩ = some (.int .u64 (s.M 8)) ∧ w'.cell? ⟨w3.heap.size, 0, none⟩ = some (.string x.key) ∧ w'.cell? ⟨w3.heap.size, 1, none⟩ = some (.string x.val) ∧ w'.cell? ⟨w3.heap.size, 2, none⟩ = some (.int .u32 x.fl) ∧ w'.cell? ⟨w3.heap.size, 3, none⟩ = some (.int .u64 x.id) ∧ w'.cell? ⟨w3.heap.size, 4, none⟩ = some (.int .i64 x.dies) ∧ w'.cell? ⟨w3.heap.size, 5, none⟩ = some (.int .i64 x.gen)) (go_keep)
    (first
      | (go_at_call 15
         refine (HAL.out _).mono ?_
         rintro e w5 ⟨rfl, hb5⟩
         have bd := (drew_below _).trans (hb5.mono (Nat.le_refl _))
         have m5 := HM4.out.1.below bd
         have bx5 := HM4.out.2.1.below bd
         have BW5 := HM4.out.2.2.1.below bd
         have y0 := bx5.c 0 _ rfl
         have y22 := m5.t.c 22 _ rfl
         have y3 := m5.t.c 3 _ rfl
         have y8 := m5.t.c 8 _ rfl
         have w0' := BW5.c 0 _ rfl
         have w1' := BW5.c 1 _ rfl
         have w2' := BW5.c 2 _ rfl
         have w3' := BW5.c 3 _ rfl
         have w4' := BW5.c 4 _ rfl
         have w5' := BW5.c 5 _ rfl
         have HM5 := Lib.hid (And.intro m5 (And.intro bx5 (HM4.out.2.2.2.below bd)))
         clear hb5 bd m5 bx5 BW5))
   all_goals
    rename_i hheld
    clear hheld HM4 HAL w0' w1' w2' w4' w5' y22
    go_upto_region 11 with fail
    go_quiet (fail)
    have bq : Below w5.heap.size w5 (w5.drewN nq) := below_drewN (Below.refl _ _) nq
    replace HM5 := Lib.hid (And.intro (HM5.out.1.below bq) (And.intro (HM5.out.2.1.below bq) (HM5.out.2.2.below bq)))
    have y0 := HM5.out.2.1.c 0 _ rfl
    have HAC := Lib.hid (c_goAccess (.func 227) #[] #[.pointer (some ⟨w.heap.size, 0, none⟩)] HM5.out.1 hk (Nat.le_refl _) (by omega))
    clear bq
    go_wp2_with fail
    refine HAC.out.mono ?_
    rintro e w6 ⟨rfl, m6, e6⟩
    have HQ := Lib.hid (And.intro m6 (And.intro (HM5.out.2.2.trans (e6.mono fun t _ ht => SX.one ht)) (HM5.out.2.1.ext e6)))
    clear m6 e6
    go_wp2_with fail
    refine bodyPost_ret (v := .tuple #[]) (results_none (by rfl) _ _ _) rfl ?_
    exact ⟨w.heap.size, rfl, G2, HQ.out.1, HQ.out.2.1, HQ.out.2.2⟩
end
end
section
open Go.RowKit
theorem PW.itm {w w' : World} {O O' : Om} {B : Wb} {f : Cf} {s : AW} {l : List It} (h : PW w O B f s) (e : Ext (fun t => t = 3) O w O' w') (hc : Ar w' O' 3 B.ip l) : PW w' O' B f ⟨s.M, s.n, s.la, s.tk, s.ho, l, s.nt⟩ :=
 ⟨(e.lo _ h.wo.lt).trans h.o, h.wo.wrote e.wr (fun k => absurd (show (1 : Nat) = 3 from by have := k.1; rwa [h.o] at this) (by decide)), h.ce.ext e (by decide) (by decide), hc, h.no.ext e (by decide)⟩
def clCs (c : Clm) : List Value := [.int .u8 c.verb, .string c.key, .string c.val, .int .u32 c.fl, .int .i64 c.exp, .int .u64 c.id, .int .u64 c.by_]
section
variable {w w0 : World} {O O0 : Om} {B : Wb} {f : Cf} {s : AW} {k X : Nat} {op th ac : Value} {tl : List Value} {c : Clm} {p : Spt} {an nu ep pt : Int}
theorem c_StRecords {K : FuncId} {R : World → Prop} (M : Me k (k + 30) w0 O0 w O B f s k X (stCs op th ac c p an nu ep pt)) (hK : enters K) (hep : 0 ≤ ep ∧ ep ≤ 18446744073709551615) (hex : -9223372036854775808 ≤ c.exp ∧ c.exp ≤ 9223372036854775807) (hil : s.it.length ≤ 1000000) (hk : 10 ≤ k) (n0 : 0 ≤ s.n) (n1 : s.n ≤ 4611686018427387904)
 (HT : ∀ W G, Me k (k + 30) w0 O0 W G B f (awItem (stIt c ((s.M 7 + 1) % 18446744073709551616) ep) (awAdd 7 1 s)) k X (stCs op th ac c p an nu ep pt) → Ext (SX k (k + 30)) O w G W → Calls Tryz.prog K #[.pointer (some ⟨X, 0, none⟩), .pointer (some ⟨B.p, 0, none⟩), .int .i64 (s.it.length + 1 : Nat), .int .u64 ((s.M 7 + 1) % 18446744073709551616)] W fun e w' => e = .returned (.tuple #[]) ∧ R w') :
 Calls Tryz.prog 228 #[.pointer (some ⟨X, 0, none⟩), .pointer (some ⟨B.p, 0, none⟩), .func (.func K) #[.pointer (some ⟨X, 0, none⟩)] #[]] w fun e w' => e = .returned (.tuple #[]) ∧ R w' := by
 unfold enters at hK
 rw [← IntKind.wrap_u64 (s.M 7 + 1)] at HT
 have HAD := Lib.hid (c_AddP 7 1 M.p M.e.hi (by decide) (by decide) (by decide) (by decide) n0 n1)
 have HDI := Lib.hid (fun W => c_Dies ep c.exp W hep.1 hep.2 hex.1 hex.2)
 have HGE := Lib.hid (fun W => c_Gen ep W hep.1 hep.2)
 have HIA := Lib.hid (fun (W : World) (G : Om) (q : Ar W G 3 B.ip s.it) (hh : ∀ j, G j ≠ 0 → j < W.heap.size) => c_IAdd (stIt c (IntKind.u64.wrap (s.M 7 + 1)) ep) q (by decide) hil hh)
 have HTH := Lib.hid HT
 have p0 := M.p.wo.c0
 have HM := Lib.hid M
 clear M HT hep hex hil n0 n1
 go_enter Tryz.func228, Tryz.ntmps228
 go_wp2_with fail
 refine HAD.out.mono ?_
 rintro e w1 ⟨rfl, G1, e1, p1⟩
 have m1 := HM.out.world hk e1 p1
 have q3 := m1.t.c 3 _ rfl
 have q4 := m1.t.c 4 _ rfl
 have q5 := m1.t.c 5 _ rfl
 have q6 := m1.t.c 6 _ rfl
 have q7 := m1.t.c 7 _ rfl
 have q8 := m1.t.c 8 _ rfl
 have q9 := m1.t.c 9 _ rfl
 obtain ⟨w2, hw2⟩ : ∃ W, W = w1.alloc (.cells #[.int .u8 c.verb, .string c.key, .string c.val, .int .u32 c.fl, .int .i64 c.exp, .int .u64 c.id, .int .u64 c.by_] 26) := ⟨_, rfl⟩
 have ba : Below w1.heap.size w1 w2 := by rw [hw2]; exact alloc_below _ _
 have m2 := m1.below ba
 have BC : Bx w2 G1 w1.heap.size (clCs c) := by rw [hw2]; exact Bx.new m1.e.hi _ _ _ rfl
 have hE := (e1.mono (T := SX k (k + 30)) fun t _ ht => .inl ht).below ba
 have r22 := m2.t.c 22 _ rfl
 have r1 := m2.p.wo.c1
 have c1 := BC.c 1 _ rfl
 have c2 := BC.c 2 _ rfl
 have c3 := BC.c 3 _ rfl
 have c4 := BC.c 4 _ rfl
 have HJ := Lib.hid (And.intro (m2.below (drew_below _)) (And.intro (BC.below (drew_below _)) (hE.below (drew_below _))))
 clear m1 m2 ba BC hE e1 p1 HM HAD
 go_upto_region 2 with fail
 rw [← hw2]
 clear hw2 q3 q4 q5 q6 q7 q8 q9 p0
 obtain ⟨id, hid⟩ : ∃ id, id = IntKind.u64.wrap (s.M 7 + 1) := ⟨_, rfl⟩
 rw [← hid] at HIA HTH ⊢
 clear hid
 obtain ⟨cb, hcb⟩ : ∃ n, n = w1.heap.size := ⟨_, rfl⟩
 rw [← hcb] at c1 c2 c3 c4 HJ ⊢
 clear hcb
 go_region_held3 (fun w' => w'.cell? ⟨X, 22, none⟩ = some (.int .u64 ep) ∧ w'.cell? ⟨B.p, 1, none⟩ = some (.pointer (some ⟨B.ip, 0, none⟩)) ∧ w'.cell? ⟨cb, 1, none⟩ = some (.string c.key) ∧ w'.cell? ⟨cb, 2, none⟩ = some (.string c.val) ∧ w'.cell? ⟨cb, 3, none⟩ = some (.int .u32 c.fl) ∧ w'.cell? ⟨cb, 4, none⟩ = some (.int .i64 c.exp)) (go_keep)
  (first
    | (go_at_call 37
       refine (HDI.out _).mono ?_
       rintro e w3 ⟨rfl, hb⟩
       replace HJ := Lib.hid (And.intro (HJ.out.1.below hb) (And.intro (HJ.out.2.1.below hb) (HJ.out.2.2.below hb)))
       clear hb
       have r22 := HJ.out.1.t.c 22 _ rfl
       have r1 := HJ.out.1.p.wo.c1
       have c1 := HJ.out.2.1.c 1 _ rfl
       have c2 := HJ.out.2.1.c 2 _ rfl
       have c3 := HJ.out.2.1.c 3 _ rfl
       have c4 := HJ.out.2.1.c 4 _ rfl)
    | (go_at_call 49
       refine (HGE.out _).mono ?_
       rintro e w3 ⟨rfl, hb⟩
       replace HJ := Lib.hid (And.intro (HJ.out.1.below hb) (And.intro (HJ.out.2.1.below hb) (HJ.out.2.2.below hb)))
       clear hb
       have r22 := HJ.out.1.t.c 22 _ rfl
       have r1 := HJ.out.1.p.wo.c1
       have c1 := HJ.out.2.1.c 1 _ rfl
       have c2 := HJ.out.2.1.c 2 _ rfl
       have c3 := HJ.out.2.1.c 3 _ rfl
       have c4 := HJ.out.2.1.c 4 _ rfl)
    | (go_at_call 111
       refine (HIA.out _ _ HJ.out.1.p.ar HJ.out.1.e.hi).mono ?_
       rintro e w5 ⟨rfl, G5, e5, a5⟩
       have em := e5.mono (T := SX k (k + 30)) fun t _ ht => .inl (by omega)
       have m5 : Me k (k + 30) w0 O0 w5 G5 B f (awItem (stIt c id ep) (awAdd 7 1 s)) k X (stCs op th ac c p an nu ep pt) := ⟨HJ.out.1.e.trans em, HJ.out.1.p.itm e5 a5, HJ.out.1.t.ext e5 (by omega)⟩
       have b5 := HJ.out.2.1.ext e5
       have r22 := m5.t.c 22 _ rfl
       have r1 := m5.p.wo.c1
       have c1 := b5.c 1 _ rfl
       have c2 := b5.c 2 _ rfl
       have c3 := b5.c 3 _ rfl
       have c4 := b5.c 4 _ rfl
       have HT5 := Lib.hid (HTH.out _ _ m5 (HJ.out.2.2.trans em))
       clear em m5 b5 e5 a5))
 all_goals
  clear HJ HTH HIA HDI HGE
  go_wp2_with fail
  refine HT5.out.mono ?_
  rintro e w6 ⟨rfl, h⟩
  have HR := Lib.hid h
  clear h
  go_wp2_with fail
  go_end0
  exact ⟨rfl, HR.out⟩
end
end
section
open Go.RowKit
def REP1V (bx br bi : Nat) : Value := .func (.func 265) #[] #[.pointer (some ⟨bx, 0, none⟩), .pointer (some ⟨br, 0, none⟩), .pointer (some ⟨bi, 0, none⟩)]
theorem box_more {k : Nat} {w0 w : World} {O0 O : Om} {B : Wb} {f : Cf} {s : AW} {X : Nat} {cs : List Value} (M : Me k (k + 30) w0 O0 w O B f s k X cs) (v : Value) (ty : TypeId) (n : Nat) (hn : n = w.heap.size) :
 Me k (k + 30) w0 O0 (w.alloc (.cells #[v] ty)) O B f s k X cs ∧ Bx (w.alloc (.cells #[v] ty)) O n [v] ∧ Below w.heap.size w (w.alloc (.cells #[v] ty)) := ⟨M.below (alloc_below _ _), Bx.new M.e.hi #[v] ty n hn, alloc_below _ _⟩
section
variable {w w0 : World} {O O0 : Om} {B : Wb} {f : Cf} {s : AW} {k X : Nat} {op th ac : Value} {tl : List Value} {c : Clm} {p : Spt} {an nu ep pt : Int}
theorem c_StReplaces {r id : Int} (wv : Value) (M : Me k (k + 30) w0 O0 w O B f s k X (op :: th :: ac :: tl)) (hk : 10 ≤ k) :
 Calls Tryz.prog 229 #[.pointer (some ⟨X, 0, none⟩), wv, .int .i64 r, .int .u64 id] w fun e w' => ∃ bx br bi, StQ k w0 O0 w O B f s X .nilIface th (REP1V bx br bi) tl (fun W G => Bx W G bx [.pointer (some ⟨X, 0, none⟩)] ∧ Bx W G br [.int .i64 r] ∧ Bx W G bi [.int .u64 id]) e w' := by
 obtain ⟨m1, x1, b1⟩ := box_more M (.pointer (some ⟨X, 0, none⟩)) 134 w.heap.size rfl
 obtain ⟨m2, x2, b2⟩ := box_more m1 (.int .i64 r) 3 (w.heap.size + 1) (by simp)
 obtain ⟨m3, x3, b3⟩ := box_more m2 (.int .u64 id) 24 (w.heap.size + 2) (by simp)
 have hx := (x1.below b2).below b3
 have hr := x2.below b3
 have hE := Ext.of_below (S := SX k (k + 30)) M.e.hi (b1.trans ((b2.trans (b3.mono b2.size)).mono b1.size))
 have HS := Lib.hid (c_goAccess (.func 265) #[] #[.pointer (some ⟨w.heap.size, 0, none⟩), .pointer (some ⟨w.heap.size + 1, 0, none⟩), .pointer (some ⟨w.heap.size + 2, 0, none⟩)] m3 hk (Nat.le_refl _) (by omega))
 have HB := Lib.hid (And.intro hx (And.intro hr (And.intro x3 hE)))
 have q0 := hx.c 0 _ rfl
 clear M m1 x1 b1 m2 x2 b2 m3 x3 b3 hx hr hE
 go_enter Tryz.func229, Tryz.ntmps229
 go_wp2_with fail
 refine HS.out.mono ?_
 rintro e w4 ⟨rfl, m4, e4⟩
 have HQ := Lib.hid (And.intro m4 e4)
 clear m4 e4
 go_wp2_with fail
 go_end0
 obtain ⟨h1, h2, h3, h4⟩ := HB.out
 obtain ⟨m4, e4⟩ := HQ.out
 exact ⟨_, _, _, rfl, O, m4, h4.trans (e4.mono fun t _ ht => SX.one ht), h1.ext e4, h2.ext e4, h3.ext e4⟩
theorem c_StRep1 {r id : Int} {bx br bi : Nat} (M : Me k (k + 30) w0 O0 w O B f s k X (stCs op th ac c p an nu ep pt)) (hp : p.ok) (hx : Bx w O bx [.pointer (some ⟨X, 0, none⟩)]) (hr : Bx w O br [.int .i64 r]) (hi : Bx w O bi [.int .u64 id]) (r0 : 0 ≤ r) (r1 : r ≤ 9223372036854775807) (hk : 10 ≤ k) (n0 : 0 ≤ s.n) (n1 : s.n ≤ 4611686018427387904) :
 Calls Tryz.prog 265 #[.pointer (some ⟨B.p, 0, none⟩), .pointer (some ⟨bx, 0, none⟩), .pointer (some ⟨br, 0, none⟩), .pointer (some ⟨bi, 0, none⟩)] w fun e w' => ∃ Mk, StQ k w0 O0 w O B f (awStore p.item r s) X (.iface 246 (.pointer (some ⟨Mk, 0, none⟩))) (GIVESV X) .nilFunc (stTl c p 1 id ep pt) (fun W G => MkAt W G (k + 6) Mk [p.ver]) e w' := by
 have hw : IntKind.u64.wrap r = r := by rw [IntKind.wrap_u64]; omega
 have ht := hp.item
 have hq := hp.q2
 have HIT := Lib.hid (fun W => c_Item p.b p.q p.s W (by have := hp.b0; omega) (by have := hp.b1; omega) (by have := hp.q0; omega) (by omega) (by have := hp.s0; omega) (by have := hp.s1; omega))
 rw [show plItem p.b p.q p.s = p.item from rfl] at HIT
 have HST := Lib.hid (fun (W : World) (G : Om) (q : PW W G B f s) (hh : ∀ j, G j ≠ 0 → j < W.heap.size) => c_StoreP p.item (IntKind.u64.wrap r) q hh (by omega) (by omega) (by rw [hw]; exact r0) (by rw [hw]; omega) n0 n1)
 have HP := Lib.hid hp
 have HW := Lib.hid hw
 have HJ := Lib.hid (And.intro (M.below (drew_below w)) (And.intro (hx.below (drew_below w)) (And.intro (hr.below (drew_below w)) (And.intro (hi.below (drew_below w)) (Ext.of_below (S := SX k (k + 30)) M.e.hi (drew_below w))))))
 have q0 := hx.c 0 _ rfl
 have q1 := hr.c 0 _ rfl
 have q2 := hi.c 0 _ rfl
 have p0 := M.p.wo.c0
 have z11 := M.t.c 11 _ rfl
 have z12 := M.t.c 12 _ rfl
 have z13 := M.t.c 13 _ rfl
 clear M hp hx hr hi hw ht hq r0 r1 n0 n1
 go_enter Tryz.func265, Tryz.ntmps265
 go_wp2_with fail
 go_region_held3 (fun w' => w'.cell? ⟨bx, 0, none⟩ = some (.pointer (some ⟨X, 0, none⟩)) ∧ w'.cell? ⟨br, 0, none⟩ = some (.int .i64 r) ∧ w'.cell? ⟨B.p, 0, none⟩ = some (.pointer (some ⟨B.c, 0, none⟩)) ∧ w'.cell? ⟨X, 11, none⟩ = some (.int .i64 p.b) ∧ w'.cell? ⟨X, 12, none⟩ = some (.int .i64 p.q) ∧ w'.cell? ⟨X, 13, none⟩ = some (.int .i64 p.s)) (go_keep)
  (first
    | (go_at_call 154
       refine (HIT.out _).mono ?_
       rintro e w1 ⟨rfl, hb⟩
       replace HJ := Lib.hid (And.intro (HJ.out.1.below hb) (And.intro (HJ.out.2.1.below hb) (And.intro (HJ.out.2.2.1.below hb) (And.intro (HJ.out.2.2.2.1.below hb) (HJ.out.2.2.2.2.below hb)))))
       clear hb
       have q0 := HJ.out.2.1.c 0 _ rfl
       have q1 := HJ.out.2.2.1.c 0 _ rfl
       have p0 := HJ.out.1.p.wo.c0
       have z11 := HJ.out.1.t.c 11 _ rfl
       have z12 := HJ.out.1.t.c 12 _ rfl
       have z13 := HJ.out.1.t.c 13 _ rfl)
    | (go_at_call 50
       refine (HST.out _ _ HJ.out.1.p HJ.out.1.e.hi).mono ?_
       rintro e w2 ⟨rfl, G2, e2, p2⟩
       rw [HW.out] at p2
       have HJ2 := Lib.hid (And.intro (HJ.out.1.world hk e2 p2) (And.intro (HJ.out.2.1.ext e2) (And.intro (HJ.out.2.2.1.ext e2) (And.intro (HJ.out.2.2.2.1.ext e2) (HJ.out.2.2.2.2.trans (e2.mono fun t _ ht => .inl ht))))))
       clear e2 p2
       have q0 := HJ2.out.2.1.c 0 _ rfl
       have q1 := HJ2.out.2.2.1.c 0 _ rfl
       have q2 := HJ2.out.2.2.2.1.c 0 _ rfl
       have p0 := HJ2.out.1.p.wo.c0
       have z11 := HJ2.out.1.t.c 11 _ rfl
       have z12 := HJ2.out.1.t.c 12 _ rfl
       have z13 := HJ2.out.1.t.c 13 _ rfl))
 all_goals
  clear HJ HIT HST
  have HTL := Lib.hid (c_StTells 1 id HJ2.out.1 hk)
  go_wp2_with fail
  refine HTL.out.mono ?_
  rintro e w3 ⟨rfl, m3, e3⟩
  have q0 := (HJ2.out.2.1.ext e3).c 0 _ rfl
  have HCL := Lib.hid (c_StCloses (.pointer (some ⟨B.p, 0, none⟩)) m3 HP.out hk)
  have HE := Lib.hid (HJ2.out.2.2.2.2.trans (e3.mono fun t _ ht => SX.one ht))
  clear m3 e3 HTL
  go_wp2_with fail
  refine HCL.out.mono ?_
  rintro e w4 ⟨Mk, rfl, G4, m4, e4, k4⟩
  have HQ := Lib.hid (And.intro m4 (And.intro (HE.out.trans e4) k4))
  clear m4 e4 k4
  go_wp2_with fail
  go_end0
  exact ⟨Mk, rfl, G4, HQ.out.1, HQ.out.2.1, HQ.out.2.2⟩
theorem c_StMissing (M : Me k (k + 30) w0 O0 w O B f s k X (stCs op th ac c p an nu ep pt)) (hk : 10 ≤ k) (n0 : 0 ≤ s.n) (n1 : s.n ≤ 4611686018427387904) :
 Calls Tryz.prog 167 #[.pointer (some ⟨X, 0, none⟩), .pointer (some ⟨B.p, 0, none⟩)] w fun e w' => ∃ V, StQ k w0 O0 w O B f (awLoad 8 s) X (.iface 219 (.pointer (some ⟨V, 0, none⟩))) (.func (.func 266) #[.pointer (some ⟨X, 0, none⟩)] #[]) .nilFunc (stTl c p (if c.verb = 6 then 4 else 2) 0 (s.M 8) (s.n + 1)) (fun W G => Ob W G (k + 8) V [.int .i64 1]) e w' := by
 have HPT := Lib.hid (c_StPoints M hk n0 n1)
 clear M n0 n1
 by_cases h6 : c.verb = 6
 · rw [if_pos h6]
   have d6 : (c.verb == 6) = true := by simp [h6]
   clear h6
   go_enter Tryz.func167, Tryz.ntmps167
   go_wp2_with fail
   refine HPT.out.mono ?_
   rintro e w1 ⟨rfl, G1, m1, e1⟩
   have HTL := Lib.hid (c_StTells 2 0 m1 hk)
   have HE := Lib.hid e1
   clear m1 e1 HPT
   go_wp2_with fail
   refine HTL.out.mono ?_
   rintro e w2 ⟨rfl, m2, e2⟩
   have y3 := m2.t.c 3 _ rfl
   have HT2 := Lib.hid (c_StTells 4 0 m2 hk)
   have HE2 := Lib.hid (HE.out.trans (e2.mono fun t _ ht => SX.one ht))
   clear m2 e2 HTL HE
   go_wp2_with fail
   refine HT2.out.mono ?_
   rintro e w3 ⟨rfl, m3, e3⟩
   have HG := Lib.hid (c_StGives (.pointer (some ⟨B.p, 0, none⟩)) m3 hk)
   have HE3 := Lib.hid (HE2.out.trans (e3.mono fun t _ ht => SX.one ht))
   clear m3 e3 HT2 HE2
   go_wp2_with fail
   refine HG.out.mono ?_
   rintro e w4 ⟨V, rfl, G4, m4, e4, k4⟩
   have HQ := Lib.hid (And.intro m4 (And.intro (HE3.out.trans e4) k4))
   clear m4 e4 k4
   go_wp2_with fail
   go_end0
   exact ⟨V, rfl, G4, HQ.out.1, HQ.out.2.1, HQ.out.2.2⟩
 · rw [if_neg h6]
   have d6 : (c.verb == 6) = false := by simp [h6]
   clear h6
   go_enter Tryz.func167, Tryz.ntmps167
   go_wp2_with fail
   refine HPT.out.mono ?_
   rintro e w1 ⟨rfl, G1, m1, e1⟩
   have HTL := Lib.hid (c_StTells 2 0 m1 hk)
   have HE := Lib.hid e1
   clear m1 e1 HPT
   go_wp2_with fail
   refine HTL.out.mono ?_
   rintro e w2 ⟨rfl, m2, e2⟩
   have y3 := m2.t.c 3 _ rfl
   have HG := Lib.hid (c_StGives (.pointer (some ⟨B.p, 0, none⟩)) m2 hk)
   have HE3 := Lib.hid (HE.out.trans (e2.mono fun t _ ht => SX.one ht))
   clear m2 e2 HTL HE
   go_wp2_with fail
   refine HG.out.mono ?_
   rintro e w4 ⟨V, rfl, G4, m4, e4, k4⟩
   have HQ := Lib.hid (And.intro m4 (And.intro (HE3.out.trans e4) k4))
   clear m4 e4 k4
   go_wp2_with fail
   go_end0
   exact ⟨V, rfl, G4, HQ.out.1, HQ.out.2.1, HQ.out.2.2⟩
end
end
end Go.Proofs.YtifkfhnbkjkakaaGreatDoor
