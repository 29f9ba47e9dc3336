/- Layer 26: the program's Change: it counts (line 8). -/
import Derived.Test.YtifkfhnbkjkakaaGreatDoorZrCg4
import Derived.Test.YtifkfhnbkjkakaaGreatDoorZrNuV
import Derived.Test.YtifkfhnbkjkakaaGreatDoorZrHf
namespace Go.Proofs.YtifkfhnbkjkakaaGreatDoor
set_option linter.unusedSimpArgs false
set_option linter.unusedVariables false
set_option maxHeartbeats 8000000
set_option maxRecDepth 100000
open Go.RowKit
def CN1V (bi : Nat) : Value := ACCV (.func 192) #[] #[.pointer (some ⟨bi, 0, none⟩)]
def CN2V (bx bi bn : Nat) : Value := .func (.func 193) #[] #[.pointer (some ⟨bx, 0, none⟩), .pointer (some ⟨bi, 0, none⟩), .pointer (some ⟨bn, 0, none⟩)]
section
variable {w w0 : World} {O O0 : Om} {B : Wb} {f : Cf} {s : AW} {a b k X : Nat} {pv th : Value} {tl : List Value} {c : Clm} {p : Spt} {x : It} {rf an nu ep pt : Int}
theorem c_ChCountsN (gf : Fn) (gb gc : Array Value) (hn : nuParse x.val = none) (hv : x.val.size ≤ maxLen) (V : Va w O) (M : Me k (k + 30) w0 O0 w O B f s k X (chCs c pv th (chTl p x rf an nu ep pt))) (hp : p.ok) (hk : 10 ≤ k) :
 Calls Tryz.prog 127 #[.pointer (some ⟨X, 0, none⟩), .func gf gb gc] w fun e w' => ∃ Mk bx bk, ChQ k w0 O0 w O B f s X c (.iface 246 (.pointer (some ⟨Mk, 0, none⟩))) (MKSV bx bk) (chTl p x rf 9 nu ep pt) (fun W G => MkAt W G (k + 6) Mk [p.ver] ∧ Bx W G bx [.pointer (some ⟨X, 0, none⟩)] ∧ Bx W G bk [.int .u8 9]) e w' := by
 obtain ⟨m1, x1, b1⟩ := box_more M (.pointer (some ⟨X, 0, none⟩)) 78 w.heap.size rfl
 have HPA := Lib.hid (c_nuParse x.val hv (V.below b1))
 rw [hn] at HPA
 have q0 := x1.c 0 _ rfl
 have q13 := m1.t.c 13 _ rfl
 have HM := Lib.hid (And.intro m1 (And.intro x1 (Ext.of_below (S := SX k (k + 30)) M.e.hi b1)))
 have HP := Lib.hid hp
 clear M m1 x1 b1 V hn hv hp
 go_enter Tryz.func127, Tryz.ntmps127
 go_wp2_with fail
 refine HPA.out.mono ?_
 rintro e w2 ⟨rfl, hb⟩
 have bb := hb.trans ((alloc_below w2 (.cells #[.int .u64 0] 24)).mono hb.size)
 have m3 := HM.out.1.below bb
 have x3 := HM.out.2.1.below bb
 have q0 := x3.c 0 _ rfl
 have HMK := Lib.hid (c_ChMarks 9 m3 HP.out hk)
 have HE := Lib.hid (HM.out.2.2.below bb)
 clear m3 x3 bb hb HM HPA q13
 go_wp2_with fail
 refine HMK.out.mono ?_
 rintro e w4 ⟨Mk, bx, bk, rfl, G, m, e4, h⟩
 have HR := Lib.hid (And.intro m (And.intro (HE.out.trans e4) h))
 clear m e4 h
 go_wp2_with fail
 refine bodyPost_ret (v := .tuple #[]) (results_none (by rfl) _ _ _) rfl ?_
 exact ⟨Mk, bx, bk, rfl, G, HR.out⟩
theorem c_ChCountsY {n m : Int} (KF : FuncId) (hKF : ∀ args W, (callFunc KF args).run Tryz.prog W = .ok (.enter KF args) W) (hBY : ∀ W, Calls Tryz.prog KF #[.int .u64 n, .int .u64 c.by_] W fun e w' => e = .returned (.int .u64 m) ∧ W = w') (hn : nuParse x.val = some n) (m0 : 0 ≤ m) (m1 : m < 18446744073709551616) (hv : x.val.size ≤ maxLen) (V : Va w O) (M : Me k (k + 30) w0 O0 w O B f s k X (chCs c pv th (chTl p x rf an nu ep pt))) (hk : 10 ≤ k) :
 Calls Tryz.prog 127 #[.pointer (some ⟨X, 0, none⟩), .func (.func KF) #[] #[]] w fun e w' => ∃ bx bi bn, ChQ k w0 O0 w O B f s X c (CN1V bi) (CN2V bx bi bn) (chTl p x rf an nu ep pt) (fun W G => Bx W G bx [.pointer (some ⟨X, 0, none⟩)] ∧ Ob W G (k + 10) bi (itCs { x with val := nuText m }) ∧ Ob W G (k + 11) bn [.int .u64 m]) e w' := by
 obtain ⟨M1, x1, b1⟩ := box_more M (.pointer (some ⟨X, 0, none⟩)) 78 w.heap.size rfl
 have HPA := Lib.hid (c_nuParse x.val hv (V.below b1))
 rw [hn] at HPA
 have q0 := x1.c 0 _ rfl
 have q13 := M1.t.c 13 _ rfl
 have HM := Lib.hid (And.intro M1 (And.intro x1 (And.intro (Ext.of_below (S := SX k (k + 30)) M.e.hi b1) (V.below b1))))
 have HTX := Lib.hid (fun (W : World) (G : Om) (v : Va W G) => c_nuText m m0 m1 v)
 have HBY := Lib.hid hBY
 obtain ⟨bx, hbx⟩ : ∃ y, y = w.heap.size := ⟨_, rfl⟩
 clear M M1 x1 b1 V hn hv hBY m0 m1
 go_enter Tryz.func127, Tryz.ntmps127
 go_wp2_with fail
 refine HPA.out.mono ?_
 rintro e w2 ⟨rfl, hb⟩
 have HM2 := Lib.hid (And.intro (HM.out.1.below hb) (And.intro (HM.out.2.1.below hb) (And.intro (HM.out.2.2.1.below hb) (HM.out.2.2.2.below hb))))
 obtain ⟨G3, e3, n3, -⟩ := alloc_ob HM2.out.1.e.hi (k + 11) #[.int .u64 n] 24 w2.heap.size rfl
 obtain ⟨M3, em3⟩ := HM2.out.1.ow e3 (by intro t ht; omega) hk
 have x3 := HM2.out.2.1.ext e3
 obtain ⟨G4, e4, i4, -⟩ := alloc_ob M3.e.hi (k + 10) (itCs x).toArray 34 (w2.heap.size + 1) (by simp)
 obtain ⟨M4, em4⟩ := M3.ow e4 (by intro t ht; omega) hk
 have i4 : Ob ((w2.alloc (.cells #[.int .u64 n] 24)).alloc (.cells (itCs x).toArray 34)) G4 (k + 10) (w2.heap.size + 1) (itCs x) := i4
 have n4 := n3.ext e4 (by omega)
 have y0 := x3.c 0 _ rfl
 have q12 := M3.t.c 12 _ rfl
 have q13 := M3.t.c 13 _ rfl
 have q14 := M3.t.c 14 _ rfl
 have q15 := M3.t.c 15 _ rfl
 have q16 := M3.t.c 16 _ rfl
 have q17 := M3.t.c 17 _ rfl
 obtain ⟨W, hW⟩ : ∃ W, W = (w2.alloc (.cells #[.int .u64 n] 24)).alloc (.cells (itCs x).toArray 34) := ⟨_, rfl⟩
 rw [← hW] at M4 em4 i4 n4 e4
 have HM4 := Lib.hid (And.intro M4 (And.intro (x3.ext e4) (And.intro ((HM2.out.2.2.1.trans em3).trans em4) (And.intro ((HM2.out.2.2.2.ext e3).ext e4) (And.intro i4 n4)))))
 unfold itCs at hW
 obtain ⟨bn, hbn⟩ : ∃ y, y = w2.heap.size := ⟨_, rfl⟩
 obtain ⟨bi, hbi⟩ : ∃ y, y = w2.heap.size + 1 := ⟨_, rfl⟩
 rw [← hbi, ← hbn, ← hbx] at HM4
 clear hb HM HM2 e3 n3 M3 em3 x3 e4 i4 M4 em4 n4 HPA
 go_upto_region 5 with fail
 rw [← hW, ← hbi, ← hbn, ← hbx]
 clear hW hbi hbn hbx q0 y0 q12 q13 q14 q15 q16 q17
 have y0 := HM4.out.2.1.c 0 _ rfl
 have n0 := HM4.out.2.2.2.2.2.c 0 _ rfl
 have nf := HM4.out.2.2.2.2.2.f 0
 have q6 := HM4.out.1.t.c 6 _ rfl
 have bd := drew_below W
 have e5 := Ext.of_set (w := W.drew) (j := 0) (v := .int .u64 m) (S := fun t => t = k + 11) (hi_below HM4.out.1.e.hi bd) (HM4.out.2.2.2.2.2.o) (by omega) rfl
 have d5 := (HM4.out.2.2.2.2.2.below bd).set 0 (.int .u64 m) (by simp)
 have m5 := (HM4.out.1.below bd).ow e5 (by intro t ht; omega) hk
 have HR := Lib.hid (And.intro m5.1 (And.intro ((HM4.out.2.1.below bd).ext e5) (And.intro ((HM4.out.2.2.1.below bd).trans m5.2) (And.intro ((HM4.out.2.2.2.1.below bd).ext e5) (And.intro ((HM4.out.2.2.2.2.1.below bd).ext e5 (by omega)) d5)))))
 clear bd e5 d5 m5
 go_cut [4] (fun v wx => v = .pointer (some ⟨bn, 0, none⟩) ∧ Me k (k + 30) w0 O0 wx G4 B f s k X (chCs c pv th (chTl p x rf an nu ep pt)) ∧ Bx wx G4 bx [.pointer (some ⟨X, 0, none⟩)] ∧ Ext (SX k (k + 30)) O w G4 wx ∧ Va wx G4 ∧ Ob wx G4 (k + 10) bi (itCs x) ∧ Ob wx G4 (k + 11) bn [.int .u64 m])
 case first =>
  have hS : Hid (W.drew.cell? ⟨bn, 0, none⟩ = some (.int .u64 n) ∧ W.drew.cell? ⟨bx, 0, none⟩ = some (.pointer (some ⟨X, 0, none⟩)) ∧ W.drew.cell? ⟨X, 6, none⟩ = some (.int .u64 c.by_)) := Lib.hid ⟨n0, y0, q6⟩
  refine wp_region_F 8 (S := fun w' => w'.cell? ⟨bn, 0, none⟩ = some (.int .u64 n) ∧ w'.cell? ⟨bx, 0, none⟩ = some (.pointer (some ⟨X, 0, none⟩)) ∧ w'.cell? ⟨X, 6, none⟩ = some (.int .u64 c.by_)) (by kernel_rfl) ?sA (fun hH0 => ?_)
  case sA => exact hS.out
  obtain ⟨wd, hwd⟩ : ∃ z, z = W.drew := ⟨_, rfl⟩
  have nfd : W.drew.frozen? ⟨bn, 0, none⟩ = false := nf
  rw [← hwd] at hH0 HR hS nfd ⊢
  clear hwd
  try simp only [Act.put, List.setIfInBounds_toArray, List.set_cons_zero, List.set_cons_succ]
  refine' wpAnyF_take (i := 0) (List.getElem?_toArray.trans rfl) (by kernel_rfl) (by kernel_rfl) (by kernel_rfl) (by kernel_rfl) (fun _ _ _ h => h) (Or.inl ⟨by rfl, ?y1⟩) hH0 ?r1
  case y1 => (intro w hSw; (try dsimp only at hSw); go_simp; try with_reducible rfl)
  try simp only [Act.put, List.setIfInBounds_toArray, List.set_cons_zero, List.set_cons_succ]
  refine' wpAnyF_take (i := 1) (List.getElem?_toArray.trans rfl) (by kernel_rfl) (by kernel_rfl) (by kernel_rfl) (by kernel_rfl) (fun _ _ _ h => h) (Or.inl ⟨by rfl, ?y2⟩) hH0 ?r2
  case y2 => (intro w hSw; (try dsimp only at hSw); go_simp; try with_reducible rfl)
  try simp only [Act.put, List.setIfInBounds_toArray, List.set_cons_zero, List.set_cons_succ]
  refine' wpAnyF_take (i := 2) (List.getElem?_toArray.trans rfl) (by kernel_rfl) (by kernel_rfl) (by kernel_rfl) (by kernel_rfl) (fun _ _ _ h => h) (Or.inl ⟨by rfl, ?y3⟩) hH0 ?r3
  case y3 => (intro w hSw; (try dsimp only at hSw); go_simp; try with_reducible rfl)
  try simp only [Act.put, List.setIfInBounds_toArray, List.set_cons_zero, List.set_cons_succ]
  refine' wpAnyF_take (i := 3) (List.getElem?_toArray.trans rfl) (by kernel_rfl) (by kernel_rfl) (by kernel_rfl) (by kernel_rfl) (fun _ _ _ h => h) (Or.inl ⟨by rfl, ?y4⟩) hH0 ?r4
  case y4 => (intro w hSw; (try dsimp only at hSw); go_simp; try with_reducible rfl)
  try simp only [Act.put, List.setIfInBounds_toArray, List.set_cons_zero, List.set_cons_succ]
  refine' wpAnyF_take (i := 4) (List.getElem?_toArray.trans rfl) (by kernel_rfl) (by kernel_rfl) (by kernel_rfl) (by kernel_rfl) (fun _ _ _ h => h) (Or.inl ⟨by rfl, ?y5⟩) hH0 ?r5
  case y5 => (intro w hSw; (try dsimp only at hSw); go_simp; try with_reducible rfl)
  try simp only [Act.put, List.setIfInBounds_toArray, List.set_cons_zero, List.set_cons_succ]
  refine' wpAnyF_take (i := 5) (List.getElem?_toArray.trans rfl) (by kernel_rfl) (by kernel_rfl) (by kernel_rfl) (by kernel_rfl) (fun _ _ _ h => h) (Or.inl ⟨by rfl, ?y6⟩) hH0 ?r6
  case y6 => (intro w hSw; (try dsimp only at hSw); go_simp; try with_reducible rfl)
  try simp only [Act.put, List.setIfInBounds_toArray, List.set_cons_zero, List.set_cons_succ]
  refine' wpAnyF_take (i := 6) (List.getElem?_toArray.trans rfl) (by kernel_rfl) (by kernel_rfl) (by kernel_rfl) (by kernel_rfl) (fun _ _ _ h => h) (Or.inl ⟨by rfl, ?y7⟩) hH0 ?r7
  case y7 => (intro w hSw; (try dsimp only at hSw); go_simp; try with_reducible rfl)
  try simp only [Act.put, List.setIfInBounds_toArray, List.set_cons_zero, List.set_cons_succ]
  refine wpAnyF_ready (rs := [7]) (by kernel_rfl) (by simp) ?_
  refine' AllReadyF.cons (List.getElem?_toArray.trans rfl) (fun K hK => ?st8) ?more8
  case st8 =>
   go_simp
   refine' Calls.mono (HBY.out _) ?c9
   rintro e w9 ⟨rfl, rfl⟩
   try go_wp2_with fail
   refine hK.out _ _ ?s9 (fun hH9 => ?r9)
   case s9 => ((try dsimp only); exact hS.out)
   clear hK K hH0
   try simp only [Act.put, List.setIfInBounds_toArray, List.set_cons_zero, List.set_cons_succ]
   refine wpAnyF_ready (rs := [8]) (by kernel_rfl) (by simp) ?_
   refine' AllReadyF.last (List.getElem?_toArray.trans rfl) (fun K hK => ?st10) ?more10
   case st10 =>
    go_simp
    refine hK.out _ _ ?_
    clear hK K
    try simp only [Act.put, List.setIfInBounds_toArray, List.set_cons_zero, List.set_cons_succ]
    refine wpAnyF_done (by kernel_rfl) ?_ _
    go_wp2_with fail
    go_meet
    exact ⟨rfl, HR.out⟩
   exact AllReadyF.nil
  exact AllReadyF.nil
 obtain ⟨rfl, m6, x6, E6, V6, i6, n6⟩ := hcut
 have HT := Lib.hid (HTX.out _ _ V6)
 have HJ := Lib.hid (And.intro m6 (And.intro x6 (And.intro E6 (And.intro i6 n6))))
 have n0 := n6.c 0 _ rfl
 clear m6 x6 E6 V6 i6 n6 HR HM4 HTX y0 nf q6
 go_wp2_with fail
 refine HT.out.mono ?_
 rintro e w7 ⟨rfl, hb⟩
 have m7 := HJ.out.1.below hb
 have i7 := HJ.out.2.2.2.1.below hb
 have i71 := i7.c 1 _ rfl
 have if1 := i7.f 1
 have e8 := Ext.of_set (j := 1) (v := .string (nuText m)) (S := fun t => t = k + 10) m7.e.hi i7.o (by omega) rfl
 obtain ⟨m8, em8⟩ := m7.ow e8 (by intro t ht; omega) hk
 have x8 := (HJ.out.2.1.below hb).ext e8
 have i8 := i7.set 1 (.string (nuText m)) (by simp [itCs])
 have n8 := (HJ.out.2.2.2.2.below hb).ext e8 (by omega)
 have y0 := x8.c 0 _ rfl
 have HO := Lib.hid (c_ChOn (c := c) (tl := chTl p x rf an nu ep pt) 244 (.func (.func 192) #[] #[.pointer (some ⟨bi, 0, none⟩)]) (.func 193) #[] #[.pointer (some ⟨bx, 0, none⟩), .pointer (some ⟨bi, 0, none⟩), .pointer (some ⟨bn, 0, none⟩)] m8 hk)
 have HJ8 := Lib.hid (And.intro x8 (And.intro ((HJ.out.2.2.1.below hb).trans em8) (And.intro i8 n8)))
 clear m7 i7 e8 m8 em8 x8 i8 n8 hb HJ HT n0
 go_wp2_with fail
 refine HO.out.mono ?_
 rintro e w9 ⟨rfl, m9, e9⟩
 have HQ := Lib.hid (And.intro m9 (And.intro (HJ8.out.2.1.trans (e9.mono fun t _ ht => SX.one ht)) (And.intro (HJ8.out.1.ext e9) (And.intro (HJ8.out.2.2.1.ext e9 (by omega)) (HJ8.out.2.2.2.ext e9 (by omega))))))
 clear m9 e9
 go_wp2_with fail
 go_end0
 exact ⟨bx, bi, bn, rfl, G4, HQ.out⟩
theorem c_ChCnt1 {bi : Nat} {y : It} (hP : PW w O B f s) (hi : Ob w O (k + 10) bi (itCs y)) (hk : 10 ≤ k) (hhi : ∀ j, O j ≠ 0 → j < w.heap.size) (n0 : 0 ≤ s.n) (n1 : s.n ≤ 4611686018427387904) :
 Calls Tryz.prog 192 #[.pointer (some ⟨B.p, 0, none⟩), .pointer (some ⟨bi, 0, none⟩)] w (RP (SX (k + 10) (k + 10)) w O (.tuple #[]) fun W G => PW W G B f (awAdd 7 1 s) ∧ Ob W G (k + 10) bi (itCs { y with id := (s.M 7 + 1) % 18446744073709551616 })) := by
 have HA := Lib.hid (c_AddP 7 1 hP hhi (by decide) (by decide) (by decide) (by decide) n0 n1)
 have HI := Lib.hid hi
 have p0 := hP.wo.c0
 obtain ⟨id, hid⟩ : ∃ i, i = (s.M 7 + 1) % 18446744073709551616 := ⟨_, rfl⟩
 have hw : IntKind.u64.wrap (s.M 7 + 1) = id := by rw [IntKind.wrap_u64, hid]
 rw [← hid]
 clear hP hi hhi hid
 go_enter Tryz.func192, Tryz.ntmps192
 go_wp2_with fail
 refine HA.out.mono ?_
 rintro e w1 ⟨rfl, G, e1, p1⟩
 have i1 := HI.out.ext e1 (by unfold SW; omega)
 have i3 := i1.c 3 _ rfl
 have if3 := i1.f 3
 have e2 := Ext.of_set (j := 3) (v := .int .u64 id) (S := fun t => t = k + 10) e1.hi i1.o (by omega) rfl
 have HR := Lib.hid (And.intro ((e1.mono (T := SX (k + 10) (k + 10)) fun t _ ht => .inl ht).trans (e2.mono fun t _ ht => .inr (by omega))) (And.intro (p1.ext e2 (by omega) (by omega) (by omega) (by omega)) (i1.set 3 (.int .u64 id) (by simp [itCs]))))
 clear e1 p1 i1 e2
 go_wp2_with fail
 go_end0
 exact ⟨rfl, G, HR.out⟩
theorem c_ChCnt2 {bx bi bn : Nat} {y : It} {m : Int} (M : Me k (k + 30) w0 O0 w O B f s k X (chCs c pv th tl)) (hx : Bx w O bx [.pointer (some ⟨X, 0, none⟩)]) (hi : Ob w O (k + 10) bi (itCs y)) (hn : Ob w O (k + 11) bn [.int .u64 m]) (hil : s.it.length ≤ 1000000) (hk : 10 ≤ k) :
 Calls Tryz.prog 193 #[.pointer (some ⟨B.p, 0, none⟩), .pointer (some ⟨bx, 0, none⟩), .pointer (some ⟨bi, 0, none⟩), .pointer (some ⟨bn, 0, none⟩)] w fun e w' => ∃ bx br ba, ChQ k w0 O0 w O B f (awItem y s) X c (ST1V bx br) (ST2V ba bx) tl (fun W G => Bx W G bx [.pointer (some ⟨X, 0, none⟩)] ∧ Ob W G (k + 27) br [.int .i64 (s.it.length + 1 : Nat)] ∧ Bx W G ba (aKs 8 m)) e w' := by
 have HS := Lib.hid (c_ChStores y 8 m M hil hk)
 unfold itV anKV at HS
 have q0 := hx.c 0 _ rfl
 have i0 := hi.c 0 _ rfl
 have i1 := hi.c 1 _ rfl
 have i2 := hi.c 2 _ rfl
 have i3 := hi.c 3 _ rfl
 have i4 := hi.c 4 _ rfl
 have i5 := hi.c 5 _ rfl
 have n0 := hn.c 0 _ rfl
 clear M hx hi hn hil
 go_enter Tryz.func193, Tryz.ntmps193
 go_wp2_with fail
 refine HS.out.mono ?_
 rintro e w1 ⟨bx', br, ba, rfl, h⟩
 have HR := Lib.hid h
 clear h
 go_wp2_with fail
 go_end0
 exact ⟨bx', br, ba, rfl, HR.out⟩
end
end Go.Proofs.YtifkfhnbkjkakaaGreatDoor
