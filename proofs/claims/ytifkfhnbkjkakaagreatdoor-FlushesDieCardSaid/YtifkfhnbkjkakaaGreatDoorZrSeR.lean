/- Layer 25: a Store of what is new: lines 10 to 21, where there is room. Layer 25: a Store comes into a slot: lines 14 to 18. Layer 25: a step of a Store, in a world of one table where there is room. Layer 25: a step of a Store: its lines joined. -/
import Derived.Test.YtifkfhnbkjkakaaGreatDoorZrSeQ
import Derived.Test.YtifkfhnbkjkakaaGreatDoorZrRkA
namespace Go.Proofs.YtifkfhnbkjkakaaGreatDoor
set_option linter.unusedSimpArgs false
set_option linter.unusedVariables false
set_option maxHeartbeats 4000000
set_option maxRecDepth 100000
section
open Go.RowKit
def TABV (X : Nat) : Value := .func (.func 233) #[.pointer (some ⟨X, 0, none⟩)] #[]
def RM1V (br bx bn bo bt : Nat) : Value := .func (.func 269) #[] #[.pointer (some ⟨br, 0, none⟩), .pointer (some ⟨bx, 0, none⟩), .pointer (some ⟨bn, 0, none⟩), .pointer (some ⟨bo, 0, none⟩), .pointer (some ⟨bt, 0, none⟩)]
def CM1V (bx : Nat) : Value := .func (.func 295) #[] #[.pointer (some ⟨bx, 0, none⟩)]
def CM2V (bx : Nat) : Value := .func (.func 296) #[] #[.pointer (some ⟨bx, 0, none⟩)]
def CM3V (bx : Nat) : Value := .func (.func 297) #[] #[.pointer (some ⟨bx, 0, none⟩)]
def PU1V (bx bi : Nat) : Value := .func (.func 316) #[] #[.pointer (some ⟨bx, 0, none⟩), .pointer (some ⟨bi, 0, none⟩)]
def PU2V (bx bi : Nat) : Value := .func (.func 317) #[] #[.pointer (some ⟨bx, 0, none⟩), .pointer (some ⟨bi, 0, none⟩)]
theorem m_RmOver (a : Addr) (w : World) : (method 635 350 (.pointer (some a)) "Over").run Tryz.prog w = .ok (469, .pointer (some a)) w := by kernel_rfl
theorem m_RmStep (a : Addr) (w : World) : (method 635 350 (.pointer (some a)) "Step").run Tryz.prog w = .ok (470, .pointer (some a)) w := by kernel_rfl
section
variable {w w0 : World} {O O0 : Om} {B : Wb} {f : Cf} {s : AW} {k X : Nat} {op th ac : Value} {tl : List Value} {c : Clm} {p : Spt} {an nu ep pt : Int}
theorem c_StCnt1 {bx : Nat} (wv : Value) (M : Me k (k + 30) w0 O0 w O B f s k X (op :: th :: ac :: tl)) (hb : Bx w O bx [.pointer (some ⟨X, 0, none⟩)]) (hk : 10 ≤ k) :
 Calls Tryz.prog 232 #[wv, .pointer (some ⟨bx, 0, none⟩)] w (StQ k w0 O0 w O B f s X .nilIface th (TABV X) tl (fun W G => True)) := by
 have HS := Lib.hid (c_goAccess (.func 233) #[.pointer (some ⟨X, 0, none⟩)] #[] (M.below (drew_below w)) hk (Nat.le_refl _) (by omega))
 have HB := Lib.hid (And.intro (hb.below (drew_below w)) (Ext.of_below (S := SX k (k + 30)) M.e.hi (drew_below w)))
 have q0 := hb.c 0 _ rfl
 clear M hb
 go_enter Tryz.func232, Tryz.ntmps232
 go_wp2_with fail
 go_region_held3 (fun w' => w'.cell? ⟨bx, 0, none⟩ = some (.pointer (some ⟨X, 0, none⟩))) (go_keep)
  (first
    | (go_at_call 164
       refine HS.out.mono ?_
       rintro e w1 ⟨rfl, m1, e1⟩
       have q0 := (HB.out.1.ext e1).c 0 _ rfl
       have HQ := Lib.hid (And.intro m1 (HB.out.2.trans (e1.mono fun t _ ht => SX.one ht)))
       clear m1 e1))
 all_goals
  go_wp2_with fail
  go_end0
  exact ⟨rfl, O, HQ.out.1, HQ.out.2, trivial⟩
theorem c_StCounts (M : Me k (k + 30) w0 O0 w O B f s k X (op :: th :: ac :: tl)) (hk : 10 ≤ k) (hc : s.M 6 < f.g) (g0 : 1 ≤ f.g) (g1 : f.g ≤ 65536) (n0 : 0 ≤ s.n) (n1 : s.n ≤ 4611686018427387904) :
 Calls Tryz.prog 168 #[.pointer (some ⟨X, 0, none⟩), .pointer (some ⟨B.p, 0, none⟩)] w (StQ k w0 O0 w O B f (awLoad 6 s) X .nilIface th (TABV X) tl (fun W G => True)) := by
 obtain ⟨m1, x1, b1⟩ := box_more M (.pointer (some ⟨X, 0, none⟩)) 134 w.heap.size rfl
 have HL := Lib.hid (c_LoadP 6 m1.p m1.e.hi (by decide) (by decide) n0 n1)
 have p0 := m1.p.wo.c0
 have HM := Lib.hid (And.intro m1 (And.intro x1 (Ext.of_below (S := SX k (k + 30)) M.e.hi b1)))
 obtain ⟨g, hg⟩ : ∃ g, g = f.g := ⟨_, rfl⟩
 rw [← hg] at hc g0 g1
 have HG := Lib.hid hg
 have hbd := M.p.bd 6
 obtain ⟨m6, hm6⟩ : ∃ m, m = s.M 6 := ⟨_, rfl⟩
 rw [← hm6] at HL hc hbd
 have e1 : max g 0 = g := by omega
 have e2 : decide (g < 0) = false := by simp; omega
 have e3 : decide (g ≤ m6) = false := by simp; omega
 have e4 : IntKind.u64.wrap g = g := by rw [IntKind.wrap_u64]; omega
 clear M m1 x1 b1 hc hg hm6
 go_enter Tryz.func168, Tryz.ntmps168
 go_wp2_with fail
 refine HL.out.mono ?_
 rintro e w2 ⟨rfl, G2, E2, P2⟩
 have m2 := HM.out.1.world hk E2 P2
 have x2 := HM.out.2.1.ext E2
 have p4 := m2.p.wo.c4
 rw [← HG.out] at p4
 have HC := Lib.hid (c_StCnt1 (.pointer (some ⟨B.p, 0, none⟩)) m2 x2 hk)
 have HE := Lib.hid (HM.out.2.2.trans (E2.mono (T := SX k (k + 30)) fun t _ ht => .inl ht))
 have hKC : ∀ args W, (callFunc 232 args).run Tryz.prog W = .ok (.enter 232 args) W := run_enter Tryz.func232 (by kernel_rfl) (by kernel_rfl)
 clear m2 x2 E2 P2 HL HM p0
 go_wp2_with fail
 refine HC.out.mono ?_
 rintro e w3 ⟨rfl, G3, m3, e3, -⟩
 have HQ := Lib.hid (And.intro m3 (HE.out.trans e3))
 clear m3 e3
 go_wp2_with fail
 go_end0
 exact ⟨rfl, G3, HQ.out.1, HQ.out.2, trivial⟩
theorem c_StTables (M : Me k (k + 30) w0 O0 w O B f s k X (stCs op th ac c p an nu ep pt)) (hk : 10 ≤ k) (n0 : 0 ≤ s.n) (n1 : s.n ≤ 4611686018427387904) :
 Calls Tryz.prog 233 #[.pointer (some ⟨X, 0, none⟩), .pointer (some ⟨B.p, 0, none⟩)] w fun e w' => ∃ R br bx bn bo bt, StQ k w0 O0 w O B f (awLoad 2 s) X (.iface 350 (.pointer (some ⟨R, 0, none⟩))) (RM1V br bx bn bo bt) .nilFunc (stTl c p an nu ep pt) (fun W G => RoomAt W G (k + 12) R (rmNew (plTarget (s.M 2)) (kyH c.key)) ∧ Ob W G (k + 27) br [.pointer (some ⟨R, 0, none⟩)] ∧ Bx W G bx [.pointer (some ⟨X, 0, none⟩)]) e w' := by
 obtain ⟨m1, x1, b1⟩ := box_more M (.pointer (some ⟨X, 0, none⟩)) 134 w.heap.size rfl
 have HL := Lib.hid (c_LoadP 2 m1.p m1.e.hi (by decide) (by decide) n0 n1)
 have hbd := m1.p.bd 2
 have HAS := Lib.hid (fun W => c_As (s.M 2) W hbd.1 hbd.2)
 have HTA := Lib.hid (fun W => c_Target (s.M 2) W hbd.1 hbd.2)
 have htb : -9223372036854775808 ≤ plTarget (s.M 2) ∧ plTarget (s.M 2) ≤ 9223372036854775807 := by
  have := plOld_bd (s.M 2); have := plNow_bd (s.M 2); unfold plTarget; split <;> omega
 have hy : 0 ≤ kyH c.key ∧ kyH c.key < 18446744073709551616 := fnvHash_bd _
 have HNR := Lib.hid (fun (W : World) (G : Om) (hh : ∀ j, G j ≠ 0 → j < W.heap.size) => c_NewRoom (w := W) (O := G) (k := k + 12) (plTarget (s.M 2)) (kyH c.key) htb.1 htb.2 hy.1 hy.2 (by omega) hh)
 have p0 := m1.p.wo.c0
 have HM := Lib.hid (And.intro m1 (And.intro x1 (Ext.of_below (S := SX k (k + 30)) M.e.hi b1)))
 clear M m1 x1 b1 hbd htb hy
 go_enter Tryz.func233, Tryz.ntmps233
 go_wp2_with fail
 refine HL.out.mono ?_
 rintro e w2 ⟨rfl, G2, E2, P2⟩
 have m2 := HM.out.1.world hk E2 P2
 have x2 := HM.out.2.1.ext E2
 have e2 := HM.out.2.2.trans (E2.mono (T := SX k (k + 30)) fun t _ ht => .inl ht)
 obtain ⟨m3, x3, b3⟩ := box_more m2 (.int .u64 (s.M 2)) 24 w2.heap.size rfl
 have y3 := x2.below b3
 have q3 := x3.c 0 _ rfl
 have HM3 := Lib.hid (And.intro m3 (And.intro y3 (And.intro x3 (e2.below b3))))
 clear m2 x2 e2 m3 x3 b3 y3 E2 P2 HL HM p0
 go_wp2_with fail
 refine (HAS.out _).mono ?_
 rintro e w' ⟨rfl, rfl⟩
 obtain ⟨m4, x4, b4⟩ := box_more HM3.out.1 (.int .i64 (plOld (s.M 2))) 3 (w2.heap.size + 1) (by simp)
 obtain ⟨m5, x5, b5⟩ := box_more m4 (.int .i64 (plNow (s.M 2))) 3 (w2.heap.size + 2) (by simp)
 have b45 := b4.trans (b5.mono b4.size)
 have HM5 := Lib.hid (And.intro m5 (And.intro (HM3.out.2.1.below b45) (And.intro (HM3.out.2.2.1.below b45) (HM3.out.2.2.2.below b45))))
 have q0 := HM5.out.2.1.c 0 _ rfl
 have q3 := HM5.out.2.2.1.c 0 _ rfl
 have q10 := m5.t.c 10 _ rfl
 obtain ⟨w5, hw5⟩ : ∃ W, W = ((w2.alloc (.cells #[.int .u64 (s.M 2)] 24)).alloc (.cells #[.int .i64 (plOld (s.M 2))] 3)).alloc (.cells #[.int .i64 (plNow (s.M 2))] 3) := ⟨_, rfl⟩
 rw [← hw5] at HM5 q0 q3 q10
 clear m4 x4 b4 m5 x5 b5 b45 HM3 HAS
 go_upto_region 3 with fail
 rw [← hw5]
 clear hw5
 obtain ⟨tb, htb⟩ : ∃ t, t = plTarget (s.M 2) := ⟨_, rfl⟩
 obtain ⟨G6, e6, r6, k6⟩ := alloc_ob HM5.out.1.e.hi (k + 27) #[.pointer none] 350 w5.heap.size rfl
 have m6 : Me k (k + 30) w0 O0 (w5.alloc (.cells #[.pointer none] 350)) G6 B f (awLoad 2 s) k X (stCs op th ac c p an nu ep pt) := ⟨HM5.out.1.e.trans (e6.mono fun t _ ht => .inr (by omega)), HM5.out.1.p.ext e6 (by omega) (by omega) (by omega) (by omega), HM5.out.1.t.ext e6 (by omega)⟩
 have HB6 := Lib.hid (And.intro (m6.below (drew_below _)) (And.intro ((HM5.out.2.1.ext e6).below (drew_below _)) (And.intro ((HM5.out.2.2.1.ext e6).below (drew_below _)) (And.intro (r6.below (drew_below _)) ((HM5.out.2.2.2.trans (e6.mono (T := SX k (k + 30)) fun t _ ht => .inr (by omega))).below (drew_below _))))))
 have HA6 := Lib.hid (And.intro (HM5.out.1.below (drew_below _)) (And.intro (HM5.out.2.1.below (drew_below _)) (And.intro (HM5.out.2.2.1.below (drew_below _)) (HM5.out.2.2.2.below (drew_below _)))))
 have hq10 : (stTl c p an nu ep pt)[7]? = some (.int .u64 (kyH c.key)) := rfl
 rw [← htb] at HNR HTA
 obtain ⟨hx, hhx⟩ : ∃ t, t = kyH c.key := ⟨_, rfl⟩
 rw [← hhx] at HNR q10 hq10
 have HTB := Lib.hid (And.intro htb hhx)
 obtain ⟨tl, htl⟩ : ∃ tl, tl = stTl c p an nu ep pt := ⟨_, rfl⟩
 unfold stCs at HA6 HB6
 rw [← htl] at HA6 HB6 hq10
 have HTL := Lib.hid htl
 obtain ⟨bx, hbx⟩ : ∃ n, n = w.heap.size := ⟨_, rfl⟩
 obtain ⟨bt, hbt⟩ : ∃ n, n = w2.heap.size := ⟨_, rfl⟩
 obtain ⟨bn, hbn⟩ : ∃ n, n = w2.heap.size + 1 + 1 := ⟨_, rfl⟩
 obtain ⟨bo, hbo⟩ : ∃ n, n = w2.heap.size + 1 := ⟨_, rfl⟩
 rw [← hbn, ← hbo, ← hbt, ← hbx]
 rw [← hbx] at q0 HA6 HB6
 rw [← hbt] at q3 HA6 HB6
 have hxl := HM5.out.1.t.lt
 have hbxl : bx < w5.heap.size := by rw [hbx]; exact HM5.out.2.1.lt
 have hbtl : bt < w5.heap.size := by rw [hbt]; exact HM5.out.2.2.1.lt
 clear htb hhx htl hbx hbt hbn hbo m6 e6 r6 k6 HM5
 go_cut [7] (fun vv wx => ∃ (G : Om) (R br : Nat), vv = .pointer (some ⟨br, 0, none⟩) ∧ Me k (k + 30) w0 O0 wx G B f (awLoad 2 s) k X (op :: th :: ac :: tl) ∧ Bx wx G bx [.pointer (some ⟨X, 0, none⟩)] ∧ Ob wx G (k + 27) br [.pointer (some ⟨R, 0, none⟩)] ∧ RoomAt wx G (k + 12) R (rmNew tb hx) ∧ Ext (SX k (k + 30)) O w G wx)
 case first =>
  go_region_held3 (fun w' => w'.cell? ⟨bx, 0, none⟩ = some (.pointer (some ⟨X, 0, none⟩)) ∧ w'.cell? ⟨bt, 0, none⟩ = some (.int .u64 (s.M 2)) ∧ w'.cell? ⟨X, 10, none⟩ = some (.int .u64 hx)) (go_keep)
   (first
     | (go_at_call 268
        refine (HTA.out _).mono ?_
        rintro e w' ⟨rfl, rfl⟩)
     | (go_at_call 267
        first
         | (refine (HNR.out w5.drew G2 HA6.out.1.e.hi).mono ?_
            rintro e w7 ⟨R, rfl, G7, e7, k7⟩
            have em := e7.mono (T := SX k (k + 30)) fun t _ ht => .inr (by omega)
            have m7 : Me k (k + 30) w0 O0 w7 G7 B f (awLoad 2 s) k X (op :: th :: ac :: tl) := ⟨HA6.out.1.e.trans em, HA6.out.1.p.ext e7 (by omega) (by omega) (by omega) (by omega), HA6.out.1.t.ext e7 (by omega)⟩
            have x7 := HA6.out.2.1.ext e7
            have t7 := HA6.out.2.2.1.ext e7
            have HJA := Lib.hid (And.intro m7 (And.intro x7 (And.intro k7 (HA6.out.2.2.2.trans em))))
            have q0 := x7.c 0 _ rfl
            have q3 := t7.c 0 _ rfl
            have q10 : w7.cell? ⟨X, 10, none⟩ = some (.int .u64 hx) := m7.t.c 10 _ hq10
            have hz7 := e7.size
            have hxl7 := m7.t.lt
            have hbx7 := x7.lt
            have hbt7 := t7.lt
            clear em m7 x7 t7 e7 k7)
         | (refine (HNR.out (w5.alloc (.cells #[.pointer none] 350)).drew G6 HB6.out.1.e.hi).mono ?_
            rintro e w7 ⟨R, rfl, G7, e7, k7⟩
            have em := e7.mono (T := SX k (k + 30)) fun t _ ht => .inr (by omega)
            have m7 : Me k (k + 30) w0 O0 w7 G7 B f (awLoad 2 s) k X (op :: th :: ac :: tl) := ⟨HB6.out.1.e.trans em, HB6.out.1.p.ext e7 (by omega) (by omega) (by omega) (by omega), HB6.out.1.t.ext e7 (by omega)⟩
            have x7 := HB6.out.2.1.ext e7
            have t7 := HB6.out.2.2.1.ext e7
            have r7 := HB6.out.2.2.2.1.ext e7 (by omega)
            have HJB := Lib.hid (And.intro m7 (And.intro x7 (And.intro k7 (And.intro r7 (HB6.out.2.2.2.2.trans em)))))
            have q0 := x7.c 0 _ rfl
            have q3 := t7.c 0 _ rfl
            have q10 : w7.cell? ⟨X, 10, none⟩ = some (.int .u64 hx) := m7.t.c 10 _ hq10
            have r0 := r7.c 0 _ rfl
            have rf := r7.f 0
            have hn1 : ¬ w5.heap.size = bx := by omega
            have hn2 : ¬ w5.heap.size = bt := by omega
            have hn3 : ¬ w5.heap.size = X := by omega
            clear em m7 x7 t7 r7 e7 k7)))
  all_goals
   go_wp2_with fail
   go_meet
   first
    | (obtain ⟨m7, x7, k7, e7⟩ := HJA.out
       obtain ⟨G8, e8, r8, -⟩ := alloc_ob m7.e.hi (k + 27) #[.pointer (some ⟨R, 0, none⟩)] 350 w7.heap.size rfl
       have em := e8.mono (T := SX k (k + 30)) fun t _ ht => .inr (by omega)
       exact ⟨G8, R, _, rfl, ⟨m7.e.trans em, m7.p.ext e8 (by omega) (by omega) (by omega) (by omega), m7.t.ext e8 (by omega)⟩, x7.ext e8, r8, k7.ext e8 (fun t _ _ => by omega), e7.trans em⟩)
    | (obtain ⟨m7, x7, k7, r7, e7⟩ := HJB.out
       have e8 := Ext.of_set (j := 0) (v := .pointer (some ⟨R, 0, none⟩)) (S := fun t => t = k + 27) m7.e.hi r7.o (by omega) rfl
       have em := e8.mono (T := SX k (k + 30)) fun t _ ht => .inr (by omega)
       exact ⟨G7, R, _, rfl, ⟨m7.e.trans em, m7.p.ext e8 (by omega) (by omega) (by omega) (by omega), m7.t.ext e8 (by omega)⟩, x7.ext e8, r7.set 0 _ (by simp), k7.ext e8 (fun t _ _ => by omega), e7.trans em⟩)
 clear HTA HNR HA6 HB6 q0 q3 q10
 obtain ⟨G, R, br, rfl, m8, x8, r8, k8, e8⟩ := hcut
 have bd := drew_below wc
 have hln : ((rmNew tb hx).ln == 0) = false := by
  rw [HTB.out.1]
  unfold rmNew
  have := plOld_bd (s.M 2)
  have := plNow_cases (s.M 2)
  rw [if_pos (by unfold plTarget; split <;> omega)]
  rfl
 have hov := c_RmOver' (k8.below bd)
 rw [hln] at hov
 have HS := Lib.hid (c_goSteps (w := wc.drew) (.func 269) #[] #[.pointer (some ⟨br, 0, none⟩), .pointer (some ⟨bx, 0, none⟩), .pointer (some ⟨bn, 0, none⟩), .pointer (some ⟨bo, 0, none⟩), .pointer (some ⟨bt, 0, none⟩)] (.pointer (some ⟨B.p, 0, none⟩)) (m_RmOver ⟨R, 0, none⟩) (run_enter Tryz.func469 (by kernel_rfl) (by kernel_rfl)) (hov.mono fun e w' h => ⟨h.1, by rw [← h.2]; exact Below.refl _ _⟩) (m8.below bd) hk (Nat.le_refl _) (by omega))
 have HJ := Lib.hid (And.intro (x8.below bd) (And.intro (r8.below bd) (And.intro (k8.below bd) (e8.below bd))))
 have q0 := x8.c 0 _ rfl
 have q1 := r8.c 0 _ rfl
 clear m8 x8 r8 k8 e8 bd hln hov
 go_upto_region 4 with fail
 go_region_held3 (fun w' => w'.cell? ⟨bx, 0, none⟩ = some (.pointer (some ⟨X, 0, none⟩)) ∧ w'.cell? ⟨br, 0, none⟩ = some (.pointer (some ⟨R, 0, none⟩))) (go_keep)
  (first
    | (go_at_call 99
       refine HS.out.mono ?_
       rintro e w9 ⟨rfl, m9, e9⟩
       have q0 := (HJ.out.1.ext e9).c 0 _ rfl
       have q1 := (HJ.out.2.1.ext e9 (by omega)).c 0 _ rfl
       have HQ := Lib.hid (And.intro m9 e9)
       clear m9 e9))
 all_goals
  go_wp2_with fail
  go_end0
  obtain ⟨m9, e9⟩ := HQ.out
  obtain ⟨h1, h2, h3, h4⟩ := HJ.out
  rw [HTL.out] at m9
  refine ⟨R, br, bx, bn, bo, bt, rfl, G, m9, h4.trans (e9.mono fun t _ ht => SX.one ht), ?_, h2.ext e9 (by omega), h1.ext e9⟩
  have := h3.ext e9 (fun t _ _ => by omega)
  rw [HTB.out.1, HTB.out.2] at this
  exact this
end
end
section
open Go.RowKit
theorem m_PtOver (a : Addr) (w : World) : (method 635 403 (.pointer (some a)) "Over").run Tryz.prog w = .ok (478, .pointer (some a)) w := by kernel_rfl
theorem m_PtStep (a : Addr) (w : World) : (method 635 403 (.pointer (some a)) "Step").run Tryz.prog w = .ok (479, .pointer (some a)) w := by kernel_rfl
section
variable {w w0 : World} {O O0 : Om} {B : Wb} {f : Cf} {s : AW} {k X : Nat} {op th ac : Value} {tl : List Value} {c : Clm} {p : Spt} {an nu ep pt : Int}
theorem c_StComes (wv : Value) (q : Spt) (M : Me k (k + 30) w0 O0 w O B f s k X (stCs op th ac c p an nu ep pt)) (hp : q.ok) (hk : 10 ≤ k) :
 Calls Tryz.prog 271 #[.pointer (some ⟨X, 0, none⟩), wv, .agg #[.int .i64 q.b, .int .i64 q.q, .int .i64 q.s]] w fun e w' => ∃ Mk bx, StQ k w0 O0 w O B f s X (.iface 246 (.pointer (some ⟨Mk, 0, none⟩))) (CM1V bx) .nilFunc (stTl c q an nu ep pt) (fun W G => MkAt W G (k + 6) Mk [q.ver] ∧ Bx W G bx [.pointer (some ⟨X, 0, none⟩)]) e w' := by
 obtain ⟨m1, x1, b1⟩ := box_more M (.pointer (some ⟨X, 0, none⟩)) 134 w.heap.size rfl
 have b2 := alloc_below (w.alloc (.cells #[.pointer (some ⟨X, 0, none⟩)] 134)) (.cells #[.int .i64 q.b, .int .i64 q.q, .int .i64 q.s] 75)
 have BS := Bx.new m1.e.hi #[.int .i64 q.b, .int .i64 q.q, .int .i64 q.s] 75 (w.heap.size + 1) (by simp)
 have m2 := m1.below b2
 have x2 := x1.below b2
 have hE2 := Ext.of_below (S := SX k (k + 30)) M.e.hi (b1.trans (b2.mono b1.size))
 obtain ⟨w2, hw2⟩ : ∃ W, W = (w.alloc (.cells #[.pointer (some ⟨X, 0, none⟩)] 134)).alloc (.cells #[.int .i64 q.b, .int .i64 q.q, .int .i64 q.s] 75) := ⟨_, rfl⟩
 rw [← hw2] at m2 x2 BS hE2
 have m3 := m2.spot hk q
 have HS := Lib.hid (c_StMark (.func 295) #[] #[.pointer (some ⟨w.heap.size, 0, none⟩)] wv m3.1 hp hk)
 have HB := Lib.hid (And.intro (x2.ext m3.2) (hE2.trans (m3.2.mono fun t _ ht => SX.one ht)))
 have q0 := x2.c 0 _ rfl
 have q1 := BS.c 0 _ rfl
 have q2 := BS.c 1 _ rfl
 have q3 := BS.c 2 _ rfl
 have f11 := m2.t.f 11
 have f12 := m2.t.f 12
 have f13 := m2.t.f 13
 have z11 := m2.t.c 11 _ rfl
 have z12 := m2.t.c 12 _ rfl
 have z13 := m2.t.c 13 _ rfl
 have hne : ¬ w.heap.size = X := by have := M.t.lt; omega
 have xl := M.t.lt
 clear M m1 x1 b1 b2 BS m2 x2 m3 hE2
 go_enter Tryz.func271, Tryz.ntmps271
 go_upto_region 1 with fail
 rw [← hw2]
 clear hw2
 go_wp2_with fail
 refine HS.out.mono ?_
 rintro e w4 ⟨Mk, rfl, G4, m4, e4, k4⟩
 have HQ := Lib.hid (And.intro m4 (And.intro e4 k4))
 clear m4 e4 k4
 go_wp2_with fail
 go_end0
 obtain ⟨m4, e4, k4⟩ := HQ.out
 exact ⟨Mk, _, rfl, G4, m4, HB.out.2.trans e4, k4, HB.out.1.ext e4⟩
theorem c_StRm1 {br bx bn bo bt R : Nat} {z : Rmm} (wv : Value) (M : Me k (k + 30) w0 O0 w O B f s k X (stCs op th ac c p an nu ep pt)) (hx : Bx w O bx [.pointer (some ⟨X, 0, none⟩)]) (hr : Ob w O (k + 27) br [.pointer (some ⟨R, 0, none⟩)]) (hR : RoomAt w O (k + 12) R z) (his : z.is = true) (hp : z.p.ok) (hk : 10 ≤ k) :
 Calls Tryz.prog 269 #[wv, .pointer (some ⟨br, 0, none⟩), .pointer (some ⟨bx, 0, none⟩), .pointer (some ⟨bn, 0, none⟩), .pointer (some ⟨bo, 0, none⟩), .pointer (some ⟨bt, 0, none⟩)] w fun e w' => ∃ Mk bx, StQ k w0 O0 w O B f s X (.iface 246 (.pointer (some ⟨Mk, 0, none⟩))) (CM1V bx) .nilFunc (stTl c z.p an nu ep pt) (fun W G => MkAt W G (k + 6) Mk [z.p.ver] ∧ Bx W G bx [.pointer (some ⟨X, 0, none⟩)]) e w' := by
 have HG := c_RmGot hR
 rw [his] at HG
 simp only [if_true] at HG
 replace HG := Lib.hid HG
 have q0 := hr.c 0 _ rfl
 have HM := Lib.hid (And.intro M hx)
 have HP := Lib.hid hp
 clear M hx hr hR his hp
 go_enter Tryz.func269, Tryz.ntmps269
 go_wp2_with fail
 refine HG.out.mono ?_
 rintro e w1 ⟨rfl, hb1⟩
 have b2 := alloc_below w1 (.cells #[.int .i64 z.p.b, .int .i64 z.p.q, .int .i64 z.p.s] 75)
 have bb := hb1.trans (b2.mono hb1.size)
 have m2 := HM.out.1.below bb
 have x2 := HM.out.2.below bb
 have BS := Bx.new (hi_below HM.out.1.e.hi hb1) #[.int .i64 z.p.b, .int .i64 z.p.q, .int .i64 z.p.s] 75 w1.heap.size rfl
 have HC := Lib.hid (c_StComes wv z.p m2 HP.out hk)
 have HE := Lib.hid (Ext.of_below (S := SX k (k + 30)) HM.out.1.e.hi bb)
 have q0 := x2.c 0 _ rfl
 have q1 := BS.c 0 _ rfl
 have q2 := BS.c 1 _ rfl
 have q3 := BS.c 2 _ rfl
 clear b2 bb m2 x2 BS hb1 HG HM
 go_wp2_with fail
 refine HC.out.mono ?_
 rintro e w3 ⟨Mk, bx', rfl, G3, m3, e3, k3⟩
 have HQ := Lib.hid (And.intro m3 (And.intro (HE.out.trans e3) k3))
 clear m3 e3 k3
 go_wp2_with fail
 go_end0
 exact ⟨Mk, bx', rfl, G3, HQ.out.1, HQ.out.2.1, HQ.out.2.2⟩
theorem c_StCm1 {bx : Nat} (wv : Value) (M : Me k (k + 30) w0 O0 w O B f s k X (op :: th :: ac :: tl)) (hb : Bx w O bx [.pointer (some ⟨X, 0, none⟩)]) (hk : 10 ≤ k) :
 Calls Tryz.prog 295 #[wv, .pointer (some ⟨bx, 0, none⟩)] w (StQ k w0 O0 w O B f s X .nilIface th (CM2V bx) tl (fun W G => True)) := by
 have HS := Lib.hid (c_goAccess (.func 296) #[] #[.pointer (some ⟨bx, 0, none⟩)] M hk (Nat.le_refl _) (by omega))
 have q0 := hb.c 0 _ rfl
 clear M hb
 go_enter Tryz.func295, Tryz.ntmps295
 go_wp2_with fail
 refine HS.out.mono ?_
 rintro e w1 ⟨rfl, m1, e1⟩
 have HQ := Lib.hid (And.intro m1 e1)
 clear m1 e1
 go_wp2_with fail
 go_end0
 exact ⟨rfl, O, HQ.out.1, HQ.out.2.mono (fun t _ ht => .inr (by omega)), trivial⟩
theorem c_StCm2 {bx : Nat} (M : Me k (k + 30) w0 O0 w O B f s k X (stCs op th ac c p an nu ep pt)) (hb : Bx w O bx [.pointer (some ⟨X, 0, none⟩)]) (hk : 10 ≤ k) (n0 : 0 ≤ s.n) (n1 : s.n ≤ 4611686018427387904) :
 Calls Tryz.prog 296 #[.pointer (some ⟨B.p, 0, none⟩), .pointer (some ⟨bx, 0, none⟩)] w (StQ k w0 O0 w O B f (awLoad 8 s) X .nilIface th (CM3V bx) (stTl c p an nu (s.M 8) (s.n + 1)) (fun W G => True)) := by
 have HPT := Lib.hid (c_StPoints M hk n0 n1)
 have q0 := hb.c 0 _ rfl
 have HB := Lib.hid hb
 clear M hb n0 n1
 go_enter Tryz.func296, Tryz.ntmps296
 go_wp2_with fail
 refine HPT.out.mono ?_
 rintro e w1 ⟨rfl, G1, m1, e1⟩
 have q0 := (HB.out.ext e1).c 0 _ rfl
 have HS := Lib.hid (c_goAccess (.func 297) #[] #[.pointer (some ⟨bx, 0, none⟩)] m1 hk (Nat.le_refl _) (by omega))
 have HE := Lib.hid e1
 clear m1 e1 HPT
 go_wp2_with fail
 refine HS.out.mono ?_
 rintro e w2 ⟨rfl, m2, e2⟩
 have HQ := Lib.hid (And.intro m2 (HE.out.trans (e2.mono fun t _ ht => SX.one ht)))
 clear m2 e2
 go_wp2_with fail
 go_end0
 exact ⟨rfl, G1, HQ.out.1, HQ.out.2, trivial⟩
theorem c_StPuts {r id : Int} (wv : Value) (M : Me k (k + 30) w0 O0 w O B f s k X (stCs op th ac c p an nu ep pt)) (hp : p.ok) (r0 : 1 ≤ r) (r1 : r ≤ 9223372036854775807) (hk : 10 ≤ k) :
 Calls Tryz.prog 298 #[.pointer (some ⟨X, 0, none⟩), wv, .int .i64 r, .int .u64 id] w fun e w' => ∃ U bx bi, StQ k w0 O0 w O B f s X (.iface 403 (.pointer (some ⟨U, 0, none⟩))) (PU1V bx bi) .nilFunc (stTl c p an nu ep pt) (fun W G => PutAt W G (k + 9) U p (fnvTag (kyH c.key)) r ⟨0, 0⟩ ∧ Bx W G bx [.pointer (some ⟨X, 0, none⟩)] ∧ Bx W G bi [.int .u64 id]) e w' := by
 obtain ⟨m1, x1, b1⟩ := box_more M (.pointer (some ⟨X, 0, none⟩)) 134 w.heap.size rfl
 obtain ⟨m2, i2, b2⟩ := box_more m1 (.int .u64 id) 24 (w.heap.size + 1) (by simp)
 have x2 := x1.below b2
 have hE := Ext.of_below (S := SX k (k + 30)) M.e.hi (b1.trans (b2.mono b1.size))
 have hy : 0 ≤ kyH c.key ∧ kyH c.key < 18446744073709551616 := fnvHash_bd _
 have htg := fnvTag_bd (kyH c.key) hy.1 hy.2
 have HTG := Lib.hid (fun W => c_fTag (kyH c.key) W hy.1 hy.2)
 obtain ⟨w2, hw2⟩ : ∃ W, W = (w.alloc (.cells #[.pointer (some ⟨X, 0, none⟩)] 134)).alloc (.cells #[.int .u64 id] 24) := ⟨_, rfl⟩
 rw [← hw2] at m2 i2 x2 hE
 have bd := drew_below w2
 have HNP := Lib.hid (c_NewPut (w := w2.drew) (O := O) (p := p) (tg := fnvTag (kyH c.key)) (rf := r) (k := k + 9) hp (hi_below m2.e.hi bd) htg.1 htg.2 r0 r1)
 have HJ := Lib.hid (And.intro (m2.below bd) (And.intro (x2.below bd) (And.intro (i2.below bd) (hE.below bd))))
 have q0 := x2.c 0 _ rfl
 have z10 := m2.t.c 10 _ rfl
 have z11 := m2.t.c 11 _ rfl
 have z12 := m2.t.c 12 _ rfl
 have z13 := m2.t.c 13 _ rfl
 have HT := Lib.hid hp.tags
 clear M m1 x1 b1 m2 i2 b2 x2 hE hy htg bd hp r0 r1
 go_enter Tryz.func298, Tryz.ntmps298
 go_upto_region 1 with fail
 rw [← hw2]
 clear hw2
 obtain ⟨bx, hbx⟩ : ∃ n, n = w.heap.size := ⟨_, rfl⟩
 obtain ⟨bi, hbi⟩ : ∃ n, n = w.heap.size + 1 := ⟨_, rfl⟩
 rw [← hbi, ← hbx]
 rw [← hbi, ← hbx] at HJ
 rw [← hbx] at q0
 clear hbx hbi
 go_region_held3 (fun w' => w'.cell? ⟨bx, 0, none⟩ = some (.pointer (some ⟨X, 0, none⟩)) ∧ w'.cell? ⟨X, 10, none⟩ = some (.int .u64 (kyH c.key)) ∧ w'.cell? ⟨X, 11, none⟩ = some (.int .i64 p.b) ∧ w'.cell? ⟨X, 12, none⟩ = some (.int .i64 p.q) ∧ w'.cell? ⟨X, 13, none⟩ = some (.int .i64 p.s)) (go_keep)
  (first
    | (go_at_call 85
       refine (HTG.out _).mono ?_
       rintro e w' ⟨rfl, rfl⟩)
    | (go_at_call 315
       refine HNP.out.mono ?_
       rintro e w3 ⟨U, rfl, G3, e3, k3⟩
       have em := e3.mono (T := SX k (k + 30)) fun t _ ht => .inr (by omega)
       have m3 : Me k (k + 30) w0 O0 w3 G3 B f s k X (stCs op th ac c p an nu ep pt) := ⟨HJ.out.1.e.trans em, HJ.out.1.p.ext e3 (by omega) (by omega) (by omega) (by omega), HJ.out.1.t.ext e3 (by omega)⟩
       have x3 := HJ.out.2.1.ext e3
       have q0 := x3.c 0 _ rfl
       have z10 := m3.t.c 10 _ rfl
       have z11 := m3.t.c 11 _ rfl
       have z12 := m3.t.c 12 _ rfl
       have z13 := m3.t.c 13 _ rfl
       have HJ3 := Lib.hid (And.intro x3 (And.intro (HJ.out.2.2.1.ext e3) (And.intro (HJ.out.2.2.2.trans em) k3)))
       have u0 := k3.ob.c 0 _ rfl
       have u4 := k3.ob.c 4 _ rfl
       have hov := c_PutOver p.tags 0 u0 u4 (by have := HT.out; omega) (by decide)
       have HS := Lib.hid (c_goSteps (w := w3) (.func 316) #[] #[.pointer (some ⟨bx, 0, none⟩), .pointer (some ⟨bi, 0, none⟩)] wv (m_PtOver ⟨U, 0, none⟩) (run_enter Tryz.func478 (by kernel_rfl) (by kernel_rfl)) hov m3 hk (Nat.le_refl _) (by omega))
       clear em m3 x3 u0 u4 hov e3 k3)
    | (go_at_call 99
       refine HS.out.mono ?_
       rintro e w4 ⟨rfl, m4, e4⟩
       have q0 := (HJ3.out.1.ext e4).c 0 _ rfl
       have z10 := m4.t.c 10 _ rfl
       have z11 := m4.t.c 11 _ rfl
       have z12 := m4.t.c 12 _ rfl
       have z13 := m4.t.c 13 _ rfl
       have HQ := Lib.hid (And.intro m4 e4)
       clear m4 e4))
 all_goals
  go_wp2_with fail
  go_end0
  obtain ⟨m4, e4⟩ := HQ.out
  obtain ⟨h1, h2, h3, h4⟩ := HJ3.out
  exact ⟨U, bx, bi, rfl, G3, m4, h3.trans (e4.mono fun t _ ht => SX.one ht), h4.ext e4 (by omega), h1.ext e4, h2.ext e4⟩
theorem c_StPu1 {bx bi : Nat} (wv : Value) (M : Me k (k + 30) w0 O0 w O B f s k X (op :: th :: ac :: tl)) (hb : Bx w O bx [.pointer (some ⟨X, 0, none⟩)]) (hk : 10 ≤ k) :
 Calls Tryz.prog 316 #[wv, .pointer (some ⟨bx, 0, none⟩), .pointer (some ⟨bi, 0, none⟩)] w (StQ k w0 O0 w O B f s X .nilIface th (PU2V bx bi) tl (fun W G => True)) := by
 have HS := Lib.hid (c_goAccess (.func 317) #[] #[.pointer (some ⟨bx, 0, none⟩), .pointer (some ⟨bi, 0, none⟩)] M hk (Nat.le_refl _) (by omega))
 have q0 := hb.c 0 _ rfl
 clear M hb
 go_enter Tryz.func316, Tryz.ntmps316
 go_wp2_with fail
 refine HS.out.mono ?_
 rintro e w1 ⟨rfl, m1, e1⟩
 have HQ := Lib.hid (And.intro m1 e1)
 clear m1 e1
 go_wp2_with fail
 go_end0
 exact ⟨rfl, O, HQ.out.1, HQ.out.2.mono (fun t _ ht => .inr (by omega)), trivial⟩
theorem c_StPu2 {bx bi : Nat} {id : Int} (M : Me k (k + 30) w0 O0 w O B f s k X (stCs op th ac c p an nu ep pt)) (hp : p.ok) (hx : Bx w O bx [.pointer (some ⟨X, 0, none⟩)]) (hi : Bx w O bi [.int .u64 id]) (hk : 10 ≤ k) (n0 : 0 ≤ s.n) (n1 : s.n ≤ 4611686018427387904) :
 Calls Tryz.prog 317 #[.pointer (some ⟨B.p, 0, none⟩), .pointer (some ⟨bx, 0, none⟩), .pointer (some ⟨bi, 0, none⟩)] w fun e w' => ∃ Mk, StQ k w0 O0 w O B f (awAdd 6 1 s) X (.iface 246 (.pointer (some ⟨Mk, 0, none⟩))) (GIVESV X) .nilFunc (stTl c p 1 id ep pt) (fun W G => MkAt W G (k + 6) Mk [p.ver]) e w' := by
 have HA := Lib.hid (c_AddP 6 1 M.p M.e.hi (by decide) (by decide) (by decide) (by decide) n0 n1)
 have p0 := M.p.wo.c0
 have HM := Lib.hid (And.intro M (And.intro hx hi))
 have HP := Lib.hid hp
 clear M hp hx hi n0 n1
 go_enter Tryz.func317, Tryz.ntmps317
 go_wp2_with fail
 refine HA.out.mono ?_
 rintro e w1 ⟨rfl, G1, e1, p1⟩
 have m1 := HM.out.1.world hk e1 p1
 have x1 := HM.out.2.1.ext e1
 have i1 := HM.out.2.2.ext e1
 have q0 := x1.c 0 _ rfl
 have q1 := i1.c 0 _ rfl
 have HTL := Lib.hid (c_StTells 1 id m1 hk)
 have HE := Lib.hid (And.intro x1 (e1.mono (T := SX k (k + 30)) fun t _ ht => .inl ht))
 clear m1 x1 i1 e1 p1 HA HM p0
 go_wp2_with fail
 refine HTL.out.mono ?_
 rintro e w2 ⟨rfl, m2, e2⟩
 have q0 := (HE.out.1.ext e2).c 0 _ rfl
 have HCL := Lib.hid (c_StCloses (.pointer (some ⟨B.p, 0, none⟩)) m2 HP.out hk)
 have HE2 := Lib.hid (HE.out.2.trans (e2.mono fun t _ ht => SX.one ht))
 clear m2 e2 HTL HE
 go_wp2_with fail
 refine HCL.out.mono ?_
 rintro e w3 ⟨Mk, rfl, G3, m3, e3, k3⟩
 have HQ := Lib.hid (And.intro m3 (And.intro (HE2.out.trans e3) k3))
 clear m3 e3 k3
 go_wp2_with fail
 go_end0
 exact ⟨Mk, rfl, G3, HQ.out.1, HQ.out.2.1, HQ.out.2.2⟩
end
end
section
open Go.RowKit
theorem m_TkStep (a : Addr) (w : World) : (method 635 150 (.pointer (some a)) "Step").run Tryz.prog w = .ok (106, .pointer (some a)) w := by kernel_rfl
def PTR (n : Nat) : Value := .pointer (some ⟨n, 0, none⟩)
def ENDV (X : Nat) : Value := .func (.func 266) #[.pointer (some ⟨X, 0, none⟩)] #[]
def StL (w : World) (O : Om) (k X t : Nat) (c : Clm) (z : Stm) (op th ac : Value) : Nat → Prop
 | 0 => op = .nilIface ∧ ac = .nilFunc
 | 1 => ∃ T bx, op = .iface 150 (PTR T) ∧ th = NEW1V bx ∧ Bx w O bx [PTR X] ∧ Ob w O (k + 1) T (tkCs T t z.tk)
 | 2 => ∃ U, op = .iface 157 (PTR U) ∧ th = FINDV X ∧ Ob w O (k + 2) U (tuCs 1 0)
 | 3 => ∃ F bf bx, op = .iface 240 (PTR F) ∧ th = FI1V bf bx ∧ Bx w O bf [PTR F] ∧ Bx w O bx [PTR X] ∧ FdAt w O (k + 3) F c.key z.fd
 | 4 => ∃ M bx br, op = .iface 246 (PTR M) ∧ th = MK1V bx br ∧ Bx w O bx [PTR X] ∧ Bx w O br [.int .i64 z.ref] ∧ MkAt w O (k + 6) M z.ml
 | 5 => ∃ bx br, op = .nilIface ∧ ac = DEC1V bx br ∧ Bx w O bx [PTR X] ∧ Bx w O br [.int .i64 z.ref]
 | 6 => ∃ bx, op = .nilIface ∧ ac = REC1V bx ∧ Bx w O bx [PTR X]
 | 7 => ∃ bx br bi, op = .nilIface ∧ ac = REP1V bx br bi ∧ Bx w O bx [PTR X] ∧ Bx w O br [.int .i64 z.ref] ∧ Bx w O bi [.int .u64 z.id]
 | 8 => ∃ M, op = .iface 246 (PTR M) ∧ th = GIVESV X ∧ MkAt w O (k + 6) M z.ml
 | 9 => ∃ V, op = .iface 219 (PTR V) ∧ th = ENDV X ∧ Ob w O (k + 8) V [.int .i64 1]
 | 10 => op = .nilIface ∧ ac = MISSV X
 | 11 => op = .nilIface ∧ ac = CNTV X
 | 12 => op = .nilIface ∧ ac = TABV X
 | 13 => ∃ R br bx bn bo bt, op = .iface 350 (PTR R) ∧ th = RM1V br bx bn bo bt ∧ RoomAt w O (k + 12) R z.rm ∧ Ob w O (k + 27) br [PTR R] ∧ Bx w O bx [PTR X]
 | 14 => ∃ M bx, op = .iface 246 (PTR M) ∧ th = CM1V bx ∧ Bx w O bx [PTR X] ∧ MkAt w O (k + 6) M z.ml
 | 15 => ∃ bx, op = .nilIface ∧ ac = CM2V bx ∧ Bx w O bx [PTR X]
 | 16 => ∃ bx, op = .nilIface ∧ ac = CM3V bx ∧ Bx w O bx [PTR X]
 | 17 => ∃ U bx bi, op = .iface 403 (PTR U) ∧ th = PU1V bx bi ∧ Bx w O bx [PTR X] ∧ Bx w O bi [.int .u64 z.id] ∧ PutAt w O (k + 9) U z.p (fnvTag (kyH c.key)) z.ref z.pu
 | 18 => ∃ bx bi, op = .nilIface ∧ ac = PU2V bx bi ∧ Bx w O bx [PTR X] ∧ Bx w O bi [.int .u64 z.id]
 | _ => False
structure StAt (w : World) (O : Om) (k X t : Nat) (c : Clm) (z : Stm) : Prop where
 ex : ∃ op th ac, Ob w O k X (stCs op th ac c z.p z.an z.nu z.ep z.pt) ∧ StL w O k X t c z op th ac z.ln
theorem StAt.idle {w : World} {O : Om} {k X t : Nat} {c : Clm} {z : Stm} (h : StAt w O k X t c z) : Idle w X (z.ln == 0) := by
 obtain ⟨op, th, ac, ho, hl⟩ := h.ex
 have q0 : w.cell? ⟨X, 0, none⟩ = some op := ho.c 0 _ rfl
 have q2 : w.cell? ⟨X, 2, none⟩ = some ac := ho.c 2 _ rfl
 obtain ⟨ln, tk, fd, ml, rm, pu, p, ref, id, an, nu, ep, pt⟩ := z
 dsimp only at hl ⊢
 match ln, hl with
 | 0, hl => obtain ⟨rfl, rfl⟩ := hl; exact .inl ⟨rfl, q0, q2⟩
 | 1, hl => obtain ⟨T, bx, rfl, -⟩ := hl; exact .inr ⟨rfl, .inl ⟨_, _, q0⟩⟩
 | 2, hl => obtain ⟨U, rfl, -⟩ := hl; exact .inr ⟨rfl, .inl ⟨_, _, q0⟩⟩
 | 3, hl => obtain ⟨F, bf, bx, rfl, -⟩ := hl; exact .inr ⟨rfl, .inl ⟨_, _, q0⟩⟩
 | 4, hl => obtain ⟨M, bx, br, rfl, -⟩ := hl; exact .inr ⟨rfl, .inl ⟨_, _, q0⟩⟩
 | 5, hl => obtain ⟨bx, br, rfl, rfl, -⟩ := hl; exact .inr ⟨rfl, .inr ⟨q0, _, _, _, q2⟩⟩
 | 6, hl => obtain ⟨bx, rfl, rfl, -⟩ := hl; exact .inr ⟨rfl, .inr ⟨q0, _, _, _, q2⟩⟩
 | 7, hl => obtain ⟨bx, br, bi, rfl, rfl, -⟩ := hl; exact .inr ⟨rfl, .inr ⟨q0, _, _, _, q2⟩⟩
 | 8, hl => obtain ⟨M, rfl, -⟩ := hl; exact .inr ⟨rfl, .inl ⟨_, _, q0⟩⟩
 | 9, hl => obtain ⟨V, rfl, -⟩ := hl; exact .inr ⟨rfl, .inl ⟨_, _, q0⟩⟩
 | 10, hl => obtain ⟨rfl, rfl⟩ := hl; exact .inr ⟨rfl, .inr ⟨q0, _, _, _, q2⟩⟩
 | 11, hl => obtain ⟨rfl, rfl⟩ := hl; exact .inr ⟨rfl, .inr ⟨q0, _, _, _, q2⟩⟩
 | 12, hl => obtain ⟨rfl, rfl⟩ := hl; exact .inr ⟨rfl, .inr ⟨q0, _, _, _, q2⟩⟩
 | 13, hl => obtain ⟨R, br, bx, bn, bo, bt, rfl, -⟩ := hl; exact .inr ⟨rfl, .inl ⟨_, _, q0⟩⟩
 | 14, hl => obtain ⟨M, bx, rfl, -⟩ := hl; exact .inr ⟨rfl, .inl ⟨_, _, q0⟩⟩
 | 15, hl => obtain ⟨bx, rfl, rfl, -⟩ := hl; exact .inr ⟨rfl, .inr ⟨q0, _, _, _, q2⟩⟩
 | 16, hl => obtain ⟨bx, rfl, rfl, -⟩ := hl; exact .inr ⟨rfl, .inr ⟨q0, _, _, _, q2⟩⟩
 | 17, hl => obtain ⟨U, bx, bi, rfl, -⟩ := hl; exact .inr ⟨rfl, .inl ⟨_, _, q0⟩⟩
 | 18, hl => obtain ⟨bx, bi, rfl, rfl, -⟩ := hl; exact .inr ⟨rfl, .inr ⟨q0, _, _, _, q2⟩⟩
def spB (p : Spt) : Bool := decide (1 ≤ p.b ∧ p.b ≤ 12 ∧ 0 ≤ p.q ∧ p.q < fnvSize p.b ∧ 0 ≤ p.s ∧ p.s ≤ 3)
theorem spB_ok {p : Spt} (h : spB p = true) : p.ok := by
 unfold spB at h
 rw [decide_eq_true_eq] at h
 exact ⟨h.1, h.2.1, h.2.2.1, h.2.2.2.1, h.2.2.2.2.1, h.2.2.2.2.2⟩
def flB : Fl → Bool
 | .tb => true
 | .tg b q => decide ((1 ≤ b ∧ b ≤ 12) ∧ 0 ≤ q ∧ q < fnvSize b)
 | .im b q s => spB ⟨b, q, s⟩
theorem flB_ok {x : Fl} (h : flB x = true) : FlOk x := by
 cases x with
 | tb => trivial
 | tg b q => exact of_decide_eq_true (p := (1 ≤ b ∧ b ≤ 12) ∧ 0 ≤ q ∧ q < fnvSize b) h
 | im b q s => exact spB_ok h
def notTb : Fl → Bool
 | .tb => false
 | _ => true
def fdB (z : Fdm) : Bool := z.left.all flB && ((match z.left with | [.tb] => true | l => l.all notTb) && (decide (z.left.length ≤ 40) && (decide (z.ref = 0) || spB z.p)))
theorem fdB_ok {z : Fdm} (h : fdB z = true) : FdOk z := by
 unfold fdB at h
 rw [Bool.and_eq_true, Bool.and_eq_true, Bool.and_eq_true, Bool.or_eq_true, decide_eq_true_eq, decide_eq_true_eq] at h
 obtain ⟨h1, h2, h3, h4⟩ := h
 refine ⟨fun x hx => flB_ok (List.all_eq_true.1 h1 x hx), fun ht => ?_, h3, fun hr => h4.elim (fun e => absurd e hr) spB_ok⟩
 split at h2
 · assumption
 · have := List.all_eq_true.1 h2 _ ht
   exact absurd this (by decide)
def mlB : List Int → Bool
 | a :: l => decide (0 ≤ a ∧ a < 18446744073709551616 ∧ l.length ≤ 5)
 | [] => false
def stPre (c : Clm) (g : Int) (s : AW) (z : Stm) : Bool := decide (s.it.length ≤ 1000000) && match z.ln with
 | 1 => decide (z.tk.ln = 1 ∨ z.tk.ln = 2)
 | 2 => decide (plNow (s.M 2) = 0)
 | 3 => fdB z.fd && (!z.fd.left.isEmpty && (decide ((fdStep c.key (s, z.fd)).2.ref ≤ 0) || spB (fdStep c.key (s, z.fd)).2.p))
 | 4 => mlB z.ml
 | 5 => decide (1 ≤ z.ref ∧ z.ref ≤ s.it.length) && spB z.p
 | 6 => decide (0 ≤ z.ep ∧ z.ep ≤ 18446744073709551615)
 | 7 => spB z.p && decide (0 ≤ z.ref ∧ z.ref ≤ 9223372036854775807)
 | 8 => mlB z.ml
 | 11 => decide (s.M 6 < g)
 | 12 => decide (plNow (s.M 2) = 0)
 | 13 => decide (z.rm.ln = 1 ∧ (1 ≤ z.rm.b ∧ z.rm.b ≤ 12) ∧ (0 ≤ z.rm.a ∧ z.rm.a < fnvSize z.rm.b) ∧ 0 ≤ twFree (s.M (plTags z.rm.b z.rm.a)))
 | 14 => mlB z.ml
 | 16 => decide (0 ≤ z.ep ∧ z.ep ≤ 18446744073709551615) && spB z.p
 | 17 => spB z.p && decide (z.pu.ln < 3 ∧ 0 ≤ z.pu.w ∧ z.pu.w < 18446744073709551616 ∧ 1 ≤ z.ref ∧ z.ref ≤ 9223372036854775807)
 | 18 => spB z.p
 | _ => true
def StR (k : Nat) (w : World) (O : Om) (B : Wb) (f : Cf) (X t : Nat) (c : Clm) (y : AW × Stm) (w' : World) : Prop := ∃ G, Ext (SX k (k + 30)) O w G w' ∧ PW w' G B f y.1 ∧ StAt w' G k X t c y.2
section
variable {w : World} {O : Om} {B : Wb} {f : Cf} {s : AW} {k X t : Nat} {c : Clm}
theorem StR.mk {w' : World} {G : Om} {s' : AW} {op th ac : Value} {z : Stm} (m : Me k (k + 30) w O w' G B f s' k X (stCs op th ac c z.p z.an z.nu z.ep z.pt)) (L : StL w' G k X t c z op th ac z.ln) : StR k w O B f X t c (s', z) w' := ⟨G, m.e, m.p, op, th, ac, m.t, L⟩
theorem Me.op {a b : Nat} {w1 : World} {G : Om} {s1 : AW} {cs : List Value} (hX : Ob w O k X cs) (e : Ext (SX a b) O w G w1) (p : PW w1 G B f s1) (ha : k < a) (hk : 10 ≤ k) (hb : b ≤ k + 30) : Me k (k + 30) w O w1 G B f s1 k X cs :=
 ⟨e.mono fun t _ ht => SX.mono (by omega) hb ht, p, hX.ext e (by unfold SX; omega)⟩
end
end
section
open Go.RowKit
section
variable {w : World} {O : Om} {B : Wb} {f : Cf} {s : AW} {k X t : Nat} {c : Clm}
theorem itAt_ok {l : List It} {r : Int} (h0 : 1 ≤ r) (h1 : r ≤ l.length) : ∃ i, l[i]? = some (itAt l r) ∧ r = (i : Nat) + 1 := by
 have hi : (r - 1).toNat < l.length := by omega
 refine ⟨(r - 1).toNat, ?_, by omega⟩
 unfold itAt
 rw [if_pos ⟨h0, h1⟩, List.getElem?_eq_getElem hi]
 rfl
theorem c_StDec1 {bx br : Nat} {r : Int} {wv : Value} {R : World → Prop} (hb : Bx w O bx [PTR X]) (hr : Bx w O br [.int .i64 r])
 (HC : Calls Tryz.prog 166 #[.pointer (some ⟨X, 0, none⟩), wv, .int .i64 r] w fun e w' => e = .returned (.tuple #[]) ∧ R w') :
 Calls Tryz.prog 165 #[wv, .pointer (some ⟨bx, 0, none⟩), .pointer (some ⟨br, 0, none⟩)] w fun e w' => e = .returned (.tuple #[]) ∧ R w' := by
 have q0 : w.cell? ⟨bx, 0, none⟩ = some (.pointer (some ⟨X, 0, none⟩)) := hb.c 0 _ rfl
 have q1 := hr.c 0 _ rfl
 have HCH := Lib.hid HC
 clear HC hb hr
 go_enter Tryz.func165, Tryz.ntmps165
 go_wp2_with fail
 refine HCH.out.mono ?_
 rintro e w' ⟨rfl, h⟩
 have HR := Lib.hid h
 clear h
 go_wp2_with fail
 go_end0
 exact ⟨rfl, HR.out⟩
theorem c_StRec1 {bx : Nat} {wv : Value} {R : World → Prop} (hb : Bx w O bx [PTR X])
 (HC : Calls Tryz.prog 228 #[.pointer (some ⟨X, 0, none⟩), wv, .func (.func 229) #[.pointer (some ⟨X, 0, none⟩)] #[]] w fun e w' => e = .returned (.tuple #[]) ∧ R w') :
 Calls Tryz.prog 227 #[wv, .pointer (some ⟨bx, 0, none⟩)] w fun e w' => e = .returned (.tuple #[]) ∧ R w' := by
 have q0 : w.cell? ⟨bx, 0, none⟩ = some (.pointer (some ⟨X, 0, none⟩)) := hb.c 0 _ rfl
 have HCH := Lib.hid HC
 clear HC hb
 go_enter Tryz.func227, Tryz.ntmps227
 go_wp2_with fail
 refine HCH.out.mono ?_
 rintro e w' ⟨rfl, h⟩
 have HR := Lib.hid h
 clear h
 go_wp2_with fail
 go_end0
 exact ⟨rfl, HR.out⟩
theorem c_StRec2 {bx : Nat} {wv : Value} {R : World → Prop} (hb : Bx w O bx [PTR X])
 (HC : Calls Tryz.prog 228 #[.pointer (some ⟨X, 0, none⟩), wv, .func (.func 298) #[.pointer (some ⟨X, 0, none⟩)] #[]] w fun e w' => e = .returned (.tuple #[]) ∧ R w') :
 Calls Tryz.prog 297 #[wv, .pointer (some ⟨bx, 0, none⟩)] w fun e w' => e = .returned (.tuple #[]) ∧ R w' := by
 have q0 : w.cell? ⟨bx, 0, none⟩ = some (.pointer (some ⟨X, 0, none⟩)) := hb.c 0 _ rfl
 have HCH := Lib.hid HC
 clear HC hb
 go_enter Tryz.func297, Tryz.ntmps297
 go_wp2_with fail
 refine HCH.out.mono ?_
 rintro e w' ⟨rfl, h⟩
 have HR := Lib.hid h
 clear h
 go_wp2_with fail
 go_end0
 exact ⟨rfl, HR.out⟩
theorem mlB_ok {ml : List Int} (h : mlB ml = true) : ∃ a l, ml = a :: l ∧ 0 ≤ a ∧ a < 18446744073709551616 ∧ l.length ≤ 5 := by
 cases ml with
 | nil => cases h
 | cons a l => obtain ⟨h1, h2, h3⟩ := of_decide_eq_true (p := 0 ≤ a ∧ a < 18446744073709551616 ∧ l.length ≤ 5) h; exact ⟨a, l, rfl, h1, h2, h3⟩
theorem c_StOn (mo : Int) (z : Stm) (hP : PW w O B f s) (hX : StAt w O k X t c z) (hpre : stPre c f.g s z = true) (hz : z.ln ≠ 0) (ht : t < 64) (hex : -9223372036854775808 ≤ c.exp ∧ c.exp ≤ 9223372036854775807) (hkz : c.key.size ≤ maxLen) (hk : 10 ≤ k) (g0 : 1 ≤ f.g) (g1 : f.g ≤ 65536) (hhi : ∀ j, O j ≠ 0 → j < w.heap.size) (n0 : 0 ≤ s.n) (n1 : s.n ≤ 4611686018427387904) :
 Calls Tryz.prog 438 #[.pointer (some ⟨X, 0, none⟩), .pointer (some ⟨B.p, 0, none⟩)] w fun e w' => e = .returned (.tuple #[]) ∧ StR k w O B f X t c (stStep t c mo (s, z)) w' := by
 obtain ⟨op, th, ac, ho, hl⟩ := hX.ex
 obtain ⟨ln, tk, fd, ml, rm, pu, p, ref, id, an, nu, ep, pt⟩ := z
 unfold stPre at hpre
 rw [Bool.and_eq_true, decide_eq_true_eq] at hpre
 obtain ⟨hil, hpre⟩ := hpre
 have q0 : w.cell? ⟨X, 0, none⟩ = some op := ho.c 0 _ rfl
 have q1 : w.cell? ⟨X, 1, none⟩ = some th := ho.c 1 _ rfl
 have q2 : w.cell? ⟨X, 2, none⟩ = some ac := ho.c 2 _ rfl
 have M := Me.start (a := k) (b := k + 30) hhi hP ho
 match ln, hl with
 | 0, hl => exact absurd rfl hz
 | 1, hl =>
   obtain ⟨T, bx, rfl, rfl, hb, hT⟩ := hl
   have htk : tk.ln = 1 ∨ tk.ln = 2 := of_decide_eq_true hpre
   have HC := c_TakeStep w O B f s (k + 1) T t tk hP hT htk (by omega) ht hhi n0 n1
   by_cases h0 : (tkStep t s tk).2.ln = 0
   · rw [decide_eq_true h0] at HC
     have hst : stStep t c mo (s, ⟨1, tk, fd, ml, rm, pu, p, ref, id, an, nu, ep, pt⟩) = ((tkStep t s tk).1, ⟨2, (tkStep t s tk).2, fd, ml, rm, pu, p, ref, id, an, nu, ep, pt⟩) := by simp [stStep, h0]
     rw [hst]
     refine c_goOnYes (bd := #[]) (caps := #[PTR bx]) q0 (m_TkStep _) (run_enter Tryz.func106 (by kernel_rfl) (by kernel_rfl)) (HC.mono fun _ _ h => RP.swap h) (run_enter Tryz.func98 (by kernel_rfl) (by kernel_rfl)) fun w1 h1 => ?_
     obtain ⟨G, e1, p1, t1⟩ := h1
     have m1 := Me.op ho e1 p1 (by omega) hk (by omega)
     refine ⟨m1.t.c 1 _ rfl, (c_StNew1 _ m1 (hb.ext e1) hk).mono fun e w' h => ?_⟩
     obtain ⟨U, he, G2, m2, -, u2⟩ := h
     exact ⟨he, StR.mk (z := ⟨2, (tkStep t s tk).2, fd, ml, rm, pu, p, ref, id, an, nu, ep, pt⟩) m2 ⟨U, rfl, rfl, u2⟩⟩
   · rw [decide_eq_false h0] at HC
     have hst : stStep t c mo (s, ⟨1, tk, fd, ml, rm, pu, p, ref, id, an, nu, ep, pt⟩) = ((tkStep t s tk).1, ⟨1, (tkStep t s tk).2, fd, ml, rm, pu, p, ref, id, an, nu, ep, pt⟩) := by simp [stStep, h0]
     rw [hst]
     refine c_goOnNo q0 (m_TkStep _) (run_enter Tryz.func106 (by kernel_rfl) (by kernel_rfl)) (HC.mono fun e w1 h1 => ?_)
     obtain ⟨he, G, e1, p1, t1⟩ := RP.swap h1
     have m1 := Me.op ho e1 p1 (by omega) hk (by omega)
     exact ⟨he, StR.mk (z := ⟨1, (tkStep t s tk).2, fd, ml, rm, pu, p, ref, id, an, nu, ep, pt⟩) m1 ⟨T, bx, rfl, rfl, hb.ext e1, t1⟩⟩
 | 2, hl =>
   obtain ⟨U, rfl, rfl, hU⟩ := hl
   have hn : plNow (s.M 2) = 0 := of_decide_eq_true hpre
   have HC := c_TurnStep1 hP hU (by omega) hn hhi n0 n1
   refine c_goOnYes (bd := #[PTR X]) (caps := #[]) q0 (m_TuStep _) (run_enter Tryz.func444 (by kernel_rfl) (by kernel_rfl)) (HC.mono fun _ _ h => RP.swap h) (run_enter Tryz.func100 (by kernel_rfl) (by kernel_rfl)) fun w1 h1 => ?_
   obtain ⟨G, e1, p1⟩ := h1
   have m1 := Me.op ho e1 p1 (by omega) hk (by omega)
   refine ⟨m1.t.c 1 _ rfl, (c_StFinds _ m1 hk).mono fun e w' h => ?_⟩
   obtain ⟨F, bf, bx, he, G2, m2, -, h1, h2, h3⟩ := h
   exact ⟨he, StR.mk (z := ⟨3, tk, fdNew, ml, rm, pu, p, ref, id, an, nu, ep, pt⟩) m2 ⟨F, bf, bx, rfl, rfl, h2, h3, h1⟩⟩
 | 3, hl =>
   obtain ⟨F, bf, bx, rfl, rfl, hf, hb, hF⟩ := hl
   simp only [Bool.and_eq_true, Bool.or_eq_true, decide_eq_true_eq, Bool.not_eq_true'] at hpre
   obtain ⟨hfd, hne, hpp⟩ := hpre
   have hne2 : fd.left ≠ [] := by intro e; rw [e] at hne; cases hne
   have HC := c_FdStep (k := k + 3) fd hP hF (fdB_ok hfd) hne2 hkz hil (by omega) hhi n0 n1
   obtain ⟨y, hy⟩ : ∃ y, y = fdStep c.key (s, fd) := ⟨_, rfl⟩
   rw [← hy] at HC hpp
   obtain ⟨s1, fd1⟩ := y
   dsimp only at HC hpp
   cases hl1 : fd1.left with
   | nil =>
     rw [hl1] at HC
     have hst : stStep t c mo (s, ⟨3, tk, fd, ml, rm, pu, p, ref, id, an, nu, ep, pt⟩) = (s1, if 0 < fd1.ref then ⟨4, tk, fd1, stVer fd1.p, rm, pu, fd1.p, fd1.ref, id, an, nu, ep, pt⟩ else ⟨if c.verb = 5 ∨ c.verb = 6 then 10 else 11, tk, fd1, ml, rm, pu, p, ref, id, an, nu, ep, pt⟩) := by
      simp only [stStep, ← hy, hl1]
     rw [hst]
     refine c_goOnYes (bd := #[]) (caps := #[PTR bf, PTR bx]) q0 (m_FdStep _) (run_enter Tryz.func457 (by kernel_rfl) (by kernel_rfl)) (HC.mono fun _ _ h => RP.swap h) (run_enter Tryz.func161 (by kernel_rfl) (by kernel_rfl)) fun w1 h1 => ?_
     obtain ⟨G, e1, p1, f1⟩ := h1
     have m1 := Me.op ho e1 p1 (by omega) hk (by omega)
     refine ⟨m1.t.c 1 _ rfl, (c_StFound _ m1 (hf.ext e1) (hb.ext e1) f1 (fun h => hpp.elim (fun q => by omega) spB_ok) hk).mono fun e w' h => ?_⟩
     unfold FoundQ at h
     by_cases hr : 0 < fd1.ref
     · rw [if_pos hr] at h ⊢
       obtain ⟨Mk, bx', br, he, G2, m2, -, k2, h2, h3⟩ := h
       exact ⟨he, StR.mk (z := ⟨4, tk, fd1, stVer fd1.p, rm, pu, fd1.p, fd1.ref, id, an, nu, ep, pt⟩) m2 ⟨Mk, bx', br, rfl, rfl, h2, h3, k2⟩⟩
     · rw [if_neg hr] at h ⊢
       obtain ⟨he, G2, m2, -, -⟩ := h
       by_cases hv : c.verb = 5 ∨ c.verb = 6
       · rw [if_pos hv] at m2 ⊢
         exact ⟨he, StR.mk (z := ⟨10, tk, fd1, ml, rm, pu, p, ref, id, an, nu, ep, pt⟩) m2 ⟨rfl, rfl⟩⟩
       · rw [if_neg hv] at m2 ⊢
         exact ⟨he, StR.mk (z := ⟨11, tk, fd1, ml, rm, pu, p, ref, id, an, nu, ep, pt⟩) m2 ⟨rfl, rfl⟩⟩
   | cons x r =>
     rw [hl1] at HC
     have hst : stStep t c mo (s, ⟨3, tk, fd, ml, rm, pu, p, ref, id, an, nu, ep, pt⟩) = (s1, ⟨3, tk, fd1, ml, rm, pu, p, ref, id, an, nu, ep, pt⟩) := by
      simp only [stStep, ← hy, hl1]
     rw [hst]
     refine c_goOnNo q0 (m_FdStep _) (run_enter Tryz.func457 (by kernel_rfl) (by kernel_rfl)) (HC.mono fun e w1 h1 => ?_)
     obtain ⟨he, G, e1, p1, f1⟩ := RP.swap h1
     have m1 := Me.op ho e1 p1 (by omega) hk (by omega)
     exact ⟨he, StR.mk (z := ⟨3, tk, fd1, ml, rm, pu, p, ref, id, an, nu, ep, pt⟩) m1 ⟨F, bf, bx, rfl, rfl, hf.ext e1, hb.ext e1, f1⟩⟩
 | 4, hl =>
   obtain ⟨M1, bx, br, rfl, rfl, hb, hr, hM⟩ := hl
   obtain ⟨a, l, rfl, a0, a1, hl5⟩ := mlB_ok hpre
   have HC := c_MkStep a l (k + 6) hP hM hl5 (by omega) hhi a0 a1 n0 n1
   cases l with
   | nil =>
     refine c_goOnYes (bd := #[]) (caps := #[PTR bx, PTR br]) q0 (m_MkStep _) (run_enter Tryz.func341 (by kernel_rfl) (by kernel_rfl)) (HC.mono fun _ _ h => RP.swap h) (run_enter Tryz.func163 (by kernel_rfl) (by kernel_rfl)) fun w1 h1 => ?_
     obtain ⟨G, e1, p1, k1⟩ := h1
     have m1 := Me.op ho e1 p1 (by omega) hk (by omega)
     refine ⟨m1.t.c 1 _ rfl, (c_StMk1 _ m1 (hb.ext e1) hk).mono fun e w' h => ?_⟩
     obtain ⟨he, G2, m2, e2, -⟩ := h
     exact ⟨he, StR.mk (z := ⟨5, tk, fd, [], rm, pu, p, ref, id, an, nu, ep, pt⟩) m2 ⟨bx, br, rfl, rfl, (hb.ext e1).ext e2, (hr.ext e1).ext e2⟩⟩
   | cons b l =>
     refine c_goOnNo q0 (m_MkStep _) (run_enter Tryz.func341 (by kernel_rfl) (by kernel_rfl)) (HC.mono fun e w1 h1 => ?_)
     obtain ⟨he, G, e1, p1, k1⟩ := RP.swap h1
     have m1 := Me.op ho e1 p1 (by omega) hk (by omega)
     exact ⟨he, StR.mk (z := ⟨4, tk, fd, b :: l, rm, pu, p, ref, id, an, nu, ep, pt⟩) m1 ⟨M1, bx, br, rfl, rfl, hb.ext e1, hr.ext e1, k1⟩⟩
 | 5, hl =>
   obtain ⟨bx, br, rfl, rfl, hb, hr⟩ := hl
   simp only [Bool.and_eq_true, decide_eq_true_eq] at hpre
   obtain ⟨⟨r0, r1⟩, hpb⟩ := hpre
   have hp := spB_ok hpb
   obtain ⟨i, hi, hri⟩ := itAt_ok r0 r1
   refine c_goOnAct (bd := #[]) (caps := #[PTR bx, PTR br]) q0 q2 (run_enter Tryz.func165 (by kernel_rfl) (by kernel_rfl)) (c_StDec1 hb hr ?_)
   have hst : stStep t c mo (s, ⟨5, tk, fd, ml, rm, pu, p, ref, id, an, nu, ep, pt⟩) = (awLoad 8 s, match stDecide c (itAt s.it ref) (s.M 8) with
    | some a => ⟨8, tk, fd, stVer p, rm, pu, p, ref, id, a, 0, s.M 8, s.n + 1⟩
    | none => ⟨6, tk, fd, ml, rm, pu, p, ref, id, an, nu, s.M 8, s.n + 1⟩) := by
    simp only [stStep]
    cases stDecide c (itAt s.it ref) (s.M 8) <;> rfl
   rw [hst]
   obtain ⟨x, hx⟩ : ∃ x, x = itAt s.it ref := ⟨_, rfl⟩
   rw [← hx] at hi ⊢
   have T : ∀ a, ((a = 2 ∧ c.verb = 4 ∧ epAlive x.dies x.gen (s.M 8) = true) ∨ (a = 2 ∧ c.verb = 5 ∧ epAlive x.dies x.gen (s.M 8) = false) ∨ (a = 4 ∧ c.verb = 6 ∧ epAlive x.dies x.gen (s.M 8) = false) ∨ (a = 3 ∧ c.verb = 6 ∧ epAlive x.dies x.gen (s.M 8) = true ∧ x.id ≠ c.id)) → Calls Tryz.prog 166 #[.pointer (some ⟨X, 0, none⟩), .pointer (some ⟨B.p, 0, none⟩), .int .i64 ref] w fun e w' => e = .returned (.tuple #[]) ∧ StR k w O B f X t c (awLoad 8 s, ⟨8, tk, fd, stVer p, rm, pu, p, ref, id, a, 0, s.M 8, s.n + 1⟩) w' := fun a ha =>
    (c_StDecT a M hp hi hri rfl ha hil hk n0 n1).mono fun e w' h => by
      obtain ⟨Mk, he, G2, m2, -, k2⟩ := h
      exact ⟨he, StR.mk (z := ⟨8, tk, fd, stVer p, rm, pu, p, ref, id, a, 0, s.M 8, s.n + 1⟩) m2 ⟨Mk, rfl, rfl, k2⟩⟩
   have A : ((c.verb = 4 ∧ epAlive x.dies x.gen (s.M 8) = false) ∨ (c.verb = 5 ∧ epAlive x.dies x.gen (s.M 8) = true) ∨ (c.verb = 6 ∧ epAlive x.dies x.gen (s.M 8) = true ∧ x.id = c.id) ∨ (c.verb ≠ 4 ∧ c.verb ≠ 5 ∧ c.verb ≠ 6)) → Calls Tryz.prog 166 #[.pointer (some ⟨X, 0, none⟩), .pointer (some ⟨B.p, 0, none⟩), .int .i64 ref] w fun e w' => e = .returned (.tuple #[]) ∧ StR k w O B f X t c (awLoad 8 s, ⟨6, tk, fd, ml, rm, pu, p, ref, id, an, nu, s.M 8, s.n + 1⟩) w' := fun ha =>
    (c_StDecA M hi hri rfl ha hil hk n0 n1).mono fun e w' h => by
      obtain ⟨bx', he, G2, m2, -, b2⟩ := h
      exact ⟨he, StR.mk (z := ⟨6, tk, fd, ml, rm, pu, p, ref, id, an, nu, s.M 8, s.n + 1⟩) m2 ⟨bx', rfl, rfl, b2⟩⟩
   unfold stDecide
   obtain ⟨al, hal⟩ : ∃ al, al = epAlive x.dies x.gen (s.M 8) := ⟨_, rfl⟩
   rw [← hal] at T A ⊢
   clear hst hal
   by_cases c1 : (c.verb = 4 ∧ al = true) ∨ (c.verb = 5 ∧ al = false)
   · rw [if_pos c1]
     exact T 2 (c1.elim (fun h => .inl ⟨rfl, h⟩) fun h => .inr (.inl ⟨rfl, h⟩))
   · rw [if_neg c1]
     by_cases c2 : c.verb = 6 ∧ al = false
     · rw [if_pos c2]
       exact T 4 (.inr (.inr (.inl ⟨rfl, c2⟩)))
     · rw [if_neg c2]
       by_cases c3 : c.verb = 6 ∧ x.id ≠ c.id
       · rw [if_pos c3]
         refine T 3 (.inr (.inr (.inr ⟨rfl, c3.1, ?_, c3.2⟩)))
         cases al with
         | true => rfl
         | false => exact absurd ⟨c3.1, rfl⟩ c2
       · rw [if_neg c3]
         refine A ?_
         cases al with
         | true =>
           by_cases h4 : c.verb = 4
           · exact absurd (.inl ⟨h4, rfl⟩) c1
           · by_cases h5 : c.verb = 5
             · exact .inr (.inl ⟨h5, rfl⟩)
             · by_cases h6 : c.verb = 6
               · refine .inr (.inr (.inl ⟨h6, rfl, ?_⟩))
                 by_cases he : x.id = c.id
                 · exact he
                 · exact absurd ⟨h6, he⟩ c3
               · exact .inr (.inr (.inr ⟨h4, h5, h6⟩))
         | false =>
           by_cases h4 : c.verb = 4
           · exact .inl ⟨h4, rfl⟩
           · by_cases h5 : c.verb = 5
             · exact absurd (.inr ⟨h5, rfl⟩) c1
             · by_cases h6 : c.verb = 6
               · exact absurd ⟨h6, rfl⟩ c2
               · exact .inr (.inr (.inr ⟨h4, h5, h6⟩))
 | 6, hl =>
   obtain ⟨bx, rfl, rfl, hb⟩ := hl
   have hep : 0 ≤ ep ∧ ep ≤ 18446744073709551615 := of_decide_eq_true hpre
   refine c_goOnAct (bd := #[]) (caps := #[PTR bx]) q0 q2 (run_enter Tryz.func227 (by kernel_rfl) (by kernel_rfl)) (c_StRec1 hb ?_)
   refine c_StRecords M (run_enter Tryz.func229 (by kernel_rfl) (by kernel_rfl)) hep hex hil hk n0 n1 fun W G m1 e1 => ?_
   refine (c_StReplaces _ m1 hk).mono fun e w' h => ?_
   obtain ⟨bx', br, bi, he, G2, m2, -, h1, h2, h3⟩ := h
   exact ⟨he, StR.mk (z := ⟨7, tk, fd, ml, rm, pu, p, (s.it.length + 1 : Nat), (s.M 7 + 1) % 18446744073709551616, an, nu, ep, pt⟩) m2 ⟨bx', br, bi, rfl, rfl, h1, h2, h3⟩⟩
 | 7, hl =>
   obtain ⟨bx, br, bi, rfl, rfl, hb, hr, hi⟩ := hl
   simp only [Bool.and_eq_true, decide_eq_true_eq] at hpre
   obtain ⟨hpb, r0, r1⟩ := hpre
   refine c_goOnAct (bd := #[]) (caps := #[PTR bx, PTR br, PTR bi]) q0 q2 (run_enter Tryz.func265 (by kernel_rfl) (by kernel_rfl)) ((c_StRep1 M (spB_ok hpb) hb hr hi r0 r1 hk n0 n1).mono fun e w' h => ?_)
   obtain ⟨Mk, he, G2, m2, -, k2⟩ := h
   exact ⟨he, StR.mk (z := ⟨8, tk, fd, stVer p, rm, pu, p, ref, id, 1, id, ep, pt⟩) m2 ⟨Mk, rfl, rfl, k2⟩⟩
 | 8, hl =>
   obtain ⟨M1, rfl, rfl, hM⟩ := hl
   obtain ⟨a, l, rfl, a0, a1, hl5⟩ := mlB_ok hpre
   have HC := c_MkStep a l (k + 6) hP hM hl5 (by omega) hhi a0 a1 n0 n1
   cases l with
   | nil =>
     refine c_goOnYes (bd := #[PTR X]) (caps := #[]) q0 (m_MkStep _) (run_enter Tryz.func341 (by kernel_rfl) (by kernel_rfl)) (HC.mono fun _ _ h => RP.swap h) (run_enter Tryz.func231 (by kernel_rfl) (by kernel_rfl)) fun w1 h1 => ?_
     obtain ⟨G, e1, p1, k1⟩ := h1
     have m1 := Me.op ho e1 p1 (by omega) hk (by omega)
     refine ⟨m1.t.c 1 _ rfl, (c_StGives _ m1 hk).mono fun e w' h => ?_⟩
     obtain ⟨V, he, G2, m2, -, v2⟩ := h
     exact ⟨he, StR.mk (z := ⟨9, tk, fd, [], rm, pu, p, ref, id, an, nu, ep, pt⟩) m2 ⟨V, rfl, rfl, v2⟩⟩
   | cons b l =>
     refine c_goOnNo q0 (m_MkStep _) (run_enter Tryz.func341 (by kernel_rfl) (by kernel_rfl)) (HC.mono fun e w1 h1 => ?_)
     obtain ⟨he, G, e1, p1, k1⟩ := RP.swap h1
     have m1 := Me.op ho e1 p1 (by omega) hk (by omega)
     exact ⟨he, StR.mk (z := ⟨8, tk, fd, b :: l, rm, pu, p, ref, id, an, nu, ep, pt⟩) m1 ⟨M1, rfl, rfl, k1⟩⟩
 | 9, hl =>
   obtain ⟨V, rfl, rfl, hV⟩ := hl
   have HC := c_GiveStep w O B f s (k + 8) V hP hV (by omega) hhi n0 n1
   refine c_goOnYes (bd := #[PTR X]) (caps := #[]) q0 (m_GvStep _) (run_enter Tryz.func104 (by kernel_rfl) (by kernel_rfl)) (HC.mono fun _ _ h => RP.swap h) (run_enter Tryz.func266 (by kernel_rfl) (by kernel_rfl)) fun w1 h1 => ?_
   obtain ⟨G, e1, p1, -⟩ := h1
   have m1 := Me.op ho e1 p1 (by omega) hk (by omega)
   refine ⟨m1.t.c 1 _ rfl, (c_goEnds _ m1 hk (Nat.le_refl _) (by omega)).mono fun e w' h => ?_⟩
   exact ⟨h.1, StR.mk (z := ⟨0, tk, fd, ml, rm, pu, p, ref, id, an, nu, ep, pt⟩) h.2.1 ⟨rfl, rfl⟩⟩
 | 10, hl =>
   obtain ⟨rfl, rfl⟩ := hl
   refine c_goOnAct (bd := #[PTR X]) (caps := #[]) q0 q2 (run_enter Tryz.func167 (by kernel_rfl) (by kernel_rfl)) ((c_StMissing M hk n0 n1).mono fun e w' h => ?_)
   obtain ⟨V, he, G2, m2, -, v2⟩ := h
   exact ⟨he, StR.mk (z := ⟨9, tk, fd, ml, rm, pu, p, ref, id, if c.verb = 6 then 4 else 2, 0, s.M 8, s.n + 1⟩) m2 ⟨V, rfl, rfl, v2⟩⟩
 | 11, hl =>
   obtain ⟨rfl, rfl⟩ := hl
   refine c_goOnAct (bd := #[PTR X]) (caps := #[]) q0 q2 (run_enter Tryz.func168 (by kernel_rfl) (by kernel_rfl)) ((c_StCounts M hk (of_decide_eq_true hpre) g0 g1 n0 n1).mono fun e w' h => ?_)
   obtain ⟨he, G2, m2, -, -⟩ := h
   exact ⟨he, StR.mk (z := ⟨12, tk, fd, ml, rm, pu, p, ref, id, an, nu, ep, pt⟩) m2 ⟨rfl, rfl⟩⟩
 | 12, hl =>
   obtain ⟨rfl, rfl⟩ := hl
   have hn : plNow (s.M 2) = 0 := of_decide_eq_true hpre
   refine c_goOnAct (bd := #[PTR X]) (caps := #[]) q0 q2 (run_enter Tryz.func233 (by kernel_rfl) (by kernel_rfl)) ((c_StTables M hk n0 n1).mono fun e w' h => ?_)
   obtain ⟨R, br, bx, bn, bo, bt, he, G2, m2, -, h1, h2, h3⟩ := h
   rw [show plTarget (s.M 2) = plOld (s.M 2) by unfold plTarget; rw [if_pos hn]] at h1
   exact ⟨he, StR.mk (z := ⟨13, tk, fd, ml, rmNew (plOld (s.M 2)) (kyH c.key), pu, p, ref, id, an, nu, ep, pt⟩) m2 ⟨R, br, bx, bn, bo, bt, rfl, rfl, h1, h2, h3⟩⟩
 | 13, hl =>
   obtain ⟨R, br, bx, bn, bo, bt, rfl, rfl, hR, hr, hb⟩ := hl
   obtain ⟨hl1, hb1, hq1, hf1⟩ := of_decide_eq_true hpre
   dsimp only at hl1 hb1 hq1 hf1
   have hql : rmLeft rm = rm.a :: (if rm.c = rm.a then [] else [rm.c]) := by unfold rmLeft; rw [if_pos hl1]; split <;> rfl
   have hb3 := (twFree_bd (s.M (plTags rm.b rm.a))).2
   have HC := c_RmStepFree (k := k + 12) hP hR (.inl hl1) hql hb1 hq1 hf1 (by omega) hhi n0 n1
   have hst : stStep t c mo (s, ⟨13, tk, fd, ml, rm, pu, p, ref, id, an, nu, ep, pt⟩) = (awLoad (plTags rm.b rm.a) s, ⟨14, tk, fd, stVer ⟨rm.b, rm.a, twFree (s.M (plTags rm.b rm.a))⟩, rmIn rm ⟨rm.b, rm.a, twFree (s.M (plTags rm.b rm.a))⟩, pu, ⟨rm.b, rm.a, twFree (s.M (plTags rm.b rm.a))⟩, ref, id, an, nu, ep, pt⟩) := by
    have : rmStep mo (s, rm) = (awLoad (plTags rm.b rm.a) s, rmIn rm ⟨rm.b, rm.a, twFree (s.M (plTags rm.b rm.a))⟩) := by
     unfold rmStep
     rw [if_pos hl1]
     simp only [rmTg]
     rw [if_pos hf1]
    simp only [stStep, this]
    rfl
   rw [hst]
   refine c_goOnYes (bd := #[]) (caps := #[PTR br, PTR bx, PTR bn, PTR bo, PTR bt]) q0 (m_RmStep _) (run_enter Tryz.func470 (by kernel_rfl) (by kernel_rfl)) (HC.mono fun _ _ h => RP.swap h) (run_enter Tryz.func269 (by kernel_rfl) (by kernel_rfl)) fun w1 h1 => ?_
   obtain ⟨G, e1, p1, k1⟩ := h1
   have m1 := Me.op ho e1 p1 (by omega) hk (by omega)
   refine ⟨m1.t.c 1 _ rfl, (c_StRm1 _ m1 (hb.ext e1) (hr.ext e1 (by unfold SX; omega)) k1 rfl ⟨hb1.1, hb1.2, hq1.1, hq1.2, hf1, hb3⟩ hk).mono fun e w' h => ?_⟩
   obtain ⟨Mk, bx', he, G2, m2, -, k2, b2⟩ := h
   exact ⟨he, StR.mk (z := ⟨14, tk, fd, stVer ⟨rm.b, rm.a, twFree (s.M (plTags rm.b rm.a))⟩, rmIn rm ⟨rm.b, rm.a, twFree (s.M (plTags rm.b rm.a))⟩, pu, ⟨rm.b, rm.a, twFree (s.M (plTags rm.b rm.a))⟩, ref, id, an, nu, ep, pt⟩) m2 ⟨Mk, bx', rfl, rfl, b2, k2⟩⟩
 | 14, hl =>
   obtain ⟨M1, bx, rfl, rfl, hb, hM⟩ := hl
   obtain ⟨a, l, rfl, a0, a1, hl5⟩ := mlB_ok hpre
   have HC := c_MkStep a l (k + 6) hP hM hl5 (by omega) hhi a0 a1 n0 n1
   cases l with
   | nil =>
     refine c_goOnYes (bd := #[]) (caps := #[PTR bx]) q0 (m_MkStep _) (run_enter Tryz.func341 (by kernel_rfl) (by kernel_rfl)) (HC.mono fun _ _ h => RP.swap h) (run_enter Tryz.func295 (by kernel_rfl) (by kernel_rfl)) fun w1 h1 => ?_
     obtain ⟨G, e1, p1, k1⟩ := h1
     have m1 := Me.op ho e1 p1 (by omega) hk (by omega)
     refine ⟨m1.t.c 1 _ rfl, (c_StCm1 _ m1 (hb.ext e1) hk).mono fun e w' h => ?_⟩
     obtain ⟨he, G2, m2, e2, -⟩ := h
     exact ⟨he, StR.mk (z := ⟨15, tk, fd, [], rm, pu, p, ref, id, an, nu, ep, pt⟩) m2 ⟨bx, rfl, rfl, (hb.ext e1).ext e2⟩⟩
   | cons b l =>
     refine c_goOnNo q0 (m_MkStep _) (run_enter Tryz.func341 (by kernel_rfl) (by kernel_rfl)) (HC.mono fun e w1 h1 => ?_)
     obtain ⟨he, G, e1, p1, k1⟩ := RP.swap h1
     have m1 := Me.op ho e1 p1 (by omega) hk (by omega)
     exact ⟨he, StR.mk (z := ⟨14, tk, fd, b :: l, rm, pu, p, ref, id, an, nu, ep, pt⟩) m1 ⟨M1, bx, rfl, rfl, hb.ext e1, k1⟩⟩
 | 15, hl =>
   obtain ⟨bx, rfl, rfl, hb⟩ := hl
   refine c_goOnAct (bd := #[]) (caps := #[PTR bx]) q0 q2 (run_enter Tryz.func296 (by kernel_rfl) (by kernel_rfl)) ((c_StCm2 M hb hk n0 n1).mono fun e w' h => ?_)
   obtain ⟨he, G2, m2, e2, -⟩ := h
   exact ⟨he, StR.mk (z := ⟨16, tk, fd, ml, rm, pu, p, ref, id, an, nu, s.M 8, s.n + 1⟩) m2 ⟨bx, rfl, rfl, hb.ext e2⟩⟩
 | 16, hl =>
   obtain ⟨bx, rfl, rfl, hb⟩ := hl
   simp only [Bool.and_eq_true, decide_eq_true_eq] at hpre
   obtain ⟨hep, hpb⟩ := hpre
   refine c_goOnAct (bd := #[]) (caps := #[PTR bx]) q0 q2 (run_enter Tryz.func297 (by kernel_rfl) (by kernel_rfl)) (c_StRec2 hb ?_)
   refine c_StRecords M (run_enter Tryz.func298 (by kernel_rfl) (by kernel_rfl)) hep hex hil hk n0 n1 fun W G m1 e1 => ?_
   refine (c_StPuts _ m1 (spB_ok hpb) (by omega) (by omega) hk).mono fun e w' h => ?_
   obtain ⟨U, bx', bi, he, G2, m2, -, h1, h2, h3⟩ := h
   exact ⟨he, StR.mk (z := ⟨17, tk, fd, ml, rm, ⟨0, 0⟩, p, (s.it.length + 1 : Nat), (s.M 7 + 1) % 18446744073709551616, an, nu, ep, pt⟩) m2 ⟨U, bx', bi, rfl, rfl, h2, h3, h1⟩⟩
 | 17, hl =>
   obtain ⟨U, bx, bi, rfl, rfl, hb, hi, hU⟩ := hl
   simp only [Bool.and_eq_true, decide_eq_true_eq] at hpre
   obtain ⟨hpb, h3, w0, w1, r0, r1⟩ := hpre
   have hy : 0 ≤ kyH c.key ∧ kyH c.key < 18446744073709551616 := fnvHash_bd _
   have htg := fnvTag_bd (kyH c.key) hy.1 hy.2
   have HC := c_PutStep (k := k + 9) pu hP hU (spB_ok hpb) h3 w0 w1 (by omega) hhi n0 n1 (by omega) htg.2 (by dsimp only; omega) r1
   have hln := putStep_ln p (fnvTag (kyH c.key)) ref s pu h3
   by_cases h2 : pu.ln = 2
   · rw [show (pu.ln == 2) = true by simp [h2]] at HC
     have hst : stStep t c mo (s, ⟨17, tk, fd, ml, rm, pu, p, ref, id, an, nu, ep, pt⟩) = ((putStep p (fnvTag (kyH c.key)) ref s pu).1, ⟨18, tk, fd, ml, rm, (putStep p (fnvTag (kyH c.key)) ref s pu).2, p, ref, id, an, nu, ep, pt⟩) := by
      simp only [stStep]
      rw [if_pos (by omega)]
     rw [hst]
     refine c_goOnYes (bd := #[]) (caps := #[PTR bx, PTR bi]) q0 (m_PtStep _) (run_enter Tryz.func479 (by kernel_rfl) (by kernel_rfl)) (HC.mono fun _ _ h => RP.swap h) (run_enter Tryz.func316 (by kernel_rfl) (by kernel_rfl)) fun w1 h1 => ?_
     obtain ⟨G, e1, p1, k1⟩ := h1
     have m1 := Me.op ho e1 p1 (by omega) hk (by omega)
     refine ⟨m1.t.c 1 _ rfl, (c_StPu1 _ m1 (hb.ext e1) hk).mono fun e w' h => ?_⟩
     obtain ⟨he, G2, m2, e2, -⟩ := h
     exact ⟨he, StR.mk (z := ⟨18, tk, fd, ml, rm, (putStep p (fnvTag (kyH c.key)) ref s pu).2, p, ref, id, an, nu, ep, pt⟩) m2 ⟨bx, bi, rfl, rfl, (hb.ext e1).ext e2, (hi.ext e1).ext e2⟩⟩
   · rw [show (pu.ln == 2) = false by simp [h2]] at HC
     have hst : stStep t c mo (s, ⟨17, tk, fd, ml, rm, pu, p, ref, id, an, nu, ep, pt⟩) = ((putStep p (fnvTag (kyH c.key)) ref s pu).1, ⟨17, tk, fd, ml, rm, (putStep p (fnvTag (kyH c.key)) ref s pu).2, p, ref, id, an, nu, ep, pt⟩) := by
      simp only [stStep]
      rw [if_neg (by omega)]
     rw [hst]
     refine c_goOnNo q0 (m_PtStep _) (run_enter Tryz.func479 (by kernel_rfl) (by kernel_rfl)) (HC.mono fun e w1 h1 => ?_)
     obtain ⟨he, G, e1, p1, k1⟩ := RP.swap h1
     have m1 := Me.op ho e1 p1 (by omega) hk (by omega)
     exact ⟨he, StR.mk (z := ⟨17, tk, fd, ml, rm, (putStep p (fnvTag (kyH c.key)) ref s pu).2, p, ref, id, an, nu, ep, pt⟩) m1 ⟨U, bx, bi, rfl, rfl, hb.ext e1, hi.ext e1, k1⟩⟩
 | 18, hl =>
   obtain ⟨bx, bi, rfl, rfl, hb, hi⟩ := hl
   refine c_goOnAct (bd := #[]) (caps := #[PTR bx, PTR bi]) q0 q2 (run_enter Tryz.func317 (by kernel_rfl) (by kernel_rfl)) ((c_StPu2 M (spB_ok hpre) hb hi hk n0 n1).mono fun e w' h => ?_)
   obtain ⟨Mk, he, G2, m2, -, k2⟩ := h
   exact ⟨he, StR.mk (z := ⟨8, tk, fd, stVer p, rm, pu, p, ref, id, 1, id, ep, pt⟩) m2 ⟨Mk, rfl, rfl, k2⟩⟩
theorem c_StStep (mo : Int) (z : Stm) (hP : PW w O B f s) (hX : StAt w O k X t c z) (hpre : stPre c f.g s z = true) (hz : z.ln ≠ 0) (ht : t < 64) (hex : -9223372036854775808 ≤ c.exp ∧ c.exp ≤ 9223372036854775807) (hkz : c.key.size ≤ maxLen) (hk : 10 ≤ k) (g0 : 1 ≤ f.g) (g1 : f.g ≤ 65536) (hhi : ∀ j, O j ≠ 0 → j < w.heap.size) (n0 : 0 ≤ s.n) (n1 : s.n ≤ 4611686018427387904) :
 Calls Tryz.prog 437 #[.pointer (some ⟨X, 0, none⟩), .pointer (some ⟨B.p, 0, none⟩)] w (RP (SX k (k + 30)) w O (.bool ((stStep t c mo (s, z)).2.ln == 0)) fun W G => PW W G B f (stStep t c mo (s, z)).1 ∧ StAt W G k X t c (stStep t c mo (s, z)).2) := by
 have hi := hX.idle
 rw [show (z.ln == 0) = false by simp [hz]] at hi
 exact (c_StStepBy hi (c_StOn mo z hP hX hpre hz ht hex hkz hk g0 g1 hhi n0 n1) (fun w' h => by obtain ⟨G, -, -, h3⟩ := h; exact h3.idle)).mono fun e w' h => ⟨h.1, h.2⟩
end
end
end Go.Proofs.YtifkfhnbkjkakaaGreatDoor
