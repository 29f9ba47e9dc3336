/- Layer 26: the program's Change: what it found (line 5). -/
import Derived.Test.YtifkfhnbkjkakaaGreatDoorZrCg5
import Derived.Test.YtifkfhnbkjkakaaGreatDoorZrSN
namespace Go.Proofs.YtifkfhnbkjkakaaGreatDoor
set_option linter.unusedSimpArgs false
set_option linter.unusedVariables false
set_option maxHeartbeats 8000000
set_option maxRecDepth 100000
open Go.RowKit
section
variable {w w0 : World} {O O0 : Om} {B : Wb} {f : Cf} {s : AW} {a b k X : Nat} {pv th : Value} {tl : List Value} {c : Clm} {p : Spt} {x : It} {rf an nu ep pt : Int}
theorem Me.chWas (M : Me k (k + 30) w0 O0 w O B f s k X (chCs c pv th (chTl p x rf an nu ep pt))) (hk : 10 ≤ k) (y : It) :
 Me k (k + 30) w0 O0 ((((((w.setCell ⟨X, 12, none⟩ (.string y.key)).setCell ⟨X, 13, none⟩ (.string y.val)).setCell ⟨X, 14, none⟩ (.int .u32 y.fl)).setCell ⟨X, 15, none⟩ (.int .u64 y.id)).setCell ⟨X, 16, none⟩ (.int .i64 y.dies)).setCell ⟨X, 17, none⟩ (.int .i64 y.gen)) O B f s k X (chCs c pv th (chTl p y rf an nu ep pt)) ∧
 Ext (fun t => t = k) O w O ((((((w.setCell ⟨X, 12, none⟩ (.string y.key)).setCell ⟨X, 13, none⟩ (.string y.val)).setCell ⟨X, 14, none⟩ (.int .u32 y.fl)).setCell ⟨X, 15, none⟩ (.int .u64 y.id)).setCell ⟨X, 16, none⟩ (.int .i64 y.dies)).setCell ⟨X, 17, none⟩ (.int .i64 y.gen)) := by
 have h1 := M.set2 hk (Nat.le_refl _) (by omega) (i := 12) (j := 13) (.string y.key) (.string y.val) (by simp [chCs, chTl]) (by simp [chCs, chTl])
 have h2 := h1.1.set2 hk (Nat.le_refl _) (by omega) (i := 14) (j := 15) (.int .u32 y.fl) (.int .u64 y.id) (by simp [chCs, chTl]) (by simp [chCs, chTl])
 have h3 := h2.1.set2 hk (Nat.le_refl _) (by omega) (i := 16) (j := 17) (.int .i64 y.dies) (.int .i64 y.gen) (by simp [chCs, chTl]) (by simp [chCs, chTl])
 exact ⟨h3.1, (h1.2.trans h2.2).trans h3.2⟩
theorem c_ChFound {Rr : World → Prop} {y : It} (KF : FuncId) (hKF : ∀ args W, (callFunc KF args).run Tryz.prog W = .ok (.enter KF args) W) (hvb : vbV c.verb = .func (.func KF) #[] #[]) (M : Me k (k + 30) w0 O0 w O B f s k X (chCs c pv th (chTl p x rf an nu ep pt))) (hy : y = itAt s.it rf) (hil : s.it.length ≤ 1000000) (hep : 0 ≤ ep ∧ ep ≤ 18446744073709551615) (hp : p.ok) (hk : 10 ≤ k)
 (hD : epAlive y.dies y.gen ep = false → ∀ w', (∃ Mk bx bk, ChQ k w0 O0 w O B f s X c (.iface 246 (.pointer (some ⟨Mk, 0, none⟩))) (MKSV bx bk) (chTl p y rf 4 nu ep pt) (fun W G => MkAt W G (k + 6) Mk [p.ver] ∧ Bx W G bx [.pointer (some ⟨X, 0, none⟩)] ∧ Bx W G bk [.int .u8 4]) (.returned (.tuple #[])) w') → Rr w')
 (hA : epAlive y.dies y.gen ep = true → ∀ W, Me k (k + 30) w0 O0 W O B f s k X (chCs c pv th (chTl p y rf an nu ep pt)) → Ext (SX k (k + 30)) O w O W → Calls Tryz.prog KF #[.pointer (some ⟨X, 0, none⟩), .pointer (some ⟨B.p, 0, none⟩)] W fun e w' => e = .returned (.tuple #[]) ∧ Rr w') :
 Calls Tryz.prog 137 #[.pointer (some ⟨X, 0, none⟩), .pointer (some ⟨B.p, 0, none⟩)] w fun e w' => e = .returned (.tuple #[]) ∧ Rr w' := by
 have bd := drew_below w
 have HAT := Lib.hid (c_IAtB rf (M.below bd).p.ar hil)
 rw [← hy] at HAT
 have HAL := Lib.hid (fun W => c_Alive y.key y.val y.fl y.id y.dies y.gen ep W hep.1 hep.2)
 obtain ⟨is, his⟩ : ∃ b, b = itIs s.it rf := ⟨_, rfl⟩
 rw [← his] at HAT
 have HM := Lib.hid (And.intro (M.below bd) (Ext.of_below (S := SX k (k + 30)) M.e.hi bd))
 have q18 := M.t.c 18 _ rfl
 have p1 := M.p.wo.c1
 have hne : ¬ X = B.p := fun e => M.p.ne_obj M.t hk e.symm
 have hne2 : ¬ B.p = X := fun e => M.p.ne_obj M.t hk e
 have HP := Lib.hid hp
 have HVB := Lib.hid hvb
 obtain ⟨al, hal⟩ : ∃ b, b = epAlive y.dies y.gen ep := ⟨_, rfl⟩
 rw [← hal] at HAL hD hA
 have HD := Lib.hid hD
 have HA := Lib.hid hA
 clear M hy hil hep hp hvb his hal hD hA bd
 go_enter Tryz.func137, Tryz.ntmps137
 go_upto_region 0 with fail
 go_cut [4] (fun v wx => Me k (k + 30) w0 O0 wx O B f s k X (chCs c pv th (chTl p y rf an nu ep pt)) ∧ Ext (SX k (k + 30)) O w O wx)
 case first =>
  go_region_held3 (fun w' => w'.cell? ⟨X, 18, none⟩ = some (.int .i64 rf) ∧ w'.cell? ⟨B.p, 1, none⟩ = some (.pointer (some ⟨B.ip, 0, none⟩))) (first | (go_keep; done) | (simp [go_sem, hne, hne2, q18, p1]; done) | (refine ⟨?_, ?_⟩ <;> simp [go_sem, hne, hne2, q18, p1]))
   (first
     | (go_at_call 35
        refine HAT.out.mono ?_
        rintro e w1 ⟨rfl, hb1⟩
        have m1 := HM.out.1.below hb1
        have q18 := m1.t.c 18 _ rfl
        have p1 := m1.p.wo.c1
        have z12 := m1.t.c 12 _ rfl
        have z13 := m1.t.c 13 _ rfl
        have z14 := m1.t.c 14 _ rfl
        have z15 := m1.t.c 15 _ rfl
        have z16 := m1.t.c 16 _ rfl
        have z17 := m1.t.c 17 _ rfl
        have f12 := m1.t.f 12
        have f13 := m1.t.f 13
        have f14 := m1.t.f 14
        have f15 := m1.t.f 15
        have f16 := m1.t.f 16
        have f17 := m1.t.f 17
        have w2 := m1.chWas hk y
        have HJ := Lib.hid (And.intro w2.1 ((HM.out.2.below hb1).trans (w2.2.mono fun t _ ht => SX.one ht)))
        clear m1 w2 hb1))
  all_goals
   go_wp2_with fail
   go_meet
   exact HJ.out
 obtain ⟨m2, e2⟩ := hcut
 have HM2 := Lib.hid (And.intro (m2.below (drew_below wc)) (e2.below (drew_below wc)))
 have y12 := m2.t.c 12 _ rfl
 have y13 := m2.t.c 13 _ rfl
 have y14 := m2.t.c 14 _ rfl
 have y15 := m2.t.c 15 _ rfl
 have y16 := m2.t.c 16 _ rfl
 have y17 := m2.t.c 17 _ rfl
 have y27 := m2.t.c 27 _ rfl
 obtain ⟨wq, hwq⟩ : ∃ W, W = wc := ⟨_, rfl⟩
 rw [← hwq] at HM2 y12 y13 y14 y15 y16 y17 y27 ⊢
 clear hwq m2 e2 HM HAT q18 p1 hne hne2
 go_upto_region 1 with fail
 go_cut [28] (fun v wx => v = .bool (!al) ∧ Me k (k + 30) w0 O0 wx O B f s k X (chCs c pv th (chTl p y rf an nu ep pt)) ∧ Ext (SX k (k + 30)) O w O wx)
 case first =>
  go_region_held3 (fun w' => w'.cell? ⟨X, 12, none⟩ = some (.string y.key) ∧ w'.cell? ⟨X, 13, none⟩ = some (.string y.val) ∧ w'.cell? ⟨X, 14, none⟩ = some (.int .u32 y.fl) ∧ w'.cell? ⟨X, 15, none⟩ = some (.int .u64 y.id) ∧ w'.cell? ⟨X, 16, none⟩ = some (.int .i64 y.dies) ∧ w'.cell? ⟨X, 17, none⟩ = some (.int .i64 y.gen) ∧ w'.cell? ⟨X, 27, none⟩ = some (.int .u64 ep)) (go_keep)
   (first
     | (go_at_call 15
        refine (HAL.out _).mono ?_
        rintro e w3 ⟨rfl, hb3⟩
        have m3 := HM2.out.1.below hb3
        have y12 := m3.t.c 12 _ rfl
        have y13 := m3.t.c 13 _ rfl
        have y14 := m3.t.c 14 _ rfl
        have y15 := m3.t.c 15 _ rfl
        have y16 := m3.t.c 16 _ rfl
        have y17 := m3.t.c 17 _ rfl
        have y27 := m3.t.c 27 _ rfl
        have HJ := Lib.hid (And.intro m3 (HM2.out.2.below hb3))
        clear m3 hb3))
  all_goals
   go_wp2_with fail
   go_meet
   exact ⟨rfl, HJ.out⟩
 obtain ⟨rfl, m4, e4⟩ := hcut
 have HM3 := Lib.hid (And.intro m4 e4)
 clear m4 e4 HM2 HAL y12 y13 y14 y15 y16 y17 y27
 cases al with
 | false =>
   have HMK := Lib.hid (c_ChMarks 4 HM3.out.1 HP.out hk)
   have HDD := Lib.hid (HD.out rfl)
   clear HD HA
   go_wp2_with fail
   refine HMK.out.mono ?_
   rintro e w5 ⟨Mk, bx, bk, rfl, G, m, e5, h⟩
   have HR := Lib.hid (And.intro m (And.intro (HM3.out.2.trans e5) h))
   clear m e5 h
   go_wp2_with fail
   refine bodyPost_ret (v := .tuple #[]) (results_none (by rfl) _ _ _) rfl ?_
   exact ⟨rfl, HDD.out _ ⟨Mk, bx, bk, rfl, G, HR.out⟩⟩
 | true =>
   have HC := Lib.hid (HA.out rfl)
   clear HD HA
   go_upto_region 3 with fail
   obtain ⟨wd, hwd⟩ : ∃ W, W = wc.drew := ⟨_, rfl⟩
   have bd := drew_below wc
   rw [← hwd] at bd
   have bb := bd.trans (((Below.refl _ wd).alloc (Nat.le_refl _) (.map VES 4)).mono bd.size)
   have HM4 := Lib.hid (And.intro (HM3.out.1.below bb) (HM3.out.2.below bb))
   have HLK : Hid ((Instr.lookup 154 (.map (some wd.heap.size)) (.int .u8 c.verb) false).run Tryz.prog (wd.alloc (.map VES 4)) = .ok (vbV c.verb) (wd.alloc (.map VES 4))) := Lib.hid (vbLook (by show (wd.heap.push _)[wd.heap.size]? = _; simp) c.verb false)
   have HS2 : Hid ((wd.alloc (.map VES 4)).cell? ⟨X, 0, none⟩ = some (.int .u8 c.verb)) := Lib.hid (HM4.out.1.t.c 0 _ rfl)
   have z0 := (HM3.out.1.below bd).t.c 0 _ rfl
   clear bd bb
   refine wp_region_F 9 (S := fun w' => w'.cell? ⟨X, 0, none⟩ = some (.int .u8 c.verb)) (by kernel_rfl) ?sA (fun hH0 => ?_)
   case sA => rw [← hwd]; exact z0
   rw [← hwd] at hH0 ⊢
   clear hwd
   try simp only [Act.put, List.setIfInBounds_toArray, List.set_cons_zero, List.set_cons_succ]
   refine' wpAnyF_take (i := 7) (List.getElem?_toArray.trans rfl) (by kernel_rfl) (by kernel_rfl) (by kernel_rfl) (by kernel_rfl) (fun _ _ _ h => h) (Or.inl ⟨by rfl, ?y1⟩) hH0 ?r1
   case y1 => (intro w hSw; (try dsimp only at hSw); go_simp; try with_reducible rfl)
   try simp only [Act.put, List.setIfInBounds_toArray, List.set_cons_zero, List.set_cons_succ]
   refine' wpAnyF_take (i := 8) (List.getElem?_toArray.trans rfl) (by kernel_rfl) (by kernel_rfl) (by kernel_rfl) (by kernel_rfl) (fun _ _ _ h => h) (Or.inl ⟨by rfl, ?y2⟩) hH0 ?r2
   case y2 => (intro w hSw; (try dsimp only at hSw); go_simp; try with_reducible rfl)
   try simp only [Act.put, List.setIfInBounds_toArray, List.set_cons_zero, List.set_cons_succ]
   refine wpAnyF_ready (rs := [0, 1]) (by kernel_rfl) (by simp) ?_
   refine' AllReadyF.cons (List.getElem?_toArray.trans rfl) (fun K hK => ?st3) ?more3
   case st3 =>
    go_simp
    refine' Calls.mono (c_verbs _) ?c4
    rintro e w4 ⟨rfl, rfl⟩
    try go_wp2_with fail
    refine hK.out _ _ ?s4 (fun hH4 => ?r4)
    case s4 => ((try dsimp only); exact HS2.out)
    obtain ⟨W5, hW5⟩ : ∃ W, W = wd.alloc (.map VES 4) := ⟨_, rfl⟩
    obtain ⟨mm, hmm⟩ : ∃ m, m = wd.heap.size := ⟨_, rfl⟩
    have hlk : (Instr.lookup 154 (.map (some mm)) (.int .u8 c.verb) false).run Tryz.prog W5 = .ok (.func (.func KF) #[] #[]) W5 := by rw [hW5, hmm, ← HVB.out]; exact HLK.out
    have HC5 := Lib.hid (HC.out W5 (by rw [hW5]; exact HM4.out.1) (by rw [hW5]; exact HM4.out.2))
    have z5 : W5.cell? ⟨X, 0, none⟩ = some (.int .u8 c.verb) := by rw [hW5]; exact HS2.out
    rw [← hW5, ← hmm]
    rw [← hW5] at hH4
    clear hW5 hmm
    clear hK K hH0
    try simp only [Act.put, List.setIfInBounds_toArray, List.set_cons_zero, List.set_cons_succ]
    refine wpAnyF_ready (rs := [1]) (by kernel_rfl) (by simp) ?_
    refine' AllReadyF.cons (List.getElem?_toArray.trans rfl) (fun K hK => ?st5) ?more5
    case st5 =>
     go_simp
     refine hK.out _ _ ?s6 (fun hH6 => ?r6)
     case s6 => ((try dsimp only); exact hH4)
     clear hK K hH4
     try simp only [Act.put, List.setIfInBounds_toArray, List.set_cons_zero, List.set_cons_succ]
     refine wpAnyF_ready (rs := [2]) (by kernel_rfl) (by simp) ?_
     refine' AllReadyF.cons (List.getElem?_toArray.trans rfl) (fun K hK => ?st7) ?more7
     case st7 =>
      go_simp
      refine hK.out _ _ ?s8 (fun hH8 => ?r8)
      case s8 => ((try dsimp only); exact hH6)
      clear hK K hH6
      try simp only [Act.put, List.setIfInBounds_toArray, List.set_cons_zero, List.set_cons_succ]
      refine wpAnyF_ready (rs := [3]) (by kernel_rfl) (by simp) ?_
      refine' AllReadyF.cons (List.getElem?_toArray.trans rfl) (fun K hK => ?st9) ?more9
      case st9 =>
       go_simp
       refine hK.out _ _ ?s10 (fun hH10 => ?r10)
       case s10 => ((try dsimp only); exact hH8)
       clear hK K hH8
       try simp only [Act.put, List.setIfInBounds_toArray, List.set_cons_zero, List.set_cons_succ]
       refine wpAnyF_ready (rs := [4]) (by kernel_rfl) (by simp) ?_
       refine' AllReadyF.cons (List.getElem?_toArray.trans rfl) (fun K hK => ?st11) ?more11
       case st11 =>
        go_simp
        refine hK.out _ _ ?s12 (fun hH12 => ?r12)
        case s12 => ((try dsimp only); exact hH10)
        clear hK K hH10
        try simp only [Act.put, List.setIfInBounds_toArray, List.set_cons_zero, List.set_cons_succ]
        refine wpAnyF_ready (rs := [5]) (by kernel_rfl) (by simp) ?_
        refine' AllReadyF.cons (List.getElem?_toArray.trans rfl) (fun K hK => ?st13) ?more13
        case st13 =>
         go_simp
         refine hK.out _ _ ?s14 (fun hH14 => ?r14)
         case s14 => ((try dsimp only); exact hH12)
         clear hK K hH12
         try simp only [Act.put, List.setIfInBounds_toArray, List.set_cons_zero, List.set_cons_succ]
         refine wpAnyF_ready (rs := [6]) (by kernel_rfl) (by simp) ?_
         refine' AllReadyF.cons (List.getElem?_toArray.trans rfl) (fun K hK => ?st15) ?more15
         case st15 =>
          go_simp
          refine hK.out _ _ ?s16 (fun hH16 => ?r16)
          case s16 => ((try dsimp only); exact hH14)
          clear hK K hH14
          try simp only [Act.put, List.setIfInBounds_toArray, List.set_cons_zero, List.set_cons_succ]
          refine wpAnyF_ready (rs := [9]) (by kernel_rfl) (by simp) ?_
          refine' AllReadyF.last (List.getElem?_toArray.trans rfl) (fun K hK => ?st17) ?more17
          case st17 =>
           go_simp
           refine' Calls.mono HC5.out ?c18
           rintro e w18 ⟨rfl, h18⟩
           have HR := Lib.hid h18
           clear h18
           try go_wp2_with fail
           refine hK.out _ _ ?_
           clear hK K
           try simp only [Act.put, List.setIfInBounds_toArray, List.set_cons_zero, List.set_cons_succ]
           refine wpAnyF_done (by kernel_rfl) ?_ _
           go_wp2_with fail
           go_end0
           exact ⟨rfl, HR.out⟩
          exact AllReadyF.nil
         exact AllReadyF.nil
        exact AllReadyF.nil
       exact AllReadyF.nil
      exact AllReadyF.nil
     exact AllReadyF.nil
    exact AllReadyF.nil
   refine' AllReadyF.cons (List.getElem?_toArray.trans rfl) (fun K hK => ?st19) ?more19
   case st19 =>
    go_simp
    refine hK.out _ _ ?s20 (fun hH20 => ?r20)
    case s20 => ((try dsimp only); exact hH0)
    clear hK K hH0
    try simp only [Act.put, List.setIfInBounds_toArray, List.set_cons_zero, List.set_cons_succ]
    refine wpAnyF_ready (rs := [0, 2]) (by kernel_rfl) (by simp) ?_
    refine' AllReadyF.cons (List.getElem?_toArray.trans rfl) (fun K hK => ?st21) ?more21
    case st21 =>
     go_simp
     refine' Calls.mono (c_verbs _) ?c22
     rintro e w22 ⟨rfl, rfl⟩
     try go_wp2_with fail
     refine hK.out _ _ ?s22 (fun hH22 => ?r22)
     case s22 => ((try dsimp only); exact HS2.out)
     obtain ⟨W5, hW5⟩ : ∃ W, W = wd.alloc (.map VES 4) := ⟨_, rfl⟩
     obtain ⟨mm, hmm⟩ : ∃ m, m = wd.heap.size := ⟨_, rfl⟩
     have hlk : (Instr.lookup 154 (.map (some mm)) (.int .u8 c.verb) false).run Tryz.prog W5 = .ok (.func (.func KF) #[] #[]) W5 := by rw [hW5, hmm, ← HVB.out]; exact HLK.out
     have HC5 := Lib.hid (HC.out W5 (by rw [hW5]; exact HM4.out.1) (by rw [hW5]; exact HM4.out.2))
     have z5 : W5.cell? ⟨X, 0, none⟩ = some (.int .u8 c.verb) := by rw [hW5]; exact HS2.out
     rw [← hW5, ← hmm]
     rw [← hW5] at hH22
     clear hW5 hmm
     clear hK K hH20
     try simp only [Act.put, List.setIfInBounds_toArray, List.set_cons_zero, List.set_cons_succ]
     refine wpAnyF_ready (rs := [2]) (by kernel_rfl) (by simp) ?_
     refine' AllReadyF.cons (List.getElem?_toArray.trans rfl) (fun K hK => ?st23) ?more23
     case st23 =>
      go_simp
      refine hK.out _ _ ?s24 (fun hH24 => ?r24)
      case s24 => ((try dsimp only); exact hH22)
      clear hK K hH22
      try simp only [Act.put, List.setIfInBounds_toArray, List.set_cons_zero, List.set_cons_succ]
      refine wpAnyF_ready (rs := [3]) (by kernel_rfl) (by simp) ?_
      refine' AllReadyF.cons (List.getElem?_toArray.trans rfl) (fun K hK => ?st25) ?more25
      case st25 =>
       go_simp
       refine hK.out _ _ ?s26 (fun hH26 => ?r26)
       case s26 => ((try dsimp only); exact hH24)
       clear hK K hH24
       try simp only [Act.put, List.setIfInBounds_toArray, List.set_cons_zero, List.set_cons_succ]
       refine wpAnyF_ready (rs := [4]) (by kernel_rfl) (by simp) ?_
       refine' AllReadyF.cons (List.getElem?_toArray.trans rfl) (fun K hK => ?st27) ?more27
       case st27 =>
        go_simp
        refine hK.out _ _ ?s28 (fun hH28 => ?r28)
        case s28 => ((try dsimp only); exact hH26)
        clear hK K hH26
        try simp only [Act.put, List.setIfInBounds_toArray, List.set_cons_zero, List.set_cons_succ]
        refine wpAnyF_ready (rs := [5]) (by kernel_rfl) (by simp) ?_
        refine' AllReadyF.cons (List.getElem?_toArray.trans rfl) (fun K hK => ?st29) ?more29
        case st29 =>
         go_simp
         refine hK.out _ _ ?s30 (fun hH30 => ?r30)
         case s30 => ((try dsimp only); exact hH28)
         clear hK K hH28
         try simp only [Act.put, List.setIfInBounds_toArray, List.set_cons_zero, List.set_cons_succ]
         refine wpAnyF_ready (rs := [6]) (by kernel_rfl) (by simp) ?_
         refine' AllReadyF.cons (List.getElem?_toArray.trans rfl) (fun K hK => ?st31) ?more31
         case st31 =>
          go_simp
          refine hK.out _ _ ?s32 (fun hH32 => ?r32)
          case s32 => ((try dsimp only); exact hH30)
          clear hK K hH30
          try simp only [Act.put, List.setIfInBounds_toArray, List.set_cons_zero, List.set_cons_succ]
          refine wpAnyF_ready (rs := [9]) (by kernel_rfl) (by simp) ?_
          refine' AllReadyF.last (List.getElem?_toArray.trans rfl) (fun K hK => ?st33) ?more33
          case st33 =>
           go_simp
           refine' Calls.mono HC5.out ?c34
           rintro e w34 ⟨rfl, h34⟩
           have HR := Lib.hid h34
           clear h34
           try go_wp2_with fail
           refine hK.out _ _ ?_
           clear hK K
           try simp only [Act.put, List.setIfInBounds_toArray, List.set_cons_zero, List.set_cons_succ]
           refine wpAnyF_done (by kernel_rfl) ?_ _
           go_wp2_with fail
           go_end0
           exact ⟨rfl, HR.out⟩
          exact AllReadyF.nil
         exact AllReadyF.nil
        exact AllReadyF.nil
       exact AllReadyF.nil
      exact AllReadyF.nil
     exact AllReadyF.nil
    refine' AllReadyF.cons (List.getElem?_toArray.trans rfl) (fun K hK => ?st35) ?more35
    case st35 =>
     go_simp
     refine hK.out _ _ ?s36 (fun hH36 => ?r36)
     case s36 => ((try dsimp only); exact hH20)
     clear hK K hH20
     try simp only [Act.put, List.setIfInBounds_toArray, List.set_cons_zero, List.set_cons_succ]
     refine wpAnyF_ready (rs := [0, 3]) (by kernel_rfl) (by simp) ?_
     refine' AllReadyF.cons (List.getElem?_toArray.trans rfl) (fun K hK => ?st37) ?more37
     case st37 =>
      go_simp
      refine' Calls.mono (c_verbs _) ?c38
      rintro e w38 ⟨rfl, rfl⟩
      try go_wp2_with fail
      refine hK.out _ _ ?s38 (fun hH38 => ?r38)
      case s38 => ((try dsimp only); exact HS2.out)
      obtain ⟨W5, hW5⟩ : ∃ W, W = wd.alloc (.map VES 4) := ⟨_, rfl⟩
      obtain ⟨mm, hmm⟩ : ∃ m, m = wd.heap.size := ⟨_, rfl⟩
      have hlk : (Instr.lookup 154 (.map (some mm)) (.int .u8 c.verb) false).run Tryz.prog W5 = .ok (.func (.func KF) #[] #[]) W5 := by rw [hW5, hmm, ← HVB.out]; exact HLK.out
      have HC5 := Lib.hid (HC.out W5 (by rw [hW5]; exact HM4.out.1) (by rw [hW5]; exact HM4.out.2))
      have z5 : W5.cell? ⟨X, 0, none⟩ = some (.int .u8 c.verb) := by rw [hW5]; exact HS2.out
      rw [← hW5, ← hmm]
      rw [← hW5] at hH38
      clear hW5 hmm
      clear hK K hH36
      try simp only [Act.put, List.setIfInBounds_toArray, List.set_cons_zero, List.set_cons_succ]
      refine wpAnyF_ready (rs := [3]) (by kernel_rfl) (by simp) ?_
      refine' AllReadyF.cons (List.getElem?_toArray.trans rfl) (fun K hK => ?st39) ?more39
      case st39 =>
       go_simp
       refine hK.out _ _ ?s40 (fun hH40 => ?r40)
       case s40 => ((try dsimp only); exact hH38)
       clear hK K hH38
       try simp only [Act.put, List.setIfInBounds_toArray, List.set_cons_zero, List.set_cons_succ]
       refine wpAnyF_ready (rs := [4]) (by kernel_rfl) (by simp) ?_
       refine' AllReadyF.cons (List.getElem?_toArray.trans rfl) (fun K hK => ?st41) ?more41
       case st41 =>
        go_simp
        refine hK.out _ _ ?s42 (fun hH42 => ?r42)
        case s42 => ((try dsimp only); exact hH40)
        clear hK K hH40
        try simp only [Act.put, List.setIfInBounds_toArray, List.set_cons_zero, List.set_cons_succ]
        refine wpAnyF_ready (rs := [5]) (by kernel_rfl) (by simp) ?_
        refine' AllReadyF.cons (List.getElem?_toArray.trans rfl) (fun K hK => ?st43) ?more43
        case st43 =>
         go_simp
         refine hK.out _ _ ?s44 (fun hH44 => ?r44)
         case s44 => ((try dsimp only); exact hH42)
         clear hK K hH42
         try simp only [Act.put, List.setIfInBounds_toArray, List.set_cons_zero, List.set_cons_succ]
         refine wpAnyF_ready (rs := [6]) (by kernel_rfl) (by simp) ?_
         refine' AllReadyF.cons (List.getElem?_toArray.trans rfl) (fun K hK => ?st45) ?more45
         case st45 =>
          go_simp
          refine hK.out _ _ ?s46 (fun hH46 => ?r46)
          case s46 => ((try dsimp only); exact hH44)
          clear hK K hH44
          try simp only [Act.put, List.setIfInBounds_toArray, List.set_cons_zero, List.set_cons_succ]
          refine wpAnyF_ready (rs := [9]) (by kernel_rfl) (by simp) ?_
          refine' AllReadyF.last (List.getElem?_toArray.trans rfl) (fun K hK => ?st47) ?more47
          case st47 =>
           go_simp
           refine' Calls.mono HC5.out ?c48
           rintro e w48 ⟨rfl, h48⟩
           have HR := Lib.hid h48
           clear h48
           try go_wp2_with fail
           refine hK.out _ _ ?_
           clear hK K
           try simp only [Act.put, List.setIfInBounds_toArray, List.set_cons_zero, List.set_cons_succ]
           refine wpAnyF_done (by kernel_rfl) ?_ _
           go_wp2_with fail
           go_end0
           exact ⟨rfl, HR.out⟩
          exact AllReadyF.nil
         exact AllReadyF.nil
        exact AllReadyF.nil
       exact AllReadyF.nil
      exact AllReadyF.nil
     refine' AllReadyF.cons (List.getElem?_toArray.trans rfl) (fun K hK => ?st49) ?more49
     case st49 =>
      go_simp
      refine hK.out _ _ ?s50 (fun hH50 => ?r50)
      case s50 => ((try dsimp only); exact hH36)
      clear hK K hH36
      try simp only [Act.put, List.setIfInBounds_toArray, List.set_cons_zero, List.set_cons_succ]
      refine wpAnyF_ready (rs := [0, 4]) (by kernel_rfl) (by simp) ?_
      refine' AllReadyF.cons (List.getElem?_toArray.trans rfl) (fun K hK => ?st51) ?more51
      case st51 =>
       go_simp
       refine' Calls.mono (c_verbs _) ?c52
       rintro e w52 ⟨rfl, rfl⟩
       try go_wp2_with fail
       refine hK.out _ _ ?s52 (fun hH52 => ?r52)
       case s52 => ((try dsimp only); exact HS2.out)
       obtain ⟨W5, hW5⟩ : ∃ W, W = wd.alloc (.map VES 4) := ⟨_, rfl⟩
       obtain ⟨mm, hmm⟩ : ∃ m, m = wd.heap.size := ⟨_, rfl⟩
       have hlk : (Instr.lookup 154 (.map (some mm)) (.int .u8 c.verb) false).run Tryz.prog W5 = .ok (.func (.func KF) #[] #[]) W5 := by rw [hW5, hmm, ← HVB.out]; exact HLK.out
       have HC5 := Lib.hid (HC.out W5 (by rw [hW5]; exact HM4.out.1) (by rw [hW5]; exact HM4.out.2))
       have z5 : W5.cell? ⟨X, 0, none⟩ = some (.int .u8 c.verb) := by rw [hW5]; exact HS2.out
       rw [← hW5, ← hmm]
       rw [← hW5] at hH52
       clear hW5 hmm
       clear hK K hH50
       try simp only [Act.put, List.setIfInBounds_toArray, List.set_cons_zero, List.set_cons_succ]
       refine wpAnyF_ready (rs := [4]) (by kernel_rfl) (by simp) ?_
       refine' AllReadyF.cons (List.getElem?_toArray.trans rfl) (fun K hK => ?st53) ?more53
       case st53 =>
        go_simp
        refine hK.out _ _ ?s54 (fun hH54 => ?r54)
        case s54 => ((try dsimp only); exact hH52)
        clear hK K hH52
        try simp only [Act.put, List.setIfInBounds_toArray, List.set_cons_zero, List.set_cons_succ]
        refine wpAnyF_ready (rs := [5]) (by kernel_rfl) (by simp) ?_
        refine' AllReadyF.cons (List.getElem?_toArray.trans rfl) (fun K hK => ?st55) ?more55
        case st55 =>
         go_simp
         refine hK.out _ _ ?s56 (fun hH56 => ?r56)
         case s56 => ((try dsimp only); exact hH54)
         clear hK K hH54
         try simp only [Act.put, List.setIfInBounds_toArray, List.set_cons_zero, List.set_cons_succ]
         refine wpAnyF_ready (rs := [6]) (by kernel_rfl) (by simp) ?_
         refine' AllReadyF.cons (List.getElem?_toArray.trans rfl) (fun K hK => ?st57) ?more57
         case st57 =>
          go_simp
          refine hK.out _ _ ?s58 (fun hH58 => ?r58)
          case s58 => ((try dsimp only); exact hH56)
          clear hK K hH56
          try simp only [Act.put, List.setIfInBounds_toArray, List.set_cons_zero, List.set_cons_succ]
          refine wpAnyF_ready (rs := [9]) (by kernel_rfl) (by simp) ?_
          refine' AllReadyF.last (List.getElem?_toArray.trans rfl) (fun K hK => ?st59) ?more59
          case st59 =>
           go_simp
           refine' Calls.mono HC5.out ?c60
           rintro e w60 ⟨rfl, h60⟩
           have HR := Lib.hid h60
           clear h60
           try go_wp2_with fail
           refine hK.out _ _ ?_
           clear hK K
           try simp only [Act.put, List.setIfInBounds_toArray, List.set_cons_zero, List.set_cons_succ]
           refine wpAnyF_done (by kernel_rfl) ?_ _
           go_wp2_with fail
           go_end0
           exact ⟨rfl, HR.out⟩
          exact AllReadyF.nil
         exact AllReadyF.nil
        exact AllReadyF.nil
       exact AllReadyF.nil
      refine' AllReadyF.cons (List.getElem?_toArray.trans rfl) (fun K hK => ?st61) ?more61
      case st61 =>
       go_simp
       refine hK.out _ _ ?s62 (fun hH62 => ?r62)
       case s62 => ((try dsimp only); exact hH50)
       clear hK K hH50
       try simp only [Act.put, List.setIfInBounds_toArray, List.set_cons_zero, List.set_cons_succ]
       refine wpAnyF_ready (rs := [0, 5]) (by kernel_rfl) (by simp) ?_
       refine' AllReadyF.cons (List.getElem?_toArray.trans rfl) (fun K hK => ?st63) ?more63
       case st63 =>
        go_simp
        refine' Calls.mono (c_verbs _) ?c64
        rintro e w64 ⟨rfl, rfl⟩
        try go_wp2_with fail
        refine hK.out _ _ ?s64 (fun hH64 => ?r64)
        case s64 => ((try dsimp only); exact HS2.out)
        obtain ⟨W5, hW5⟩ : ∃ W, W = wd.alloc (.map VES 4) := ⟨_, rfl⟩
        obtain ⟨mm, hmm⟩ : ∃ m, m = wd.heap.size := ⟨_, rfl⟩
        have hlk : (Instr.lookup 154 (.map (some mm)) (.int .u8 c.verb) false).run Tryz.prog W5 = .ok (.func (.func KF) #[] #[]) W5 := by rw [hW5, hmm, ← HVB.out]; exact HLK.out
        have HC5 := Lib.hid (HC.out W5 (by rw [hW5]; exact HM4.out.1) (by rw [hW5]; exact HM4.out.2))
        have z5 : W5.cell? ⟨X, 0, none⟩ = some (.int .u8 c.verb) := by rw [hW5]; exact HS2.out
        rw [← hW5, ← hmm]
        rw [← hW5] at hH64
        clear hW5 hmm
        clear hK K hH62
        try simp only [Act.put, List.setIfInBounds_toArray, List.set_cons_zero, List.set_cons_succ]
        refine wpAnyF_ready (rs := [5]) (by kernel_rfl) (by simp) ?_
        refine' AllReadyF.cons (List.getElem?_toArray.trans rfl) (fun K hK => ?st65) ?more65
        case st65 =>
         go_simp
         refine hK.out _ _ ?s66 (fun hH66 => ?r66)
         case s66 => ((try dsimp only); exact hH64)
         clear hK K hH64
         try simp only [Act.put, List.setIfInBounds_toArray, List.set_cons_zero, List.set_cons_succ]
         refine wpAnyF_ready (rs := [6]) (by kernel_rfl) (by simp) ?_
         refine' AllReadyF.cons (List.getElem?_toArray.trans rfl) (fun K hK => ?st67) ?more67
         case st67 =>
          go_simp
          refine hK.out _ _ ?s68 (fun hH68 => ?r68)
          case s68 => ((try dsimp only); exact hH66)
          clear hK K hH66
          try simp only [Act.put, List.setIfInBounds_toArray, List.set_cons_zero, List.set_cons_succ]
          refine wpAnyF_ready (rs := [9]) (by kernel_rfl) (by simp) ?_
          refine' AllReadyF.last (List.getElem?_toArray.trans rfl) (fun K hK => ?st69) ?more69
          case st69 =>
           go_simp
           refine' Calls.mono HC5.out ?c70
           rintro e w70 ⟨rfl, h70⟩
           have HR := Lib.hid h70
           clear h70
           try go_wp2_with fail
           refine hK.out _ _ ?_
           clear hK K
           try simp only [Act.put, List.setIfInBounds_toArray, List.set_cons_zero, List.set_cons_succ]
           refine wpAnyF_done (by kernel_rfl) ?_ _
           go_wp2_with fail
           go_end0
           exact ⟨rfl, HR.out⟩
          exact AllReadyF.nil
         exact AllReadyF.nil
        exact AllReadyF.nil
       refine' AllReadyF.cons (List.getElem?_toArray.trans rfl) (fun K hK => ?st71) ?more71
       case st71 =>
        go_simp
        refine hK.out _ _ ?s72 (fun hH72 => ?r72)
        case s72 => ((try dsimp only); exact hH62)
        clear hK K hH62
        try simp only [Act.put, List.setIfInBounds_toArray, List.set_cons_zero, List.set_cons_succ]
        refine wpAnyF_ready (rs := [0]) (by kernel_rfl) (by simp) ?_
        refine' AllReadyF.cons (List.getElem?_toArray.trans rfl) (fun K hK => ?st73) ?more73
        case st73 =>
         go_simp
         refine' Calls.mono (c_verbs _) ?c74
         rintro e w74 ⟨rfl, rfl⟩
         try go_wp2_with fail
         refine hK.out _ _ ?s74 (fun hH74 => ?r74)
         case s74 => ((try dsimp only); exact HS2.out)
         obtain ⟨W5, hW5⟩ : ∃ W, W = wd.alloc (.map VES 4) := ⟨_, rfl⟩
         obtain ⟨mm, hmm⟩ : ∃ m, m = wd.heap.size := ⟨_, rfl⟩
         have hlk : (Instr.lookup 154 (.map (some mm)) (.int .u8 c.verb) false).run Tryz.prog W5 = .ok (.func (.func KF) #[] #[]) W5 := by rw [hW5, hmm, ← HVB.out]; exact HLK.out
         have HC5 := Lib.hid (HC.out W5 (by rw [hW5]; exact HM4.out.1) (by rw [hW5]; exact HM4.out.2))
         have z5 : W5.cell? ⟨X, 0, none⟩ = some (.int .u8 c.verb) := by rw [hW5]; exact HS2.out
         rw [← hW5, ← hmm]
         rw [← hW5] at hH74
         clear hW5 hmm
         clear hK K hH72
         try simp only [Act.put, List.setIfInBounds_toArray, List.set_cons_zero, List.set_cons_succ]
         refine wpAnyF_ready (rs := [6]) (by kernel_rfl) (by simp) ?_
         refine' AllReadyF.cons (List.getElem?_toArray.trans rfl) (fun K hK => ?st75) ?more75
         case st75 =>
          go_simp
          refine hK.out _ _ ?s76 (fun hH76 => ?r76)
          case s76 => ((try dsimp only); exact hH74)
          clear hK K hH74
          try simp only [Act.put, List.setIfInBounds_toArray, List.set_cons_zero, List.set_cons_succ]
          refine wpAnyF_ready (rs := [9]) (by kernel_rfl) (by simp) ?_
          refine' AllReadyF.last (List.getElem?_toArray.trans rfl) (fun K hK => ?st77) ?more77
          case st77 =>
           go_simp
           refine' Calls.mono HC5.out ?c78
           rintro e w78 ⟨rfl, h78⟩
           have HR := Lib.hid h78
           clear h78
           try go_wp2_with fail
           refine hK.out _ _ ?_
           clear hK K
           try simp only [Act.put, List.setIfInBounds_toArray, List.set_cons_zero, List.set_cons_succ]
           refine wpAnyF_done (by kernel_rfl) ?_ _
           go_wp2_with fail
           go_end0
           exact ⟨rfl, HR.out⟩
          exact AllReadyF.nil
         exact AllReadyF.nil
        exact AllReadyF.nil
       exact AllReadyF.nil
      exact AllReadyF.nil
     exact AllReadyF.nil
    exact AllReadyF.nil
   exact AllReadyF.nil
end
end Go.Proofs.YtifkfhnbkjkakaaGreatDoor
