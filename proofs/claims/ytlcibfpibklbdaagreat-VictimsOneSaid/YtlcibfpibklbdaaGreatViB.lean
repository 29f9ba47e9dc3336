/- Layer 24: the program's Victim: it drops what is in a slot. Layer 24: the program's Victim's line 2. Layer 24: the program's Victim's lines 4 to 7. Layer 24: the program's Victim's lines 4 to 7 joined, its Step, what it got. -/
import Derived.Test.YtlcibfpibklbdaaGreatViA
namespace Go.Proofs.YtlcibfpibklbdaaGreat
set_option linter.unusedSimpArgs false
section
open Go.RowKit Go.Shelf
set_option linter.unusedVariables false

section
variable {X : Nat} {w : World} {O : Om} {B : Wb} {f : Cf} {s : AW} {k : Nat}
set_option maxHeartbeats 20000000 in
set_option maxRecDepth 100000 in
theorem c_Vdrop (lv dv : Value) (ref : Int) (is : Bool) (p : Spt) (hp : p.ok) (hx : Ob w O k X (vcCs lv dv ref is)) (hk : 10 ≤ k) (hhi : ∀ j, O j ≠ 0 → j < w.heap.size) :
    Calls Tryz.prog 164 #[.pointer (some ⟨X, 0, none⟩), sptV p] w fun e w' => ∃ bt bx, RP (fun t => t = k ∨ (k + 5 ≤ t ∧ t ≤ k + 14)) w O (.tuple #[]) (fun W G => Ob W G k X (vcCs lv (DROPV bt bx) ref is) ∧ ∀ last mw is2, VDrop W G k X ⟨4, p, last, ref, mw, is2, ⟨0, 0⟩⟩ 0 bt bx) e w' := by
  have HX := Lib.hid hx
  have HP := Lib.hid hp
  obtain ⟨O1, e1, b1, k1⟩ := alloc_ob hhi (k + 5) #[.pointer (some ⟨X, 0, none⟩)] 80 w.heap.size rfl
  obtain ⟨O2, e2, b2, k2⟩ := alloc_ob e1.hi (k + 6) #[.int .i64 p.b, .int .i64 p.q, .int .i64 p.s] 45 (w.heap.size + 1) (by simp)
  have H2 := Lib.hid (And.intro ((e1.mono (T := fun t => t = k ∨ (k + 5 ≤ t ∧ t ≤ k + 14)) fun t _ h => by omega).trans (e2.mono fun t _ h => by omega)) (And.intro (k2 _ _ _ (k1 _ _ _ hx)) (And.intro (k2 _ _ _ b1) b2)))
  clear hx hp hhi e1 b1 k1 e2 b2 k2
  unfold sptV
  go_enter Tryz.func164, Tryz.ntmps164
  go_upto_region 1 with fail
  obtain ⟨w2, hw2⟩ : ∃ w2, w2 = (w.alloc (.cells #[.pointer (some ⟨X, 0, none⟩)] 80)).alloc (.cells #[.int .i64 p.b, .int .i64 p.q, .int .i64 p.s] 45) := ⟨_, rfl⟩
  rw [← hw2] at H2 ⊢
  obtain ⟨N, hN⟩ : ∃ N, N = w.heap.size := ⟨_, rfl⟩
  rw [← hN] at H2 ⊢
  clear hw2 hN
  have s0 := H2.out.2.2.2.c 0 _ rfl
  have s1 := H2.out.2.2.2.c 1 _ rfl
  have s2 := H2.out.2.2.2.c 2 _ rfl
  go_wp2_with fail
  refine (c_NewOut (k := k + 12) HP.out H2.out.1.hi).mono ?_
  rintro e w3 ⟨U, rfl, O3, e3, u3⟩
  obtain ⟨O4, e4, b4, k4⟩ := alloc_ob e3.hi (k + 7) #[.pointer (some ⟨U, 0, none⟩)] 78 w3.heap.size rfl
  have H4 := Lib.hid (And.intro ((H2.out.1.trans (e3.mono fun t _ h => by omega)).trans (e4.mono fun t _ h => by omega)) (And.intro (k4 _ _ _ (H2.out.2.1.ext e3 (by omega))) (And.intro (k4 _ _ _ (H2.out.2.2.1.ext e3 (by omega))) (And.intro (k4 _ _ _ (H2.out.2.2.2.ext e3 (by omega))) (And.intro (k4 _ _ _ u3.ob) b4)))))
  clear H2 e3 u3 e4 b4 k4 s0 s1 s2
  go_upto_region 2 with fail
  obtain ⟨w4, hw4⟩ : ∃ w4, w4 = w3.alloc (.cells #[.pointer (some ⟨U, 0, none⟩)] 78) := ⟨_, rfl⟩
  rw [← hw4] at H4 ⊢
  obtain ⟨N3, hN3⟩ : ∃ N3, N3 = w3.heap.size := ⟨_, rfl⟩
  rw [← hN3] at H4 ⊢
  clear hw4 hN3
  obtain ⟨Ns, hNs⟩ : ∃ Ns, Ns = N + 1 := ⟨_, rfl⟩
  rw [← hNs] at H4 ⊢
  clear hNs
  have HD : Hid (VD w O k X N Ns U N3 (vcCs lv dv ref is) p w4 O4) := Lib.hid ⟨H4.out.1, H4.out.2.1, H4.out.2.2.1, H4.out.2.2.2.1, H4.out.2.2.2.2.1, H4.out.2.2.2.2.2⟩
  clear H4 HX
  have D0 : Hid (DX w O k X N Ns U N3 (vcCs lv dv ref is) p none [] [] w4) := Lib.hid ⟨O4, HD.out, fun n hn => (by cases hn), fun n hn => (by cases hn), fun x hx => (by cases hx)⟩
  have hcm : 1 ≤ 1 ∧ 1 ≤ maxLen := ⟨Nat.le_refl _, by unfold maxLen; omega⟩
  clear HD
  go_cut [5] (fun s5 wx => DropCut w O k X N Ns U N3 (vcCs lv dv ref is) p s5 wx)
  case first =>
    refine wp_region_held_drew (S := fun w' => w'.cell? ⟨Ns, 0, none⟩ = some (.int .i64 p.b) ∧ w'.cell? ⟨Ns, 1, none⟩ = some (.int .i64 p.q)) (by kernel_rfl) ?s1 (fun hH0 => ?r1)
    case s1 => exact DX.s (DX.drew D0.out)
    have D := Lib.hid (DX.drew D0.out)
    clear D0
    obtain ⟨wd, hwd⟩ : ∃ z, z = w4.drew := ⟨_, rfl⟩
    rw [← hwd] at hH0 D ⊢
    clear hwd
    try simp only [Act.put, List.setIfInBounds_toArray, List.set_cons_zero, List.set_cons_succ]
    refine' wpAnyH_take (i := 0) (List.getElem?_toArray.trans (List.getElem?_cons_zero)) (by kernel_rfl) (by kernel_rfl) (by kernel_rfl) (fun _ _ _ h => h) (Or.inl ⟨by rfl, ?y2⟩) hH0 ?r2
    case y2 => (intro w hSw; (try dsimp only at hSw); go_simp; try with_reducible rfl)
    try simp only [Act.put, List.setIfInBounds_toArray, List.set_cons_zero, List.set_cons_succ]
    refine' wpAnyH_take (i := 1) (List.getElem?_toArray.trans (List.getElem?_cons_succ.trans (List.getElem?_cons_zero))) (by kernel_rfl) (by kernel_rfl) (by kernel_rfl) (fun _ _ _ h => h) (Or.inl ⟨by rfl, ?y3⟩) hH0 ?r3
    case y3 => (intro w hSw; (try dsimp only at hSw); go_simp; try with_reducible rfl)
    try simp only [Act.put, List.setIfInBounds_toArray, List.set_cons_zero, List.set_cons_succ]
    refine' wpAnyH_take (i := 5) (List.getElem?_toArray.trans (List.getElem?_cons_succ.trans (List.getElem?_cons_succ.trans (List.getElem?_cons_succ.trans (List.getElem?_cons_succ.trans (List.getElem?_cons_succ.trans (List.getElem?_cons_zero))))))) (by kernel_rfl) (by kernel_rfl) (by kernel_rfl) (fun _ _ _ h => h) (Or.inl ⟨by rfl, ?y4⟩) hH0 ?r4
    case y4 => (intro w hSw; (try dsimp only at hSw); go_simp; try with_reducible rfl)
    try simp only [Act.put, List.setIfInBounds_toArray, List.set_cons_zero, List.set_cons_succ]
    refine' wpAnyH_take (i := 6) (List.getElem?_toArray.trans (List.getElem?_cons_succ.trans (List.getElem?_cons_succ.trans (List.getElem?_cons_succ.trans (List.getElem?_cons_succ.trans (List.getElem?_cons_succ.trans (List.getElem?_cons_succ.trans (List.getElem?_cons_zero)))))))) (by kernel_rfl) (by kernel_rfl) (by kernel_rfl) (fun _ _ _ h => h) (Or.inl ⟨by rfl, ?y5⟩) hH0 ?r5
    case y5 => (intro w hSw; (try dsimp only at hSw); go_simp; try with_reducible rfl)
    try simp only [Act.put, List.setIfInBounds_toArray, List.set_cons_zero, List.set_cons_succ]
    refine' wpAnyH_take (i := 7) (List.getElem?_toArray.trans (List.getElem?_cons_succ.trans (List.getElem?_cons_succ.trans (List.getElem?_cons_succ.trans (List.getElem?_cons_succ.trans (List.getElem?_cons_succ.trans (List.getElem?_cons_succ.trans (List.getElem?_cons_succ.trans (List.getElem?_cons_zero))))))))) (by kernel_rfl) (by kernel_rfl) (by kernel_rfl) (fun _ _ _ h => h) (Or.inl ⟨by rfl, ?y6⟩) hH0 ?r6
    case y6 => (intro w hSw; (try dsimp only at hSw); go_simp; try with_reducible rfl)
    try simp only [Act.put, List.setIfInBounds_toArray, List.set_cons_zero, List.set_cons_succ]
    refine wpAnyH_ready (rs := [2, 8, 12]) (by kernel_rfl) (by simp) ?_
    refine' AllReadyH.cons (List.getElem?_toArray.trans (List.getElem?_cons_succ.trans (List.getElem?_cons_succ.trans (List.getElem?_cons_zero)))) (fun K hK => ?st7) ?more7
    case st7 =>
      go_simp
      refine hK.out _ _ ?s8 (fun hH1 => ?r8)
      case s8 => ((try dsimp only); exact DX.s (DX.allocA _ D.out))
      have D1 := Lib.hid (DX.allocA 43 D.out)
      clear hK K hH0
      try simp only [Act.put, List.setIfInBounds_toArray, List.set_cons_zero, List.set_cons_succ]
      refine wpAnyH_ready (rs := [3, 8, 12]) (by kernel_rfl) (by simp) ?_
      refine' AllReadyH.cons (List.getElem?_toArray.trans (List.getElem?_cons_succ.trans (List.getElem?_cons_succ.trans (List.getElem?_cons_succ.trans (List.getElem?_cons_zero))))) (fun K hK => ?st9) ?more9
      case st9 =>
        go_simp
        refine' Calls.mono (DX.mark (k + 10) HP.out hk (.inl ⟨rfl, rfl⟩) hcm ?hh10 ?hb10) ?_
        case hh10 => with_reducible exact D1.out
        case hb10 => (simp; done)
        rintro e w102 ⟨m2, rfl, d2⟩
        try simp only [World.size_alloc, World.size_drew] at d2
        have D2 := Lib.hid d2
        clear d2 D1
        try go_wp2_with fail
        refine hK.out _ _ ?s11 (fun hH2 => ?r11)
        case s11 => ((try dsimp only); exact D2.out.s)
        clear hK K hH1
        try simp only [Act.put, List.setIfInBounds_toArray, List.set_cons_zero, List.set_cons_succ]
        refine' wpAnyH_take (i := 4) (List.getElem?_toArray.trans (List.getElem?_cons_succ.trans (List.getElem?_cons_succ.trans (List.getElem?_cons_succ.trans (List.getElem?_cons_succ.trans (List.getElem?_cons_zero)))))) (by kernel_rfl) (by kernel_rfl) (by kernel_rfl) (fun _ _ _ h => h) (Or.inl ⟨by rfl, ?y12⟩) hH2 ?r12
        case y12 => (intro w hSw; (try dsimp only at hSw); go_simp; try with_reducible rfl)
        try simp only [Act.put, List.setIfInBounds_toArray, List.set_cons_zero, List.set_cons_succ]
        refine wpAnyH_ready (rs := [8, 12]) (by kernel_rfl) (by simp) ?_
        refine' AllReadyH.cons (List.getElem?_toArray.trans (List.getElem?_cons_succ.trans (List.getElem?_cons_succ.trans (List.getElem?_cons_succ.trans (List.getElem?_cons_succ.trans (List.getElem?_cons_succ.trans (List.getElem?_cons_succ.trans (List.getElem?_cons_succ.trans (List.getElem?_cons_succ.trans (List.getElem?_cons_zero)))))))))) (fun K hK => ?st13) ?more13
        case st13 =>
          go_simp
          refine hK.out _ _ ?s14 (fun hH3 => ?r14)
          case s14 => ((try dsimp only); exact DX.s (DX.allocA _ D2.out))
          have D3 := Lib.hid (DX.allocA 43 D2.out)
          clear hK K hH2
          try simp only [Act.put, List.setIfInBounds_toArray, List.set_cons_zero, List.set_cons_succ]
          refine wpAnyH_ready (rs := [9, 12]) (by kernel_rfl) (by simp) ?_
          refine' AllReadyH.cons (List.getElem?_toArray.trans (List.getElem?_cons_succ.trans (List.getElem?_cons_succ.trans (List.getElem?_cons_succ.trans (List.getElem?_cons_succ.trans (List.getElem?_cons_succ.trans (List.getElem?_cons_succ.trans (List.getElem?_cons_succ.trans (List.getElem?_cons_succ.trans (List.getElem?_cons_succ.trans (List.getElem?_cons_zero))))))))))) (fun K hK => ?st15) ?more15
          case st15 =>
            go_simp
            refine' Calls.mono (DX.mark (k + 13) HP.out hk (.inr ⟨rfl, _, rfl⟩) hcm ?hh16 ?hb16) ?_
            case hh16 => with_reducible exact D3.out
            case hb16 => (simp; done)
            rintro e w104 ⟨m4, rfl, d4⟩
            try simp only [World.size_alloc, World.size_drew] at d4
            have D4 := Lib.hid d4
            clear d4 D3
            try go_wp2_with fail
            refine hK.out _ _ ?s17 (fun hH4 => ?r17)
            case s17 => ((try dsimp only); exact D4.out.s)
            clear hK K hH3
            try simp only [Act.put, List.setIfInBounds_toArray, List.set_cons_zero, List.set_cons_succ]
            refine' wpAnyH_take (i := 10) (List.getElem?_toArray.trans (List.getElem?_cons_succ.trans (List.getElem?_cons_succ.trans (List.getElem?_cons_succ.trans (List.getElem?_cons_succ.trans (List.getElem?_cons_succ.trans (List.getElem?_cons_succ.trans (List.getElem?_cons_succ.trans (List.getElem?_cons_succ.trans (List.getElem?_cons_succ.trans (List.getElem?_cons_succ.trans (List.getElem?_cons_zero)))))))))))) (by kernel_rfl) (by kernel_rfl) (by kernel_rfl) (fun _ _ _ h => h) (Or.inl ⟨by rfl, ?y18⟩) hH4 ?r18
            case y18 => (intro w hSw; (try dsimp only at hSw); go_simp; try with_reducible rfl)
            try simp only [Act.put, List.setIfInBounds_toArray, List.set_cons_zero, List.set_cons_succ]
            refine wpAnyH_ready (rs := [11, 12]) (by kernel_rfl) (by simp) ?_
            refine' AllReadyH.cons (List.getElem?_toArray.trans (List.getElem?_cons_succ.trans (List.getElem?_cons_succ.trans (List.getElem?_cons_succ.trans (List.getElem?_cons_succ.trans (List.getElem?_cons_succ.trans (List.getElem?_cons_succ.trans (List.getElem?_cons_succ.trans (List.getElem?_cons_succ.trans (List.getElem?_cons_succ.trans (List.getElem?_cons_succ.trans (List.getElem?_cons_succ.trans (List.getElem?_cons_zero))))))))))))) (fun K hK => ?st19) ?more19
            case st19 =>
              go_simp
              refine hK.out _ _ ?s20 (fun hH5 => ?r20)
              case s20 => ((try dsimp only); exact DX.s (DX.any _ D4.out))
              clear hK K hH4
              try simp only [Act.put, List.setIfInBounds_toArray, List.set_cons_zero, List.set_cons_succ]
              refine wpAnyH_ready (rs := [12]) (by kernel_rfl) (by simp) ?_
              refine' AllReadyH.cons (List.getElem?_toArray.trans (List.getElem?_cons_succ.trans (List.getElem?_cons_succ.trans (List.getElem?_cons_succ.trans (List.getElem?_cons_succ.trans (List.getElem?_cons_succ.trans (List.getElem?_cons_succ.trans (List.getElem?_cons_succ.trans (List.getElem?_cons_succ.trans (List.getElem?_cons_succ.trans (List.getElem?_cons_succ.trans (List.getElem?_cons_succ.trans (List.getElem?_cons_succ.trans (List.getElem?_cons_zero)))))))))))))) (fun K hK => ?st21) ?more21
              case st21 =>
                go_simp
                refine hK.out _ _ ?s22 (fun hH6 => ?r22)
                case s22 => ((try dsimp only); exact DX.s (DX.any _ (DX.any _ D4.out)))
                clear hK K hH5
                try simp only [Act.put, List.setIfInBounds_toArray, List.set_cons_zero, List.set_cons_succ]
                refine wpAnyH_ready (rs := [13]) (by kernel_rfl) (by simp) ?_
                refine' AllReadyH.cons (List.getElem?_toArray.trans (List.getElem?_cons_succ.trans (List.getElem?_cons_succ.trans (List.getElem?_cons_succ.trans (List.getElem?_cons_succ.trans (List.getElem?_cons_succ.trans (List.getElem?_cons_succ.trans (List.getElem?_cons_succ.trans (List.getElem?_cons_succ.trans (List.getElem?_cons_succ.trans (List.getElem?_cons_succ.trans (List.getElem?_cons_succ.trans (List.getElem?_cons_succ.trans (List.getElem?_cons_succ.trans (List.getElem?_cons_zero))))))))))))))) (fun K hK => ?st23) ?more23
                case st23 =>
                  go_simp
                  refine hK.out _ _ ?s24 (fun hH7 => ?r24)
                  case s24 => ((try dsimp only); first | exact DX.s (DX.any _ (DX.any _ D4.out)) | exact DX.s (DX.any _ (DX.any _ D4.out)) | exact DX.s (DX.any _ D4.out) | exact DX.sSet hk (DX.any _ D4.out) | exact DX.sSet hk D4.out | exact DX.sSetA _ hk D4.out)
                  clear hK K hH6
                  try simp only [Act.put, List.setIfInBounds_toArray, List.set_cons_zero, List.set_cons_succ]
                  refine wpAnyH_done (by kernel_rfl) ?_ _
                  have DD := D4
                  go_wp2_with fail
                  go_meet
                  first | exact DD.out.new1 hk | exact DD.out.new2 hk | exact DD.out.old1 hk | exact DD.out.old2 hk | (trace_state; fail)
                exact AllReadyH.nil
              exact AllReadyH.nil
            refine' AllReadyH.cons (List.getElem?_toArray.trans (List.getElem?_cons_succ.trans (List.getElem?_cons_succ.trans (List.getElem?_cons_succ.trans (List.getElem?_cons_succ.trans (List.getElem?_cons_succ.trans (List.getElem?_cons_succ.trans (List.getElem?_cons_succ.trans (List.getElem?_cons_succ.trans (List.getElem?_cons_succ.trans (List.getElem?_cons_succ.trans (List.getElem?_cons_succ.trans (List.getElem?_cons_succ.trans (List.getElem?_cons_zero)))))))))))))) (fun K hK => ?st25) ?more25
            case st25 =>
              go_simp
              refine hK.out _ _ ?s26 (fun hH8 => ?r26)
              case s26 => ((try dsimp only); exact DX.s (DX.allocB _ D4.out))
              have D8 := Lib.hid (DX.allocB 306 D4.out)
              clear hK K hH4
              try simp only [Act.put, List.setIfInBounds_toArray, List.set_cons_zero, List.set_cons_succ]
              refine wpAnyH_ready (rs := [11]) (by kernel_rfl) (by simp) ?_
              refine' AllReadyH.cons (List.getElem?_toArray.trans (List.getElem?_cons_succ.trans (List.getElem?_cons_succ.trans (List.getElem?_cons_succ.trans (List.getElem?_cons_succ.trans (List.getElem?_cons_succ.trans (List.getElem?_cons_succ.trans (List.getElem?_cons_succ.trans (List.getElem?_cons_succ.trans (List.getElem?_cons_succ.trans (List.getElem?_cons_succ.trans (List.getElem?_cons_succ.trans (List.getElem?_cons_zero))))))))))))) (fun K hK => ?st27) ?more27
              case st27 =>
                go_simp
                refine hK.out _ _ ?s28 (fun hH9 => ?r28)
                case s28 => ((try dsimp only); exact DX.s (DX.any _ D8.out))
                clear hK K hH8
                try simp only [Act.put, List.setIfInBounds_toArray, List.set_cons_zero, List.set_cons_succ]
                refine wpAnyH_ready (rs := [13]) (by kernel_rfl) (by simp) ?_
                refine' AllReadyH.cons (List.getElem?_toArray.trans (List.getElem?_cons_succ.trans (List.getElem?_cons_succ.trans (List.getElem?_cons_succ.trans (List.getElem?_cons_succ.trans (List.getElem?_cons_succ.trans (List.getElem?_cons_succ.trans (List.getElem?_cons_succ.trans (List.getElem?_cons_succ.trans (List.getElem?_cons_succ.trans (List.getElem?_cons_succ.trans (List.getElem?_cons_succ.trans (List.getElem?_cons_succ.trans (List.getElem?_cons_succ.trans (List.getElem?_cons_zero))))))))))))))) (fun K hK => ?st29) ?more29
                case st29 =>
                  go_simp
                  refine hK.out _ _ ?s30 (fun hH10 => ?r30)
                  case s30 => ((try dsimp only); first | exact DX.s (DX.any _ (DX.any _ D4.out)) | exact DX.s (DX.any _ (DX.any _ D8.out)) | exact DX.s (DX.any _ D8.out) | exact DX.sSet hk (DX.any _ D8.out) | exact DX.sSet hk D8.out | exact DX.sSetA _ hk D8.out)
                  clear hK K hH9
                  try simp only [Act.put, List.setIfInBounds_toArray, List.set_cons_zero, List.set_cons_succ]
                  refine wpAnyH_done (by kernel_rfl) ?_ _
                  have DD := D4
                  go_wp2_with fail
                  go_meet
                  first | exact DD.out.new1 hk | exact DD.out.new2 hk | exact DD.out.old1 hk | exact DD.out.old2 hk | (trace_state; fail)
                exact AllReadyH.nil
              exact AllReadyH.nil
            exact AllReadyH.nil
          refine' AllReadyH.cons (List.getElem?_toArray.trans (List.getElem?_cons_succ.trans (List.getElem?_cons_succ.trans (List.getElem?_cons_succ.trans (List.getElem?_cons_succ.trans (List.getElem?_cons_succ.trans (List.getElem?_cons_succ.trans (List.getElem?_cons_succ.trans (List.getElem?_cons_succ.trans (List.getElem?_cons_succ.trans (List.getElem?_cons_succ.trans (List.getElem?_cons_succ.trans (List.getElem?_cons_succ.trans (List.getElem?_cons_zero)))))))))))))) (fun K hK => ?st31) ?more31
          case st31 =>
            go_simp
            refine hK.out _ _ ?s32 (fun hH11 => ?r32)
            case s32 => ((try dsimp only); exact DX.s (DX.allocB _ D3.out))
            have D11 := Lib.hid (DX.allocB 306 D3.out)
            clear hK K hH3
            try simp only [Act.put, List.setIfInBounds_toArray, List.set_cons_zero, List.set_cons_succ]
            refine wpAnyH_ready (rs := [9]) (by kernel_rfl) (by simp) ?_
            refine' AllReadyH.cons (List.getElem?_toArray.trans (List.getElem?_cons_succ.trans (List.getElem?_cons_succ.trans (List.getElem?_cons_succ.trans (List.getElem?_cons_succ.trans (List.getElem?_cons_succ.trans (List.getElem?_cons_succ.trans (List.getElem?_cons_succ.trans (List.getElem?_cons_succ.trans (List.getElem?_cons_succ.trans (List.getElem?_cons_zero))))))))))) (fun K hK => ?st33) ?more33
            case st33 =>
              go_simp
              refine' Calls.mono (DX.mark (k + 13) HP.out hk (.inr ⟨rfl, _, rfl⟩) hcm ?hh34 ?hb34) ?_
              case hh34 => with_reducible exact D11.out
              case hb34 => (simp; done)
              rintro e w112 ⟨m12, rfl, d12⟩
              try simp only [World.size_alloc, World.size_drew] at d12
              obtain ⟨o12a, o12f, o12l⟩ := d12.box
              have o12n := Nat.ne_of_lt o12l
              have o12m := Ne.symm o12n
              have D12 := Lib.hid d12
              clear d12 D11
              try go_wp2_with fail
              refine hK.out _ _ ?s35 (fun hH12 => ?r35)
              case s35 => ((try dsimp only); exact D12.out.s)
              clear hK K hH11
              try simp only [Act.put, List.setIfInBounds_toArray, List.set_cons_zero, List.set_cons_succ]
              refine' wpAnyH_take (i := 10) (List.getElem?_toArray.trans (List.getElem?_cons_succ.trans (List.getElem?_cons_succ.trans (List.getElem?_cons_succ.trans (List.getElem?_cons_succ.trans (List.getElem?_cons_succ.trans (List.getElem?_cons_succ.trans (List.getElem?_cons_succ.trans (List.getElem?_cons_succ.trans (List.getElem?_cons_succ.trans (List.getElem?_cons_succ.trans (List.getElem?_cons_zero)))))))))))) (by kernel_rfl) (by kernel_rfl) (by kernel_rfl) (fun _ _ _ h => h) (Or.inl ⟨by rfl, ?y36⟩) hH12 ?r36
              case y36 => (intro w hSw; (try dsimp only at hSw); go_simp; try with_reducible rfl)
              try simp only [Act.put, List.setIfInBounds_toArray, List.set_cons_zero, List.set_cons_succ]
              refine wpAnyH_ready (rs := [11]) (by kernel_rfl) (by simp) ?_
              refine' AllReadyH.cons (List.getElem?_toArray.trans (List.getElem?_cons_succ.trans (List.getElem?_cons_succ.trans (List.getElem?_cons_succ.trans (List.getElem?_cons_succ.trans (List.getElem?_cons_succ.trans (List.getElem?_cons_succ.trans (List.getElem?_cons_succ.trans (List.getElem?_cons_succ.trans (List.getElem?_cons_succ.trans (List.getElem?_cons_succ.trans (List.getElem?_cons_succ.trans (List.getElem?_cons_zero))))))))))))) (fun K hK => ?st37) ?more37
              case st37 =>
                go_simp
                refine hK.out _ _ ?s38 (fun hH13 => ?r38)
                case s38 => ((try dsimp only); exact DX.s (DX.any _ D12.out))
                clear hK K hH12
                try simp only [Act.put, List.setIfInBounds_toArray, List.set_cons_zero, List.set_cons_succ]
                refine wpAnyH_ready (rs := [13]) (by kernel_rfl) (by simp) ?_
                refine' AllReadyH.cons (List.getElem?_toArray.trans (List.getElem?_cons_succ.trans (List.getElem?_cons_succ.trans (List.getElem?_cons_succ.trans (List.getElem?_cons_succ.trans (List.getElem?_cons_succ.trans (List.getElem?_cons_succ.trans (List.getElem?_cons_succ.trans (List.getElem?_cons_succ.trans (List.getElem?_cons_succ.trans (List.getElem?_cons_succ.trans (List.getElem?_cons_succ.trans (List.getElem?_cons_succ.trans (List.getElem?_cons_succ.trans (List.getElem?_cons_zero))))))))))))))) (fun K hK => ?st39) ?more39
                case st39 =>
                  go_simp
                  refine hK.out _ _ ?s40 (fun hH14 => ?r40)
                  case s40 => ((try dsimp only); first | exact DX.s (DX.any _ (DX.any _ D12.out)) | exact DX.s (DX.any _ (DX.any _ D12.out)) | exact DX.s (DX.any _ D12.out) | exact DX.sSet hk (DX.any _ D12.out) | exact DX.sSet hk D12.out | exact DX.sSetA _ hk D12.out)
                  clear hK K hH13
                  try simp only [Act.put, List.setIfInBounds_toArray, List.set_cons_zero, List.set_cons_succ]
                  refine wpAnyH_done (by kernel_rfl) ?_ _
                  have DD := D12
                  go_wp2_with fail
                  go_meet
                  first | exact DD.out.new1 hk | exact DD.out.new2 hk | exact DD.out.old1 hk | exact DD.out.old2 hk | (trace_state; fail)
                exact AllReadyH.nil
              exact AllReadyH.nil
            exact AllReadyH.nil
          exact AllReadyH.nil
        refine' AllReadyH.cons (List.getElem?_toArray.trans (List.getElem?_cons_succ.trans (List.getElem?_cons_succ.trans (List.getElem?_cons_succ.trans (List.getElem?_cons_succ.trans (List.getElem?_cons_succ.trans (List.getElem?_cons_succ.trans (List.getElem?_cons_succ.trans (List.getElem?_cons_succ.trans (List.getElem?_cons_succ.trans (List.getElem?_cons_succ.trans (List.getElem?_cons_succ.trans (List.getElem?_cons_succ.trans (List.getElem?_cons_zero)))))))))))))) (fun K hK => ?st41) ?more41
        case st41 =>
          go_simp
          refine hK.out _ _ ?s42 (fun hH15 => ?r42)
          case s42 => ((try dsimp only); exact DX.s (DX.allocB _ D2.out))
          have D15 := Lib.hid (DX.allocB 306 D2.out)
          clear hK K hH2
          try simp only [Act.put, List.setIfInBounds_toArray, List.set_cons_zero, List.set_cons_succ]
          refine wpAnyH_ready (rs := [8]) (by kernel_rfl) (by simp) ?_
          refine' AllReadyH.cons (List.getElem?_toArray.trans (List.getElem?_cons_succ.trans (List.getElem?_cons_succ.trans (List.getElem?_cons_succ.trans (List.getElem?_cons_succ.trans (List.getElem?_cons_succ.trans (List.getElem?_cons_succ.trans (List.getElem?_cons_succ.trans (List.getElem?_cons_succ.trans (List.getElem?_cons_zero)))))))))) (fun K hK => ?st43) ?more43
          case st43 =>
            go_simp
            refine hK.out _ _ ?s44 (fun hH16 => ?r44)
            case s44 => ((try dsimp only); exact DX.s (DX.allocA _ D15.out))
            have D16 := Lib.hid (DX.allocA 43 D15.out)
            clear hK K hH15
            try simp only [Act.put, List.setIfInBounds_toArray, List.set_cons_zero, List.set_cons_succ]
            refine wpAnyH_ready (rs := [9]) (by kernel_rfl) (by simp) ?_
            refine' AllReadyH.cons (List.getElem?_toArray.trans (List.getElem?_cons_succ.trans (List.getElem?_cons_succ.trans (List.getElem?_cons_succ.trans (List.getElem?_cons_succ.trans (List.getElem?_cons_succ.trans (List.getElem?_cons_succ.trans (List.getElem?_cons_succ.trans (List.getElem?_cons_succ.trans (List.getElem?_cons_succ.trans (List.getElem?_cons_zero))))))))))) (fun K hK => ?st45) ?more45
            case st45 =>
              go_simp
              refine' Calls.mono (DX.mark (k + 13) HP.out hk (.inr ⟨rfl, _, rfl⟩) hcm ?hh46 ?hb46) ?_
              case hh46 => with_reducible exact D16.out
              case hb46 => (simp; done)
              rintro e w117 ⟨m17, rfl, d17⟩
              try simp only [World.size_alloc, World.size_drew] at d17
              obtain ⟨o17a, o17f, o17l⟩ := d17.box
              have o17n := Nat.ne_of_lt o17l
              have o17m := Ne.symm o17n
              have D17 := Lib.hid d17
              clear d17 D16
              try go_wp2_with fail
              refine hK.out _ _ ?s47 (fun hH17 => ?r47)
              case s47 => ((try dsimp only); exact D17.out.s)
              clear hK K hH16
              try simp only [Act.put, List.setIfInBounds_toArray, List.set_cons_zero, List.set_cons_succ]
              refine' wpAnyH_take (i := 10) (List.getElem?_toArray.trans (List.getElem?_cons_succ.trans (List.getElem?_cons_succ.trans (List.getElem?_cons_succ.trans (List.getElem?_cons_succ.trans (List.getElem?_cons_succ.trans (List.getElem?_cons_succ.trans (List.getElem?_cons_succ.trans (List.getElem?_cons_succ.trans (List.getElem?_cons_succ.trans (List.getElem?_cons_succ.trans (List.getElem?_cons_zero)))))))))))) (by kernel_rfl) (by kernel_rfl) (by kernel_rfl) (fun _ _ _ h => h) (Or.inl ⟨by rfl, ?y48⟩) hH17 ?r48
              case y48 => (intro w hSw; (try dsimp only at hSw); go_simp; try with_reducible rfl)
              try simp only [Act.put, List.setIfInBounds_toArray, List.set_cons_zero, List.set_cons_succ]
              refine wpAnyH_ready (rs := [11]) (by kernel_rfl) (by simp) ?_
              refine' AllReadyH.cons (List.getElem?_toArray.trans (List.getElem?_cons_succ.trans (List.getElem?_cons_succ.trans (List.getElem?_cons_succ.trans (List.getElem?_cons_succ.trans (List.getElem?_cons_succ.trans (List.getElem?_cons_succ.trans (List.getElem?_cons_succ.trans (List.getElem?_cons_succ.trans (List.getElem?_cons_succ.trans (List.getElem?_cons_succ.trans (List.getElem?_cons_succ.trans (List.getElem?_cons_zero))))))))))))) (fun K hK => ?st49) ?more49
              case st49 =>
                go_simp
                refine hK.out _ _ ?s50 (fun hH18 => ?r50)
                case s50 => ((try dsimp only); exact DX.s (DX.any _ D17.out))
                clear hK K hH17
                try simp only [Act.put, List.setIfInBounds_toArray, List.set_cons_zero, List.set_cons_succ]
                refine wpAnyH_ready (rs := [13]) (by kernel_rfl) (by simp) ?_
                refine' AllReadyH.cons (List.getElem?_toArray.trans (List.getElem?_cons_succ.trans (List.getElem?_cons_succ.trans (List.getElem?_cons_succ.trans (List.getElem?_cons_succ.trans (List.getElem?_cons_succ.trans (List.getElem?_cons_succ.trans (List.getElem?_cons_succ.trans (List.getElem?_cons_succ.trans (List.getElem?_cons_succ.trans (List.getElem?_cons_succ.trans (List.getElem?_cons_succ.trans (List.getElem?_cons_succ.trans (List.getElem?_cons_succ.trans (List.getElem?_cons_zero))))))))))))))) (fun K hK => ?st51) ?more51
                case st51 =>
                  go_simp
                  refine hK.out _ _ ?s52 (fun hH19 => ?r52)
                  case s52 => ((try dsimp only); first | exact DX.s (DX.any _ (DX.any _ D17.out)) | exact DX.s (DX.any _ (DX.any _ D17.out)) | exact DX.s (DX.any _ D17.out) | exact DX.sSet hk (DX.any _ D17.out) | exact DX.sSet hk D17.out | exact DX.sSetA _ hk D17.out)
                  clear hK K hH18
                  try simp only [Act.put, List.setIfInBounds_toArray, List.set_cons_zero, List.set_cons_succ]
                  refine wpAnyH_done (by kernel_rfl) ?_ _
                  have DD := D17
                  go_wp2_with fail
                  go_meet
                  first | exact DD.out.new1 hk | exact DD.out.new2 hk | exact DD.out.old1 hk | exact DD.out.old2 hk | (trace_state; fail)
                exact AllReadyH.nil
              exact AllReadyH.nil
            exact AllReadyH.nil
          exact AllReadyH.nil
        exact AllReadyH.nil
      refine' AllReadyH.cons (List.getElem?_toArray.trans (List.getElem?_cons_succ.trans (List.getElem?_cons_succ.trans (List.getElem?_cons_succ.trans (List.getElem?_cons_succ.trans (List.getElem?_cons_succ.trans (List.getElem?_cons_succ.trans (List.getElem?_cons_succ.trans (List.getElem?_cons_succ.trans (List.getElem?_cons_zero)))))))))) (fun K hK => ?st53) ?more53
      case st53 =>
        go_simp
        refine hK.out _ _ ?s54 (fun hH20 => ?r54)
        case s54 => ((try dsimp only); exact DX.s (DX.allocA _ D1.out))
        have D20 := Lib.hid (DX.allocA 43 D1.out)
        clear hK K hH1
        try simp only [Act.put, List.setIfInBounds_toArray, List.set_cons_zero, List.set_cons_succ]
        refine wpAnyH_ready (rs := [3, 12]) (by kernel_rfl) (by simp) ?_
        refine' AllReadyH.cons (List.getElem?_toArray.trans (List.getElem?_cons_succ.trans (List.getElem?_cons_succ.trans (List.getElem?_cons_succ.trans (List.getElem?_cons_zero))))) (fun K hK => ?st55) ?more55
        case st55 =>
          go_simp
          refine' Calls.mono (DX.mark (k + 10) HP.out hk (.inl ⟨rfl, rfl⟩) hcm ?hh56 ?hb56) ?_
          case hh56 => with_reducible exact D20.out
          case hb56 => (simp; done)
          rintro e w121 ⟨m21, rfl, d21⟩
          try simp only [World.size_alloc, World.size_drew] at d21
          have D21 := Lib.hid d21
          clear d21 D20
          try go_wp2_with fail
          refine hK.out _ _ ?s57 (fun hH21 => ?r57)
          case s57 => ((try dsimp only); exact D21.out.s)
          clear hK K hH20
          try simp only [Act.put, List.setIfInBounds_toArray, List.set_cons_zero, List.set_cons_succ]
          refine' wpAnyH_take (i := 4) (List.getElem?_toArray.trans (List.getElem?_cons_succ.trans (List.getElem?_cons_succ.trans (List.getElem?_cons_succ.trans (List.getElem?_cons_succ.trans (List.getElem?_cons_zero)))))) (by kernel_rfl) (by kernel_rfl) (by kernel_rfl) (fun _ _ _ h => h) (Or.inl ⟨by rfl, ?y58⟩) hH21 ?r58
          case y58 => (intro w hSw; (try dsimp only at hSw); go_simp; try with_reducible rfl)
          try simp only [Act.put, List.setIfInBounds_toArray, List.set_cons_zero, List.set_cons_succ]
          refine wpAnyH_ready (rs := [9, 12]) (by kernel_rfl) (by simp) ?_
          refine' AllReadyH.cons (List.getElem?_toArray.trans (List.getElem?_cons_succ.trans (List.getElem?_cons_succ.trans (List.getElem?_cons_succ.trans (List.getElem?_cons_succ.trans (List.getElem?_cons_succ.trans (List.getElem?_cons_succ.trans (List.getElem?_cons_succ.trans (List.getElem?_cons_succ.trans (List.getElem?_cons_succ.trans (List.getElem?_cons_zero))))))))))) (fun K hK => ?st59) ?more59
          case st59 =>
            go_simp
            refine' Calls.mono (DX.mark (k + 13) HP.out hk (.inr ⟨rfl, _, rfl⟩) hcm ?hh60 ?hb60) ?_
            case hh60 => with_reducible exact D21.out
            case hb60 => (simp; done)
            rintro e w122 ⟨m22, rfl, d22⟩
            try simp only [World.size_alloc, World.size_drew] at d22
            have D22 := Lib.hid d22
            clear d22 D21
            try go_wp2_with fail
            refine hK.out _ _ ?s61 (fun hH22 => ?r61)
            case s61 => ((try dsimp only); exact D22.out.s)
            clear hK K hH21
            try simp only [Act.put, List.setIfInBounds_toArray, List.set_cons_zero, List.set_cons_succ]
            refine' wpAnyH_take (i := 10) (List.getElem?_toArray.trans (List.getElem?_cons_succ.trans (List.getElem?_cons_succ.trans (List.getElem?_cons_succ.trans (List.getElem?_cons_succ.trans (List.getElem?_cons_succ.trans (List.getElem?_cons_succ.trans (List.getElem?_cons_succ.trans (List.getElem?_cons_succ.trans (List.getElem?_cons_succ.trans (List.getElem?_cons_succ.trans (List.getElem?_cons_zero)))))))))))) (by kernel_rfl) (by kernel_rfl) (by kernel_rfl) (fun _ _ _ h => h) (Or.inl ⟨by rfl, ?y62⟩) hH22 ?r62
            case y62 => (intro w hSw; (try dsimp only at hSw); go_simp; try with_reducible rfl)
            try simp only [Act.put, List.setIfInBounds_toArray, List.set_cons_zero, List.set_cons_succ]
            refine wpAnyH_ready (rs := [11, 12]) (by kernel_rfl) (by simp) ?_
            refine' AllReadyH.cons (List.getElem?_toArray.trans (List.getElem?_cons_succ.trans (List.getElem?_cons_succ.trans (List.getElem?_cons_succ.trans (List.getElem?_cons_succ.trans (List.getElem?_cons_succ.trans (List.getElem?_cons_succ.trans (List.getElem?_cons_succ.trans (List.getElem?_cons_succ.trans (List.getElem?_cons_succ.trans (List.getElem?_cons_succ.trans (List.getElem?_cons_succ.trans (List.getElem?_cons_zero))))))))))))) (fun K hK => ?st63) ?more63
            case st63 =>
              go_simp
              refine hK.out _ _ ?s64 (fun hH23 => ?r64)
              case s64 => ((try dsimp only); exact DX.s (DX.any _ D22.out))
              clear hK K hH22
              try simp only [Act.put, List.setIfInBounds_toArray, List.set_cons_zero, List.set_cons_succ]
              refine wpAnyH_ready (rs := [12]) (by kernel_rfl) (by simp) ?_
              refine' AllReadyH.cons (List.getElem?_toArray.trans (List.getElem?_cons_succ.trans (List.getElem?_cons_succ.trans (List.getElem?_cons_succ.trans (List.getElem?_cons_succ.trans (List.getElem?_cons_succ.trans (List.getElem?_cons_succ.trans (List.getElem?_cons_succ.trans (List.getElem?_cons_succ.trans (List.getElem?_cons_succ.trans (List.getElem?_cons_succ.trans (List.getElem?_cons_succ.trans (List.getElem?_cons_succ.trans (List.getElem?_cons_zero)))))))))))))) (fun K hK => ?st65) ?more65
              case st65 =>
                go_simp
                refine hK.out _ _ ?s66 (fun hH24 => ?r66)
                case s66 => ((try dsimp only); exact DX.s (DX.any _ (DX.any _ D22.out)))
                clear hK K hH23
                try simp only [Act.put, List.setIfInBounds_toArray, List.set_cons_zero, List.set_cons_succ]
                refine wpAnyH_ready (rs := [13]) (by kernel_rfl) (by simp) ?_
                refine' AllReadyH.cons (List.getElem?_toArray.trans (List.getElem?_cons_succ.trans (List.getElem?_cons_succ.trans (List.getElem?_cons_succ.trans (List.getElem?_cons_succ.trans (List.getElem?_cons_succ.trans (List.getElem?_cons_succ.trans (List.getElem?_cons_succ.trans (List.getElem?_cons_succ.trans (List.getElem?_cons_succ.trans (List.getElem?_cons_succ.trans (List.getElem?_cons_succ.trans (List.getElem?_cons_succ.trans (List.getElem?_cons_succ.trans (List.getElem?_cons_zero))))))))))))))) (fun K hK => ?st67) ?more67
                case st67 =>
                  go_simp
                  refine hK.out _ _ ?s68 (fun hH25 => ?r68)
                  case s68 => ((try dsimp only); first | exact DX.s (DX.any _ (DX.any _ D22.out)) | exact DX.s (DX.any _ (DX.any _ D22.out)) | exact DX.s (DX.any _ D22.out) | exact DX.sSet hk (DX.any _ D22.out) | exact DX.sSet hk D22.out | exact DX.sSetA _ hk D22.out)
                  clear hK K hH24
                  try simp only [Act.put, List.setIfInBounds_toArray, List.set_cons_zero, List.set_cons_succ]
                  refine wpAnyH_done (by kernel_rfl) ?_ _
                  have DD := D22
                  go_wp2_with fail
                  go_meet
                  first | exact DD.out.new1 hk | exact DD.out.new2 hk | exact DD.out.old1 hk | exact DD.out.old2 hk | (trace_state; fail)
                exact AllReadyH.nil
              exact AllReadyH.nil
            refine' AllReadyH.cons (List.getElem?_toArray.trans (List.getElem?_cons_succ.trans (List.getElem?_cons_succ.trans (List.getElem?_cons_succ.trans (List.getElem?_cons_succ.trans (List.getElem?_cons_succ.trans (List.getElem?_cons_succ.trans (List.getElem?_cons_succ.trans (List.getElem?_cons_succ.trans (List.getElem?_cons_succ.trans (List.getElem?_cons_succ.trans (List.getElem?_cons_succ.trans (List.getElem?_cons_succ.trans (List.getElem?_cons_zero)))))))))))))) (fun K hK => ?st69) ?more69
            case st69 =>
              go_simp
              refine hK.out _ _ ?s70 (fun hH26 => ?r70)
              case s70 => ((try dsimp only); exact DX.s (DX.allocB _ D22.out))
              have D26 := Lib.hid (DX.allocB 306 D22.out)
              clear hK K hH22
              try simp only [Act.put, List.setIfInBounds_toArray, List.set_cons_zero, List.set_cons_succ]
              refine wpAnyH_ready (rs := [11]) (by kernel_rfl) (by simp) ?_
              refine' AllReadyH.cons (List.getElem?_toArray.trans (List.getElem?_cons_succ.trans (List.getElem?_cons_succ.trans (List.getElem?_cons_succ.trans (List.getElem?_cons_succ.trans (List.getElem?_cons_succ.trans (List.getElem?_cons_succ.trans (List.getElem?_cons_succ.trans (List.getElem?_cons_succ.trans (List.getElem?_cons_succ.trans (List.getElem?_cons_succ.trans (List.getElem?_cons_succ.trans (List.getElem?_cons_zero))))))))))))) (fun K hK => ?st71) ?more71
              case st71 =>
                go_simp
                refine hK.out _ _ ?s72 (fun hH27 => ?r72)
                case s72 => ((try dsimp only); exact DX.s (DX.any _ D26.out))
                clear hK K hH26
                try simp only [Act.put, List.setIfInBounds_toArray, List.set_cons_zero, List.set_cons_succ]
                refine wpAnyH_ready (rs := [13]) (by kernel_rfl) (by simp) ?_
                refine' AllReadyH.cons (List.getElem?_toArray.trans (List.getElem?_cons_succ.trans (List.getElem?_cons_succ.trans (List.getElem?_cons_succ.trans (List.getElem?_cons_succ.trans (List.getElem?_cons_succ.trans (List.getElem?_cons_succ.trans (List.getElem?_cons_succ.trans (List.getElem?_cons_succ.trans (List.getElem?_cons_succ.trans (List.getElem?_cons_succ.trans (List.getElem?_cons_succ.trans (List.getElem?_cons_succ.trans (List.getElem?_cons_succ.trans (List.getElem?_cons_zero))))))))))))))) (fun K hK => ?st73) ?more73
                case st73 =>
                  go_simp
                  refine hK.out _ _ ?s74 (fun hH28 => ?r74)
                  case s74 => ((try dsimp only); first | exact DX.s (DX.any _ (DX.any _ D22.out)) | exact DX.s (DX.any _ (DX.any _ D26.out)) | exact DX.s (DX.any _ D26.out) | exact DX.sSet hk (DX.any _ D26.out) | exact DX.sSet hk D26.out | exact DX.sSetA _ hk D26.out)
                  clear hK K hH27
                  try simp only [Act.put, List.setIfInBounds_toArray, List.set_cons_zero, List.set_cons_succ]
                  refine wpAnyH_done (by kernel_rfl) ?_ _
                  have DD := D22
                  go_wp2_with fail
                  go_meet
                  first | exact DD.out.new1 hk | exact DD.out.new2 hk | exact DD.out.old1 hk | exact DD.out.old2 hk | (trace_state; fail)
                exact AllReadyH.nil
              exact AllReadyH.nil
            exact AllReadyH.nil
          refine' AllReadyH.cons (List.getElem?_toArray.trans (List.getElem?_cons_succ.trans (List.getElem?_cons_succ.trans (List.getElem?_cons_succ.trans (List.getElem?_cons_succ.trans (List.getElem?_cons_succ.trans (List.getElem?_cons_succ.trans (List.getElem?_cons_succ.trans (List.getElem?_cons_succ.trans (List.getElem?_cons_succ.trans (List.getElem?_cons_succ.trans (List.getElem?_cons_succ.trans (List.getElem?_cons_succ.trans (List.getElem?_cons_zero)))))))))))))) (fun K hK => ?st75) ?more75
          case st75 =>
            go_simp
            refine hK.out _ _ ?s76 (fun hH29 => ?r76)
            case s76 => ((try dsimp only); exact DX.s (DX.allocB _ D21.out))
            have D29 := Lib.hid (DX.allocB 306 D21.out)
            clear hK K hH21
            try simp only [Act.put, List.setIfInBounds_toArray, List.set_cons_zero, List.set_cons_succ]
            refine wpAnyH_ready (rs := [9]) (by kernel_rfl) (by simp) ?_
            refine' AllReadyH.cons (List.getElem?_toArray.trans (List.getElem?_cons_succ.trans (List.getElem?_cons_succ.trans (List.getElem?_cons_succ.trans (List.getElem?_cons_succ.trans (List.getElem?_cons_succ.trans (List.getElem?_cons_succ.trans (List.getElem?_cons_succ.trans (List.getElem?_cons_succ.trans (List.getElem?_cons_succ.trans (List.getElem?_cons_zero))))))))))) (fun K hK => ?st77) ?more77
            case st77 =>
              go_simp
              refine' Calls.mono (DX.mark (k + 13) HP.out hk (.inr ⟨rfl, _, rfl⟩) hcm ?hh78 ?hb78) ?_
              case hh78 => with_reducible exact D29.out
              case hb78 => (simp; done)
              rintro e w130 ⟨m30, rfl, d30⟩
              try simp only [World.size_alloc, World.size_drew] at d30
              obtain ⟨o30a, o30f, o30l⟩ := d30.box
              have o30n := Nat.ne_of_lt o30l
              have o30m := Ne.symm o30n
              have D30 := Lib.hid d30
              clear d30 D29
              try go_wp2_with fail
              refine hK.out _ _ ?s79 (fun hH30 => ?r79)
              case s79 => ((try dsimp only); exact D30.out.s)
              clear hK K hH29
              try simp only [Act.put, List.setIfInBounds_toArray, List.set_cons_zero, List.set_cons_succ]
              refine' wpAnyH_take (i := 10) (List.getElem?_toArray.trans (List.getElem?_cons_succ.trans (List.getElem?_cons_succ.trans (List.getElem?_cons_succ.trans (List.getElem?_cons_succ.trans (List.getElem?_cons_succ.trans (List.getElem?_cons_succ.trans (List.getElem?_cons_succ.trans (List.getElem?_cons_succ.trans (List.getElem?_cons_succ.trans (List.getElem?_cons_succ.trans (List.getElem?_cons_zero)))))))))))) (by kernel_rfl) (by kernel_rfl) (by kernel_rfl) (fun _ _ _ h => h) (Or.inl ⟨by rfl, ?y80⟩) hH30 ?r80
              case y80 => (intro w hSw; (try dsimp only at hSw); go_simp; try with_reducible rfl)
              try simp only [Act.put, List.setIfInBounds_toArray, List.set_cons_zero, List.set_cons_succ]
              refine wpAnyH_ready (rs := [11]) (by kernel_rfl) (by simp) ?_
              refine' AllReadyH.cons (List.getElem?_toArray.trans (List.getElem?_cons_succ.trans (List.getElem?_cons_succ.trans (List.getElem?_cons_succ.trans (List.getElem?_cons_succ.trans (List.getElem?_cons_succ.trans (List.getElem?_cons_succ.trans (List.getElem?_cons_succ.trans (List.getElem?_cons_succ.trans (List.getElem?_cons_succ.trans (List.getElem?_cons_succ.trans (List.getElem?_cons_succ.trans (List.getElem?_cons_zero))))))))))))) (fun K hK => ?st81) ?more81
              case st81 =>
                go_simp
                refine hK.out _ _ ?s82 (fun hH31 => ?r82)
                case s82 => ((try dsimp only); exact DX.s (DX.any _ D30.out))
                clear hK K hH30
                try simp only [Act.put, List.setIfInBounds_toArray, List.set_cons_zero, List.set_cons_succ]
                refine wpAnyH_ready (rs := [13]) (by kernel_rfl) (by simp) ?_
                refine' AllReadyH.cons (List.getElem?_toArray.trans (List.getElem?_cons_succ.trans (List.getElem?_cons_succ.trans (List.getElem?_cons_succ.trans (List.getElem?_cons_succ.trans (List.getElem?_cons_succ.trans (List.getElem?_cons_succ.trans (List.getElem?_cons_succ.trans (List.getElem?_cons_succ.trans (List.getElem?_cons_succ.trans (List.getElem?_cons_succ.trans (List.getElem?_cons_succ.trans (List.getElem?_cons_succ.trans (List.getElem?_cons_succ.trans (List.getElem?_cons_zero))))))))))))))) (fun K hK => ?st83) ?more83
                case st83 =>
                  go_simp
                  refine hK.out _ _ ?s84 (fun hH32 => ?r84)
                  case s84 => ((try dsimp only); first | exact DX.s (DX.any _ (DX.any _ D30.out)) | exact DX.s (DX.any _ (DX.any _ D30.out)) | exact DX.s (DX.any _ D30.out) | exact DX.sSet hk (DX.any _ D30.out) | exact DX.sSet hk D30.out | exact DX.sSetA _ hk D30.out)
                  clear hK K hH31
                  try simp only [Act.put, List.setIfInBounds_toArray, List.set_cons_zero, List.set_cons_succ]
                  refine wpAnyH_done (by kernel_rfl) ?_ _
                  have DD := D30
                  go_wp2_with fail
                  go_meet
                  first | exact DD.out.new1 hk | exact DD.out.new2 hk | exact DD.out.old1 hk | exact DD.out.old2 hk | (trace_state; fail)
                exact AllReadyH.nil
              exact AllReadyH.nil
            exact AllReadyH.nil
          exact AllReadyH.nil
        refine' AllReadyH.cons (List.getElem?_toArray.trans (List.getElem?_cons_succ.trans (List.getElem?_cons_succ.trans (List.getElem?_cons_succ.trans (List.getElem?_cons_succ.trans (List.getElem?_cons_succ.trans (List.getElem?_cons_succ.trans (List.getElem?_cons_succ.trans (List.getElem?_cons_succ.trans (List.getElem?_cons_succ.trans (List.getElem?_cons_succ.trans (List.getElem?_cons_succ.trans (List.getElem?_cons_succ.trans (List.getElem?_cons_zero)))))))))))))) (fun K hK => ?st85) ?more85
        case st85 =>
          go_simp
          refine hK.out _ _ ?s86 (fun hH33 => ?r86)
          case s86 => ((try dsimp only); exact DX.s (DX.allocB _ D20.out))
          have D33 := Lib.hid (DX.allocB 306 D20.out)
          clear hK K hH20
          try simp only [Act.put, List.setIfInBounds_toArray, List.set_cons_zero, List.set_cons_succ]
          refine wpAnyH_ready (rs := [3]) (by kernel_rfl) (by simp) ?_
          refine' AllReadyH.cons (List.getElem?_toArray.trans (List.getElem?_cons_succ.trans (List.getElem?_cons_succ.trans (List.getElem?_cons_succ.trans (List.getElem?_cons_zero))))) (fun K hK => ?st87) ?more87
          case st87 =>
            go_simp
            refine' Calls.mono (DX.mark (k + 10) HP.out hk (.inl ⟨rfl, rfl⟩) hcm ?hh88 ?hb88) ?_
            case hh88 => with_reducible exact D33.out
            case hb88 => (simp; done)
            rintro e w134 ⟨m34, rfl, d34⟩
            try simp only [World.size_alloc, World.size_drew] at d34
            obtain ⟨o34a, o34f, o34l⟩ := d34.box
            have o34n := Nat.ne_of_lt o34l
            have o34m := Ne.symm o34n
            have D34 := Lib.hid d34
            clear d34 D33
            try go_wp2_with fail
            refine hK.out _ _ ?s89 (fun hH34 => ?r89)
            case s89 => ((try dsimp only); exact D34.out.s)
            clear hK K hH33
            try simp only [Act.put, List.setIfInBounds_toArray, List.set_cons_zero, List.set_cons_succ]
            refine' wpAnyH_take (i := 4) (List.getElem?_toArray.trans (List.getElem?_cons_succ.trans (List.getElem?_cons_succ.trans (List.getElem?_cons_succ.trans (List.getElem?_cons_succ.trans (List.getElem?_cons_zero)))))) (by kernel_rfl) (by kernel_rfl) (by kernel_rfl) (fun _ _ _ h => h) (Or.inl ⟨by rfl, ?y90⟩) hH34 ?r90
            case y90 => (intro w hSw; (try dsimp only at hSw); go_simp; try with_reducible rfl)
            try simp only [Act.put, List.setIfInBounds_toArray, List.set_cons_zero, List.set_cons_succ]
            refine wpAnyH_ready (rs := [9]) (by kernel_rfl) (by simp) ?_
            refine' AllReadyH.cons (List.getElem?_toArray.trans (List.getElem?_cons_succ.trans (List.getElem?_cons_succ.trans (List.getElem?_cons_succ.trans (List.getElem?_cons_succ.trans (List.getElem?_cons_succ.trans (List.getElem?_cons_succ.trans (List.getElem?_cons_succ.trans (List.getElem?_cons_succ.trans (List.getElem?_cons_succ.trans (List.getElem?_cons_zero))))))))))) (fun K hK => ?st91) ?more91
            case st91 =>
              go_simp
              refine' Calls.mono (DX.mark (k + 13) HP.out hk (.inr ⟨rfl, _, rfl⟩) hcm ?hh92 ?hb92) ?_
              case hh92 => with_reducible exact D34.out
              case hb92 => (simp; done)
              rintro e w135 ⟨m35, rfl, d35⟩
              try simp only [World.size_alloc, World.size_drew] at d35
              obtain ⟨o35a, o35f, o35l⟩ := d35.box
              have o35n := Nat.ne_of_lt o35l
              have o35m := Ne.symm o35n
              have D35 := Lib.hid d35
              clear d35 D34
              try go_wp2_with fail
              refine hK.out _ _ ?s93 (fun hH35 => ?r93)
              case s93 => ((try dsimp only); exact D35.out.s)
              clear hK K hH34
              try simp only [Act.put, List.setIfInBounds_toArray, List.set_cons_zero, List.set_cons_succ]
              refine' wpAnyH_take (i := 10) (List.getElem?_toArray.trans (List.getElem?_cons_succ.trans (List.getElem?_cons_succ.trans (List.getElem?_cons_succ.trans (List.getElem?_cons_succ.trans (List.getElem?_cons_succ.trans (List.getElem?_cons_succ.trans (List.getElem?_cons_succ.trans (List.getElem?_cons_succ.trans (List.getElem?_cons_succ.trans (List.getElem?_cons_succ.trans (List.getElem?_cons_zero)))))))))))) (by kernel_rfl) (by kernel_rfl) (by kernel_rfl) (fun _ _ _ h => h) (Or.inl ⟨by rfl, ?y94⟩) hH35 ?r94
              case y94 => (intro w hSw; (try dsimp only at hSw); go_simp; try with_reducible rfl)
              try simp only [Act.put, List.setIfInBounds_toArray, List.set_cons_zero, List.set_cons_succ]
              refine wpAnyH_ready (rs := [11]) (by kernel_rfl) (by simp) ?_
              refine' AllReadyH.cons (List.getElem?_toArray.trans (List.getElem?_cons_succ.trans (List.getElem?_cons_succ.trans (List.getElem?_cons_succ.trans (List.getElem?_cons_succ.trans (List.getElem?_cons_succ.trans (List.getElem?_cons_succ.trans (List.getElem?_cons_succ.trans (List.getElem?_cons_succ.trans (List.getElem?_cons_succ.trans (List.getElem?_cons_succ.trans (List.getElem?_cons_succ.trans (List.getElem?_cons_zero))))))))))))) (fun K hK => ?st95) ?more95
              case st95 =>
                go_simp
                refine hK.out _ _ ?s96 (fun hH36 => ?r96)
                case s96 => ((try dsimp only); exact DX.s (DX.any _ D35.out))
                clear hK K hH35
                try simp only [Act.put, List.setIfInBounds_toArray, List.set_cons_zero, List.set_cons_succ]
                refine wpAnyH_ready (rs := [13]) (by kernel_rfl) (by simp) ?_
                refine' AllReadyH.cons (List.getElem?_toArray.trans (List.getElem?_cons_succ.trans (List.getElem?_cons_succ.trans (List.getElem?_cons_succ.trans (List.getElem?_cons_succ.trans (List.getElem?_cons_succ.trans (List.getElem?_cons_succ.trans (List.getElem?_cons_succ.trans (List.getElem?_cons_succ.trans (List.getElem?_cons_succ.trans (List.getElem?_cons_succ.trans (List.getElem?_cons_succ.trans (List.getElem?_cons_succ.trans (List.getElem?_cons_succ.trans (List.getElem?_cons_zero))))))))))))))) (fun K hK => ?st97) ?more97
                case st97 =>
                  go_simp
                  refine hK.out _ _ ?s98 (fun hH37 => ?r98)
                  case s98 => ((try dsimp only); first | exact DX.s (DX.any _ (DX.any _ D35.out)) | exact DX.s (DX.any _ (DX.any _ D35.out)) | exact DX.s (DX.any _ D35.out) | exact DX.sSet hk (DX.any _ D35.out) | exact DX.sSet hk D35.out | exact DX.sSetA _ hk D35.out)
                  clear hK K hH36
                  try simp only [Act.put, List.setIfInBounds_toArray, List.set_cons_zero, List.set_cons_succ]
                  refine wpAnyH_done (by kernel_rfl) ?_ _
                  have DD := D35
                  go_wp2_with fail
                  go_meet
                  first | exact DD.out.new1 hk | exact DD.out.new2 hk | exact DD.out.old1 hk | exact DD.out.old2 hk | (trace_state; fail)
                exact AllReadyH.nil
              exact AllReadyH.nil
            exact AllReadyH.nil
          exact AllReadyH.nil
        exact AllReadyH.nil
      refine' AllReadyH.cons (List.getElem?_toArray.trans (List.getElem?_cons_succ.trans (List.getElem?_cons_succ.trans (List.getElem?_cons_succ.trans (List.getElem?_cons_succ.trans (List.getElem?_cons_succ.trans (List.getElem?_cons_succ.trans (List.getElem?_cons_succ.trans (List.getElem?_cons_succ.trans (List.getElem?_cons_succ.trans (List.getElem?_cons_succ.trans (List.getElem?_cons_succ.trans (List.getElem?_cons_succ.trans (List.getElem?_cons_zero)))))))))))))) (fun K hK => ?st99) ?more99
      case st99 =>
        go_simp
        refine hK.out _ _ ?s100 (fun hH38 => ?r100)
        case s100 => ((try dsimp only); exact DX.s (DX.allocB _ D1.out))
        have D38 := Lib.hid (DX.allocB 306 D1.out)
        clear hK K hH1
        try simp only [Act.put, List.setIfInBounds_toArray, List.set_cons_zero, List.set_cons_succ]
        refine wpAnyH_ready (rs := [3, 8]) (by kernel_rfl) (by simp) ?_
        refine' AllReadyH.cons (List.getElem?_toArray.trans (List.getElem?_cons_succ.trans (List.getElem?_cons_succ.trans (List.getElem?_cons_succ.trans (List.getElem?_cons_zero))))) (fun K hK => ?st101) ?more101
        case st101 =>
          go_simp
          refine' Calls.mono (DX.mark (k + 10) HP.out hk (.inl ⟨rfl, rfl⟩) hcm ?hh102 ?hb102) ?_
          case hh102 => with_reducible exact D38.out
          case hb102 => (simp; done)
          rintro e w139 ⟨m39, rfl, d39⟩
          try simp only [World.size_alloc, World.size_drew] at d39
          obtain ⟨o39a, o39f, o39l⟩ := d39.box
          have o39n := Nat.ne_of_lt o39l
          have o39m := Ne.symm o39n
          have D39 := Lib.hid d39
          clear d39 D38
          try go_wp2_with fail
          refine hK.out _ _ ?s103 (fun hH39 => ?r103)
          case s103 => ((try dsimp only); exact D39.out.s)
          clear hK K hH38
          try simp only [Act.put, List.setIfInBounds_toArray, List.set_cons_zero, List.set_cons_succ]
          refine' wpAnyH_take (i := 4) (List.getElem?_toArray.trans (List.getElem?_cons_succ.trans (List.getElem?_cons_succ.trans (List.getElem?_cons_succ.trans (List.getElem?_cons_succ.trans (List.getElem?_cons_zero)))))) (by kernel_rfl) (by kernel_rfl) (by kernel_rfl) (fun _ _ _ h => h) (Or.inl ⟨by rfl, ?y104⟩) hH39 ?r104
          case y104 => (intro w hSw; (try dsimp only at hSw); go_simp; try with_reducible rfl)
          try simp only [Act.put, List.setIfInBounds_toArray, List.set_cons_zero, List.set_cons_succ]
          refine wpAnyH_ready (rs := [8]) (by kernel_rfl) (by simp) ?_
          refine' AllReadyH.cons (List.getElem?_toArray.trans (List.getElem?_cons_succ.trans (List.getElem?_cons_succ.trans (List.getElem?_cons_succ.trans (List.getElem?_cons_succ.trans (List.getElem?_cons_succ.trans (List.getElem?_cons_succ.trans (List.getElem?_cons_succ.trans (List.getElem?_cons_succ.trans (List.getElem?_cons_zero)))))))))) (fun K hK => ?st105) ?more105
          case st105 =>
            go_simp
            refine hK.out _ _ ?s106 (fun hH40 => ?r106)
            case s106 => ((try dsimp only); exact DX.s (DX.allocA _ D39.out))
            have D40 := Lib.hid (DX.allocA 43 D39.out)
            clear hK K hH39
            try simp only [Act.put, List.setIfInBounds_toArray, List.set_cons_zero, List.set_cons_succ]
            refine wpAnyH_ready (rs := [9]) (by kernel_rfl) (by simp) ?_
            refine' AllReadyH.cons (List.getElem?_toArray.trans (List.getElem?_cons_succ.trans (List.getElem?_cons_succ.trans (List.getElem?_cons_succ.trans (List.getElem?_cons_succ.trans (List.getElem?_cons_succ.trans (List.getElem?_cons_succ.trans (List.getElem?_cons_succ.trans (List.getElem?_cons_succ.trans (List.getElem?_cons_succ.trans (List.getElem?_cons_zero))))))))))) (fun K hK => ?st107) ?more107
            case st107 =>
              go_simp
              refine' Calls.mono (DX.mark (k + 13) HP.out hk (.inr ⟨rfl, _, rfl⟩) hcm ?hh108 ?hb108) ?_
              case hh108 => with_reducible exact D40.out
              case hb108 => (simp; done)
              rintro e w141 ⟨m41, rfl, d41⟩
              try simp only [World.size_alloc, World.size_drew] at d41
              obtain ⟨o41a, o41f, o41l⟩ := d41.box
              have o41n := Nat.ne_of_lt o41l
              have o41m := Ne.symm o41n
              have D41 := Lib.hid d41
              clear d41 D40
              try go_wp2_with fail
              refine hK.out _ _ ?s109 (fun hH41 => ?r109)
              case s109 => ((try dsimp only); exact D41.out.s)
              clear hK K hH40
              try simp only [Act.put, List.setIfInBounds_toArray, List.set_cons_zero, List.set_cons_succ]
              refine' wpAnyH_take (i := 10) (List.getElem?_toArray.trans (List.getElem?_cons_succ.trans (List.getElem?_cons_succ.trans (List.getElem?_cons_succ.trans (List.getElem?_cons_succ.trans (List.getElem?_cons_succ.trans (List.getElem?_cons_succ.trans (List.getElem?_cons_succ.trans (List.getElem?_cons_succ.trans (List.getElem?_cons_succ.trans (List.getElem?_cons_succ.trans (List.getElem?_cons_zero)))))))))))) (by kernel_rfl) (by kernel_rfl) (by kernel_rfl) (fun _ _ _ h => h) (Or.inl ⟨by rfl, ?y110⟩) hH41 ?r110
              case y110 => (intro w hSw; (try dsimp only at hSw); go_simp; try with_reducible rfl)
              try simp only [Act.put, List.setIfInBounds_toArray, List.set_cons_zero, List.set_cons_succ]
              refine wpAnyH_ready (rs := [11]) (by kernel_rfl) (by simp) ?_
              refine' AllReadyH.cons (List.getElem?_toArray.trans (List.getElem?_cons_succ.trans (List.getElem?_cons_succ.trans (List.getElem?_cons_succ.trans (List.getElem?_cons_succ.trans (List.getElem?_cons_succ.trans (List.getElem?_cons_succ.trans (List.getElem?_cons_succ.trans (List.getElem?_cons_succ.trans (List.getElem?_cons_succ.trans (List.getElem?_cons_succ.trans (List.getElem?_cons_succ.trans (List.getElem?_cons_zero))))))))))))) (fun K hK => ?st111) ?more111
              case st111 =>
                go_simp
                refine hK.out _ _ ?s112 (fun hH42 => ?r112)
                case s112 => ((try dsimp only); exact DX.s (DX.any _ D41.out))
                clear hK K hH41
                try simp only [Act.put, List.setIfInBounds_toArray, List.set_cons_zero, List.set_cons_succ]
                refine wpAnyH_ready (rs := [13]) (by kernel_rfl) (by simp) ?_
                refine' AllReadyH.cons (List.getElem?_toArray.trans (List.getElem?_cons_succ.trans (List.getElem?_cons_succ.trans (List.getElem?_cons_succ.trans (List.getElem?_cons_succ.trans (List.getElem?_cons_succ.trans (List.getElem?_cons_succ.trans (List.getElem?_cons_succ.trans (List.getElem?_cons_succ.trans (List.getElem?_cons_succ.trans (List.getElem?_cons_succ.trans (List.getElem?_cons_succ.trans (List.getElem?_cons_succ.trans (List.getElem?_cons_succ.trans (List.getElem?_cons_zero))))))))))))))) (fun K hK => ?st113) ?more113
                case st113 =>
                  go_simp
                  refine hK.out _ _ ?s114 (fun hH43 => ?r114)
                  case s114 => ((try dsimp only); first | exact DX.s (DX.any _ (DX.any _ D41.out)) | exact DX.s (DX.any _ (DX.any _ D41.out)) | exact DX.s (DX.any _ D41.out) | exact DX.sSet hk (DX.any _ D41.out) | exact DX.sSet hk D41.out | exact DX.sSetA _ hk D41.out)
                  clear hK K hH42
                  try simp only [Act.put, List.setIfInBounds_toArray, List.set_cons_zero, List.set_cons_succ]
                  refine wpAnyH_done (by kernel_rfl) ?_ _
                  have DD := D41
                  go_wp2_with fail
                  go_meet
                  first | exact DD.out.new1 hk | exact DD.out.new2 hk | exact DD.out.old1 hk | exact DD.out.old2 hk | (trace_state; fail)
                exact AllReadyH.nil
              exact AllReadyH.nil
            exact AllReadyH.nil
          exact AllReadyH.nil
        refine' AllReadyH.cons (List.getElem?_toArray.trans (List.getElem?_cons_succ.trans (List.getElem?_cons_succ.trans (List.getElem?_cons_succ.trans (List.getElem?_cons_succ.trans (List.getElem?_cons_succ.trans (List.getElem?_cons_succ.trans (List.getElem?_cons_succ.trans (List.getElem?_cons_succ.trans (List.getElem?_cons_zero)))))))))) (fun K hK => ?st115) ?more115
        case st115 =>
          go_simp
          refine hK.out _ _ ?s116 (fun hH44 => ?r116)
          case s116 => ((try dsimp only); exact DX.s (DX.allocA _ D38.out))
          have D44 := Lib.hid (DX.allocA 43 D38.out)
          clear hK K hH38
          try simp only [Act.put, List.setIfInBounds_toArray, List.set_cons_zero, List.set_cons_succ]
          refine wpAnyH_ready (rs := [3]) (by kernel_rfl) (by simp) ?_
          refine' AllReadyH.cons (List.getElem?_toArray.trans (List.getElem?_cons_succ.trans (List.getElem?_cons_succ.trans (List.getElem?_cons_succ.trans (List.getElem?_cons_zero))))) (fun K hK => ?st117) ?more117
          case st117 =>
            go_simp
            refine' Calls.mono (DX.mark (k + 10) HP.out hk (.inl ⟨rfl, rfl⟩) hcm ?hh118 ?hb118) ?_
            case hh118 => with_reducible exact D44.out
            case hb118 => (simp; done)
            rintro e w145 ⟨m45, rfl, d45⟩
            try simp only [World.size_alloc, World.size_drew] at d45
            obtain ⟨o45a, o45f, o45l⟩ := d45.box
            have o45n := Nat.ne_of_lt o45l
            have o45m := Ne.symm o45n
            have D45 := Lib.hid d45
            clear d45 D44
            try go_wp2_with fail
            refine hK.out _ _ ?s119 (fun hH45 => ?r119)
            case s119 => ((try dsimp only); exact D45.out.s)
            clear hK K hH44
            try simp only [Act.put, List.setIfInBounds_toArray, List.set_cons_zero, List.set_cons_succ]
            refine' wpAnyH_take (i := 4) (List.getElem?_toArray.trans (List.getElem?_cons_succ.trans (List.getElem?_cons_succ.trans (List.getElem?_cons_succ.trans (List.getElem?_cons_succ.trans (List.getElem?_cons_zero)))))) (by kernel_rfl) (by kernel_rfl) (by kernel_rfl) (fun _ _ _ h => h) (Or.inl ⟨by rfl, ?y120⟩) hH45 ?r120
            case y120 => (intro w hSw; (try dsimp only at hSw); go_simp; try with_reducible rfl)
            try simp only [Act.put, List.setIfInBounds_toArray, List.set_cons_zero, List.set_cons_succ]
            refine wpAnyH_ready (rs := [9]) (by kernel_rfl) (by simp) ?_
            refine' AllReadyH.cons (List.getElem?_toArray.trans (List.getElem?_cons_succ.trans (List.getElem?_cons_succ.trans (List.getElem?_cons_succ.trans (List.getElem?_cons_succ.trans (List.getElem?_cons_succ.trans (List.getElem?_cons_succ.trans (List.getElem?_cons_succ.trans (List.getElem?_cons_succ.trans (List.getElem?_cons_succ.trans (List.getElem?_cons_zero))))))))))) (fun K hK => ?st121) ?more121
            case st121 =>
              go_simp
              refine' Calls.mono (DX.mark (k + 13) HP.out hk (.inr ⟨rfl, _, rfl⟩) hcm ?hh122 ?hb122) ?_
              case hh122 => with_reducible exact D45.out
              case hb122 => (simp; done)
              rintro e w146 ⟨m46, rfl, d46⟩
              try simp only [World.size_alloc, World.size_drew] at d46
              obtain ⟨o46a, o46f, o46l⟩ := d46.box
              have o46n := Nat.ne_of_lt o46l
              have o46m := Ne.symm o46n
              have D46 := Lib.hid d46
              clear d46 D45
              try go_wp2_with fail
              refine hK.out _ _ ?s123 (fun hH46 => ?r123)
              case s123 => ((try dsimp only); exact D46.out.s)
              clear hK K hH45
              try simp only [Act.put, List.setIfInBounds_toArray, List.set_cons_zero, List.set_cons_succ]
              refine' wpAnyH_take (i := 10) (List.getElem?_toArray.trans (List.getElem?_cons_succ.trans (List.getElem?_cons_succ.trans (List.getElem?_cons_succ.trans (List.getElem?_cons_succ.trans (List.getElem?_cons_succ.trans (List.getElem?_cons_succ.trans (List.getElem?_cons_succ.trans (List.getElem?_cons_succ.trans (List.getElem?_cons_succ.trans (List.getElem?_cons_succ.trans (List.getElem?_cons_zero)))))))))))) (by kernel_rfl) (by kernel_rfl) (by kernel_rfl) (fun _ _ _ h => h) (Or.inl ⟨by rfl, ?y124⟩) hH46 ?r124
              case y124 => (intro w hSw; (try dsimp only at hSw); go_simp; try with_reducible rfl)
              try simp only [Act.put, List.setIfInBounds_toArray, List.set_cons_zero, List.set_cons_succ]
              refine wpAnyH_ready (rs := [11]) (by kernel_rfl) (by simp) ?_
              refine' AllReadyH.cons (List.getElem?_toArray.trans (List.getElem?_cons_succ.trans (List.getElem?_cons_succ.trans (List.getElem?_cons_succ.trans (List.getElem?_cons_succ.trans (List.getElem?_cons_succ.trans (List.getElem?_cons_succ.trans (List.getElem?_cons_succ.trans (List.getElem?_cons_succ.trans (List.getElem?_cons_succ.trans (List.getElem?_cons_succ.trans (List.getElem?_cons_succ.trans (List.getElem?_cons_zero))))))))))))) (fun K hK => ?st125) ?more125
              case st125 =>
                go_simp
                refine hK.out _ _ ?s126 (fun hH47 => ?r126)
                case s126 => ((try dsimp only); exact DX.s (DX.any _ D46.out))
                clear hK K hH46
                try simp only [Act.put, List.setIfInBounds_toArray, List.set_cons_zero, List.set_cons_succ]
                refine wpAnyH_ready (rs := [13]) (by kernel_rfl) (by simp) ?_
                refine' AllReadyH.cons (List.getElem?_toArray.trans (List.getElem?_cons_succ.trans (List.getElem?_cons_succ.trans (List.getElem?_cons_succ.trans (List.getElem?_cons_succ.trans (List.getElem?_cons_succ.trans (List.getElem?_cons_succ.trans (List.getElem?_cons_succ.trans (List.getElem?_cons_succ.trans (List.getElem?_cons_succ.trans (List.getElem?_cons_succ.trans (List.getElem?_cons_succ.trans (List.getElem?_cons_succ.trans (List.getElem?_cons_succ.trans (List.getElem?_cons_zero))))))))))))))) (fun K hK => ?st127) ?more127
                case st127 =>
                  go_simp
                  refine hK.out _ _ ?s128 (fun hH48 => ?r128)
                  case s128 => ((try dsimp only); first | exact DX.s (DX.any _ (DX.any _ D46.out)) | exact DX.s (DX.any _ (DX.any _ D46.out)) | exact DX.s (DX.any _ D46.out) | exact DX.sSet hk (DX.any _ D46.out) | exact DX.sSet hk D46.out | exact DX.sSetA _ hk D46.out)
                  clear hK K hH47
                  try simp only [Act.put, List.setIfInBounds_toArray, List.set_cons_zero, List.set_cons_succ]
                  refine wpAnyH_done (by kernel_rfl) ?_ _
                  have DD := D46
                  go_wp2_with fail
                  go_meet
                  first | exact DD.out.new1 hk | exact DD.out.new2 hk | exact DD.out.old1 hk | exact DD.out.old2 hk | (trace_state; fail)
                exact AllReadyH.nil
              exact AllReadyH.nil
            exact AllReadyH.nil
          exact AllReadyH.nil
        exact AllReadyH.nil
      exact AllReadyH.nil
    refine' AllReadyH.cons (List.getElem?_toArray.trans (List.getElem?_cons_succ.trans (List.getElem?_cons_succ.trans (List.getElem?_cons_succ.trans (List.getElem?_cons_succ.trans (List.getElem?_cons_succ.trans (List.getElem?_cons_succ.trans (List.getElem?_cons_succ.trans (List.getElem?_cons_succ.trans (List.getElem?_cons_zero)))))))))) (fun K hK => ?st129) ?more129
    case st129 =>
      go_simp
      refine hK.out _ _ ?s130 (fun hH49 => ?r130)
      case s130 => ((try dsimp only); exact DX.s (DX.allocA _ D.out))
      have D49 := Lib.hid (DX.allocA 43 D.out)
      clear hK K hH0
      try simp only [Act.put, List.setIfInBounds_toArray, List.set_cons_zero, List.set_cons_succ]
      refine wpAnyH_ready (rs := [2, 12]) (by kernel_rfl) (by simp) ?_
      refine' AllReadyH.cons (List.getElem?_toArray.trans (List.getElem?_cons_succ.trans (List.getElem?_cons_succ.trans (List.getElem?_cons_zero)))) (fun K hK => ?st131) ?more131
      case st131 =>
        go_simp
        refine hK.out _ _ ?s132 (fun hH50 => ?r132)
        case s132 => ((try dsimp only); exact DX.s (DX.allocA _ D49.out))
        have D50 := Lib.hid (DX.allocA 43 D49.out)
        clear hK K hH49
        try simp only [Act.put, List.setIfInBounds_toArray, List.set_cons_zero, List.set_cons_succ]
        refine wpAnyH_ready (rs := [3, 12]) (by kernel_rfl) (by simp) ?_
        refine' AllReadyH.cons (List.getElem?_toArray.trans (List.getElem?_cons_succ.trans (List.getElem?_cons_succ.trans (List.getElem?_cons_succ.trans (List.getElem?_cons_zero))))) (fun K hK => ?st133) ?more133
        case st133 =>
          go_simp
          refine' Calls.mono (DX.mark (k + 10) HP.out hk (.inl ⟨rfl, rfl⟩) hcm ?hh134 ?hb134) ?_
          case hh134 => with_reducible exact D50.out
          case hb134 => (simp; done)
          rintro e w151 ⟨m51, rfl, d51⟩
          try simp only [World.size_alloc, World.size_drew] at d51
          have D51 := Lib.hid d51
          clear d51 D50
          try go_wp2_with fail
          refine hK.out _ _ ?s135 (fun hH51 => ?r135)
          case s135 => ((try dsimp only); exact D51.out.s)
          clear hK K hH50
          try simp only [Act.put, List.setIfInBounds_toArray, List.set_cons_zero, List.set_cons_succ]
          refine' wpAnyH_take (i := 4) (List.getElem?_toArray.trans (List.getElem?_cons_succ.trans (List.getElem?_cons_succ.trans (List.getElem?_cons_succ.trans (List.getElem?_cons_succ.trans (List.getElem?_cons_zero)))))) (by kernel_rfl) (by kernel_rfl) (by kernel_rfl) (fun _ _ _ h => h) (Or.inl ⟨by rfl, ?y136⟩) hH51 ?r136
          case y136 => (intro w hSw; (try dsimp only at hSw); go_simp; try with_reducible rfl)
          try simp only [Act.put, List.setIfInBounds_toArray, List.set_cons_zero, List.set_cons_succ]
          refine wpAnyH_ready (rs := [9, 12]) (by kernel_rfl) (by simp) ?_
          refine' AllReadyH.cons (List.getElem?_toArray.trans (List.getElem?_cons_succ.trans (List.getElem?_cons_succ.trans (List.getElem?_cons_succ.trans (List.getElem?_cons_succ.trans (List.getElem?_cons_succ.trans (List.getElem?_cons_succ.trans (List.getElem?_cons_succ.trans (List.getElem?_cons_succ.trans (List.getElem?_cons_succ.trans (List.getElem?_cons_zero))))))))))) (fun K hK => ?st137) ?more137
          case st137 =>
            go_simp
            refine' Calls.mono (DX.mark (k + 13) HP.out hk (.inr ⟨rfl, _, rfl⟩) hcm ?hh138 ?hb138) ?_
            case hh138 => with_reducible exact D51.out
            case hb138 => (simp; done)
            rintro e w152 ⟨m52, rfl, d52⟩
            try simp only [World.size_alloc, World.size_drew] at d52
            have D52 := Lib.hid d52
            clear d52 D51
            try go_wp2_with fail
            refine hK.out _ _ ?s139 (fun hH52 => ?r139)
            case s139 => ((try dsimp only); exact D52.out.s)
            clear hK K hH51
            try simp only [Act.put, List.setIfInBounds_toArray, List.set_cons_zero, List.set_cons_succ]
            refine' wpAnyH_take (i := 10) (List.getElem?_toArray.trans (List.getElem?_cons_succ.trans (List.getElem?_cons_succ.trans (List.getElem?_cons_succ.trans (List.getElem?_cons_succ.trans (List.getElem?_cons_succ.trans (List.getElem?_cons_succ.trans (List.getElem?_cons_succ.trans (List.getElem?_cons_succ.trans (List.getElem?_cons_succ.trans (List.getElem?_cons_succ.trans (List.getElem?_cons_zero)))))))))))) (by kernel_rfl) (by kernel_rfl) (by kernel_rfl) (fun _ _ _ h => h) (Or.inl ⟨by rfl, ?y140⟩) hH52 ?r140
            case y140 => (intro w hSw; (try dsimp only at hSw); go_simp; try with_reducible rfl)
            try simp only [Act.put, List.setIfInBounds_toArray, List.set_cons_zero, List.set_cons_succ]
            refine wpAnyH_ready (rs := [11, 12]) (by kernel_rfl) (by simp) ?_
            refine' AllReadyH.cons (List.getElem?_toArray.trans (List.getElem?_cons_succ.trans (List.getElem?_cons_succ.trans (List.getElem?_cons_succ.trans (List.getElem?_cons_succ.trans (List.getElem?_cons_succ.trans (List.getElem?_cons_succ.trans (List.getElem?_cons_succ.trans (List.getElem?_cons_succ.trans (List.getElem?_cons_succ.trans (List.getElem?_cons_succ.trans (List.getElem?_cons_succ.trans (List.getElem?_cons_zero))))))))))))) (fun K hK => ?st141) ?more141
            case st141 =>
              go_simp
              refine hK.out _ _ ?s142 (fun hH53 => ?r142)
              case s142 => ((try dsimp only); exact DX.s (DX.any _ D52.out))
              clear hK K hH52
              try simp only [Act.put, List.setIfInBounds_toArray, List.set_cons_zero, List.set_cons_succ]
              refine wpAnyH_ready (rs := [12]) (by kernel_rfl) (by simp) ?_
              refine' AllReadyH.cons (List.getElem?_toArray.trans (List.getElem?_cons_succ.trans (List.getElem?_cons_succ.trans (List.getElem?_cons_succ.trans (List.getElem?_cons_succ.trans (List.getElem?_cons_succ.trans (List.getElem?_cons_succ.trans (List.getElem?_cons_succ.trans (List.getElem?_cons_succ.trans (List.getElem?_cons_succ.trans (List.getElem?_cons_succ.trans (List.getElem?_cons_succ.trans (List.getElem?_cons_succ.trans (List.getElem?_cons_zero)))))))))))))) (fun K hK => ?st143) ?more143
              case st143 =>
                go_simp
                refine hK.out _ _ ?s144 (fun hH54 => ?r144)
                case s144 => ((try dsimp only); exact DX.s (DX.any _ (DX.any _ D52.out)))
                clear hK K hH53
                try simp only [Act.put, List.setIfInBounds_toArray, List.set_cons_zero, List.set_cons_succ]
                refine wpAnyH_ready (rs := [13]) (by kernel_rfl) (by simp) ?_
                refine' AllReadyH.cons (List.getElem?_toArray.trans (List.getElem?_cons_succ.trans (List.getElem?_cons_succ.trans (List.getElem?_cons_succ.trans (List.getElem?_cons_succ.trans (List.getElem?_cons_succ.trans (List.getElem?_cons_succ.trans (List.getElem?_cons_succ.trans (List.getElem?_cons_succ.trans (List.getElem?_cons_succ.trans (List.getElem?_cons_succ.trans (List.getElem?_cons_succ.trans (List.getElem?_cons_succ.trans (List.getElem?_cons_succ.trans (List.getElem?_cons_zero))))))))))))))) (fun K hK => ?st145) ?more145
                case st145 =>
                  go_simp
                  refine hK.out _ _ ?s146 (fun hH55 => ?r146)
                  case s146 => ((try dsimp only); first | exact DX.s (DX.any _ (DX.any _ D52.out)) | exact DX.s (DX.any _ (DX.any _ D52.out)) | exact DX.s (DX.any _ D52.out) | exact DX.sSet hk (DX.any _ D52.out) | exact DX.sSet hk D52.out | exact DX.sSetA _ hk D52.out)
                  clear hK K hH54
                  try simp only [Act.put, List.setIfInBounds_toArray, List.set_cons_zero, List.set_cons_succ]
                  refine wpAnyH_done (by kernel_rfl) ?_ _
                  have DD := D52
                  go_wp2_with fail
                  go_meet
                  first | exact DD.out.new1 hk | exact DD.out.new2 hk | exact DD.out.old1 hk | exact DD.out.old2 hk | (trace_state; fail)
                exact AllReadyH.nil
              exact AllReadyH.nil
            refine' AllReadyH.cons (List.getElem?_toArray.trans (List.getElem?_cons_succ.trans (List.getElem?_cons_succ.trans (List.getElem?_cons_succ.trans (List.getElem?_cons_succ.trans (List.getElem?_cons_succ.trans (List.getElem?_cons_succ.trans (List.getElem?_cons_succ.trans (List.getElem?_cons_succ.trans (List.getElem?_cons_succ.trans (List.getElem?_cons_succ.trans (List.getElem?_cons_succ.trans (List.getElem?_cons_succ.trans (List.getElem?_cons_zero)))))))))))))) (fun K hK => ?st147) ?more147
            case st147 =>
              go_simp
              refine hK.out _ _ ?s148 (fun hH56 => ?r148)
              case s148 => ((try dsimp only); exact DX.s (DX.allocB _ D52.out))
              have D56 := Lib.hid (DX.allocB 306 D52.out)
              clear hK K hH52
              try simp only [Act.put, List.setIfInBounds_toArray, List.set_cons_zero, List.set_cons_succ]
              refine wpAnyH_ready (rs := [11]) (by kernel_rfl) (by simp) ?_
              refine' AllReadyH.cons (List.getElem?_toArray.trans (List.getElem?_cons_succ.trans (List.getElem?_cons_succ.trans (List.getElem?_cons_succ.trans (List.getElem?_cons_succ.trans (List.getElem?_cons_succ.trans (List.getElem?_cons_succ.trans (List.getElem?_cons_succ.trans (List.getElem?_cons_succ.trans (List.getElem?_cons_succ.trans (List.getElem?_cons_succ.trans (List.getElem?_cons_succ.trans (List.getElem?_cons_zero))))))))))))) (fun K hK => ?st149) ?more149
              case st149 =>
                go_simp
                refine hK.out _ _ ?s150 (fun hH57 => ?r150)
                case s150 => ((try dsimp only); exact DX.s (DX.any _ D56.out))
                clear hK K hH56
                try simp only [Act.put, List.setIfInBounds_toArray, List.set_cons_zero, List.set_cons_succ]
                refine wpAnyH_ready (rs := [13]) (by kernel_rfl) (by simp) ?_
                refine' AllReadyH.cons (List.getElem?_toArray.trans (List.getElem?_cons_succ.trans (List.getElem?_cons_succ.trans (List.getElem?_cons_succ.trans (List.getElem?_cons_succ.trans (List.getElem?_cons_succ.trans (List.getElem?_cons_succ.trans (List.getElem?_cons_succ.trans (List.getElem?_cons_succ.trans (List.getElem?_cons_succ.trans (List.getElem?_cons_succ.trans (List.getElem?_cons_succ.trans (List.getElem?_cons_succ.trans (List.getElem?_cons_succ.trans (List.getElem?_cons_zero))))))))))))))) (fun K hK => ?st151) ?more151
                case st151 =>
                  go_simp
                  refine hK.out _ _ ?s152 (fun hH58 => ?r152)
                  case s152 => ((try dsimp only); first | exact DX.s (DX.any _ (DX.any _ D52.out)) | exact DX.s (DX.any _ (DX.any _ D56.out)) | exact DX.s (DX.any _ D56.out) | exact DX.sSet hk (DX.any _ D56.out) | exact DX.sSet hk D56.out | exact DX.sSetA _ hk D56.out)
                  clear hK K hH57
                  try simp only [Act.put, List.setIfInBounds_toArray, List.set_cons_zero, List.set_cons_succ]
                  refine wpAnyH_done (by kernel_rfl) ?_ _
                  have DD := D52
                  go_wp2_with fail
                  go_meet
                  first | exact DD.out.new1 hk | exact DD.out.new2 hk | exact DD.out.old1 hk | exact DD.out.old2 hk | (trace_state; fail)
                exact AllReadyH.nil
              exact AllReadyH.nil
            exact AllReadyH.nil
          refine' AllReadyH.cons (List.getElem?_toArray.trans (List.getElem?_cons_succ.trans (List.getElem?_cons_succ.trans (List.getElem?_cons_succ.trans (List.getElem?_cons_succ.trans (List.getElem?_cons_succ.trans (List.getElem?_cons_succ.trans (List.getElem?_cons_succ.trans (List.getElem?_cons_succ.trans (List.getElem?_cons_succ.trans (List.getElem?_cons_succ.trans (List.getElem?_cons_succ.trans (List.getElem?_cons_succ.trans (List.getElem?_cons_zero)))))))))))))) (fun K hK => ?st153) ?more153
          case st153 =>
            go_simp
            refine hK.out _ _ ?s154 (fun hH59 => ?r154)
            case s154 => ((try dsimp only); exact DX.s (DX.allocB _ D51.out))
            have D59 := Lib.hid (DX.allocB 306 D51.out)
            clear hK K hH51
            try simp only [Act.put, List.setIfInBounds_toArray, List.set_cons_zero, List.set_cons_succ]
            refine wpAnyH_ready (rs := [9]) (by kernel_rfl) (by simp) ?_
            refine' AllReadyH.cons (List.getElem?_toArray.trans (List.getElem?_cons_succ.trans (List.getElem?_cons_succ.trans (List.getElem?_cons_succ.trans (List.getElem?_cons_succ.trans (List.getElem?_cons_succ.trans (List.getElem?_cons_succ.trans (List.getElem?_cons_succ.trans (List.getElem?_cons_succ.trans (List.getElem?_cons_succ.trans (List.getElem?_cons_zero))))))))))) (fun K hK => ?st155) ?more155
            case st155 =>
              go_simp
              refine' Calls.mono (DX.mark (k + 13) HP.out hk (.inr ⟨rfl, _, rfl⟩) hcm ?hh156 ?hb156) ?_
              case hh156 => with_reducible exact D59.out
              case hb156 => (simp; done)
              rintro e w160 ⟨m60, rfl, d60⟩
              try simp only [World.size_alloc, World.size_drew] at d60
              obtain ⟨o60a, o60f, o60l⟩ := d60.box
              have o60n := Nat.ne_of_lt o60l
              have o60m := Ne.symm o60n
              have D60 := Lib.hid d60
              clear d60 D59
              try go_wp2_with fail
              refine hK.out _ _ ?s157 (fun hH60 => ?r157)
              case s157 => ((try dsimp only); exact D60.out.s)
              clear hK K hH59
              try simp only [Act.put, List.setIfInBounds_toArray, List.set_cons_zero, List.set_cons_succ]
              refine' wpAnyH_take (i := 10) (List.getElem?_toArray.trans (List.getElem?_cons_succ.trans (List.getElem?_cons_succ.trans (List.getElem?_cons_succ.trans (List.getElem?_cons_succ.trans (List.getElem?_cons_succ.trans (List.getElem?_cons_succ.trans (List.getElem?_cons_succ.trans (List.getElem?_cons_succ.trans (List.getElem?_cons_succ.trans (List.getElem?_cons_succ.trans (List.getElem?_cons_zero)))))))))))) (by kernel_rfl) (by kernel_rfl) (by kernel_rfl) (fun _ _ _ h => h) (Or.inl ⟨by rfl, ?y158⟩) hH60 ?r158
              case y158 => (intro w hSw; (try dsimp only at hSw); go_simp; try with_reducible rfl)
              try simp only [Act.put, List.setIfInBounds_toArray, List.set_cons_zero, List.set_cons_succ]
              refine wpAnyH_ready (rs := [11]) (by kernel_rfl) (by simp) ?_
              refine' AllReadyH.cons (List.getElem?_toArray.trans (List.getElem?_cons_succ.trans (List.getElem?_cons_succ.trans (List.getElem?_cons_succ.trans (List.getElem?_cons_succ.trans (List.getElem?_cons_succ.trans (List.getElem?_cons_succ.trans (List.getElem?_cons_succ.trans (List.getElem?_cons_succ.trans (List.getElem?_cons_succ.trans (List.getElem?_cons_succ.trans (List.getElem?_cons_succ.trans (List.getElem?_cons_zero))))))))))))) (fun K hK => ?st159) ?more159
              case st159 =>
                go_simp
                refine hK.out _ _ ?s160 (fun hH61 => ?r160)
                case s160 => ((try dsimp only); exact DX.s (DX.any _ D60.out))
                clear hK K hH60
                try simp only [Act.put, List.setIfInBounds_toArray, List.set_cons_zero, List.set_cons_succ]
                refine wpAnyH_ready (rs := [13]) (by kernel_rfl) (by simp) ?_
                refine' AllReadyH.cons (List.getElem?_toArray.trans (List.getElem?_cons_succ.trans (List.getElem?_cons_succ.trans (List.getElem?_cons_succ.trans (List.getElem?_cons_succ.trans (List.getElem?_cons_succ.trans (List.getElem?_cons_succ.trans (List.getElem?_cons_succ.trans (List.getElem?_cons_succ.trans (List.getElem?_cons_succ.trans (List.getElem?_cons_succ.trans (List.getElem?_cons_succ.trans (List.getElem?_cons_succ.trans (List.getElem?_cons_succ.trans (List.getElem?_cons_zero))))))))))))))) (fun K hK => ?st161) ?more161
                case st161 =>
                  go_simp
                  refine hK.out _ _ ?s162 (fun hH62 => ?r162)
                  case s162 => ((try dsimp only); first | exact DX.s (DX.any _ (DX.any _ D60.out)) | exact DX.s (DX.any _ (DX.any _ D60.out)) | exact DX.s (DX.any _ D60.out) | exact DX.sSet hk (DX.any _ D60.out) | exact DX.sSet hk D60.out | exact DX.sSetA _ hk D60.out)
                  clear hK K hH61
                  try simp only [Act.put, List.setIfInBounds_toArray, List.set_cons_zero, List.set_cons_succ]
                  refine wpAnyH_done (by kernel_rfl) ?_ _
                  have DD := D60
                  go_wp2_with fail
                  go_meet
                  first | exact DD.out.new1 hk | exact DD.out.new2 hk | exact DD.out.old1 hk | exact DD.out.old2 hk | (trace_state; fail)
                exact AllReadyH.nil
              exact AllReadyH.nil
            exact AllReadyH.nil
          exact AllReadyH.nil
        refine' AllReadyH.cons (List.getElem?_toArray.trans (List.getElem?_cons_succ.trans (List.getElem?_cons_succ.trans (List.getElem?_cons_succ.trans (List.getElem?_cons_succ.trans (List.getElem?_cons_succ.trans (List.getElem?_cons_succ.trans (List.getElem?_cons_succ.trans (List.getElem?_cons_succ.trans (List.getElem?_cons_succ.trans (List.getElem?_cons_succ.trans (List.getElem?_cons_succ.trans (List.getElem?_cons_succ.trans (List.getElem?_cons_zero)))))))))))))) (fun K hK => ?st163) ?more163
        case st163 =>
          go_simp
          refine hK.out _ _ ?s164 (fun hH63 => ?r164)
          case s164 => ((try dsimp only); exact DX.s (DX.allocB _ D50.out))
          have D63 := Lib.hid (DX.allocB 306 D50.out)
          clear hK K hH50
          try simp only [Act.put, List.setIfInBounds_toArray, List.set_cons_zero, List.set_cons_succ]
          refine wpAnyH_ready (rs := [3]) (by kernel_rfl) (by simp) ?_
          refine' AllReadyH.cons (List.getElem?_toArray.trans (List.getElem?_cons_succ.trans (List.getElem?_cons_succ.trans (List.getElem?_cons_succ.trans (List.getElem?_cons_zero))))) (fun K hK => ?st165) ?more165
          case st165 =>
            go_simp
            refine' Calls.mono (DX.mark (k + 10) HP.out hk (.inl ⟨rfl, rfl⟩) hcm ?hh166 ?hb166) ?_
            case hh166 => with_reducible exact D63.out
            case hb166 => (simp; done)
            rintro e w164 ⟨m64, rfl, d64⟩
            try simp only [World.size_alloc, World.size_drew] at d64
            obtain ⟨o64a, o64f, o64l⟩ := d64.box
            have o64n := Nat.ne_of_lt o64l
            have o64m := Ne.symm o64n
            have D64 := Lib.hid d64
            clear d64 D63
            try go_wp2_with fail
            refine hK.out _ _ ?s167 (fun hH64 => ?r167)
            case s167 => ((try dsimp only); exact D64.out.s)
            clear hK K hH63
            try simp only [Act.put, List.setIfInBounds_toArray, List.set_cons_zero, List.set_cons_succ]
            refine' wpAnyH_take (i := 4) (List.getElem?_toArray.trans (List.getElem?_cons_succ.trans (List.getElem?_cons_succ.trans (List.getElem?_cons_succ.trans (List.getElem?_cons_succ.trans (List.getElem?_cons_zero)))))) (by kernel_rfl) (by kernel_rfl) (by kernel_rfl) (fun _ _ _ h => h) (Or.inl ⟨by rfl, ?y168⟩) hH64 ?r168
            case y168 => (intro w hSw; (try dsimp only at hSw); go_simp; try with_reducible rfl)
            try simp only [Act.put, List.setIfInBounds_toArray, List.set_cons_zero, List.set_cons_succ]
            refine wpAnyH_ready (rs := [9]) (by kernel_rfl) (by simp) ?_
            refine' AllReadyH.cons (List.getElem?_toArray.trans (List.getElem?_cons_succ.trans (List.getElem?_cons_succ.trans (List.getElem?_cons_succ.trans (List.getElem?_cons_succ.trans (List.getElem?_cons_succ.trans (List.getElem?_cons_succ.trans (List.getElem?_cons_succ.trans (List.getElem?_cons_succ.trans (List.getElem?_cons_succ.trans (List.getElem?_cons_zero))))))))))) (fun K hK => ?st169) ?more169
            case st169 =>
              go_simp
              refine' Calls.mono (DX.mark (k + 13) HP.out hk (.inr ⟨rfl, _, rfl⟩) hcm ?hh170 ?hb170) ?_
              case hh170 => with_reducible exact D64.out
              case hb170 => (simp; done)
              rintro e w165 ⟨m65, rfl, d65⟩
              try simp only [World.size_alloc, World.size_drew] at d65
              obtain ⟨o65a, o65f, o65l⟩ := d65.box
              have o65n := Nat.ne_of_lt o65l
              have o65m := Ne.symm o65n
              have D65 := Lib.hid d65
              clear d65 D64
              try go_wp2_with fail
              refine hK.out _ _ ?s171 (fun hH65 => ?r171)
              case s171 => ((try dsimp only); exact D65.out.s)
              clear hK K hH64
              try simp only [Act.put, List.setIfInBounds_toArray, List.set_cons_zero, List.set_cons_succ]
              refine' wpAnyH_take (i := 10) (List.getElem?_toArray.trans (List.getElem?_cons_succ.trans (List.getElem?_cons_succ.trans (List.getElem?_cons_succ.trans (List.getElem?_cons_succ.trans (List.getElem?_cons_succ.trans (List.getElem?_cons_succ.trans (List.getElem?_cons_succ.trans (List.getElem?_cons_succ.trans (List.getElem?_cons_succ.trans (List.getElem?_cons_succ.trans (List.getElem?_cons_zero)))))))))))) (by kernel_rfl) (by kernel_rfl) (by kernel_rfl) (fun _ _ _ h => h) (Or.inl ⟨by rfl, ?y172⟩) hH65 ?r172
              case y172 => (intro w hSw; (try dsimp only at hSw); go_simp; try with_reducible rfl)
              try simp only [Act.put, List.setIfInBounds_toArray, List.set_cons_zero, List.set_cons_succ]
              refine wpAnyH_ready (rs := [11]) (by kernel_rfl) (by simp) ?_
              refine' AllReadyH.cons (List.getElem?_toArray.trans (List.getElem?_cons_succ.trans (List.getElem?_cons_succ.trans (List.getElem?_cons_succ.trans (List.getElem?_cons_succ.trans (List.getElem?_cons_succ.trans (List.getElem?_cons_succ.trans (List.getElem?_cons_succ.trans (List.getElem?_cons_succ.trans (List.getElem?_cons_succ.trans (List.getElem?_cons_succ.trans (List.getElem?_cons_succ.trans (List.getElem?_cons_zero))))))))))))) (fun K hK => ?st173) ?more173
              case st173 =>
                go_simp
                refine hK.out _ _ ?s174 (fun hH66 => ?r174)
                case s174 => ((try dsimp only); exact DX.s (DX.any _ D65.out))
                clear hK K hH65
                try simp only [Act.put, List.setIfInBounds_toArray, List.set_cons_zero, List.set_cons_succ]
                refine wpAnyH_ready (rs := [13]) (by kernel_rfl) (by simp) ?_
                refine' AllReadyH.cons (List.getElem?_toArray.trans (List.getElem?_cons_succ.trans (List.getElem?_cons_succ.trans (List.getElem?_cons_succ.trans (List.getElem?_cons_succ.trans (List.getElem?_cons_succ.trans (List.getElem?_cons_succ.trans (List.getElem?_cons_succ.trans (List.getElem?_cons_succ.trans (List.getElem?_cons_succ.trans (List.getElem?_cons_succ.trans (List.getElem?_cons_succ.trans (List.getElem?_cons_succ.trans (List.getElem?_cons_succ.trans (List.getElem?_cons_zero))))))))))))))) (fun K hK => ?st175) ?more175
                case st175 =>
                  go_simp
                  refine hK.out _ _ ?s176 (fun hH67 => ?r176)
                  case s176 => ((try dsimp only); first | exact DX.s (DX.any _ (DX.any _ D65.out)) | exact DX.s (DX.any _ (DX.any _ D65.out)) | exact DX.s (DX.any _ D65.out) | exact DX.sSet hk (DX.any _ D65.out) | exact DX.sSet hk D65.out | exact DX.sSetA _ hk D65.out)
                  clear hK K hH66
                  try simp only [Act.put, List.setIfInBounds_toArray, List.set_cons_zero, List.set_cons_succ]
                  refine wpAnyH_done (by kernel_rfl) ?_ _
                  have DD := D65
                  go_wp2_with fail
                  go_meet
                  first | exact DD.out.new1 hk | exact DD.out.new2 hk | exact DD.out.old1 hk | exact DD.out.old2 hk | (trace_state; fail)
                exact AllReadyH.nil
              exact AllReadyH.nil
            exact AllReadyH.nil
          exact AllReadyH.nil
        exact AllReadyH.nil
      refine' AllReadyH.cons (List.getElem?_toArray.trans (List.getElem?_cons_succ.trans (List.getElem?_cons_succ.trans (List.getElem?_cons_succ.trans (List.getElem?_cons_succ.trans (List.getElem?_cons_succ.trans (List.getElem?_cons_succ.trans (List.getElem?_cons_succ.trans (List.getElem?_cons_succ.trans (List.getElem?_cons_succ.trans (List.getElem?_cons_succ.trans (List.getElem?_cons_succ.trans (List.getElem?_cons_succ.trans (List.getElem?_cons_zero)))))))))))))) (fun K hK => ?st177) ?more177
      case st177 =>
        go_simp
        refine hK.out _ _ ?s178 (fun hH68 => ?r178)
        case s178 => ((try dsimp only); exact DX.s (DX.allocB _ D49.out))
        have D68 := Lib.hid (DX.allocB 306 D49.out)
        clear hK K hH49
        try simp only [Act.put, List.setIfInBounds_toArray, List.set_cons_zero, List.set_cons_succ]
        refine wpAnyH_ready (rs := [2]) (by kernel_rfl) (by simp) ?_
        refine' AllReadyH.cons (List.getElem?_toArray.trans (List.getElem?_cons_succ.trans (List.getElem?_cons_succ.trans (List.getElem?_cons_zero)))) (fun K hK => ?st179) ?more179
        case st179 =>
          go_simp
          refine hK.out _ _ ?s180 (fun hH69 => ?r180)
          case s180 => ((try dsimp only); exact DX.s (DX.allocA _ D68.out))
          have D69 := Lib.hid (DX.allocA 43 D68.out)
          clear hK K hH68
          try simp only [Act.put, List.setIfInBounds_toArray, List.set_cons_zero, List.set_cons_succ]
          refine wpAnyH_ready (rs := [3]) (by kernel_rfl) (by simp) ?_
          refine' AllReadyH.cons (List.getElem?_toArray.trans (List.getElem?_cons_succ.trans (List.getElem?_cons_succ.trans (List.getElem?_cons_succ.trans (List.getElem?_cons_zero))))) (fun K hK => ?st181) ?more181
          case st181 =>
            go_simp
            refine' Calls.mono (DX.mark (k + 10) HP.out hk (.inl ⟨rfl, rfl⟩) hcm ?hh182 ?hb182) ?_
            case hh182 => with_reducible exact D69.out
            case hb182 => (simp; done)
            rintro e w170 ⟨m70, rfl, d70⟩
            try simp only [World.size_alloc, World.size_drew] at d70
            obtain ⟨o70a, o70f, o70l⟩ := d70.box
            have o70n := Nat.ne_of_lt o70l
            have o70m := Ne.symm o70n
            have D70 := Lib.hid d70
            clear d70 D69
            try go_wp2_with fail
            refine hK.out _ _ ?s183 (fun hH70 => ?r183)
            case s183 => ((try dsimp only); exact D70.out.s)
            clear hK K hH69
            try simp only [Act.put, List.setIfInBounds_toArray, List.set_cons_zero, List.set_cons_succ]
            refine' wpAnyH_take (i := 4) (List.getElem?_toArray.trans (List.getElem?_cons_succ.trans (List.getElem?_cons_succ.trans (List.getElem?_cons_succ.trans (List.getElem?_cons_succ.trans (List.getElem?_cons_zero)))))) (by kernel_rfl) (by kernel_rfl) (by kernel_rfl) (fun _ _ _ h => h) (Or.inl ⟨by rfl, ?y184⟩) hH70 ?r184
            case y184 => (intro w hSw; (try dsimp only at hSw); go_simp; try with_reducible rfl)
            try simp only [Act.put, List.setIfInBounds_toArray, List.set_cons_zero, List.set_cons_succ]
            refine wpAnyH_ready (rs := [9]) (by kernel_rfl) (by simp) ?_
            refine' AllReadyH.cons (List.getElem?_toArray.trans (List.getElem?_cons_succ.trans (List.getElem?_cons_succ.trans (List.getElem?_cons_succ.trans (List.getElem?_cons_succ.trans (List.getElem?_cons_succ.trans (List.getElem?_cons_succ.trans (List.getElem?_cons_succ.trans (List.getElem?_cons_succ.trans (List.getElem?_cons_succ.trans (List.getElem?_cons_zero))))))))))) (fun K hK => ?st185) ?more185
            case st185 =>
              go_simp
              refine' Calls.mono (DX.mark (k + 13) HP.out hk (.inr ⟨rfl, _, rfl⟩) hcm ?hh186 ?hb186) ?_
              case hh186 => with_reducible exact D70.out
              case hb186 => (simp; done)
              rintro e w171 ⟨m71, rfl, d71⟩
              try simp only [World.size_alloc, World.size_drew] at d71
              obtain ⟨o71a, o71f, o71l⟩ := d71.box
              have o71n := Nat.ne_of_lt o71l
              have o71m := Ne.symm o71n
              have D71 := Lib.hid d71
              clear d71 D70
              try go_wp2_with fail
              refine hK.out _ _ ?s187 (fun hH71 => ?r187)
              case s187 => ((try dsimp only); exact D71.out.s)
              clear hK K hH70
              try simp only [Act.put, List.setIfInBounds_toArray, List.set_cons_zero, List.set_cons_succ]
              refine' wpAnyH_take (i := 10) (List.getElem?_toArray.trans (List.getElem?_cons_succ.trans (List.getElem?_cons_succ.trans (List.getElem?_cons_succ.trans (List.getElem?_cons_succ.trans (List.getElem?_cons_succ.trans (List.getElem?_cons_succ.trans (List.getElem?_cons_succ.trans (List.getElem?_cons_succ.trans (List.getElem?_cons_succ.trans (List.getElem?_cons_succ.trans (List.getElem?_cons_zero)))))))))))) (by kernel_rfl) (by kernel_rfl) (by kernel_rfl) (fun _ _ _ h => h) (Or.inl ⟨by rfl, ?y188⟩) hH71 ?r188
              case y188 => (intro w hSw; (try dsimp only at hSw); go_simp; try with_reducible rfl)
              try simp only [Act.put, List.setIfInBounds_toArray, List.set_cons_zero, List.set_cons_succ]
              refine wpAnyH_ready (rs := [11]) (by kernel_rfl) (by simp) ?_
              refine' AllReadyH.cons (List.getElem?_toArray.trans (List.getElem?_cons_succ.trans (List.getElem?_cons_succ.trans (List.getElem?_cons_succ.trans (List.getElem?_cons_succ.trans (List.getElem?_cons_succ.trans (List.getElem?_cons_succ.trans (List.getElem?_cons_succ.trans (List.getElem?_cons_succ.trans (List.getElem?_cons_succ.trans (List.getElem?_cons_succ.trans (List.getElem?_cons_succ.trans (List.getElem?_cons_zero))))))))))))) (fun K hK => ?st189) ?more189
              case st189 =>
                go_simp
                refine hK.out _ _ ?s190 (fun hH72 => ?r190)
                case s190 => ((try dsimp only); exact DX.s (DX.any _ D71.out))
                clear hK K hH71
                try simp only [Act.put, List.setIfInBounds_toArray, List.set_cons_zero, List.set_cons_succ]
                refine wpAnyH_ready (rs := [13]) (by kernel_rfl) (by simp) ?_
                refine' AllReadyH.cons (List.getElem?_toArray.trans (List.getElem?_cons_succ.trans (List.getElem?_cons_succ.trans (List.getElem?_cons_succ.trans (List.getElem?_cons_succ.trans (List.getElem?_cons_succ.trans (List.getElem?_cons_succ.trans (List.getElem?_cons_succ.trans (List.getElem?_cons_succ.trans (List.getElem?_cons_succ.trans (List.getElem?_cons_succ.trans (List.getElem?_cons_succ.trans (List.getElem?_cons_succ.trans (List.getElem?_cons_succ.trans (List.getElem?_cons_zero))))))))))))))) (fun K hK => ?st191) ?more191
                case st191 =>
                  go_simp
                  refine hK.out _ _ ?s192 (fun hH73 => ?r192)
                  case s192 => ((try dsimp only); first | exact DX.s (DX.any _ (DX.any _ D71.out)) | exact DX.s (DX.any _ (DX.any _ D71.out)) | exact DX.s (DX.any _ D71.out) | exact DX.sSet hk (DX.any _ D71.out) | exact DX.sSet hk D71.out | exact DX.sSetA _ hk D71.out)
                  clear hK K hH72
                  try simp only [Act.put, List.setIfInBounds_toArray, List.set_cons_zero, List.set_cons_succ]
                  refine wpAnyH_done (by kernel_rfl) ?_ _
                  have DD := D71
                  go_wp2_with fail
                  go_meet
                  first | exact DD.out.new1 hk | exact DD.out.new2 hk | exact DD.out.old1 hk | exact DD.out.old2 hk | (trace_state; fail)
                exact AllReadyH.nil
              exact AllReadyH.nil
            exact AllReadyH.nil
          exact AllReadyH.nil
        exact AllReadyH.nil
      exact AllReadyH.nil
    refine' AllReadyH.cons (List.getElem?_toArray.trans (List.getElem?_cons_succ.trans (List.getElem?_cons_succ.trans (List.getElem?_cons_succ.trans (List.getElem?_cons_succ.trans (List.getElem?_cons_succ.trans (List.getElem?_cons_succ.trans (List.getElem?_cons_succ.trans (List.getElem?_cons_succ.trans (List.getElem?_cons_succ.trans (List.getElem?_cons_succ.trans (List.getElem?_cons_succ.trans (List.getElem?_cons_succ.trans (List.getElem?_cons_zero)))))))))))))) (fun K hK => ?st193) ?more193
    case st193 =>
      go_simp
      refine hK.out _ _ ?s194 (fun hH74 => ?r194)
      case s194 => ((try dsimp only); exact DX.s (DX.allocB _ D.out))
      have D74 := Lib.hid (DX.allocB 306 D.out)
      clear hK K hH0
      try simp only [Act.put, List.setIfInBounds_toArray, List.set_cons_zero, List.set_cons_succ]
      refine wpAnyH_ready (rs := [2, 8]) (by kernel_rfl) (by simp) ?_
      refine' AllReadyH.cons (List.getElem?_toArray.trans (List.getElem?_cons_succ.trans (List.getElem?_cons_succ.trans (List.getElem?_cons_zero)))) (fun K hK => ?st195) ?more195
      case st195 =>
        go_simp
        refine hK.out _ _ ?s196 (fun hH75 => ?r196)
        case s196 => ((try dsimp only); exact DX.s (DX.allocA _ D74.out))
        have D75 := Lib.hid (DX.allocA 43 D74.out)
        clear hK K hH74
        try simp only [Act.put, List.setIfInBounds_toArray, List.set_cons_zero, List.set_cons_succ]
        refine wpAnyH_ready (rs := [3, 8]) (by kernel_rfl) (by simp) ?_
        refine' AllReadyH.cons (List.getElem?_toArray.trans (List.getElem?_cons_succ.trans (List.getElem?_cons_succ.trans (List.getElem?_cons_succ.trans (List.getElem?_cons_zero))))) (fun K hK => ?st197) ?more197
        case st197 =>
          go_simp
          refine' Calls.mono (DX.mark (k + 10) HP.out hk (.inl ⟨rfl, rfl⟩) hcm ?hh198 ?hb198) ?_
          case hh198 => with_reducible exact D75.out
          case hb198 => (simp; done)
          rintro e w176 ⟨m76, rfl, d76⟩
          try simp only [World.size_alloc, World.size_drew] at d76
          obtain ⟨o76a, o76f, o76l⟩ := d76.box
          have o76n := Nat.ne_of_lt o76l
          have o76m := Ne.symm o76n
          have D76 := Lib.hid d76
          clear d76 D75
          try go_wp2_with fail
          refine hK.out _ _ ?s199 (fun hH76 => ?r199)
          case s199 => ((try dsimp only); exact D76.out.s)
          clear hK K hH75
          try simp only [Act.put, List.setIfInBounds_toArray, List.set_cons_zero, List.set_cons_succ]
          refine' wpAnyH_take (i := 4) (List.getElem?_toArray.trans (List.getElem?_cons_succ.trans (List.getElem?_cons_succ.trans (List.getElem?_cons_succ.trans (List.getElem?_cons_succ.trans (List.getElem?_cons_zero)))))) (by kernel_rfl) (by kernel_rfl) (by kernel_rfl) (fun _ _ _ h => h) (Or.inl ⟨by rfl, ?y200⟩) hH76 ?r200
          case y200 => (intro w hSw; (try dsimp only at hSw); go_simp; try with_reducible rfl)
          try simp only [Act.put, List.setIfInBounds_toArray, List.set_cons_zero, List.set_cons_succ]
          refine wpAnyH_ready (rs := [8]) (by kernel_rfl) (by simp) ?_
          refine' AllReadyH.cons (List.getElem?_toArray.trans (List.getElem?_cons_succ.trans (List.getElem?_cons_succ.trans (List.getElem?_cons_succ.trans (List.getElem?_cons_succ.trans (List.getElem?_cons_succ.trans (List.getElem?_cons_succ.trans (List.getElem?_cons_succ.trans (List.getElem?_cons_succ.trans (List.getElem?_cons_zero)))))))))) (fun K hK => ?st201) ?more201
          case st201 =>
            go_simp
            refine hK.out _ _ ?s202 (fun hH77 => ?r202)
            case s202 => ((try dsimp only); exact DX.s (DX.allocA _ D76.out))
            have D77 := Lib.hid (DX.allocA 43 D76.out)
            clear hK K hH76
            try simp only [Act.put, List.setIfInBounds_toArray, List.set_cons_zero, List.set_cons_succ]
            refine wpAnyH_ready (rs := [9]) (by kernel_rfl) (by simp) ?_
            refine' AllReadyH.cons (List.getElem?_toArray.trans (List.getElem?_cons_succ.trans (List.getElem?_cons_succ.trans (List.getElem?_cons_succ.trans (List.getElem?_cons_succ.trans (List.getElem?_cons_succ.trans (List.getElem?_cons_succ.trans (List.getElem?_cons_succ.trans (List.getElem?_cons_succ.trans (List.getElem?_cons_succ.trans (List.getElem?_cons_zero))))))))))) (fun K hK => ?st203) ?more203
            case st203 =>
              go_simp
              refine' Calls.mono (DX.mark (k + 13) HP.out hk (.inr ⟨rfl, _, rfl⟩) hcm ?hh204 ?hb204) ?_
              case hh204 => with_reducible exact D77.out
              case hb204 => (simp; done)
              rintro e w178 ⟨m78, rfl, d78⟩
              try simp only [World.size_alloc, World.size_drew] at d78
              obtain ⟨o78a, o78f, o78l⟩ := d78.box
              have o78n := Nat.ne_of_lt o78l
              have o78m := Ne.symm o78n
              have D78 := Lib.hid d78
              clear d78 D77
              try go_wp2_with fail
              refine hK.out _ _ ?s205 (fun hH78 => ?r205)
              case s205 => ((try dsimp only); exact D78.out.s)
              clear hK K hH77
              try simp only [Act.put, List.setIfInBounds_toArray, List.set_cons_zero, List.set_cons_succ]
              refine' wpAnyH_take (i := 10) (List.getElem?_toArray.trans (List.getElem?_cons_succ.trans (List.getElem?_cons_succ.trans (List.getElem?_cons_succ.trans (List.getElem?_cons_succ.trans (List.getElem?_cons_succ.trans (List.getElem?_cons_succ.trans (List.getElem?_cons_succ.trans (List.getElem?_cons_succ.trans (List.getElem?_cons_succ.trans (List.getElem?_cons_succ.trans (List.getElem?_cons_zero)))))))))))) (by kernel_rfl) (by kernel_rfl) (by kernel_rfl) (fun _ _ _ h => h) (Or.inl ⟨by rfl, ?y206⟩) hH78 ?r206
              case y206 => (intro w hSw; (try dsimp only at hSw); go_simp; try with_reducible rfl)
              try simp only [Act.put, List.setIfInBounds_toArray, List.set_cons_zero, List.set_cons_succ]
              refine wpAnyH_ready (rs := [11]) (by kernel_rfl) (by simp) ?_
              refine' AllReadyH.cons (List.getElem?_toArray.trans (List.getElem?_cons_succ.trans (List.getElem?_cons_succ.trans (List.getElem?_cons_succ.trans (List.getElem?_cons_succ.trans (List.getElem?_cons_succ.trans (List.getElem?_cons_succ.trans (List.getElem?_cons_succ.trans (List.getElem?_cons_succ.trans (List.getElem?_cons_succ.trans (List.getElem?_cons_succ.trans (List.getElem?_cons_succ.trans (List.getElem?_cons_zero))))))))))))) (fun K hK => ?st207) ?more207
              case st207 =>
                go_simp
                refine hK.out _ _ ?s208 (fun hH79 => ?r208)
                case s208 => ((try dsimp only); exact DX.s (DX.any _ D78.out))
                clear hK K hH78
                try simp only [Act.put, List.setIfInBounds_toArray, List.set_cons_zero, List.set_cons_succ]
                refine wpAnyH_ready (rs := [13]) (by kernel_rfl) (by simp) ?_
                refine' AllReadyH.cons (List.getElem?_toArray.trans (List.getElem?_cons_succ.trans (List.getElem?_cons_succ.trans (List.getElem?_cons_succ.trans (List.getElem?_cons_succ.trans (List.getElem?_cons_succ.trans (List.getElem?_cons_succ.trans (List.getElem?_cons_succ.trans (List.getElem?_cons_succ.trans (List.getElem?_cons_succ.trans (List.getElem?_cons_succ.trans (List.getElem?_cons_succ.trans (List.getElem?_cons_succ.trans (List.getElem?_cons_succ.trans (List.getElem?_cons_zero))))))))))))))) (fun K hK => ?st209) ?more209
                case st209 =>
                  go_simp
                  refine hK.out _ _ ?s210 (fun hH80 => ?r210)
                  case s210 => ((try dsimp only); first | exact DX.s (DX.any _ (DX.any _ D78.out)) | exact DX.s (DX.any _ (DX.any _ D78.out)) | exact DX.s (DX.any _ D78.out) | exact DX.sSet hk (DX.any _ D78.out) | exact DX.sSet hk D78.out | exact DX.sSetA _ hk D78.out)
                  clear hK K hH79
                  try simp only [Act.put, List.setIfInBounds_toArray, List.set_cons_zero, List.set_cons_succ]
                  refine wpAnyH_done (by kernel_rfl) ?_ _
                  have DD := D78
                  go_wp2_with fail
                  go_meet
                  first | exact DD.out.new1 hk | exact DD.out.new2 hk | exact DD.out.old1 hk | exact DD.out.old2 hk | (trace_state; fail)
                exact AllReadyH.nil
              exact AllReadyH.nil
            exact AllReadyH.nil
          exact AllReadyH.nil
        refine' AllReadyH.cons (List.getElem?_toArray.trans (List.getElem?_cons_succ.trans (List.getElem?_cons_succ.trans (List.getElem?_cons_succ.trans (List.getElem?_cons_succ.trans (List.getElem?_cons_succ.trans (List.getElem?_cons_succ.trans (List.getElem?_cons_succ.trans (List.getElem?_cons_succ.trans (List.getElem?_cons_zero)))))))))) (fun K hK => ?st211) ?more211
        case st211 =>
          go_simp
          refine hK.out _ _ ?s212 (fun hH81 => ?r212)
          case s212 => ((try dsimp only); exact DX.s (DX.allocA _ D75.out))
          have D81 := Lib.hid (DX.allocA 43 D75.out)
          clear hK K hH75
          try simp only [Act.put, List.setIfInBounds_toArray, List.set_cons_zero, List.set_cons_succ]
          refine wpAnyH_ready (rs := [3]) (by kernel_rfl) (by simp) ?_
          refine' AllReadyH.cons (List.getElem?_toArray.trans (List.getElem?_cons_succ.trans (List.getElem?_cons_succ.trans (List.getElem?_cons_succ.trans (List.getElem?_cons_zero))))) (fun K hK => ?st213) ?more213
          case st213 =>
            go_simp
            refine' Calls.mono (DX.mark (k + 10) HP.out hk (.inl ⟨rfl, rfl⟩) hcm ?hh214 ?hb214) ?_
            case hh214 => with_reducible exact D81.out
            case hb214 => (simp; done)
            rintro e w182 ⟨m82, rfl, d82⟩
            try simp only [World.size_alloc, World.size_drew] at d82
            obtain ⟨o82a, o82f, o82l⟩ := d82.box
            have o82n := Nat.ne_of_lt o82l
            have o82m := Ne.symm o82n
            have D82 := Lib.hid d82
            clear d82 D81
            try go_wp2_with fail
            refine hK.out _ _ ?s215 (fun hH82 => ?r215)
            case s215 => ((try dsimp only); exact D82.out.s)
            clear hK K hH81
            try simp only [Act.put, List.setIfInBounds_toArray, List.set_cons_zero, List.set_cons_succ]
            refine' wpAnyH_take (i := 4) (List.getElem?_toArray.trans (List.getElem?_cons_succ.trans (List.getElem?_cons_succ.trans (List.getElem?_cons_succ.trans (List.getElem?_cons_succ.trans (List.getElem?_cons_zero)))))) (by kernel_rfl) (by kernel_rfl) (by kernel_rfl) (fun _ _ _ h => h) (Or.inl ⟨by rfl, ?y216⟩) hH82 ?r216
            case y216 => (intro w hSw; (try dsimp only at hSw); go_simp; try with_reducible rfl)
            try simp only [Act.put, List.setIfInBounds_toArray, List.set_cons_zero, List.set_cons_succ]
            refine wpAnyH_ready (rs := [9]) (by kernel_rfl) (by simp) ?_
            refine' AllReadyH.cons (List.getElem?_toArray.trans (List.getElem?_cons_succ.trans (List.getElem?_cons_succ.trans (List.getElem?_cons_succ.trans (List.getElem?_cons_succ.trans (List.getElem?_cons_succ.trans (List.getElem?_cons_succ.trans (List.getElem?_cons_succ.trans (List.getElem?_cons_succ.trans (List.getElem?_cons_succ.trans (List.getElem?_cons_zero))))))))))) (fun K hK => ?st217) ?more217
            case st217 =>
              go_simp
              refine' Calls.mono (DX.mark (k + 13) HP.out hk (.inr ⟨rfl, _, rfl⟩) hcm ?hh218 ?hb218) ?_
              case hh218 => with_reducible exact D82.out
              case hb218 => (simp; done)
              rintro e w183 ⟨m83, rfl, d83⟩
              try simp only [World.size_alloc, World.size_drew] at d83
              obtain ⟨o83a, o83f, o83l⟩ := d83.box
              have o83n := Nat.ne_of_lt o83l
              have o83m := Ne.symm o83n
              have D83 := Lib.hid d83
              clear d83 D82
              try go_wp2_with fail
              refine hK.out _ _ ?s219 (fun hH83 => ?r219)
              case s219 => ((try dsimp only); exact D83.out.s)
              clear hK K hH82
              try simp only [Act.put, List.setIfInBounds_toArray, List.set_cons_zero, List.set_cons_succ]
              refine' wpAnyH_take (i := 10) (List.getElem?_toArray.trans (List.getElem?_cons_succ.trans (List.getElem?_cons_succ.trans (List.getElem?_cons_succ.trans (List.getElem?_cons_succ.trans (List.getElem?_cons_succ.trans (List.getElem?_cons_succ.trans (List.getElem?_cons_succ.trans (List.getElem?_cons_succ.trans (List.getElem?_cons_succ.trans (List.getElem?_cons_succ.trans (List.getElem?_cons_zero)))))))))))) (by kernel_rfl) (by kernel_rfl) (by kernel_rfl) (fun _ _ _ h => h) (Or.inl ⟨by rfl, ?y220⟩) hH83 ?r220
              case y220 => (intro w hSw; (try dsimp only at hSw); go_simp; try with_reducible rfl)
              try simp only [Act.put, List.setIfInBounds_toArray, List.set_cons_zero, List.set_cons_succ]
              refine wpAnyH_ready (rs := [11]) (by kernel_rfl) (by simp) ?_
              refine' AllReadyH.cons (List.getElem?_toArray.trans (List.getElem?_cons_succ.trans (List.getElem?_cons_succ.trans (List.getElem?_cons_succ.trans (List.getElem?_cons_succ.trans (List.getElem?_cons_succ.trans (List.getElem?_cons_succ.trans (List.getElem?_cons_succ.trans (List.getElem?_cons_succ.trans (List.getElem?_cons_succ.trans (List.getElem?_cons_succ.trans (List.getElem?_cons_succ.trans (List.getElem?_cons_zero))))))))))))) (fun K hK => ?st221) ?more221
              case st221 =>
                go_simp
                refine hK.out _ _ ?s222 (fun hH84 => ?r222)
                case s222 => ((try dsimp only); exact DX.s (DX.any _ D83.out))
                clear hK K hH83
                try simp only [Act.put, List.setIfInBounds_toArray, List.set_cons_zero, List.set_cons_succ]
                refine wpAnyH_ready (rs := [13]) (by kernel_rfl) (by simp) ?_
                refine' AllReadyH.cons (List.getElem?_toArray.trans (List.getElem?_cons_succ.trans (List.getElem?_cons_succ.trans (List.getElem?_cons_succ.trans (List.getElem?_cons_succ.trans (List.getElem?_cons_succ.trans (List.getElem?_cons_succ.trans (List.getElem?_cons_succ.trans (List.getElem?_cons_succ.trans (List.getElem?_cons_succ.trans (List.getElem?_cons_succ.trans (List.getElem?_cons_succ.trans (List.getElem?_cons_succ.trans (List.getElem?_cons_succ.trans (List.getElem?_cons_zero))))))))))))))) (fun K hK => ?st223) ?more223
                case st223 =>
                  go_simp
                  refine hK.out _ _ ?s224 (fun hH85 => ?r224)
                  case s224 => ((try dsimp only); first | exact DX.s (DX.any _ (DX.any _ D83.out)) | exact DX.s (DX.any _ (DX.any _ D83.out)) | exact DX.s (DX.any _ D83.out) | exact DX.sSet hk (DX.any _ D83.out) | exact DX.sSet hk D83.out | exact DX.sSetA _ hk D83.out)
                  clear hK K hH84
                  try simp only [Act.put, List.setIfInBounds_toArray, List.set_cons_zero, List.set_cons_succ]
                  refine wpAnyH_done (by kernel_rfl) ?_ _
                  have DD := D83
                  go_wp2_with fail
                  go_meet
                  first | exact DD.out.new1 hk | exact DD.out.new2 hk | exact DD.out.old1 hk | exact DD.out.old2 hk | (trace_state; fail)
                exact AllReadyH.nil
              exact AllReadyH.nil
            exact AllReadyH.nil
          exact AllReadyH.nil
        exact AllReadyH.nil
      refine' AllReadyH.cons (List.getElem?_toArray.trans (List.getElem?_cons_succ.trans (List.getElem?_cons_succ.trans (List.getElem?_cons_succ.trans (List.getElem?_cons_succ.trans (List.getElem?_cons_succ.trans (List.getElem?_cons_succ.trans (List.getElem?_cons_succ.trans (List.getElem?_cons_succ.trans (List.getElem?_cons_zero)))))))))) (fun K hK => ?st225) ?more225
      case st225 =>
        go_simp
        refine hK.out _ _ ?s226 (fun hH86 => ?r226)
        case s226 => ((try dsimp only); exact DX.s (DX.allocA _ D74.out))
        have D86 := Lib.hid (DX.allocA 43 D74.out)
        clear hK K hH74
        try simp only [Act.put, List.setIfInBounds_toArray, List.set_cons_zero, List.set_cons_succ]
        refine wpAnyH_ready (rs := [2]) (by kernel_rfl) (by simp) ?_
        refine' AllReadyH.cons (List.getElem?_toArray.trans (List.getElem?_cons_succ.trans (List.getElem?_cons_succ.trans (List.getElem?_cons_zero)))) (fun K hK => ?st227) ?more227
        case st227 =>
          go_simp
          refine hK.out _ _ ?s228 (fun hH87 => ?r228)
          case s228 => ((try dsimp only); exact DX.s (DX.allocA _ D86.out))
          have D87 := Lib.hid (DX.allocA 43 D86.out)
          clear hK K hH86
          try simp only [Act.put, List.setIfInBounds_toArray, List.set_cons_zero, List.set_cons_succ]
          refine wpAnyH_ready (rs := [3]) (by kernel_rfl) (by simp) ?_
          refine' AllReadyH.cons (List.getElem?_toArray.trans (List.getElem?_cons_succ.trans (List.getElem?_cons_succ.trans (List.getElem?_cons_succ.trans (List.getElem?_cons_zero))))) (fun K hK => ?st229) ?more229
          case st229 =>
            go_simp
            refine' Calls.mono (DX.mark (k + 10) HP.out hk (.inl ⟨rfl, rfl⟩) hcm ?hh230 ?hb230) ?_
            case hh230 => with_reducible exact D87.out
            case hb230 => (simp; done)
            rintro e w188 ⟨m88, rfl, d88⟩
            try simp only [World.size_alloc, World.size_drew] at d88
            obtain ⟨o88a, o88f, o88l⟩ := d88.box
            have o88n := Nat.ne_of_lt o88l
            have o88m := Ne.symm o88n
            have D88 := Lib.hid d88
            clear d88 D87
            try go_wp2_with fail
            refine hK.out _ _ ?s231 (fun hH88 => ?r231)
            case s231 => ((try dsimp only); exact D88.out.s)
            clear hK K hH87
            try simp only [Act.put, List.setIfInBounds_toArray, List.set_cons_zero, List.set_cons_succ]
            refine' wpAnyH_take (i := 4) (List.getElem?_toArray.trans (List.getElem?_cons_succ.trans (List.getElem?_cons_succ.trans (List.getElem?_cons_succ.trans (List.getElem?_cons_succ.trans (List.getElem?_cons_zero)))))) (by kernel_rfl) (by kernel_rfl) (by kernel_rfl) (fun _ _ _ h => h) (Or.inl ⟨by rfl, ?y232⟩) hH88 ?r232
            case y232 => (intro w hSw; (try dsimp only at hSw); go_simp; try with_reducible rfl)
            try simp only [Act.put, List.setIfInBounds_toArray, List.set_cons_zero, List.set_cons_succ]
            refine wpAnyH_ready (rs := [9]) (by kernel_rfl) (by simp) ?_
            refine' AllReadyH.cons (List.getElem?_toArray.trans (List.getElem?_cons_succ.trans (List.getElem?_cons_succ.trans (List.getElem?_cons_succ.trans (List.getElem?_cons_succ.trans (List.getElem?_cons_succ.trans (List.getElem?_cons_succ.trans (List.getElem?_cons_succ.trans (List.getElem?_cons_succ.trans (List.getElem?_cons_succ.trans (List.getElem?_cons_zero))))))))))) (fun K hK => ?st233) ?more233
            case st233 =>
              go_simp
              refine' Calls.mono (DX.mark (k + 13) HP.out hk (.inr ⟨rfl, _, rfl⟩) hcm ?hh234 ?hb234) ?_
              case hh234 => with_reducible exact D88.out
              case hb234 => (simp; done)
              rintro e w189 ⟨m89, rfl, d89⟩
              try simp only [World.size_alloc, World.size_drew] at d89
              obtain ⟨o89a, o89f, o89l⟩ := d89.box
              have o89n := Nat.ne_of_lt o89l
              have o89m := Ne.symm o89n
              have D89 := Lib.hid d89
              clear d89 D88
              try go_wp2_with fail
              refine hK.out _ _ ?s235 (fun hH89 => ?r235)
              case s235 => ((try dsimp only); exact D89.out.s)
              clear hK K hH88
              try simp only [Act.put, List.setIfInBounds_toArray, List.set_cons_zero, List.set_cons_succ]
              refine' wpAnyH_take (i := 10) (List.getElem?_toArray.trans (List.getElem?_cons_succ.trans (List.getElem?_cons_succ.trans (List.getElem?_cons_succ.trans (List.getElem?_cons_succ.trans (List.getElem?_cons_succ.trans (List.getElem?_cons_succ.trans (List.getElem?_cons_succ.trans (List.getElem?_cons_succ.trans (List.getElem?_cons_succ.trans (List.getElem?_cons_succ.trans (List.getElem?_cons_zero)))))))))))) (by kernel_rfl) (by kernel_rfl) (by kernel_rfl) (fun _ _ _ h => h) (Or.inl ⟨by rfl, ?y236⟩) hH89 ?r236
              case y236 => (intro w hSw; (try dsimp only at hSw); go_simp; try with_reducible rfl)
              try simp only [Act.put, List.setIfInBounds_toArray, List.set_cons_zero, List.set_cons_succ]
              refine wpAnyH_ready (rs := [11]) (by kernel_rfl) (by simp) ?_
              refine' AllReadyH.cons (List.getElem?_toArray.trans (List.getElem?_cons_succ.trans (List.getElem?_cons_succ.trans (List.getElem?_cons_succ.trans (List.getElem?_cons_succ.trans (List.getElem?_cons_succ.trans (List.getElem?_cons_succ.trans (List.getElem?_cons_succ.trans (List.getElem?_cons_succ.trans (List.getElem?_cons_succ.trans (List.getElem?_cons_succ.trans (List.getElem?_cons_succ.trans (List.getElem?_cons_zero))))))))))))) (fun K hK => ?st237) ?more237
              case st237 =>
                go_simp
                refine hK.out _ _ ?s238 (fun hH90 => ?r238)
                case s238 => ((try dsimp only); exact DX.s (DX.any _ D89.out))
                clear hK K hH89
                try simp only [Act.put, List.setIfInBounds_toArray, List.set_cons_zero, List.set_cons_succ]
                refine wpAnyH_ready (rs := [13]) (by kernel_rfl) (by simp) ?_
                refine' AllReadyH.cons (List.getElem?_toArray.trans (List.getElem?_cons_succ.trans (List.getElem?_cons_succ.trans (List.getElem?_cons_succ.trans (List.getElem?_cons_succ.trans (List.getElem?_cons_succ.trans (List.getElem?_cons_succ.trans (List.getElem?_cons_succ.trans (List.getElem?_cons_succ.trans (List.getElem?_cons_succ.trans (List.getElem?_cons_succ.trans (List.getElem?_cons_succ.trans (List.getElem?_cons_succ.trans (List.getElem?_cons_succ.trans (List.getElem?_cons_zero))))))))))))))) (fun K hK => ?st239) ?more239
                case st239 =>
                  go_simp
                  refine hK.out _ _ ?s240 (fun hH91 => ?r240)
                  case s240 => ((try dsimp only); first | exact DX.s (DX.any _ (DX.any _ D89.out)) | exact DX.s (DX.any _ (DX.any _ D89.out)) | exact DX.s (DX.any _ D89.out) | exact DX.sSet hk (DX.any _ D89.out) | exact DX.sSet hk D89.out | exact DX.sSetA _ hk D89.out)
                  clear hK K hH90
                  try simp only [Act.put, List.setIfInBounds_toArray, List.set_cons_zero, List.set_cons_succ]
                  refine wpAnyH_done (by kernel_rfl) ?_ _
                  have DD := D89
                  go_wp2_with fail
                  go_meet
                  first | exact DD.out.new1 hk | exact DD.out.new2 hk | exact DD.out.old1 hk | exact DD.out.old2 hk | (trace_state; fail)
                exact AllReadyH.nil
              exact AllReadyH.nil
            exact AllReadyH.nil
          exact AllReadyH.nil
        exact AllReadyH.nil
      exact AllReadyH.nil
    exact AllReadyH.nil
  case rest =>
    obtain ⟨bt, T, m1, m2, G3, rfl, D3, hm1, hm2, hbt, hT⟩ := hcut
    have HD3 := Lib.hid (And.intro D3 (And.intro hm1 hm2))
    have HBT := Lib.hid (And.intro hbt hT)
    have bx0 := D3.bx.c 0 _ rfl
    have x1 := D3.x.c 1 _ rfl
    have f1 := D3.x.f 1
    have g1 := D3.bx.ne D3.x (by omega)
    have g4 := Ne.symm g1
    have E4 := Lib.hid (ext_set (j := 1) (v := DROPV bt N) D3.e.hi D3.x hk)
    have X4 := Lib.hid (D3.x.set 1 (DROPV bt N) (by simp [vcCs]))
    clear hm1 hm2 D3 hbt hT
    go_wp2_with fail
    go_end0
    refine ⟨bt, N, rfl, G3, HD3.out.1.e.trans (E4.out.mono fun t _ ht => .inl ht), X4.out, fun last mw is2 => ⟨T, N3, Ns, m1, m2, U, HD3.out.1.bx.ext E4.out (by omega), HBT.out.1.ext E4.out (by omega), HBT.out.2.ext E4.out (by omega), HD3.out.1.bo.ext E4.out (by omega), HD3.out.1.bs.ext E4.out (by omega), fun _ => HD3.out.2.1.ext E4.out (by omega) (by omega), fun _ => ⟨HD3.out.1.ou.ext E4.out (by omega)⟩, fun _ => HD3.out.2.2.ext E4.out (by omega) (by omega)⟩⟩
end
end
section
open Go.RowKit Go.Shelf
set_option linter.unusedVariables false

section
variable {X : Nat} {w : World} {O : Om} {B : Wb} {f : Cf} {s : AW} {k : Nat}
/-- A load of a cell, in a world behind w. -/
theorem c_loadV (a : Int) {V : World} (hP : PW w O B f s) (hhi : ∀ j, O j ≠ 0 → j < w.heap.size) (hV : Below w.heap.size w V) (a0 : 0 ≤ a) (a1 : a < 18446744073709551616) (n0 : 0 ≤ s.n) (n1 : s.n ≤ 4611686018427387904) :
    Calls Tryz.prog 81 #[.pointer (some ⟨B.c, 0, none⟩), .int .u64 a] V fun e w' => ∃ G', e = .returned (.int .u64 (s.M a)) ∧ Ext SW O w G' w' ∧ PW w' G' B f (awLoad a s) ∧ V.heap.size ≤ w'.heap.size ∧ (∀ j, w.heap.size ≤ j → j < V.heap.size → G' j = 0) ∧
      (∀ j i, w.heap.size ≤ j → j < V.heap.size → w'.cell? ⟨j, i, none⟩ = V.cell? ⟨j, i, none⟩ ∧ w'.frozen? ⟨j, i, none⟩ = V.frozen? ⟨j, i, none⟩) := by
  have hhV : ∀ j, O j ≠ 0 → j < V.heap.size := fun j hj => Nat.lt_of_lt_of_le (hhi j hj) hV.size
  refine (c_LoadP a (hP.below hhi hV) hhV a0 a1 n0 n1).mono ?_
  rintro e w' ⟨rfl, G', e', p'⟩
  have hz : ∀ j, w.heap.size ≤ j → j < V.heap.size → O j = 0 := fun j h1 h2 => nob_of hhi h1
  have h0 : ∀ j, w.heap.size ≤ j → j < V.heap.size → ¬ SW (O j) := fun j h1 h2 => by rw [hz j h1 h2]; unfold SW; omega
  exact ⟨G', rfl, (Ext.of_below hhi hV).trans e', p', e'.size, fun j h1 h2 => (e'.lo j h2).trans (hz j h1 h2), fun j i h1 h2 => ⟨e'.cell (p := ⟨j, i, none⟩) h2 (h0 j h1 h2), e'.frozen (p := ⟨j, i, none⟩) h2 (h0 j h1 h2)⟩⟩
/-- What line 2 holds. -/
structure V2 (w : World) (O : Om) (B : Wb) (f : Cf) (s : AW) (k X : Nat) (cs : List Value) (lv : Value) (ll : List Spt) (bs bx : Nat) (p : Spt) (W : World) (G : Om) : Prop where
  e : Ext (SX k (k + 14)) O w G W
  pw : PW W G B f s
  x : Ob W G k X cs
  v : VLeft W G (k + 1) lv ll
  sb : Ob W G (k + 2) bs (sptc p)
  b : Ob W G (k + 3) bx [.pointer (some ⟨X, 0, none⟩)]
theorem VLeft.claim {O O2 : Om} {w : World} {g b : Nat} {lv : Value} {l : List Spt} (h : VLeft w O g lv l) (hz : O b = 0) (hg : g ≠ 0) (hO : ∀ j, j ≠ b → O2 j = O j) : VLeft w O2 g lv l := by
  obtain ⟨A, j, cap, cs, h1, h2, h3, h4, h5⟩ := h.ex
  exact ⟨A, j, cap, cs, h1, h2, h3, h4.claim hz hg hO, h5⟩
theorem V2.claim {cs : List Value} {lv : Value} {ll : List Spt} {bs bx b : Nat} {p : Spt} {W : World} {G O2 : Om} (h : V2 w O B f s k X cs lv ll bs bx p W G) (hk : 10 ≤ k) (hz : G b = 0) (e2 : Ext (SX k (k + 14)) O w O2 W) (hO : ∀ j, j ≠ b → O2 j = G j) : V2 w O B f s k X cs lv ll bs bx p W O2 :=
  ⟨e2, h.pw.congr (fun j hj => hO j (fun e => hj (by rw [e]; exact hz))) e2.hi, h.x.claim hz (by omega) hO, h.v.claim hz (by omega) hO, h.sb.claim hz (by omega) hO, h.b.claim hz (by omega) hO⟩
theorem V2.ext4 {cs : List Value} {lv : Value} {ll : List Spt} {bs bx : Nat} {p : Spt} {W W' : World} {G G' : Om} (h : V2 w O B f s k X cs lv ll bs bx p W G) (hk : 10 ≤ k) (e : Ext (fun t => t = k + 4) G W G' W') : V2 w O B f s k X cs lv ll bs bx p W' G' :=
  ⟨h.e.trans (e.mono fun t _ ht => .inr (by omega)), h.pw.ext e (by omega) (by omega) (by omega) (by omega), h.x.ext e (by omega), h.v.ext e (by omega), h.sb.ext e (by omega), h.b.ext e (by omega)⟩
set_option maxHeartbeats 4000000 in
set_option maxRecDepth 100000 in
theorem c_V2 {z : Vcm} {lv dv : Value} {bs bx : Nat} (hP : PW w O B f s) (hx : Ob w O k X (vcCs lv dv z.ref z.is)) (hL : VLeft w O (k + 1) lv (vcLeft z)) (hs : Ob w O (k + 2) bs (sptc z.p)) (hb : Ob w O (k + 3) bx [.pointer (some ⟨X, 0, none⟩)]) (hz : VcOk z) (hl : z.ln = 2) (hk : 10 ≤ k) (hhi : ∀ j, O j ≠ 0 → j < w.heap.size) (n0 : 0 ≤ s.n) (n1 : s.n ≤ 4611686018427387904) :
    Calls Tryz.prog 163 #[.pointer (some ⟨B.p, 0, none⟩), .pointer (some ⟨bx, 0, none⟩), .pointer (some ⟨bs, 0, none⟩)] w (VPost w O B f k X (.tuple #[]) (vcStep (s, z))) := by
  obtain ⟨y, hy⟩ : ∃ y, y = vcStep (s, z) := ⟨_, rfl⟩
  rw [← hy]
  rw [vcStep_2 s z hl] at hy
  obtain ⟨ln, p, last, ref, mw, is, o⟩ := z
  dsimp only at hl
  subst hl
  have hpo := hz.p (by dsimp only; omega)
  dsimp only at hpo
  have HP := Lib.hid hpo
  obtain ⟨l0, l1, -, a0, i0, r0, r1, m0, m1, w0, w1, o8, o4⟩ := hz
  dsimp only at l0 l1 a0 i0 r0 r1 m0 m1 w0 w1 o8 o4 hs
  have i0 := i0 (by omega)
  subst i0
  have HV : Hid (V2 w O B f s k X (vcCs lv dv ref false) lv (vcLeft ⟨2, p, last, ref, mw, false, o⟩) bs bx p w O) := Lib.hid ⟨Ext.refl hhi, hP, hx, hL, hs, hb⟩
  have p0 := hP.wo.c0
  have b0 := hb.c 0 _ rfl
  have x2 := hx.c 2 _ rfl
  have hrf : 0 ≤ plRef ref ∧ plRef ref < 18446744073709551616 := by unfold plRef; split <;> omega
  have HR := Lib.hid (fun W => c_Ref ref W r0 r1)
  obtain ⟨ra, hra⟩ : ∃ ra, ra = plRef ref := ⟨_, rfl⟩
  rw [← hra] at hrf HR hy
  have hmb := hP.bd ra
  have HLd := Lib.hid (fun (V : World) (hV : Below w.heap.size w V) => c_loadV (V := V) ra hP hhi hV hrf.1 hrf.2 n0 n1)
  obtain ⟨mv, hmv⟩ : ∃ mv, mv = s.M ra := ⟨_, rfl⟩
  rw [← hmv] at hmb hy HLd
  have HK := Lib.hid (fun W => c_Marked24 mv W hmb.1 hmb.2)
  obtain ⟨mb, hmk⟩ : ∃ mb, mb = rfMarked mv := ⟨_, rfl⟩
  rw [← hmk] at HK hy
  have HY := Lib.hid hy
  have g1 := hP.wo.lt
  have g2 := hb.lt
  have g3 := hx.lt
  have N1 : ¬ (B.p = w.heap.size) := by omega
  have N2 : ¬ (w.heap.size = B.p) := by omega
  have N3 : ¬ (bx = w.heap.size) := by omega
  have N4 : ¬ (w.heap.size = bx) := by omega
  have N5 : ¬ (X = w.heap.size) := by omega
  have N6 : ¬ (w.heap.size = X) := by omega
  unfold VPost
  clear hP hx hL hs hb hhi hpo l0 l1 a0 r0 r1 m0 m1 w0 w1 o8 o4 hy hra hmv hmk hrf hmb
  go_enter Tryz.func163, Tryz.ntmps163
  go_upto_region 0 with fail
  go_cut [4] (fun s4 wx => ∃ (bv : Nat) (G : Om), s4 = .pointer (some ⟨bv, 0, none⟩) ∧ V2 w O B f (awLoad ra s) k X (vcCs lv dv ref false) lv (vcLeft ⟨2, p, last, ref, mw, false, o⟩) bs bx p wx G ∧ Ob wx G (k + 4) bv [.int .u64 mv])
  case first =>
    go_region_held3 (fun w' => w'.cell? ⟨B.p, 0, none⟩ = some (.pointer (some ⟨B.c, 0, none⟩)) ∧ w'.cell? ⟨bx, 0, none⟩ = some (.pointer (some ⟨X, 0, none⟩)) ∧ w'.cell? ⟨X, 2, none⟩ = some (.int .i64 ref)) (go_keep)
      ((first
        | (go_at_call 26
           refine (HR.out _).mono ?_
           rintro e w1 ⟨rfl, rfl⟩)
        | (go_at_call 81
           refine (HLd.out _ (by (repeat (first | (with_reducible exact Below.refl _ _) | (with_reducible refine Below.drew ?_) | (with_reducible refine Below.alloc ?_ (by first | exact Nat.le_refl _ | simp; done | (simp; omega)) _))))).mono ?_
           rintro e w3 ⟨G3, rfl, e3, P3, l3, z3, c3⟩
           have V3 : Hid (V2 w O B f (awLoad ra s) k X (vcCs lv dv ref false) lv (vcLeft ⟨2, p, last, ref, mw, false, o⟩) bs bx p w3 G3) := Lib.hid ⟨e3.mono fun t _ ht => SX.of_sw ht, P3, HV.out.x.ext e3 (by unfold SW; omega), HV.out.v.ext e3 (by unfold SW; omega), HV.out.sb.ext e3 (by unfold SW; omega), HV.out.b.ext e3 (by unfold SW; omega)⟩
           have p03 := V3.out.pw.wo.c0
           have b03 := V3.out.b.c 0 _ rfl
           have x23 := V3.out.x.c 2 _ rfl
           try simp at l3
           try (have q0z := z3 w.heap.size (by omega) (by first | omega | (simp; done) | (simp; omega)))
           try (have q00 := c3 w.heap.size 0 (by omega) (by first | omega | (simp; done) | (simp; omega)); simp [go_sem] at q00; have q0f := q00.2; replace q00 := q00.1)
           try (have qf : ∀ i, w3.frozen? ⟨w.heap.size, i, none⟩ = false := fun i => (c3 w.heap.size i (Nat.le_refl _) (by first | omega | (simp; done) | (simp; omega))).2.trans (by simp [go_sem]))
           try (have qlt : w.heap.size < w3.heap.size := (by omega))
           clear e3 P3 z3 c3)))
    all_goals
      go_wp2_with fail
      go_meet
      first
      | (obtain ⟨O2, e2, hb2, hO⟩ := V3.out.e.claim (b := w.heap.size) (g := k + 4) (Nat.le_refl _) qlt q0z (.inr ⟨by omega, by omega⟩)
         have V4 := V3.out.claim hk q0z e2 hO
         have B4 : Ob w3 O2 (k + 4) w.heap.size [.int .u64 0] := ⟨hb2, qlt, fun j u hu => (by cases j with | zero => (simp at hu; rw [← hu]; exact q00) | succ j => simp at hu), qf⟩
         exact ⟨w.heap.size, O2, rfl, V4.ext4 hk (ext_set (j := 0) (v := .int .u64 mv) e2.hi B4 (by omega)), B4.set 0 _ (by simp)⟩)
      | (obtain ⟨O2, e2, b2, -⟩ := alloc_ob V3.out.e.hi (k + 4) #[.int .u64 mv] 27 w3.heap.size rfl
         exact ⟨w3.heap.size, O2, rfl, V3.out.ext4 hk e2, b2⟩)
  case rest =>
    obtain ⟨bv, G, rfl, hV, hv⟩ := hcut
    have H3 := Lib.hid (And.intro hV hv)
    have b0 := hV.b.c 0 _ rfl
    have s0 := hV.sb.c 0 _ rfl
    have s1 := hV.sb.c 1 _ rfl
    have s2 := hV.sb.c 2 _ rfl
    have v0 := hv.c 0 _ rfl
    have g1 := hV.b.ne hV.x (by omega)
    have g2 := Ne.symm g1
    have x1 := hV.x.c 1 _ rfl
    have f1 := hV.x.f 1
    clear hV hv HV
    go_upto_region 1 with fail
    go_wp2_with fail
    refine (HK.out _).mono ?_
    rintro e w' ⟨rfl, rfl⟩
    cases mb with
    | true =>
      have E1 := ext_set (j := 1) (v := CLEARV bx bv) H3.out.1.e.hi H3.out.1.x hk
      have X1 := Lib.hid (And.intro (H3.out.1.x.set 1 (CLEARV bx bv) (by simp [vcCs])) (And.intro (H3.out.1.e.trans (E1.mono (T := SX k (k + 14)) fun t _ ht => .inr (by omega))) (And.intro (H3.out.1.pw.ext E1 (by omega) (by omega) (by omega) (by omega)) (And.intro (H3.out.1.v.ext E1 (by omega)) (And.intro (H3.out.1.b.ext E1 (by omega)) (H3.out.2.ext E1 (by omega)))))))
      clear E1
      go_wp2_with fail
      go_end0
      rw [HY.out]
      exact ⟨rfl, _, X1.out.2.1, X1.out.2.2.1, lv, CLEARV bx bv, X1.out.1, fun _ => X1.out.2.2.2.1, fun h => absurd h (by dsimp only; decide), ⟨fun g => absurd g (by dsimp only; decide), fun g => absurd g (by dsimp only; decide), fun g => absurd g (by dsimp only; decide), fun _ => ⟨bx, bv, rfl, X1.out.2.2.2.2.1, X1.out.2.2.2.2.2⟩, fun g => absurd g (by dsimp only; decide)⟩⟩
    | false =>
      have HD := Lib.hid (c_Vdrop lv dv ref false p HP.out H3.out.1.x hk H3.out.1.e.hi)
      unfold sptV at HD
      go_wp2_with fail
      refine HD.out.mono ?_
      rintro e w5 ⟨bt, bx5, rfl, G5, e5, x5, d5⟩
      have X5 := Lib.hid (And.intro x5 (And.intro (H3.out.1.e.trans (e5.mono (T := SX k (k + 14)) fun t _ ht => .inr (by omega))) (And.intro (H3.out.1.pw.ext e5 (by omega) (by omega) (by omega) (by omega)) (And.intro (H3.out.1.v.ext e5 (by omega)) (d5 last mv false)))))
      clear e5 x5 d5
      go_wp2_with fail
      refine bodyPost_ret (results_none rfl _ _ _) rfl ?_
      rw [HY.out]
      exact ⟨rfl, _, X5.out.2.1, X5.out.2.2.1, lv, DROPV bt bx5, X5.out.1, fun _ => X5.out.2.2.2.1, fun h => absurd h (by dsimp only; decide), ⟨fun g => absurd g (by dsimp only; decide), fun g => absurd g (by dsimp only; decide), fun g => absurd g (by dsimp only; decide), fun g => absurd g (by dsimp only; decide), fun _ => ⟨bt, bx5, rfl, X5.out.2.2.2.2⟩⟩⟩
end
end
section
open Go.RowKit Go.Shelf
set_option linter.unusedVariables false

section
variable {X : Nat} {w : World} {O : Om} {B : Wb} {f : Cf} {s s1 : AW} {k : Nat}
set_option maxHeartbeats 1000000 in
set_option maxRecDepth 100000 in
theorem c_Vd2 (hP : PW w O B f s) (hhi : ∀ j, O j ≠ 0 → j < w.heap.size) (n0 : 0 ≤ s.n) (n1 : s.n ≤ 4611686018427387904) :
    Calls Tryz.prog 203 #[.pointer (some ⟨B.p, 0, none⟩)] w (RP SW w O (.bool true) fun W G => PW W G B f (awAdd 6 18446744073709551615 s)) := by
  have HL := Lib.hid (c_AddP 6 18446744073709551615 hP hhi (by decide) (by decide) (by decide) (by decide) n0 n1)
  have p0 := hP.wo.c0
  clear hP hhi
  go_enter Tryz.func203, Tryz.ntmps203
  go_wp2_with fail
  refine HL.out.mono ?_
  rintro e w2 ⟨rfl, G2, e2, P2⟩
  have H2 := Lib.hid (And.intro e2 P2)
  clear e2 P2 HL
  go_wp2_with fail
  go_ret
  exact ⟨rfl, G2, H2.out⟩
set_option maxHeartbeats 4000000 in
set_option maxRecDepth 100000 in
theorem c_Vd1_0 {bo bx bs U : Nat} {p : Spt} {ow ref : Int} {lv dv : Value} {is : Bool} (hP : PW w O B f s) (hx : Ob w O k X (vcCs lv dv ref is)) (hbx : Ob w O (k + 5) bx [.pointer (some ⟨X, 0, none⟩)]) (hbo : Ob w O (k + 7) bo [.pointer (some ⟨U, 0, none⟩)]) (hbs : Ob w O (k + 6) bs (sptc p)) (hU : OutAt w O (k + 12) U p ⟨0, ow⟩) (hp : p.ok) (w0 : 0 ≤ ow) (w1 : ow < 18446744073709551616) (hk : 10 ≤ k) (hhi : ∀ j, O j ≠ 0 → j < w.heap.size) (n0 : 0 ≤ s.n) (n1 : s.n ≤ 4611686018427387904) :
    Calls Tryz.prog 202 #[.pointer (some ⟨B.p, 0, none⟩), .pointer (some ⟨bo, 0, none⟩), .pointer (some ⟨bx, 0, none⟩), .pointer (some ⟨bs, 0, none⟩)] w (RP (SX (k + 12) (k + 12)) w O (.bool false) fun W G => PW W G B f ((outStep p s ⟨0, ow⟩).1) ∧ OutAt W G (k + 12) U p (outStep p s ⟨0, ow⟩).2) := by
  have ht := hp.tags
  have ht0 : p.tags ≠ 0 := by omega
  have hU0 := hU.ob.c 0 _ rfl
  have hU4 := hU.ob.c 4 _ rfl
  have HK := Lib.hid (c_OutStep (k := k + 12) ⟨0, ow⟩ hP hU hp (show (0 : Nat) < 3 by decide) w0 w1 (by omega) hhi n0 n1)
  have hon : (outStep p s ⟨0, ow⟩).2.ln = 1 := rfl
  obtain ⟨o2, ho2⟩ : ∃ o2, o2 = (outStep p s ⟨0, ow⟩).2 := ⟨_, rfl⟩
  obtain ⟨s2, hs2⟩ : ∃ s2, s2 = (outStep p s ⟨0, ow⟩).1 := ⟨_, rfl⟩
  rw [← ho2, ← hs2] at HK ⊢
  rw [← ho2] at hon
  have H0 := Lib.hid (And.intro hx (And.intro hbx (And.intro hbo hbs)))
  have o0 := hbo.c 0 _ rfl
  have g1 : decide (1 < (0 : Nat)) = false := by decide
  have hd : ((0 : Nat) == 2) = false := by decide
  clear hP hx hbx hbo hbs hU hhi ho2 hs2 ht w0 w1
  go_enter Tryz.func202, Tryz.ntmps202
  go_wp2_with fail
  refine (c_OutGone p.tags 0 hU0 hU4 ht0).mono ?_
  rintro e w' ⟨rfl, rfl⟩
  rw [g1]
  go_wp2_with fail
  refine HK.out.mono ?_
  rintro e w2 ⟨rfl, G2, e2, P2, u2⟩
  rw [hd]
  have E2 := e2.mono (T := SX (k + 12) (k + 12)) fun t _ ht => SX.mono (by omega) (by omega) ht
  have H2 := Lib.hid (And.intro E2 (And.intro P2 (And.intro u2 (And.intro (H0.out.1.ext E2 (SX.not (by omega) (by omega))) (And.intro (H0.out.2.1.ext E2 (SX.not (by omega) (by omega))) (And.intro (H0.out.2.2.1.ext E2 (SX.not (by omega) (by omega))) (H0.out.2.2.2.ext E2 (SX.not (by omega) (by omega)))))))))
  have j0 := u2.ob.c 0 _ rfl
  have j4 := u2.ob.c 4 _ rfl
  rw [hon] at j4
  clear HK e2 P2 u2 E2 o0 hU0 hU4 g1 hd
  have o0 := H2.out.2.2.2.2.2.1.c 0 _ rfl
  have g2 : decide (1 < (1 : Nat)) = false := by decide
  go_wp2_with fail
  refine (c_OutGone p.tags 1 j0 j4 ht0).mono ?_
  rintro e w' ⟨rfl, rfl⟩
  rw [g2]
  clear j0 j4 g2
  go_wp2_with fail
  go_ret
  exact ⟨rfl, _, H2.out.1, H2.out.2.1, H2.out.2.2.1⟩
set_option maxHeartbeats 4000000 in
set_option maxRecDepth 100000 in
theorem c_Vd1_1 {bo bx bs U : Nat} {p : Spt} {ow ref : Int} {lv dv : Value} {is : Bool} (hP : PW w O B f s) (hx : Ob w O k X (vcCs lv dv ref is)) (hbx : Ob w O (k + 5) bx [.pointer (some ⟨X, 0, none⟩)]) (hbo : Ob w O (k + 7) bo [.pointer (some ⟨U, 0, none⟩)]) (hbs : Ob w O (k + 6) bs (sptc p)) (hU : OutAt w O (k + 12) U p ⟨1, ow⟩) (hp : p.ok) (w0 : 0 ≤ ow) (w1 : ow < 18446744073709551616) (hk : 10 ≤ k) (hhi : ∀ j, O j ≠ 0 → j < w.heap.size) (n0 : 0 ≤ s.n) (n1 : s.n ≤ 4611686018427387904) :
    Calls Tryz.prog 202 #[.pointer (some ⟨B.p, 0, none⟩), .pointer (some ⟨bo, 0, none⟩), .pointer (some ⟨bx, 0, none⟩), .pointer (some ⟨bs, 0, none⟩)] w (RP (SX (k + 12) (k + 12)) w O (.bool false) fun W G => PW W G B f (awNote 1 ref p.b p.q p.s 0 (outStep p s ⟨1, ow⟩).1) ∧ OutAt W G (k + 12) U p (outStep p s ⟨1, ow⟩).2) := by
  have ht := hp.tags
  have ht0 : p.tags ≠ 0 := by omega
  have hU0 := hU.ob.c 0 _ rfl
  have hU4 := hU.ob.c 4 _ rfl
  have HK := Lib.hid (c_OutStep (k := k + 12) ⟨1, ow⟩ hP hU hp (show (1 : Nat) < 3 by decide) w0 w1 (by omega) hhi n0 n1)
  have hon : (outStep p s ⟨1, ow⟩).2.ln = 2 := rfl
  obtain ⟨o2, ho2⟩ : ∃ o2, o2 = (outStep p s ⟨1, ow⟩).2 := ⟨_, rfl⟩
  obtain ⟨s2, hs2⟩ : ∃ s2, s2 = (outStep p s ⟨1, ow⟩).1 := ⟨_, rfl⟩
  rw [← ho2, ← hs2] at HK ⊢
  rw [← ho2] at hon
  have H0 := Lib.hid (And.intro hx (And.intro hbx (And.intro hbo hbs)))
  have o0 := hbo.c 0 _ rfl
  have g1 : decide (1 < (1 : Nat)) = false := by decide
  have hd : ((1 : Nat) == 2) = false := by decide
  clear hP hx hbx hbo hbs hU hhi ho2 hs2 ht w0 w1
  go_enter Tryz.func202, Tryz.ntmps202
  go_wp2_with fail
  refine (c_OutGone p.tags 1 hU0 hU4 ht0).mono ?_
  rintro e w' ⟨rfl, rfl⟩
  rw [g1]
  go_wp2_with fail
  refine HK.out.mono ?_
  rintro e w2 ⟨rfl, G2, e2, P2, u2⟩
  rw [hd]
  have E2 := e2.mono (T := SX (k + 12) (k + 12)) fun t _ ht => SX.mono (by omega) (by omega) ht
  have H2 := Lib.hid (And.intro E2 (And.intro P2 (And.intro u2 (And.intro (H0.out.1.ext E2 (SX.not (by omega) (by omega))) (And.intro (H0.out.2.1.ext E2 (SX.not (by omega) (by omega))) (And.intro (H0.out.2.2.1.ext E2 (SX.not (by omega) (by omega))) (H0.out.2.2.2.ext E2 (SX.not (by omega) (by omega)))))))))
  have j0 := u2.ob.c 0 _ rfl
  have j4 := u2.ob.c 4 _ rfl
  rw [hon] at j4
  clear HK e2 P2 u2 E2 o0 hU0 hU4 g1 hd
  have o0 := H2.out.2.2.2.2.2.1.c 0 _ rfl
  have g2 : decide (1 < (2 : Nat)) = true := by decide
  go_wp2_with fail
  refine (c_OutGone p.tags 2 j0 j4 ht0).mono ?_
  rintro e w' ⟨rfl, rfl⟩
  rw [g2]
  clear j0 j4 g2
  have b0 := H2.out.2.2.2.2.1.c 0 _ rfl
  have x2 := H2.out.2.2.2.1.c 2 _ rfl
  have s0 := H2.out.2.2.2.2.2.2.c 0 _ rfl
  have s1 := H2.out.2.2.2.2.2.2.c 1 _ rfl
  have s2 := H2.out.2.2.2.2.2.2.c 2 _ rfl
  go_wp2_with fail
  go_region_held3 (fun w' => w'.cell? ⟨bx, 0, none⟩ = some (.pointer (some ⟨X, 0, none⟩)) ∧ w'.cell? ⟨X, 2, none⟩ = some (.int .i64 ref) ∧ w'.cell? ⟨bs, 0, none⟩ = some (.int .i64 p.b) ∧ w'.cell? ⟨bs, 1, none⟩ = some (.int .i64 p.q) ∧ w'.cell? ⟨bs, 2, none⟩ = some (.int .i64 p.s)) (go_keep)
    ((go_at_call 148
      have P2 := H2.out.2.1.below H2.out.1.hi (drew_below _)
      refine (c_WNote 1 ref p.b p.q p.s 0 P2 (H2.out.1.drew.hi) (by decide) (by decide)).mono ?_
      rintro e w4 ⟨rfl, G4, e4, P4⟩
      have b04 := ((H2.out.2.2.2.2.1.below (drew_below _)).ext e4 (by unfold SW; omega)).c 0 _ rfl
      have x24 := ((H2.out.2.2.2.1.below (drew_below _)).ext e4 (by unfold SW; omega)).c 2 _ rfl
      have s04 := ((H2.out.2.2.2.2.2.2.below (drew_below _)).ext e4 (by unfold SW; omega)).c 0 _ rfl
      have s14 := ((H2.out.2.2.2.2.2.2.below (drew_below _)).ext e4 (by unfold SW; omega)).c 1 _ rfl
      have s24 := ((H2.out.2.2.2.2.2.2.below (drew_below _)).ext e4 (by unfold SW; omega)).c 2 _ rfl
      have H4 := Lib.hid (And.intro (H2.out.1.drew.trans (e4.mono (T := SX (k + 12) (k + 12)) fun t _ ht => SX.of_sw ht)) (And.intro P4 ((H2.out.2.2.1.below (drew_below _)).ext e4 (by unfold SW; omega))))
      clear e4 P4 P2))
  all_goals
    go_wp2_with fail
    go_ret
    exact ⟨rfl, _, H4.out⟩
set_option maxHeartbeats 4000000 in
set_option maxRecDepth 100000 in
theorem c_Vd1_2 {bo bx bs U : Nat} {p : Spt} {ow ref : Int} {lv dv : Value} {is : Bool} (hP : PW w O B f s) (hx : Ob w O k X (vcCs lv dv ref is)) (hbx : Ob w O (k + 5) bx [.pointer (some ⟨X, 0, none⟩)]) (hbo : Ob w O (k + 7) bo [.pointer (some ⟨U, 0, none⟩)]) (hbs : Ob w O (k + 6) bs (sptc p)) (hU : OutAt w O (k + 12) U p ⟨2, ow⟩) (hp : p.ok) (w0 : 0 ≤ ow) (w1 : ow < 18446744073709551616) (hk : 10 ≤ k) (hhi : ∀ j, O j ≠ 0 → j < w.heap.size) (n0 : 0 ≤ s.n) (n1 : s.n ≤ 4611686018427387904) :
    Calls Tryz.prog 202 #[.pointer (some ⟨B.p, 0, none⟩), .pointer (some ⟨bo, 0, none⟩), .pointer (some ⟨bx, 0, none⟩), .pointer (some ⟨bs, 0, none⟩)] w (RP (SX (k + 12) (k + 12)) w O (.bool true) fun W G => PW W G B f ((outStep p s ⟨2, ow⟩).1) ∧ OutAt W G (k + 12) U p (outStep p s ⟨2, ow⟩).2) := by
  have ht := hp.tags
  have ht0 : p.tags ≠ 0 := by omega
  have hU0 := hU.ob.c 0 _ rfl
  have hU4 := hU.ob.c 4 _ rfl
  have HK := Lib.hid (c_OutStep (k := k + 12) ⟨2, ow⟩ hP hU hp (show (2 : Nat) < 3 by decide) w0 w1 (by omega) hhi n0 n1)
  have hon : (outStep p s ⟨2, ow⟩).2.ln = 3 := rfl
  obtain ⟨o2, ho2⟩ : ∃ o2, o2 = (outStep p s ⟨2, ow⟩).2 := ⟨_, rfl⟩
  obtain ⟨s2, hs2⟩ : ∃ s2, s2 = (outStep p s ⟨2, ow⟩).1 := ⟨_, rfl⟩
  rw [← ho2, ← hs2] at HK ⊢
  rw [← ho2] at hon
  have H0 := Lib.hid (And.intro hx (And.intro hbx (And.intro hbo hbs)))
  have o0 := hbo.c 0 _ rfl
  have g1 : decide (1 < (2 : Nat)) = true := by decide
  have hd : ((2 : Nat) == 2) = true := by decide
  clear hP hx hbx hbo hbs hU hhi ho2 hs2 ht w0 w1
  go_enter Tryz.func202, Tryz.ntmps202
  go_wp2_with fail
  refine (c_OutGone p.tags 2 hU0 hU4 ht0).mono ?_
  rintro e w' ⟨rfl, rfl⟩
  rw [g1]
  go_wp2_with fail
  refine HK.out.mono ?_
  rintro e w2 ⟨rfl, G2, e2, P2, u2⟩
  rw [hd]
  have E2 := e2.mono (T := SX (k + 12) (k + 12)) fun t _ ht => SX.mono (by omega) (by omega) ht
  have H2 := Lib.hid (And.intro E2 (And.intro P2 (And.intro u2 (And.intro (H0.out.1.ext E2 (SX.not (by omega) (by omega))) (And.intro (H0.out.2.1.ext E2 (SX.not (by omega) (by omega))) (And.intro (H0.out.2.2.1.ext E2 (SX.not (by omega) (by omega))) (H0.out.2.2.2.ext E2 (SX.not (by omega) (by omega)))))))))
  have j0 := u2.ob.c 0 _ rfl
  have j4 := u2.ob.c 4 _ rfl
  rw [hon] at j4
  clear HK e2 P2 u2 E2 o0 hU0 hU4 g1 hd
  have o0 := H2.out.2.2.2.2.2.1.c 0 _ rfl
  have g2 : decide (1 < (3 : Nat)) = true := by decide
  go_wp2_with fail
  refine (c_OutGone p.tags 3 j0 j4 ht0).mono ?_
  rintro e w' ⟨rfl, rfl⟩
  rw [g2]
  clear j0 j4 g2
  go_wp2_with fail
  go_ret
  exact ⟨rfl, _, H2.out.1, H2.out.2.1, H2.out.2.2.1⟩
set_option maxHeartbeats 4000000 in
set_option maxRecDepth 100000 in
theorem c_Vd3_0t {T bt bx K : Nat} {bound caps : Array Value} {ref : Int} {lv dv : Value} {is : Bool} {Q : World → Om → Prop} (hx : Ob w O k X (vcCs lv dv ref is)) (hbx : Ob w O (k + 5) bx [.pointer (some ⟨X, 0, none⟩)]) (hbt : Ob w O (k + 8) bt [.slice (some ⟨T, 0, none⟩) 4 4]) (hT : w.cell? ⟨T, 0, none⟩ = some (.func (.func K) bound caps)) (hK : ∀ args W, (callFunc K args).run Tryz.prog W = .ok (.enter K args) W)
    (HC : Calls Tryz.prog K (bound ++ #[.pointer (some ⟨B.p, 0, none⟩)] ++ caps) w (RP (SX (k + 10) (k + 14)) w O (.bool true) fun W G => PW W G B f s1 ∧ Q W G)) (hQ : ∀ W G W' G', Q W G → Ext (fun t => t = k ∨ t = k + 8) G W G' W' → Q W' G') (hk : 10 ≤ k) :
    Calls Tryz.prog 204 #[.pointer (some ⟨B.p, 0, none⟩), .pointer (some ⟨bt, 0, none⟩), .pointer (some ⟨bx, 0, none⟩)] w (RP (SX k (k + 14)) w O (.tuple #[]) fun W G => PW W G B f s1 ∧ Q W G ∧ Ob W G k X (vcCs lv dv ref is) ∧ Ob W G (k + 8) bt [.slice (some ⟨T, 1, none⟩) 3 3]) := by
  have HH := Lib.hid (And.intro hx (And.intro hbx hbt))
  have HCC := Lib.hid HC
  have HQ := Lib.hid hQ
  have t0 := hbt.c 0 _ rfl
  clear hx hbx hbt HC hQ
  go_enter Tryz.func204, Tryz.ntmps204
  go_wp2_with fail
  refine HCC.out.mono ?_
  rintro e w1 ⟨rfl, G1, e1, P1, q1⟩
  have H1 := Lib.hid (And.intro e1 (And.intro P1 (And.intro q1 (And.intro (HH.out.1.ext e1 (SX.not (by omega) (by omega))) (And.intro (HH.out.2.1.ext e1 (SX.not (by omega) (by omega))) (HH.out.2.2.ext e1 (SX.not (by omega) (by omega))))))))
  clear e1 P1 q1 t0 hT HH
  have t0 := H1.out.2.2.2.2.2.c 0 _ rfl
  have tf := H1.out.2.2.2.2.2.f 0
  have E2 := ext_set (j := 0) (v := .slice (some ⟨T, 1, none⟩) 3 3) H1.out.1.hi H1.out.2.2.2.2.2 (by omega)
  have t2 := H1.out.2.2.2.2.2.set 0 (.slice (some ⟨T, 1, none⟩) 3 3) (by simp)
  have x2 := H1.out.2.2.2.1.ext E2 (by omega)
  have H2 := Lib.hid (And.intro (H1.out.1.mono (T := SX k (k + 14)) fun t _ ht => SX.mono (by omega) (by omega) ht) (And.intro (E2.mono (T := SX k (k + 14)) fun t _ ht => .inr (by omega)) (And.intro (H1.out.2.1.ext E2 (by omega) (by omega) (by omega) (by omega)) (And.intro (HQ.out _ _ _ _ H1.out.2.2.1 (E2.mono fun t _ ht => .inr ht)) (And.intro x2 t2)))))
  clear E2 t2 x2
  go_wp2_with fail
  go_end0
  exact ⟨rfl, G1, H2.out.1.trans H2.out.2.1, H2.out.2.2⟩
set_option maxHeartbeats 4000000 in
set_option maxRecDepth 100000 in
theorem c_Vd3_1f {T bt bx K : Nat} {bound caps : Array Value} {ref : Int} {lv dv : Value} {is : Bool} {Q : World → Om → Prop} (hx : Ob w O k X (vcCs lv dv ref is)) (hbx : Ob w O (k + 5) bx [.pointer (some ⟨X, 0, none⟩)]) (hbt : Ob w O (k + 8) bt [.slice (some ⟨T, 1, none⟩) 3 3]) (hT : w.cell? ⟨T, 1, none⟩ = some (.func (.func K) bound caps)) (hK : ∀ args W, (callFunc K args).run Tryz.prog W = .ok (.enter K args) W)
    (HC : Calls Tryz.prog K (bound ++ #[.pointer (some ⟨B.p, 0, none⟩)] ++ caps) w (RP (SX (k + 10) (k + 14)) w O (.bool false) fun W G => PW W G B f s1 ∧ Q W G)) (hQ : ∀ W G W' G', Q W G → Ext (fun t => t = k ∨ t = k + 8) G W G' W' → Q W' G') (hk : 10 ≤ k) :
    Calls Tryz.prog 204 #[.pointer (some ⟨B.p, 0, none⟩), .pointer (some ⟨bt, 0, none⟩), .pointer (some ⟨bx, 0, none⟩)] w (RP (SX k (k + 14)) w O (.tuple #[]) fun W G => PW W G B f s1 ∧ Q W G ∧ Ob W G k X (vcCs lv dv ref is) ∧ Ob W G (k + 8) bt [.slice (some ⟨T, 1, none⟩) 3 3]) := by
  have HH := Lib.hid (And.intro hx (And.intro hbx hbt))
  have HCC := Lib.hid HC
  have HQ := Lib.hid hQ
  have t0 := hbt.c 0 _ rfl
  clear hx hbx hbt HC hQ
  go_enter Tryz.func204, Tryz.ntmps204
  go_wp2_with fail
  refine HCC.out.mono ?_
  rintro e w1 ⟨rfl, G1, e1, P1, q1⟩
  have H1 := Lib.hid (And.intro e1 (And.intro P1 (And.intro q1 (And.intro (HH.out.1.ext e1 (SX.not (by omega) (by omega))) (And.intro (HH.out.2.1.ext e1 (SX.not (by omega) (by omega))) (HH.out.2.2.ext e1 (SX.not (by omega) (by omega))))))))
  clear e1 P1 q1 t0 hT HH
  go_wp2_with fail
  refine bodyPost_ret (results_none rfl _ _ _) rfl ?_
  exact ⟨rfl, G1, H1.out.1.mono fun t _ ht => SX.mono (by omega) (by omega) ht, H1.out.2.1, H1.out.2.2.1, H1.out.2.2.2.1, H1.out.2.2.2.2.2⟩
set_option maxHeartbeats 4000000 in
set_option maxRecDepth 100000 in
theorem c_Vd3_1t {T bt bx K : Nat} {bound caps : Array Value} {ref : Int} {lv dv : Value} {is : Bool} {Q : World → Om → Prop} (hx : Ob w O k X (vcCs lv dv ref is)) (hbx : Ob w O (k + 5) bx [.pointer (some ⟨X, 0, none⟩)]) (hbt : Ob w O (k + 8) bt [.slice (some ⟨T, 1, none⟩) 3 3]) (hT : w.cell? ⟨T, 1, none⟩ = some (.func (.func K) bound caps)) (hK : ∀ args W, (callFunc K args).run Tryz.prog W = .ok (.enter K args) W)
    (HC : Calls Tryz.prog K (bound ++ #[.pointer (some ⟨B.p, 0, none⟩)] ++ caps) w (RP (SX (k + 10) (k + 14)) w O (.bool true) fun W G => PW W G B f s1 ∧ Q W G)) (hQ : ∀ W G W' G', Q W G → Ext (fun t => t = k ∨ t = k + 8) G W G' W' → Q W' G') (hk : 10 ≤ k) :
    Calls Tryz.prog 204 #[.pointer (some ⟨B.p, 0, none⟩), .pointer (some ⟨bt, 0, none⟩), .pointer (some ⟨bx, 0, none⟩)] w (RP (SX k (k + 14)) w O (.tuple #[]) fun W G => PW W G B f s1 ∧ Q W G ∧ Ob W G k X (vcCs lv dv ref is) ∧ Ob W G (k + 8) bt [.slice (some ⟨T, 2, none⟩) 2 2]) := by
  have HH := Lib.hid (And.intro hx (And.intro hbx hbt))
  have HCC := Lib.hid HC
  have HQ := Lib.hid hQ
  have t0 := hbt.c 0 _ rfl
  clear hx hbx hbt HC hQ
  go_enter Tryz.func204, Tryz.ntmps204
  go_wp2_with fail
  refine HCC.out.mono ?_
  rintro e w1 ⟨rfl, G1, e1, P1, q1⟩
  have H1 := Lib.hid (And.intro e1 (And.intro P1 (And.intro q1 (And.intro (HH.out.1.ext e1 (SX.not (by omega) (by omega))) (And.intro (HH.out.2.1.ext e1 (SX.not (by omega) (by omega))) (HH.out.2.2.ext e1 (SX.not (by omega) (by omega))))))))
  clear e1 P1 q1 t0 hT HH
  have t0 := H1.out.2.2.2.2.2.c 0 _ rfl
  have tf := H1.out.2.2.2.2.2.f 0
  have E2 := ext_set (j := 0) (v := .slice (some ⟨T, 2, none⟩) 2 2) H1.out.1.hi H1.out.2.2.2.2.2 (by omega)
  have t2 := H1.out.2.2.2.2.2.set 0 (.slice (some ⟨T, 2, none⟩) 2 2) (by simp)
  have x2 := H1.out.2.2.2.1.ext E2 (by omega)
  have H2 := Lib.hid (And.intro (H1.out.1.mono (T := SX k (k + 14)) fun t _ ht => SX.mono (by omega) (by omega) ht) (And.intro (E2.mono (T := SX k (k + 14)) fun t _ ht => .inr (by omega)) (And.intro (H1.out.2.1.ext E2 (by omega) (by omega) (by omega) (by omega)) (And.intro (HQ.out _ _ _ _ H1.out.2.2.1 (E2.mono fun t _ ht => .inr ht)) (And.intro x2 t2)))))
  clear E2 t2 x2
  go_wp2_with fail
  go_end0
  exact ⟨rfl, G1, H2.out.1.trans H2.out.2.1, H2.out.2.2⟩
set_option maxHeartbeats 4000000 in
set_option maxRecDepth 100000 in
theorem c_Vd3_2t {T bt bx K : Nat} {bound caps : Array Value} {ref : Int} {lv dv : Value} {is : Bool} {Q : World → Om → Prop} (hx : Ob w O k X (vcCs lv dv ref is)) (hbx : Ob w O (k + 5) bx [.pointer (some ⟨X, 0, none⟩)]) (hbt : Ob w O (k + 8) bt [.slice (some ⟨T, 2, none⟩) 2 2]) (hT : w.cell? ⟨T, 2, none⟩ = some (.func (.func K) bound caps)) (hK : ∀ args W, (callFunc K args).run Tryz.prog W = .ok (.enter K args) W)
    (HC : Calls Tryz.prog K (bound ++ #[.pointer (some ⟨B.p, 0, none⟩)] ++ caps) w (RP (SX (k + 10) (k + 14)) w O (.bool true) fun W G => PW W G B f s1 ∧ Q W G)) (hQ : ∀ W G W' G', Q W G → Ext (fun t => t = k ∨ t = k + 8) G W G' W' → Q W' G') (hk : 10 ≤ k) :
    Calls Tryz.prog 204 #[.pointer (some ⟨B.p, 0, none⟩), .pointer (some ⟨bt, 0, none⟩), .pointer (some ⟨bx, 0, none⟩)] w (RP (SX k (k + 14)) w O (.tuple #[]) fun W G => PW W G B f s1 ∧ Q W G ∧ Ob W G k X (vcCs lv dv ref is) ∧ Ob W G (k + 8) bt [.slice (some ⟨T, 3, none⟩) 1 1]) := by
  have HH := Lib.hid (And.intro hx (And.intro hbx hbt))
  have HCC := Lib.hid HC
  have HQ := Lib.hid hQ
  have t0 := hbt.c 0 _ rfl
  clear hx hbx hbt HC hQ
  go_enter Tryz.func204, Tryz.ntmps204
  go_wp2_with fail
  refine HCC.out.mono ?_
  rintro e w1 ⟨rfl, G1, e1, P1, q1⟩
  have H1 := Lib.hid (And.intro e1 (And.intro P1 (And.intro q1 (And.intro (HH.out.1.ext e1 (SX.not (by omega) (by omega))) (And.intro (HH.out.2.1.ext e1 (SX.not (by omega) (by omega))) (HH.out.2.2.ext e1 (SX.not (by omega) (by omega))))))))
  clear e1 P1 q1 t0 hT HH
  have t0 := H1.out.2.2.2.2.2.c 0 _ rfl
  have tf := H1.out.2.2.2.2.2.f 0
  have E2 := ext_set (j := 0) (v := .slice (some ⟨T, 3, none⟩) 1 1) H1.out.1.hi H1.out.2.2.2.2.2 (by omega)
  have t2 := H1.out.2.2.2.2.2.set 0 (.slice (some ⟨T, 3, none⟩) 1 1) (by simp)
  have x2 := H1.out.2.2.2.1.ext E2 (by omega)
  have H2 := Lib.hid (And.intro (H1.out.1.mono (T := SX k (k + 14)) fun t _ ht => SX.mono (by omega) (by omega) ht) (And.intro (E2.mono (T := SX k (k + 14)) fun t _ ht => .inr (by omega)) (And.intro (H1.out.2.1.ext E2 (by omega) (by omega) (by omega) (by omega)) (And.intro (HQ.out _ _ _ _ H1.out.2.2.1 (E2.mono fun t _ ht => .inr ht)) (And.intro x2 t2)))))
  clear E2 t2 x2
  go_wp2_with fail
  go_end0
  exact ⟨rfl, G1, H2.out.1.trans H2.out.2.1, H2.out.2.2⟩
set_option maxHeartbeats 4000000 in
set_option maxRecDepth 100000 in
theorem c_Vd3_3t {T bt bx K : Nat} {bound caps : Array Value} {ref : Int} {lv dv : Value} {is : Bool} {Q : World → Om → Prop} (hx : Ob w O k X (vcCs lv dv ref is)) (hbx : Ob w O (k + 5) bx [.pointer (some ⟨X, 0, none⟩)]) (hbt : Ob w O (k + 8) bt [.slice (some ⟨T, 3, none⟩) 1 1]) (hT : w.cell? ⟨T, 3, none⟩ = some (.func (.func K) bound caps)) (hK : ∀ args W, (callFunc K args).run Tryz.prog W = .ok (.enter K args) W)
    (HC : Calls Tryz.prog K (bound ++ #[.pointer (some ⟨B.p, 0, none⟩)] ++ caps) w (RP (SX (k + 10) (k + 14)) w O (.bool true) fun W G => PW W G B f s1 ∧ Q W G)) (hQ : ∀ W G W' G', Q W G → Ext (fun t => t = k ∨ t = k + 8) G W G' W' → Q W' G') (hk : 10 ≤ k) :
    Calls Tryz.prog 204 #[.pointer (some ⟨B.p, 0, none⟩), .pointer (some ⟨bt, 0, none⟩), .pointer (some ⟨bx, 0, none⟩)] w (RP (SX k (k + 14)) w O (.tuple #[]) fun W G => PW W G B f s1 ∧ Q W G ∧ Ob W G k X (vcCs lv .nilFunc ref true)) := by
  have HH := Lib.hid (And.intro hx (And.intro hbx hbt))
  have HCC := Lib.hid HC
  have HQ := Lib.hid hQ
  have t0 := hbt.c 0 _ rfl
  clear hx hbx hbt HC hQ
  go_enter Tryz.func204, Tryz.ntmps204
  go_wp2_with fail
  refine HCC.out.mono ?_
  rintro e w1 ⟨rfl, G1, e1, P1, q1⟩
  have H1 := Lib.hid (And.intro e1 (And.intro P1 (And.intro q1 (And.intro (HH.out.1.ext e1 (SX.not (by omega) (by omega))) (And.intro (HH.out.2.1.ext e1 (SX.not (by omega) (by omega))) (HH.out.2.2.ext e1 (SX.not (by omega) (by omega))))))))
  clear e1 P1 q1 t0 hT HH
  have t0 := H1.out.2.2.2.2.2.c 0 _ rfl
  have tf := H1.out.2.2.2.2.2.f 0
  have E2 := ext_set (j := 0) (v := .slice (some ⟨T, 3, none⟩) 0 0) H1.out.1.hi H1.out.2.2.2.2.2 (by omega)
  have t2 := H1.out.2.2.2.2.2.set 0 (.slice (some ⟨T, 3, none⟩) 0 0) (by simp)
  have x2 := H1.out.2.2.2.1.ext E2 (by omega)
  have b2 := H1.out.2.2.2.2.1.ext E2 (by omega)
  have E2' := E2.mono (T := fun t => t = k ∨ t = k + 8) fun t _ ht => .inr ht
  have H2 := Lib.hid (And.intro (H1.out.1.mono (T := SX k (k + 14)) fun t _ ht => SX.mono (by omega) (by omega) ht) (And.intro E2' (And.intro (H1.out.2.1.ext E2 (by omega) (by omega) (by omega) (by omega)) (And.intro H1.out.2.2.1 (And.intro x2 (And.intro b2 t2))))))
  have g1 := b2.ne x2 (by omega)
  have g2 := Ne.symm g1
  have g3 := t2.ne x2 (by omega)
  have g4 := Ne.symm g3
  have g5 := t2.ne b2 (by omega)
  have g6 := Ne.symm g5
  clear E2 E2' t2 x2 b2
  go_upto_region 3 with fail
  obtain ⟨w2, hw2⟩ : ∃ w2, w2 = w1.setCell ⟨bt, 0, none⟩ (.slice (some ⟨T, 3, none⟩) 0 0) := ⟨_, rfl⟩
  rw [← hw2] at H2 ⊢
  have y1 := H2.out.2.2.2.2.1.c 1 _ rfl
  have y3 := H2.out.2.2.2.2.1.c 3 _ rfl
  have f1 := H2.out.2.2.2.2.1.f 1
  have f3 := H2.out.2.2.2.2.1.f 3
  have b0 := H2.out.2.2.2.2.2.1.c 0 _ rfl
  have E3 := ext_set (j := 3) (v := .bool true) H2.out.2.1.hi H2.out.2.2.2.2.1 hk
  have X3 := H2.out.2.2.2.2.1.set 3 (.bool true) (by simp [vcCs])
  have E4 := E3.trans (ext_set (j := 1) (v := .nilFunc) E3.hi X3 hk)
  have X4 := X3.set 1 .nilFunc (by simp [vcCs])
  have F3 := ext_set (j := 1) (v := .nilFunc) H2.out.2.1.hi H2.out.2.2.2.2.1 hk
  have Y3 := H2.out.2.2.2.2.1.set 1 .nilFunc (by simp [vcCs])
  have F4 := F3.trans (ext_set (j := 3) (v := .bool true) F3.hi Y3 hk)
  have Y4 := Y3.set 3 (.bool true) (by simp [vcCs])
  have A4 := Lib.hid (And.intro E4 X4)
  have C4 := Lib.hid (And.intro F4 Y4)
  clear E3 X3 E4 X4 F3 Y3 F4 Y4 t0 tf hw2
  go_region
  all_goals
    go_wp2_with fail
    go_end0
    first
    | exact ⟨rfl, G1, (((H2.out.1.trans (H2.out.2.1.mono fun t _ ht => .inr (by omega))).trans (A4.out.1.mono fun t _ ht => .inr (by omega)))).drew, (H2.out.2.2.1.ext A4.out.1 (by omega) (by omega) (by omega) (by omega)).below A4.out.1.hi (drew_below _), HQ.out _ _ _ _ H2.out.2.2.2.1 ((H2.out.2.1.trans (A4.out.1.mono fun t _ ht => .inl ht)).drew), A4.out.2.below (drew_below _)⟩
    | exact ⟨rfl, G1, (((H2.out.1.trans (H2.out.2.1.mono fun t _ ht => .inr (by omega))).trans (C4.out.1.mono fun t _ ht => .inr (by omega)))).drew, (H2.out.2.2.1.ext C4.out.1 (by omega) (by omega) (by omega) (by omega)).below C4.out.1.hi (drew_below _), HQ.out _ _ _ _ H2.out.2.2.2.1 ((H2.out.2.1.trans (C4.out.1.mono fun t _ ht => .inl ht)).drew), C4.out.2.below (drew_below _)⟩
end
end
section
open Go.RowKit Go.Shelf
set_option linter.unusedVariables false

/-- What a drop has beside its steps. -/
structure VRest (k X T bo bs bx m1 m2 U : Nat) (p : Spt) (o : Otm) (lv : Value) (ll : List Spt) (n : Nat) (W : World) (G : Om) : Prop where
  xb : Ob W G (k + 5) bx [.pointer (some ⟨X, 0, none⟩)]
  tt : Ob W G (k + 9) T [MSTEPV m1, OSTEPV bo bx bs, MSTEPV m2, CSTEPV]
  ob : Ob W G (k + 7) bo [.pointer (some ⟨U, 0, none⟩)]
  sb : Ob W G (k + 6) bs (sptc p)
  ma : n = 0 → MkAt W G (k + 10) m1 [p.ver]
  uo : n ≤ 1 → OutAt W G (k + 12) U p o
  mb : n ≤ 2 → MkAt W G (k + 13) m2 [p.ver]
  vl : VLeft W G (k + 1) lv ll
section
variable {X : Nat} {w : World} {O : Om} {B : Wb} {f : Cf} {s s1 : AW} {k : Nat}
theorem VRest.ext {T bo bs bx m1 m2 U : Nat} {p : Spt} {o : Otm} {lv : Value} {ll : List Spt} {n : Nat} {S : Nat → Prop} {W W' : World} {G G' : Om} (h : VRest k X T bo bs bx m1 m2 U p o lv ll n W G) (e : Ext S G W G' W') (hs : ∀ t, S t → t < 10 ∨ t = k ∨ t = k + 8) (hk : 10 ≤ k) : VRest k X T bo bs bx m1 m2 U p o lv ll n W' G' :=
  ⟨h.xb.ext e (fun g => by have := hs _ g; omega), h.tt.ext e (fun g => by have := hs _ g; omega), h.ob.ext e (fun g => by have := hs _ g; omega), h.sb.ext e (fun g => by have := hs _ g; omega), fun g => (h.ma g).ext e (fun g => by have := hs _ g; omega) (fun g => by have := hs _ g; omega), fun g => (h.uo g).ext e (fun g => by have := hs _ g; omega), fun g => (h.mb g).ext e (fun g => by have := hs _ g; omega) (fun g => by have := hs _ g; omega), h.vl.ext e (fun g => by have := hs _ g; omega)⟩
theorem VRest.drop {T bo bs bx m1 m2 U bt : Nat} {p : Spt} {o : Otm} {lv : Value} {ll : List Spt} {n : Nat} {W : World} {G : Om} {z : Vcm} (h : VRest k X T bo bs bx m1 m2 U p o lv ll n W G) (ht : Ob W G (k + 8) bt [.slice (some ⟨T, n, none⟩) (4 - n) (4 - n)]) (hp : z.p = p) (ho : z.o = o) : VDrop W G k X z n bt bx :=
  ⟨T, bo, bs, m1, m2, U, h.xb, ht, h.tt, h.ob, by rw [hp]; exact h.sb, fun g => by rw [hp]; exact h.ma g, fun g => by rw [hp, ho]; exact h.uo g, fun g => by rw [hp]; exact h.mb g⟩
theorem VcAt.of_drop {W : World} {G : Om} {lv dv : Value} {bt bx n : Nat} {z : Vcm} (hx : Ob W G k X (vcCs lv dv z.ref z.is)) (hv : VLeft W G (k + 1) lv (vcLeft z)) (hi : z.is = false) (hd : dv = DROPV bt bx) (h : VDrop W G k X z n bt bx) (hl : z.ln = n + 4) (hn : n ≤ 3) : VcAt W G k X z :=
  ⟨lv, dv, hx, fun _ => hv, fun g => absurd (hi.symm.trans g) (by decide), ⟨fun g => by omega, fun g => by omega, fun g => by omega, fun g => by omega, fun _ => ⟨bt, bx, hd, by rw [show z.ln.toNat - 4 = n by omega]; exact h⟩⟩⟩
set_option maxHeartbeats 2000000 in
set_option maxRecDepth 100000 in
theorem c_V4 {z : Vcm} {lv : Value} {bt bx : Nat} (hP : PW w O B f s) (hx : Ob w O k X (vcCs lv (DROPV bt bx) z.ref z.is)) (hL : VLeft w O (k + 1) lv (vcLeft z)) (hD : VDrop w O k X z 0 bt bx) (hz : VcOk z) (hl : z.ln = 4) (hk : 10 ≤ k) (hhi : ∀ j, O j ≠ 0 → j < w.heap.size) (n0 : 0 ≤ s.n) (n1 : s.n ≤ 4611686018427387904) :
    Calls Tryz.prog 204 #[.pointer (some ⟨B.p, 0, none⟩), .pointer (some ⟨bt, 0, none⟩), .pointer (some ⟨bx, 0, none⟩)] w (VPost w O B f k X (.tuple #[]) (vcStep (s, z))) := by
  rw [vcStep_4 s z hl]
  obtain ⟨ln, p, last, ref, mw, is, o⟩ := z
  dsimp only at hl
  subst hl
  have hpo := hz.p (by dsimp only; omega)
  have hi := hz.i0 (by dsimp only; omega)
  have hw0 := hz.w0
  have hw1 := hz.w1
  have hv := hpo.ver
  dsimp only at hpo hi hv hw0 hw1 ⊢
  subst hi
  obtain ⟨T, bo, bs, m1, m2, U, d1, d2, d3, d4, d5, d6, d7, d8⟩ := hD.ex
  dsimp only at d5 d6 d7 d8
  have HC : Calls Tryz.prog 145 (#[.pointer (some ⟨m1, 0, none⟩)] ++ #[.pointer (some ⟨B.p, 0, none⟩)] ++ #[]) w (RP (SX (k + 10) (k + 14)) w O (.bool true) fun W G => PW W G B f (awAdd p.ver 1 s) ∧ VRest k X T bo bs bx m1 m2 U p o lv (vcLeft ⟨4, p, last, ref, mw, false, o⟩) 1 W G) := by
    refine (c_MkStep p.ver [] (k + 10) hP (d6 rfl) (by simp) (by omega) hhi (by omega) (by omega) n0 n1).mono ?_
    rintro e w' ⟨rfl, G, e1, P1, M1⟩
    exact ⟨rfl, G, e1.mono fun t _ ht => SX.mono (by omega) (by omega) ht, P1, ⟨d1.ext e1 (SX.not (by omega) (by omega)), d3.ext e1 (SX.not (by omega) (by omega)), d4.ext e1 (SX.not (by omega) (by omega)), d5.ext e1 (SX.not (by omega) (by omega)), fun g => absurd g (by decide), fun g => (d7 (by omega)).ext e1 (SX.not (by omega) (by omega)), fun g => (d8 (by omega)).ext e1 (SX.not (by omega) (by omega)) (SX.not (by omega) (by omega)), hL.ext e1 (SX.not (by omega) (by omega))⟩⟩
  refine (c_Vd3_0t hx d1 d2 (d3.c 0 _ rfl) (run_enter Tryz.func145 (by kernel_rfl) (by kernel_rfl)) HC (fun W G W' G' h e => h.ext e (fun t ht => .inr ht) hk) hk).mono ?_
  rintro e w' ⟨rfl, G, e1, P1, q1, x1, t1⟩
  exact ⟨rfl, G, e1, P1, VcAt.of_drop (n := 1) x1 q1.vl rfl rfl (q1.drop t1 rfl rfl) (by rfl) (by omega)⟩
set_option maxHeartbeats 2000000 in
set_option maxRecDepth 100000 in
theorem c_V5_0 {z : Vcm} {lv : Value} {bt bx : Nat} (hP : PW w O B f s) (hx : Ob w O k X (vcCs lv (DROPV bt bx) z.ref z.is)) (hL : VLeft w O (k + 1) lv (vcLeft z)) (hD : VDrop w O k X z 1 bt bx) (hz : VcOk z) (hl : z.ln = 5) (ho : z.o.ln = 0) (hk : 10 ≤ k) (hhi : ∀ j, O j ≠ 0 → j < w.heap.size) (n0 : 0 ≤ s.n) (n1 : s.n ≤ 4611686018427387904) :
    Calls Tryz.prog 204 #[.pointer (some ⟨B.p, 0, none⟩), .pointer (some ⟨bt, 0, none⟩), .pointer (some ⟨bx, 0, none⟩)] w (VPost w O B f k X (.tuple #[]) (vcStep (s, z))) := by
  rw [vcStep_5 s z hl]
  obtain ⟨ln, p, last, ref, mw, is, o⟩ := z
  dsimp only at hl
  subst hl
  have hpo := hz.p (by dsimp only; omega)
  have hi := hz.i0 (by dsimp only; omega)
  have hw0 := hz.w0
  have hw1 := hz.w1
  have hv := hpo.ver
  dsimp only at hpo hi hv hw0 hw1 ⊢
  subst hi
  obtain ⟨T, bo, bs, m1, m2, U, d1, d2, d3, d4, d5, d6, d7, d8⟩ := hD.ex
  dsimp only at d5 d6 d7 d8
  obtain ⟨oln, ow⟩ := o
  dsimp only at ho hw0 hw1
  subst ho
  have HC : Calls Tryz.prog 202 (#[] ++ #[.pointer (some ⟨B.p, 0, none⟩)] ++ #[.pointer (some ⟨bo, 0, none⟩), .pointer (some ⟨bx, 0, none⟩), .pointer (some ⟨bs, 0, none⟩)]) w (RP (SX (k + 10) (k + 14)) w O (.bool false) fun W G => PW W G B f ((outStep p s ⟨0, ow⟩).1) ∧ VRest k X T bo bs bx m1 m2 U p (outStep p s ⟨0, ow⟩).2 lv (vcLeft ⟨5, p, last, ref, mw, false, ⟨0, ow⟩⟩) 1 W G) := by
    refine (c_Vd1_0 (ref := ref) (lv := lv) (dv := DROPV bt bx) (is := false) hP hx d1 d4 d5 (d7 (by omega)) hpo hw0 hw1 hk hhi n0 n1).mono ?_
    rintro e w' ⟨rfl, G, e1, P1, u1⟩
    exact ⟨rfl, G, e1.mono fun t _ ht => SX.mono (by omega) (by omega) ht, P1, ⟨d1.ext e1 (SX.not (by omega) (by omega)), d3.ext e1 (SX.not (by omega) (by omega)), d4.ext e1 (SX.not (by omega) (by omega)), d5.ext e1 (SX.not (by omega) (by omega)), fun g => absurd g (by decide), fun g => u1, fun g => (d8 (by omega)).ext e1 (SX.not (by omega) (by omega)) (SX.not (by omega) (by omega)), hL.ext e1 (SX.not (by omega) (by omega))⟩⟩
  refine (c_Vd3_1f hx d1 d2 (d3.c 1 _ rfl) (run_enter Tryz.func202 (by kernel_rfl) (by kernel_rfl)) HC (fun W G W' G' h e => h.ext e (fun t ht => .inr ht) hk) hk).mono ?_
  rintro e w' ⟨rfl, G, e1, P1, q1, x1, t1⟩
  exact ⟨rfl, G, e1, P1, VcAt.of_drop (n := 1) x1 q1.vl rfl rfl (q1.drop t1 rfl rfl) (by rfl) (by omega)⟩
set_option maxHeartbeats 2000000 in
set_option maxRecDepth 100000 in
theorem c_V5_1 {z : Vcm} {lv : Value} {bt bx : Nat} (hP : PW w O B f s) (hx : Ob w O k X (vcCs lv (DROPV bt bx) z.ref z.is)) (hL : VLeft w O (k + 1) lv (vcLeft z)) (hD : VDrop w O k X z 1 bt bx) (hz : VcOk z) (hl : z.ln = 5) (ho : z.o.ln = 1) (hk : 10 ≤ k) (hhi : ∀ j, O j ≠ 0 → j < w.heap.size) (n0 : 0 ≤ s.n) (n1 : s.n ≤ 4611686018427387904) :
    Calls Tryz.prog 204 #[.pointer (some ⟨B.p, 0, none⟩), .pointer (some ⟨bt, 0, none⟩), .pointer (some ⟨bx, 0, none⟩)] w (VPost w O B f k X (.tuple #[]) (vcStep (s, z))) := by
  rw [vcStep_5 s z hl]
  obtain ⟨ln, p, last, ref, mw, is, o⟩ := z
  dsimp only at hl
  subst hl
  have hpo := hz.p (by dsimp only; omega)
  have hi := hz.i0 (by dsimp only; omega)
  have hw0 := hz.w0
  have hw1 := hz.w1
  have hv := hpo.ver
  dsimp only at hpo hi hv hw0 hw1 ⊢
  subst hi
  obtain ⟨T, bo, bs, m1, m2, U, d1, d2, d3, d4, d5, d6, d7, d8⟩ := hD.ex
  dsimp only at d5 d6 d7 d8
  obtain ⟨oln, ow⟩ := o
  dsimp only at ho hw0 hw1
  subst ho
  have HC : Calls Tryz.prog 202 (#[] ++ #[.pointer (some ⟨B.p, 0, none⟩)] ++ #[.pointer (some ⟨bo, 0, none⟩), .pointer (some ⟨bx, 0, none⟩), .pointer (some ⟨bs, 0, none⟩)]) w (RP (SX (k + 10) (k + 14)) w O (.bool false) fun W G => PW W G B f (awNote 1 ref p.b p.q p.s 0 (outStep p s ⟨1, ow⟩).1) ∧ VRest k X T bo bs bx m1 m2 U p (outStep p s ⟨1, ow⟩).2 lv (vcLeft ⟨5, p, last, ref, mw, false, ⟨1, ow⟩⟩) 1 W G) := by
    refine (c_Vd1_1 (ref := ref) (lv := lv) (dv := DROPV bt bx) (is := false) hP hx d1 d4 d5 (d7 (by omega)) hpo hw0 hw1 hk hhi n0 n1).mono ?_
    rintro e w' ⟨rfl, G, e1, P1, u1⟩
    exact ⟨rfl, G, e1.mono fun t _ ht => SX.mono (by omega) (by omega) ht, P1, ⟨d1.ext e1 (SX.not (by omega) (by omega)), d3.ext e1 (SX.not (by omega) (by omega)), d4.ext e1 (SX.not (by omega) (by omega)), d5.ext e1 (SX.not (by omega) (by omega)), fun g => absurd g (by decide), fun g => u1, fun g => (d8 (by omega)).ext e1 (SX.not (by omega) (by omega)) (SX.not (by omega) (by omega)), hL.ext e1 (SX.not (by omega) (by omega))⟩⟩
  refine (c_Vd3_1f hx d1 d2 (d3.c 1 _ rfl) (run_enter Tryz.func202 (by kernel_rfl) (by kernel_rfl)) HC (fun W G W' G' h e => h.ext e (fun t ht => .inr ht) hk) hk).mono ?_
  rintro e w' ⟨rfl, G, e1, P1, q1, x1, t1⟩
  exact ⟨rfl, G, e1, P1, VcAt.of_drop (n := 1) x1 q1.vl rfl rfl (q1.drop t1 rfl rfl) (by rfl) (by omega)⟩
set_option maxHeartbeats 2000000 in
set_option maxRecDepth 100000 in
theorem c_V5_2 {z : Vcm} {lv : Value} {bt bx : Nat} (hP : PW w O B f s) (hx : Ob w O k X (vcCs lv (DROPV bt bx) z.ref z.is)) (hL : VLeft w O (k + 1) lv (vcLeft z)) (hD : VDrop w O k X z 1 bt bx) (hz : VcOk z) (hl : z.ln = 5) (ho : z.o.ln = 2) (hk : 10 ≤ k) (hhi : ∀ j, O j ≠ 0 → j < w.heap.size) (n0 : 0 ≤ s.n) (n1 : s.n ≤ 4611686018427387904) :
    Calls Tryz.prog 204 #[.pointer (some ⟨B.p, 0, none⟩), .pointer (some ⟨bt, 0, none⟩), .pointer (some ⟨bx, 0, none⟩)] w (VPost w O B f k X (.tuple #[]) (vcStep (s, z))) := by
  rw [vcStep_5 s z hl]
  obtain ⟨ln, p, last, ref, mw, is, o⟩ := z
  dsimp only at hl
  subst hl
  have hpo := hz.p (by dsimp only; omega)
  have hi := hz.i0 (by dsimp only; omega)
  have hw0 := hz.w0
  have hw1 := hz.w1
  have hv := hpo.ver
  dsimp only at hpo hi hv hw0 hw1 ⊢
  subst hi
  obtain ⟨T, bo, bs, m1, m2, U, d1, d2, d3, d4, d5, d6, d7, d8⟩ := hD.ex
  dsimp only at d5 d6 d7 d8
  obtain ⟨oln, ow⟩ := o
  dsimp only at ho hw0 hw1
  subst ho
  have HC : Calls Tryz.prog 202 (#[] ++ #[.pointer (some ⟨B.p, 0, none⟩)] ++ #[.pointer (some ⟨bo, 0, none⟩), .pointer (some ⟨bx, 0, none⟩), .pointer (some ⟨bs, 0, none⟩)]) w (RP (SX (k + 10) (k + 14)) w O (.bool true) fun W G => PW W G B f ((outStep p s ⟨2, ow⟩).1) ∧ VRest k X T bo bs bx m1 m2 U p (outStep p s ⟨2, ow⟩).2 lv (vcLeft ⟨5, p, last, ref, mw, false, ⟨2, ow⟩⟩) 2 W G) := by
    refine (c_Vd1_2 (ref := ref) (lv := lv) (dv := DROPV bt bx) (is := false) hP hx d1 d4 d5 (d7 (by omega)) hpo hw0 hw1 hk hhi n0 n1).mono ?_
    rintro e w' ⟨rfl, G, e1, P1, u1⟩
    exact ⟨rfl, G, e1.mono fun t _ ht => SX.mono (by omega) (by omega) ht, P1, ⟨d1.ext e1 (SX.not (by omega) (by omega)), d3.ext e1 (SX.not (by omega) (by omega)), d4.ext e1 (SX.not (by omega) (by omega)), d5.ext e1 (SX.not (by omega) (by omega)), fun g => absurd g (by decide), fun g => u1, fun g => (d8 (by omega)).ext e1 (SX.not (by omega) (by omega)) (SX.not (by omega) (by omega)), hL.ext e1 (SX.not (by omega) (by omega))⟩⟩
  refine (c_Vd3_1t hx d1 d2 (d3.c 1 _ rfl) (run_enter Tryz.func202 (by kernel_rfl) (by kernel_rfl)) HC (fun W G W' G' h e => h.ext e (fun t ht => .inr ht) hk) hk).mono ?_
  rintro e w' ⟨rfl, G, e1, P1, q1, x1, t1⟩
  exact ⟨rfl, G, e1, P1, VcAt.of_drop (n := 2) x1 q1.vl rfl rfl (q1.drop t1 rfl rfl) (by rfl) (by omega)⟩
set_option maxHeartbeats 2000000 in
set_option maxRecDepth 100000 in
theorem c_V6 {z : Vcm} {lv : Value} {bt bx : Nat} (hP : PW w O B f s) (hx : Ob w O k X (vcCs lv (DROPV bt bx) z.ref z.is)) (hL : VLeft w O (k + 1) lv (vcLeft z)) (hD : VDrop w O k X z 2 bt bx) (hz : VcOk z) (hl : z.ln = 6) (hk : 10 ≤ k) (hhi : ∀ j, O j ≠ 0 → j < w.heap.size) (n0 : 0 ≤ s.n) (n1 : s.n ≤ 4611686018427387904) :
    Calls Tryz.prog 204 #[.pointer (some ⟨B.p, 0, none⟩), .pointer (some ⟨bt, 0, none⟩), .pointer (some ⟨bx, 0, none⟩)] w (VPost w O B f k X (.tuple #[]) (vcStep (s, z))) := by
  rw [vcStep_6 s z hl]
  obtain ⟨ln, p, last, ref, mw, is, o⟩ := z
  dsimp only at hl
  subst hl
  have hpo := hz.p (by dsimp only; omega)
  have hi := hz.i0 (by dsimp only; omega)
  have hw0 := hz.w0
  have hw1 := hz.w1
  have hv := hpo.ver
  dsimp only at hpo hi hv hw0 hw1 ⊢
  subst hi
  obtain ⟨T, bo, bs, m1, m2, U, d1, d2, d3, d4, d5, d6, d7, d8⟩ := hD.ex
  dsimp only at d5 d6 d7 d8
  have HC : Calls Tryz.prog 145 (#[.pointer (some ⟨m2, 0, none⟩)] ++ #[.pointer (some ⟨B.p, 0, none⟩)] ++ #[]) w (RP (SX (k + 10) (k + 14)) w O (.bool true) fun W G => PW W G B f (awAdd p.ver 1 s) ∧ VRest k X T bo bs bx m1 m2 U p o lv (vcLeft ⟨6, p, last, ref, mw, false, o⟩) 3 W G) := by
    refine (c_MkStep p.ver [] (k + 13) hP (d8 (by omega)) (by simp) (by omega) hhi (by omega) (by omega) n0 n1).mono ?_
    rintro e w' ⟨rfl, G, e1, P1, M1⟩
    exact ⟨rfl, G, e1.mono fun t _ ht => SX.mono (by omega) (by omega) ht, P1, ⟨d1.ext e1 (SX.not (by omega) (by omega)), d3.ext e1 (SX.not (by omega) (by omega)), d4.ext e1 (SX.not (by omega) (by omega)), d5.ext e1 (SX.not (by omega) (by omega)), fun g => absurd g (by decide), fun g => absurd g (by decide), fun g => absurd g (by decide), hL.ext e1 (SX.not (by omega) (by omega))⟩⟩
  refine (c_Vd3_2t hx d1 d2 (d3.c 2 _ rfl) (run_enter Tryz.func145 (by kernel_rfl) (by kernel_rfl)) HC (fun W G W' G' h e => h.ext e (fun t ht => .inr ht) hk) hk).mono ?_
  rintro e w' ⟨rfl, G, e1, P1, q1, x1, t1⟩
  exact ⟨rfl, G, e1, P1, VcAt.of_drop (n := 3) x1 q1.vl rfl rfl (q1.drop t1 rfl rfl) (by rfl) (by omega)⟩
set_option maxHeartbeats 2000000 in
set_option maxRecDepth 100000 in
theorem c_V7 {z : Vcm} {lv : Value} {bt bx : Nat} (hP : PW w O B f s) (hx : Ob w O k X (vcCs lv (DROPV bt bx) z.ref z.is)) (hL : VLeft w O (k + 1) lv (vcLeft z)) (hD : VDrop w O k X z 3 bt bx) (hz : VcOk z) (hl : z.ln = 7) (hk : 10 ≤ k) (hhi : ∀ j, O j ≠ 0 → j < w.heap.size) (n0 : 0 ≤ s.n) (n1 : s.n ≤ 4611686018427387904) :
    Calls Tryz.prog 204 #[.pointer (some ⟨B.p, 0, none⟩), .pointer (some ⟨bt, 0, none⟩), .pointer (some ⟨bx, 0, none⟩)] w (VPost w O B f k X (.tuple #[]) (vcStep (s, z))) := by
  rw [vcStep_7 s z hl]
  obtain ⟨ln, p, last, ref, mw, is, o⟩ := z
  dsimp only at hl
  subst hl
  have hpo := hz.p (by dsimp only; omega)
  have hi := hz.i0 (by dsimp only; omega)
  have hw0 := hz.w0
  have hw1 := hz.w1
  have hv := hpo.ver
  dsimp only at hpo hi hv hw0 hw1 ⊢
  subst hi
  obtain ⟨T, bo, bs, m1, m2, U, d1, d2, d3, d4, d5, d6, d7, d8⟩ := hD.ex
  dsimp only at d5 d6 d7 d8
  have HC : Calls Tryz.prog 203 (#[] ++ #[.pointer (some ⟨B.p, 0, none⟩)] ++ #[]) w (RP (SX (k + 10) (k + 14)) w O (.bool true) fun W G => PW W G B f (awAdd 6 18446744073709551615 s) ∧ VLeft W G (k + 1) lv (vcLeft ⟨7, p, last, ref, mw, false, o⟩)) := by
    refine (c_Vd2 hP hhi n0 n1).mono ?_
    rintro e w' ⟨rfl, G, e1, P1⟩
    exact ⟨rfl, G, e1.mono fun t _ ht => SX.of_sw ht, P1, hL.ext e1 (by unfold SW; omega)⟩
  refine (c_Vd3_3t hx d1 d2 (d3.c 3 _ rfl) (run_enter Tryz.func203 (by kernel_rfl) (by kernel_rfl)) HC (fun W G W' G' h e => h.ext e (by omega)) hk).mono ?_
  rintro e w' ⟨rfl, G, e1, P1, q1, x1⟩
  obtain ⟨ls, hls, -⟩ := vcLeft_cons (z := ⟨7, p, last, ref, mw, false, o⟩) hpo
  rw [hls] at q1
  exact ⟨rfl, G, e1, P1, lv, .nilFunc, x1, fun h => absurd rfl h, fun _ => ⟨ls, q1⟩, ⟨fun _ => rfl, fun g => absurd g (by dsimp only; decide), fun g => absurd g (by dsimp only; decide), fun g => absurd g (by dsimp only; decide), fun g => absurd g (by dsimp only; decide)⟩⟩
/-- Is it over? -/
theorem VDo.some {W : World} {G : Om} {z : Vcm} {dv : Value} (h : VDo W G k X z dv) (l0 : 0 ≤ z.ln) (l1 : z.ln ≤ 7) : (dv = .nilFunc ∧ vcOver z = true) ∨ (∃ f a c, dv = .func f a c ∧ vcOver z = false) := by
  obtain ⟨h0, h1, h2, h3, h4⟩ := h
  have hc : z.ln = 0 ∨ z.ln = 1 ∨ z.ln = 2 ∨ z.ln = 3 ∨ (4 ≤ z.ln ∧ z.ln ≤ 7) := by omega
  unfold vcOver
  rcases hc with g | g | g | g | g
  · exact .inl ⟨h0 g, by simp [g]⟩
  · obtain ⟨_, _, e, -⟩ := h1 g; exact .inr ⟨_, _, _, e, by simp [g]⟩
  · obtain ⟨_, _, e, -⟩ := h2 g; exact .inr ⟨_, _, _, e, by simp [g]⟩
  · obtain ⟨_, _, e, -⟩ := h3 g; exact .inr ⟨_, _, _, e, by simp [g]⟩
  · obtain ⟨_, _, e, -⟩ := h4 g; exact .inr ⟨_, _, _, e, by rw [beq_eq_false_iff_ne]; omega⟩
theorem c_VcOver {z : Vcm} (hX : VcAt w O k X z) (hz : VcOk z) : Calls Tryz.prog 47 #[.pointer (some ⟨X, 0, none⟩)] w fun e w' => e = .returned (.bool (vcOver z)) ∧ w = w' := by
  obtain ⟨lv, dv, hx, -, -, hd⟩ := hX.ex
  exact c_VOver X dv w (hx.c 1 _ rfl) _ (hd.some hz.l0 hz.l1)
set_option maxHeartbeats 1000000 in
set_option maxRecDepth 100000 in
theorem c_VcStep {z : Vcm} (hP : PW w O B f s) (hX : VcAt w O k X z) (hz : VcOk z) (hk : 10 ≤ k) (hhi : ∀ j, O j ≠ 0 → j < w.heap.size) (n0 : 0 ≤ s.n) (n1 : s.n ≤ 4611686018427387904) :
    Calls Tryz.prog 68 #[.pointer (some ⟨X, 0, none⟩), .pointer (some ⟨B.p, 0, none⟩)] w (VPost w O B f k X (.bool (vcOver (vcStep (s, z)).2)) (vcStep (s, z))) := by
  have hok := vcStep_ok (s := s) hP.bd hz
  have l0 := hz.l0
  have l1 := hz.l1
  have HO := c_VcOver hX hz
  obtain ⟨lv, dv, hx, hL, hI, hd⟩ := hX.ex
  have x1 : w.cell? ⟨X, 1, none⟩ = some dv := hx.c 1 _ rfl
  by_cases e0 : z.ln = 0
  · rw [vcStep_0 s z e0]
    have ho : vcOver z = true := by unfold vcOver; simp [e0]
    rw [ho] at HO ⊢
    have HOO := Lib.hid HO
    have HH := Lib.hid (And.intro hP (And.intro hX hhi))
    clear hP hX hx hL hI hd hhi hok hz HO x1
    unfold VPost
    go_enter Tryz.func68, Tryz.ntmps68
    go_wp2_with fail
    refine HOO.out.mono ?_
    rintro e w' ⟨rfl, rfl⟩
    go_wp2_with fail
    refine HOO.out.mono ?_
    rintro e w' ⟨rfl, rfl⟩
    go_wp2_with fail
    go_ret
    exact ⟨rfl, O, Ext.refl HH.out.2.2, HH.out.1, HH.out.2.1⟩
  have ho : vcOver z = false := by unfold vcOver; rw [beq_eq_false_iff_ne]; exact e0
  rw [ho] at HO
  obtain ⟨y, hy⟩ : ∃ y, y = vcStep (s, z) := ⟨_, rfl⟩
  have hcall : ∃ K caps, dv = .func (.func K) #[] caps ∧ (∀ args W, (callFunc K args).run Tryz.prog W = .ok (.enter K args) W) ∧ Calls Tryz.prog K (#[.pointer (some ⟨B.p, 0, none⟩)] ++ caps) w (VPost w O B f k X (.tuple #[]) y) := by
    rw [hy]
    have hc : z.ln = 1 ∨ z.ln = 2 ∨ z.ln = 3 ∨ z.ln = 4 ∨ z.ln = 5 ∨ z.ln = 6 ∨ z.ln = 7 := by omega
    have hL := hL e0
    obtain ⟨d0, d1, d2, d3, d4⟩ := hd
    rcases hc with g | g | g | g | g | g | g
    · obtain ⟨bs, bx, rfl, a, b⟩ := d1 g
      exact ⟨_, _, rfl, run_enter Tryz.func162 (by kernel_rfl) (by kernel_rfl), c_V1 hP hx hL a b hz g hk hhi n0 n1⟩
    · obtain ⟨bs, bx, rfl, a, b⟩ := d2 g
      exact ⟨_, _, rfl, run_enter Tryz.func163 (by kernel_rfl) (by kernel_rfl), c_V2 hP hx hL a b hz g hk hhi n0 n1⟩
    · obtain ⟨bx, bv, rfl, a, b⟩ := d3 g
      exact ⟨_, _, rfl, run_enter Tryz.func165 (by kernel_rfl) (by kernel_rfl), c_V3 hP hx hL a b hz g hk hhi n0 n1⟩
    all_goals
      obtain ⟨bt, bx, rfl, a⟩ := d4 (by omega)
      rw [g] at a
    · exact ⟨_, _, rfl, run_enter Tryz.func204 (by kernel_rfl) (by kernel_rfl), c_V4 hP hx hL a hz g hk hhi n0 n1⟩
    · have ho := hz.o8 (.inr g)
      have ho3 : z.o.ln = 0 ∨ z.o.ln = 1 ∨ z.o.ln = 2 := by omega
      rcases ho3 with q | q | q
      · exact ⟨_, _, rfl, run_enter Tryz.func204 (by kernel_rfl) (by kernel_rfl), c_V5_0 hP hx hL a hz g q hk hhi n0 n1⟩
      · exact ⟨_, _, rfl, run_enter Tryz.func204 (by kernel_rfl) (by kernel_rfl), c_V5_1 hP hx hL a hz g q hk hhi n0 n1⟩
      · exact ⟨_, _, rfl, run_enter Tryz.func204 (by kernel_rfl) (by kernel_rfl), c_V5_2 hP hx hL a hz g q hk hhi n0 n1⟩
    · exact ⟨_, _, rfl, run_enter Tryz.func204 (by kernel_rfl) (by kernel_rfl), c_V6 hP hx hL a hz g hk hhi n0 n1⟩
    · exact ⟨_, _, rfl, run_enter Tryz.func204 (by kernel_rfl) (by kernel_rfl), c_V7 hP hx hL a hz g hk hhi n0 n1⟩
  rw [← hy] at hok ⊢
  obtain ⟨K, caps, rfl, hK, HC⟩ := hcall
  have HCC := Lib.hid HC
  have Hok := Lib.hid hok
  have HOO := Lib.hid HO
  clear hP hX hx hL hI hd hhi hok hz HO HC hy
  unfold VPost at HCC ⊢
  go_enter Tryz.func68, Tryz.ntmps68
  go_wp2_with fail
  refine HOO.out.mono ?_
  rintro e w' ⟨rfl, rfl⟩
  go_wp2_with fail
  refine HCC.out.mono ?_
  rintro e w1 ⟨rfl, O1, E1, P1, X1⟩
  have HE := Lib.hid (And.intro E1 (And.intro P1 X1))
  clear E1 P1 X1 x1 HCC HOO
  go_wp2_with fail
  refine (c_VcOver HE.out.2.2 Hok.out).mono ?_
  rintro e w' ⟨rfl, rfl⟩
  go_wp2_with fail
  go_ret
  exact ⟨rfl, O1, HE.out⟩
end
end
end Go.Proofs.YtlcibfpibklbdaaGreat
