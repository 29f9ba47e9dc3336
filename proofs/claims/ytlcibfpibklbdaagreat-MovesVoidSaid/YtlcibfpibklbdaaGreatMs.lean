/- Layer 20: parts of the program's Move: are they over, a step of an act, the tags of a bucket. -/
import Derived.Test.YtlcibfpibklbdaaGreatMn
namespace Go.Proofs.YtlcibfpibklbdaaGreat
set_option linter.unusedSimpArgs false
open Go.RowKit Go.Shelf
set_option linter.unusedVariables false

theorem infoPart : (Tryz.prog.info? 220).map (fun i => (i.zero, i.size, i.bytes)) = some (some .nilIface, 1, 16) := by kernel_rfl
section
variable {X : Nat} {w : World} {O : Om} {B : Wb} {f : Cf} {s : AW} {k : Nat}
theorem c_ActOver {d : Nat} {b : Bool} (h : w.cell? ⟨d, 1, none⟩ = some (.bool b)) : Calls Tryz.prog 324 #[.pointer (some ⟨d, 0, none⟩)] w fun e w' => e = .returned (.bool b) ∧ w = w' := by
  go_enter Tryz.func324, Tryz.ntmps324
  go_wp2
  go_ret
  exact ⟨rfl, rfl⟩
theorem m_ActOver (a : Addr) (w : World) : (method 519 217 (.pointer (some a)) "Over").run Tryz.prog w = .ok (324, .pointer (some a)) w := by kernel_rfl
theorem m_ActStep (a : Addr) (w : World) : (method 519 217 (.pointer (some a)) "Step").run Tryz.prog w = .ok (325, .pointer (some a)) w := by kernel_rfl
theorem m_SeOver (a : Addr) (w : World) : (method 519 318 (.pointer (some a)) "Over").run Tryz.prog w = .ok (329, .pointer (some a)) w := by kernel_rfl
theorem m_SeStep (a : Addr) (w : World) : (method 519 318 (.pointer (some a)) "Step").run Tryz.prog w = .ok (330, .pointer (some a)) w := by kernel_rfl
theorem m_MkOver (a : Addr) (w : World) : (method 519 130 (.pointer (some a)) "Over").run Tryz.prog w = .ok (191, .pointer (some a)) w := by kernel_rfl
theorem m_MkStep (a : Addr) (w : World) : (method 519 130 (.pointer (some a)) "Step").run Tryz.prog w = .ok (145, .pointer (some a)) w := by kernel_rfl
theorem m_OuOver (a : Addr) (w : World) : (method 519 78 (.pointer (some a)) "Over").run Tryz.prog w = .ok (192, .pointer (some a)) w := by kernel_rfl
theorem m_OuStep (a : Addr) (w : World) : (method 519 78 (.pointer (some a)) "Step").run Tryz.prog w = .ok (147, .pointer (some a)) w := by kernel_rfl
theorem POver.act {d g : Nat} {dv : Value} {b : Bool} (h : Ob w O g d [dv, .bool b]) (hg : g ≠ k) : POver w O k (IAct d) b :=
  ⟨_, _, _, _, rfl, m_ActOver _, run_enter Tryz.func324 (by kernel_rfl) (by kernel_rfl), fun W hW => (c_ActOver ((h.ext hW hg).c 1 _ rfl)).mono fun e w' hp => ⟨hp.1, by rw [← hp.2]; exact Below.refl _ _⟩⟩
theorem POver.mark {m g : Nat} {l : List Int} (h : MkAt w O g m l) (hg : g ≠ k ∧ g + 1 ≠ k) : POver w O k (IMark m) (l.length == 0) := by
  refine ⟨_, _, _, _, rfl, m_MkOver _, run_enter Tryz.func191 (by kernel_rfl) (by kernel_rfl), fun W hW => ?_⟩
  obtain ⟨A, off, hc⟩ := (h.ext hW hg.1 hg.2).cell
  exact (c_MkOver hc).mono fun e w' hp => ⟨hp.1, by rw [← hp.2]; exact Below.refl _ _⟩
theorem POver.out {u g : Nat} {p : Spt} {o : Otm} (h : OutAt w O g u p o) (hp : p.ok) (ho : o.ln ≤ 3) (hg : g ≠ k) : POver w O k (IOut u) (o.ln == 3) := by
  refine ⟨_, _, _, _, rfl, m_OuOver _, run_enter Tryz.func192 (by kernel_rfl) (by kernel_rfl), fun W hW => ?_⟩
  have h2 := h.ext hW hg
  have ht := hp.tags
  exact c_OutOver p.tags o.ln (h2.ob.c 0 _ rfl) (h2.ob.c 4 _ rfl) (by omega) ho
set_option maxRecDepth 100000 in
theorem c_PutOver0 {U : Nat} (h0 : w.cell? ⟨U, 0, none⟩ = some (.int .u64 0)) : Calls Tryz.prog 318 #[.pointer (some ⟨U, 0, none⟩)] w fun e w' => e = .returned (.bool true) ∧ Below w.heap.size w w' := by
  have hU := blk_lt h0
  dsimp only at hU
  go_enter Tryz.func318, Tryz.ntmps318
  go_wp2_with fail
  refine wp_region_via (by kernel_rfl) (by kernel_rfl) ?_
  repeat (go_big_quiet_step ((first
    | (go_at_call 320; exact viaB (c_puts _)))))
  refine wpQuiet_nil ?_
  rintro _ ⟨e, rfl⟩
  go_wp2_with fail
  go_ret
  exact ⟨rfl, via_below _ _⟩
theorem POver.put {u g : Nat} {p : Spt} {tg rf : Int} {o : Otm} (h : PvAt w O g u p tg rf o) (hp : p.ok) (ho : o.ln ≤ 3) (hg : g ≠ k) (hv : ¬ (1 ≤ tg ∧ tg ≤ 255 ∧ 1 ≤ rf) → o.ln = 3) : POver w O k (IPut u) (o.ln == 3) := by
  refine ⟨_, _, _, _, rfl, m_PuOver _, run_enter Tryz.func318 (by kernel_rfl) (by kernel_rfl), fun W hW => ?_⟩
  have h2 := h.ext hW hg
  have ht := hp.tags
  by_cases c : 1 ≤ tg ∧ tg ≤ 255 ∧ 1 ≤ rf
  · exact c_PutOver p.tags o.ln ((h2.1 c).ob.c 0 _ rfl) ((h2.1 c).ob.c 4 _ rfl) (by omega) ho
  · rw [hv c]
    exact c_PutOver0 ((h2.2 c).c 0 _ rfl)
theorem c_SeOver {d R : Nat} {z : Rmm} {O : Om} {kr : Nat} (h : w.cell? ⟨d, 1, none⟩ = some (.pointer (some ⟨R, 0, none⟩))) (hr : RoomAt w O kr R z) : Calls Tryz.prog 329 #[.pointer (some ⟨d, 0, none⟩)] w fun e w' => e = .returned (.bool (z.ln == 0)) ∧ w = w' := by
  have HR := Lib.hid (c_RmOver' hr)
  clear hr
  obtain ⟨b, hb⟩ : ∃ b, b = (z.ln == 0) := ⟨_, rfl⟩
  rw [← hb] at HR ⊢
  clear hb
  go_enter Tryz.func329, Tryz.ntmps329
  go_wp2_with fail
  refine HR.out.mono ?_
  rintro e w' ⟨rfl, rfl⟩
  go_wp2_with fail
  go_ret
  exact ⟨rfl, rfl⟩
theorem POver.search {d R g kr : Nat} {x : Value} {z : Rmm} (h : Ob w O g d [x, .pointer (some ⟨R, 0, none⟩)]) (hr : RoomAt w O kr R z) (hg : g ≠ k) (hk : k < kr) : POver w O k (ISearch d) (z.ln == 0) := by
  refine ⟨_, _, _, _, rfl, m_SeOver _, run_enter Tryz.func329 (by kernel_rfl) (by kernel_rfl), fun W hW => ?_⟩
  exact (c_SeOver ((h.ext hW hg).c 1 _ rfl) (hr.ext hW fun t q1 q2 => by omega)).mono fun e w' hp => ⟨hp.1, by rw [← hp.2]; exact Below.refl _ _⟩
set_option maxHeartbeats 2000000 in
set_option maxRecDepth 100000 in
/-- A step of an act. -/
theorem c_ActStep {d g K p : Nat} {bound : Array Value} {Q : World → Prop} (hd : Ob w O g d [.func (.func K) bound #[], .bool false]) (hK : ∀ args W, (callFunc K args).run Tryz.prog W = .ok (.enter K args) W)
    (HC : Calls Tryz.prog K (bound ++ #[.pointer (some ⟨p, 0, none⟩)] ++ #[]) (w.setCell ⟨d, 1, none⟩ (.bool true)) fun e w' => e = .returned (.tuple #[]) ∧ Q w') :
    Calls Tryz.prog 325 #[.pointer (some ⟨d, 0, none⟩), .pointer (some ⟨p, 0, none⟩)] w fun e w' => e = .returned (.bool true) ∧ Q w' := by
  have x0 := hd.c 0 _ rfl
  have x1 := hd.c 1 _ rfl
  have f1 := hd.f 1
  have HCC := Lib.hid HC
  clear hd HC
  go_enter Tryz.func325, Tryz.ntmps325
  go_wp2_with fail
  refine HCC.out.mono ?_
  rintro e w' ⟨rfl, hq⟩
  have HQ := Lib.hid hq
  clear hq x0 x1 f1
  go_wp2_with fail
  go_ret
  exact ⟨rfl, HQ.out⟩
set_option maxHeartbeats 4000000 in
set_option maxRecDepth 100000 in
/-- The tags of the bucket; the slot is empty. -/
theorem c_MvTags {now tag ref lost : Int} {p : Spt} {lv : Value} {d : Nat} {ds : List Value} (hP : PW w O B f s) (hx : Ob w O k X (mvCs now p lv tag ref lost)) (hS : Sls w O (k + 1) 1 lv 1 [IAct d]) (hd : Ob w O (k + 2) d ds) (hp : p.ok) (hk : 10 ≤ k) (hhi : ∀ j, O j ≠ 0 → j < w.heap.size) (n0 : 0 ≤ s.n) (n1 : s.n ≤ 4611686018427387904) :
    Calls Tryz.prog 107 #[.pointer (some ⟨X, 0, none⟩), .pointer (some ⟨B.p, 0, none⟩)] w fun e w' => e = .returned (.tuple #[]) ∧ ∃ G, Ext (SX k (k + 2)) O w G w' ∧ PW w' G B f (awLoad p.tags s) ∧ Ob w' G (k + 2) d ds ∧ ∃ lv', Ob w' G k X (mvCs now p lv' (twTag (s.M p.tags) p.s) ref lost) ∧
      (twTag (s.M p.tags) p.s = 0 → Sls w' G (k + 1) 1 lv' 1 [IAct d]) ∧ (twTag (s.M p.tags) p.s ≠ 0 → ∃ d', Sls w' G (k + 1) 1 lv' 2 [IAct d, IAct d'] ∧ Ob w' G (k + 2) d' [ITEMM X, .bool false]) := by
  have HM : Hid (Me k (k + 2) w O w O B f s k X (mvCs now p lv tag ref lost)) := Lib.hid (Me.start hhi hP hx)
  have HS := Lib.hid (And.intro hS hd)
  have p0 := hP.wo.c0
  have x1 := hx.c 1 _ rfl
  have x2 := hx.c 2 _ rfl
  have x3 := hx.c 3 _ rfl
  have htg := hp.tags
  have hq2 := hp.q2
  have hs0 := hp.s0
  have hs1 := hp.s1
  have HT := Lib.hid (fun W => c_Tags p.b p.q W (by have := hp.b0; omega) (by have := hp.b1; omega) (by have := hp.q0; omega) (by omega))
  have hta2 : plTags p.b p.q = p.tags := rfl
  rw [hta2] at HT
  have hbt := hP.bd p.tags
  have HTG := Lib.hid (fun W => c_TwTag (s.M p.tags) p.s W hbt.1 hbt.2 hs0 hs1)
  have hta : 0 ≤ p.tags ∧ p.tags < 18446744073709551616 := by omega
  obtain ⟨ta, hta3⟩ : ∃ ta, ta = p.tags := ⟨_, rfl⟩
  rw [← hta3] at HT HTG hta ⊢
  obtain ⟨tg, htg2⟩ : ∃ x, x = twTag (s.M ta) p.s := ⟨_, rfl⟩
  rw [← htg2] at HTG ⊢
  obtain ⟨pb, hpb⟩ : ∃ z, z = p.b := ⟨_, rfl⟩
  obtain ⟨pq, hpq⟩ : ∃ z, z = p.q := ⟨_, rfl⟩
  obtain ⟨ps, hps⟩ : ∃ z, z = p.s := ⟨_, rfl⟩
  rw [← hpb] at x1 HT
  rw [← hpq] at x2 HT
  rw [← hps] at x3 HTG
  have HPP := Lib.hid (And.intro hpb (And.intro hpq hps))
  have HTA := Lib.hid hta
  have hXB : ¬ B.p = X := hP.ne_obj hx hk
  clear hP hx hS hd hhi hp htg hq2 hs0 hs1 hbt hta hta2 hta3 htg2 hpb hpq hps
  have cut : ∀ w5 G5, Me k (k + 2) w O w5 G5 B f (awLoad ta s) k X (mvCs now p lv tg ref lost) → Sls w5 G5 (k + 1) 1 lv 1 [IAct d] → Ob w5 G5 (k + 2) d ds → True := fun _ _ _ _ _ => trivial
  clear cut
  obtain ⟨i0, hi, hz0, hz1, hz2⟩ := info_parts infoPart
  have HI := Lib.hid (And.intro hi (And.intro hz0 (And.intro hz1 hz2)))
  clear hi hz0 hz1 hz2
  go_enter Tryz.func107, Tryz.ntmps107
  go_wp2_with fail
  go_region_held3 (fun w' => w'.cell? ⟨B.p, 0, none⟩ = some (.pointer (some ⟨B.c, 0, none⟩)) ∧ w'.cell? ⟨X, 1, none⟩ = some (.int .i64 pb) ∧ w'.cell? ⟨X, 2, none⟩ = some (.int .i64 pq) ∧ w'.cell? ⟨X, 3, none⟩ = some (.int .i64 ps)) (go_keep)
    ((first
      | (go_at_call 75
         refine (HT.out _).mono ?_
         rintro e w1 ⟨rfl, hb1⟩
         have M1 := Lib.hid (HM.out.drew.below hb1)
         have S1 := Lib.hid (And.intro ((HS.out.1.below (drew_below _)).below hb1) ((HS.out.2.below (drew_below _)).below hb1))
         have p01 := M1.out.p.wo.c0
         have x11 := M1.out.t.c 1 _ rfl
         have x21 := M1.out.t.c 2 _ rfl
         have x31 := M1.out.t.c 3 _ rfl
         rw [← HPP.out.1] at x11
         rw [← HPP.out.2.1] at x21
         rw [← HPP.out.2.2] at x31
         clear hb1)
      | (go_at_call 81
         refine (c_LoadP ta M1.out.p M1.out.e.hi HTA.out.1 HTA.out.2 n0 n1).mono ?_
         rintro e w2 ⟨rfl, G2, e2, P2⟩
         have M2 := Lib.hid (M1.out.world hk e2 P2)
         have S2 := Lib.hid (And.intro (S1.out.1.ext e2 (by unfold SW; omega)) (S1.out.2.ext e2 (by unfold SW; omega)))
         have p02 := M2.out.p.wo.c0
         have x12 := M2.out.t.c 1 _ rfl
         have x22 := M2.out.t.c 2 _ rfl
         have x32 := M2.out.t.c 3 _ rfl
         rw [← HPP.out.1] at x12
         rw [← HPP.out.2.1] at x22
         rw [← HPP.out.2.2] at x32
         clear e2 P2)
      | (go_at_call 74
         refine (HTG.out _).mono ?_
         rintro e w3 ⟨rfl, hb3⟩
         have M3 := Lib.hid (M2.out.below hb3)
         have S3 := Lib.hid (And.intro (S2.out.1.below hb3) (S2.out.2.below hb3))
         have p03 := M3.out.p.wo.c0
         have x13 := M3.out.t.c 1 _ rfl
         have x23 := M3.out.t.c 2 _ rfl
         have x33 := M3.out.t.c 3 _ rfl
         rw [← HPP.out.1] at x13
         rw [← HPP.out.2.1] at x23
         rw [← HPP.out.2.2] at x33
         have x53 := M3.out.t.c 5 _ rfl
         have f53 := M3.out.t.f 5
         have E4 := Lib.hid (ext_set (j := 5) (v := .int .i64 tg) M3.out.e.hi M3.out.t hk)
         have M4 := Lib.hid (M3.out.set hk (Nat.le_refl _) (by omega) 5 (.int .i64 tg) (by simp [mvCs]))
         have p04 := M4.out.p.wo.c0
         have x14 := M4.out.t.c 1 _ rfl
         have x24 := M4.out.t.c 2 _ rfl
         have x34 := M4.out.t.c 3 _ rfl
         rw [← HPP.out.1] at x14
         rw [← HPP.out.2.1] at x24
         rw [← HPP.out.2.2] at x34
         clear hb3)))
  all_goals
    clear p0 x1 x2 x3 p01 x11 x21 x31 p02 x12 x22 x32 p03 x13 x23 x33 x53 f53
    go_upto_region 1 with fail
    have S4 := Lib.hid (And.intro (S3.out.1.ext E4.out (by omega)) (S3.out.2.ext E4.out (by omega)))
    obtain ⟨w4, hw4⟩ : ∃ w4, w4 = w3.setCell ⟨X, 5, none⟩ (.int .i64 tg) := ⟨_, rfl⟩
    rw [← hw4] at M4 S4 ⊢
    clear hw4 E4 M3 S3 M2 S2 M1 S1 p04 x14 x24 x34
    have x5 := M4.out.t.c 5 _ rfl
    by_cases ht0 : tg = 0
    · have dt : (tg != 0) = false := by simp [ht0]
      have HT0 := Lib.hid ht0
      clear ht0
      go_wp2_with fail
      go_end0
      exact ⟨rfl, G2, M4.out.e, M4.out.p, S4.out.2, lv, M4.out.t, fun _ => S4.out.1, fun h => absurd HT0.out h⟩
    · have dt : (tg != 0) = true := by simp [ht0]
      have HT0 := Lib.hid ht0
      obtain ⟨A, o, cp, rfl, hc1, hc2⟩ := S4.out.1.open (by decide)
      have x4 := M4.out.t.c 4 _ rfl
      have hXl := M4.out.t.lt
      obtain ⟨G5, e5, a5, k5⟩ := alloc_ob M4.out.e.hi (k + 2) #[ITEMM X, .bool false] 219 w4.heap.size rfl
      have M5 := Lib.hid (And.intro (M4.out.e.trans (e5.mono (T := SX k (k + 2)) fun t _ h => .inr (by omega))) (And.intro (M4.out.p.ext e5 (by omega) (by omega) (by omega) (by omega)) (And.intro (k5 _ _ _ M4.out.t) (And.intro (k5 _ _ _ S4.out.2) (And.intro a5 (S4.out.1.kept k5))))))
      clear ht0 e5 a5 k5
      go_wp2_with (at_builtin; refine append_sls (w4.alloc (.cells #[ITEMM X, .bool false] 219)) rfl _ _ 101 rfl 220 i0 .nilIface 1 16 Tryz.underlying101 HI.out.1 HI.out.2.1 HI.out.2.2.1 HI.out.2.2.2 rfl (by decide) G5 (k + 1) (by omega) M5.out.1.hi (.slice (some ⟨A, o, none⟩) 1 cp) 1 [IAct d] rfl M5.out.2.2.2.2.2 1 (by decide) [IAct w4.heap.size] _ (by simp only [World.size_alloc]; rfl) rfl (by simp [IAct, Value.oneCell']) (by unfold maxLen; decide) (by decide) ?_; intro b6 o6 c6 w6 G6 e6 s6; have M6 := Lib.hid (And.intro (M5.out.1.trans (e6.mono (T := SX k (k + 2)) fun t _ h => .inr (by omega))) (And.intro (M5.out.2.1.ext e6 (by omega) (by omega) (by omega) (by omega)) (And.intro (M5.out.2.2.1.ext e6 (by omega)) (And.intro (M5.out.2.2.2.1.ext e6 (by omega)) (And.intro (M5.out.2.2.2.2.1.ext e6 (by omega)) s6))))); have x46 := M6.out.2.2.1.c 4 _ rfl; have f46 := M6.out.2.2.1.f 4; clear e6 s6)
      go_end0
      have E7 := ext_set (j := 4) (v := .slice (some ⟨b6, o6, none⟩) (1 + 1) c6) M6.out.1.hi M6.out.2.2.1 hk
      have X7 := M6.out.2.2.1.set 4 (.slice (some ⟨b6, o6, none⟩) (1 + 1) c6) (by simp [mvCs])
      exact ⟨rfl, G6, M6.out.1.trans (E7.mono fun t _ h => .inr (by omega)), M6.out.2.1.ext E7 (by omega) (by omega) (by omega) (by omega), M6.out.2.2.2.1.ext E7 (by omega), _, X7, fun h => absurd h HT0.out, fun _ => ⟨_, M6.out.2.2.2.2.2.ext E7 (by omega), M6.out.2.2.2.2.1.ext E7 (by omega)⟩⟩
end
end Go.Proofs.YtlcibfpibklbdaaGreat
