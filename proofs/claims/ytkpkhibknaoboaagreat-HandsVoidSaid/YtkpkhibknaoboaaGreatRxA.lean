/- Layers 12, 13: the document's Mark of one place, its Out. Layer 13: steps of the document's Out. Layer 23: the document's Evict: its object, lines 1 to 6. Layer 23: the document's Evict's lines 1 to 6. Layer 23: the document's Evict's lines 7 to 12, its Step, Got. Layer 23: the document's Evict's line 11, its Step, Got. -/
import Derived.Test.YtkpkhibknaoboaaGreatHxA
import Derived.Test.YtkpkhibknaoboaaGreatNr
import Derived.StillTailTactics
namespace Go.Proofs.YtkpkhibknaoboaaGreat
set_option linter.unusedSimpArgs false
section
open Go.RowKit Go.Shelf
set_option linter.unusedVariables false

/-- The document's Mark in block R that has l to add to. -/
structure RmAt (W : World) (G : Om) (k R : Nat) (l : List Int) : Prop where
  ex : ∃ (A off c : Nat) (full : List Int), Ob W G k R [.int .i64 (if l = [] then 0 else 1), .slice (some ⟨A, 0, none⟩) full.length c, .int .i64 off] ∧ Ob W G (k + 1) A (u64s full) ∧ full.drop off = l ∧ full.length ≤ 10
theorem RmAt.ext {S : Nat → Prop} {O O' : Om} {w w' : World} {k R : Nat} {l : List Int} (h : RmAt w O k R l) (e : Ext S O w O' w') (h1 : ¬ S k) (h2 : ¬ S (k + 1)) : RmAt w' O' k R l := by
  obtain ⟨A, off, c, full, a, b, d⟩ := h.ex
  exact ⟨A, off, c, full, a.ext e h1, b.ext e h2, d⟩
theorem RmAt.below {O : Om} {w w' : World} {k R : Nat} {l : List Int} (h : RmAt w O k R l) (hb : Below w.heap.size w w') : RmAt w' O k R l := by
  obtain ⟨A, off, c, full, a, b, d⟩ := h.ex
  exact ⟨A, off, c, full, a.below hb, b.below hb, d⟩
theorem RmAt.cell {O : Om} {w : World} {k R : Nat} {l : List Int} (h : RmAt w O k R l) : w.cell? ⟨R, 0, none⟩ = some (.int .i64 (if l = [] then 0 else 1)) := by
  obtain ⟨A, off, c, full, a, b, d⟩ := h.ex
  exact a.c 0 _ rfl
section
variable {R : Nat} {w : World} {O : Om} {C : Wb} {f : Cf} {s : AW} {m k : Nat}
set_option maxHeartbeats 2000000 in
set_option maxRecDepth 100000 in
theorem c_rMkStep (a : Int) (l : List Int) (h : RW w O C f s m) (hR : RmAt w O k R (a :: l)) (hk : 10 ≤ k) (hm : m ≤ 900000) (hhi : ∀ j, O j ≠ 0 → j < w.heap.size) (a0 : 0 ≤ a) (a1 : a < 18446744073709551616) (n0 : 0 ≤ s.n) (n1 : s.n ≤ 4611686018427387904) :
    Calls Tryz.prog 147 #[.pointer (some ⟨R, 0, none⟩), .pointer (some ⟨C.p, 0, none⟩)] w (RP (SD k k) w O (.tuple #[]) fun W G => RW W G C f (awAdd a 1 s) (m + 1) ∧ RmAt W G k R l) := by
  obtain ⟨A, off, c, full, hx, ha, hd, hfl⟩ := hR.ex
  rw [if_neg (by simp)] at hx
  have HM : Hid (Md k k w O w O C f s m k R [.int .i64 1, .slice (some ⟨A, 0, none⟩) full.length c, .int .i64 off]) := Lib.hid (Md.start hhi h hx)
  have hfo : full[off]? = some a := by
    have := congrArg (fun z : List Int => z[0]?) hd
    simpa using this
  have hol : off < full.length := (List.getElem?_eq_some_iff.1 hfo).1
  have hfu : (u64s full)[off]? = some (.int .u64 a) := by unfold u64s; rw [List.getElem?_map, hfo]; rfl
  have HFU := Lib.hid hfu
  have hd2 : full.drop (off + 1) = l := by
    have := congrArg List.tail hd
    simpa using this
  have HD := Lib.hid (And.intro hd2 hfl)
  have HA0 := Lib.hid ha
  have x0 := hx.c 0 _ rfl
  have x1 := hx.c 1 _ rfl
  have x2 := hx.c 2 _ rfl
  have q0 := ha.c off _ hfu
  obtain ⟨n, hn⟩ : ∃ n, n = full.length := ⟨_, rfl⟩
  rw [← hn] at hol x1 HM hfl
  have HN := Lib.hid hn
  have HA := Lib.hid (c_rwAdd a 1 (w := w.drew) (h.below hhi (drew_below w)) (by omega) a0 a1 (by decide) (by decide) HM.out.drew.e.hi n0 n1)
  have ho0 : (0 : Int) ≤ (off : Int) := by omega
  have ho1 : (off : Int) < (n : Int) := by omega
  have hw1 : wrap64 ((off : Int) + 1) = (off : Int) + 1 := by unfold wrap64; omega
  have hw2 : IntKind.i64.wrap ((off : Int) + 1) = (off : Int) + 1 := by simp [IntKind.wrap, IntKind.bits, IntKind.signed]; omega
  have hlen : l.length + (off + 1) = n := by rw [← hd2, List.length_drop, ← hn]; omega
  clear h hR hx ha hd hfo hfu hd2 hhi hn
  by_cases hl : l = []
  · have de : ((off : Int) + 1 == (n : Int)) = true := by subst hl; simp at hlen; simp; omega
    have HL := Lib.hid hl
    clear hl hlen
    go_enter Tryz.func147, Tryz.ntmps147
    go_wp2_with fail
    go_region_held3 (fun w' => w'.cell? ⟨R, 1, none⟩ = some (.slice (some ⟨A, 0, none⟩) n c) ∧ w'.cell? ⟨R, 2, none⟩ = some (.int .i64 off) ∧ w'.cell? ⟨A, off, none⟩ = some (.int .u64 a)) (go_keep)
      ((go_at_call 151
        refine HA.out.mono ?_
        rintro e w1 ⟨rfl, G1, e1, P1⟩
        have M1 := Lib.hid (HM.out.drew.world hk e1 P1)
        have A1 := Lib.hid ((HA0.out.below (drew_below w)).ext e1 (by unfold SR; omega))
        have y1 := M1.out.t.c 1 _ rfl
        have y2 := M1.out.t.c 2 _ rfl
        have y3 := A1.out.c off _ HFU.out
        clear e1 P1))
    all_goals
      clear x0 x1 x2 q0
      have f2 := M1.out.t.f 2
      have E2 := ext_set (j := 2) (v := .int .i64 ((off : Int) + 1)) M1.out.e.hi M1.out.t hk
      have M2 := Lib.hid (M1.out.set hk (Nat.le_refl _) (Nat.le_refl _) 2 (.int .i64 ((off : Int) + 1)) (by simp))
      have A2 := Lib.hid (A1.out.ext E2 (by omega))
      obtain ⟨w2, hw⟩ : ∃ w2, w2 = w1.setCell ⟨R, 2, none⟩ (.int .i64 ((off : Int) + 1)) := ⟨_, rfl⟩
      clear E2
      go_wp2_with fail
      rw [← hw] at M2 A2 ⊢
      clear hw y1 y2 y3 f2
      have y1 := M2.out.t.c 1 _ rfl
      have y2 := M2.out.t.c 2 _ rfl
      go_quiet (fail)
      have M3 := Lib.hid (M2.out.below (w1 := w2.drewN nq) ⟨rfl, rfl, rfl, Nat.le_refl _, fun _ _ => rfl⟩)
      have A3 := Lib.hid (A2.out.below (w' := w2.drewN nq) ⟨rfl, rfl, rfl, Nat.le_refl _, fun _ _ => rfl⟩)
      obtain ⟨w3, hw⟩ : ∃ w3, w3 = w2.drewN nq := ⟨_, rfl⟩
      rw [← hw] at M3 A3 ⊢
      clear hw y1 y2
      have y0 := M3.out.t.c 0 _ rfl
      have f0 := M3.out.t.f 0
      have E4 := Lib.hid (ext_set (j := 0) (v := .int .i64 0) M3.out.e.hi M3.out.t hk)
      have M4 := Lib.hid (M3.out.set hk (Nat.le_refl _) (Nat.le_refl _) 0 (.int .i64 0) (by simp))
      go_wp2_with fail
      go_end0
      exact ⟨rfl, _, M4.out.e, M4.out.p, ⟨A, off + 1, c, full, by rw [if_pos HL.out, ← HN.out]; exact M4.out.t, A3.out.ext E4.out (by omega), HD.out⟩⟩
  · have de : ((off : Int) + 1 == (n : Int)) = false := by
      have : 0 < l.length := List.length_pos_iff.2 hl
      rw [beq_eq_false_iff_ne]; omega
    have HL := Lib.hid hl
    clear hl hlen
    go_enter Tryz.func147, Tryz.ntmps147
    go_wp2_with fail
    go_region_held3 (fun w' => w'.cell? ⟨R, 1, none⟩ = some (.slice (some ⟨A, 0, none⟩) n c) ∧ w'.cell? ⟨R, 2, none⟩ = some (.int .i64 off) ∧ w'.cell? ⟨A, off, none⟩ = some (.int .u64 a)) (go_keep)
      ((go_at_call 151
        refine HA.out.mono ?_
        rintro e w1 ⟨rfl, G1, e1, P1⟩
        have M1 := Lib.hid (HM.out.drew.world hk e1 P1)
        have A1 := Lib.hid ((HA0.out.below (drew_below w)).ext e1 (by unfold SR; omega))
        have y1 := M1.out.t.c 1 _ rfl
        have y2 := M1.out.t.c 2 _ rfl
        have y3 := A1.out.c off _ HFU.out
        clear e1 P1))
    all_goals
      clear x0 x1 x2 q0
      have f2 := M1.out.t.f 2
      have E2 := ext_set (j := 2) (v := .int .i64 ((off : Int) + 1)) M1.out.e.hi M1.out.t hk
      have M2 := Lib.hid (M1.out.set hk (Nat.le_refl _) (Nat.le_refl _) 2 (.int .i64 ((off : Int) + 1)) (by simp))
      have A2 := Lib.hid (A1.out.ext E2 (by omega))
      obtain ⟨w2, hw⟩ : ∃ w2, w2 = w1.setCell ⟨R, 2, none⟩ (.int .i64 ((off : Int) + 1)) := ⟨_, rfl⟩
      clear E2
      go_wp2_with fail
      rw [← hw] at M2 A2 ⊢
      clear hw y1 y2 y3 f2
      have y1 := M2.out.t.c 1 _ rfl
      have y2 := M2.out.t.c 2 _ rfl
      go_quiet (fail)
      have M3 := Lib.hid (M2.out.below (w1 := w2.drewN nq) ⟨rfl, rfl, rfl, Nat.le_refl _, fun _ _ => rfl⟩)
      have A3 := Lib.hid (A2.out.below (w' := w2.drewN nq) ⟨rfl, rfl, rfl, Nat.le_refl _, fun _ _ => rfl⟩)
      clear y1 y2
      go_wp2_with fail
      go_end0
      exact ⟨rfl, _, M3.out.e, M3.out.p, ⟨A, off + 1, c, full, by rw [if_neg HL.out, ← HN.out]; exact M3.out.t, A3.out, HD.out⟩⟩
set_option maxHeartbeats 2000000 in
set_option maxRecDepth 100000 in
theorem c_rOf1 (p : Spt) (hp : p.ok) {b o c : Nat} (g : Nat) (hg : g ≠ 0) (hc : 1 ≤ c ∧ c ≤ maxLen) (hb : b < w.heap.size) (x0 : w.cell? ⟨b, o, none⟩ = some (.int .i64 p.b)) (x1 : w.cell? ⟨b, o + 1, none⟩ = some (.int .i64 p.q)) (hhi : ∀ j, O j ≠ 0 → j < w.heap.size) :
    Calls Tryz.prog 233 #[.slice (some ⟨b, o, none⟩) 1 c] w fun e w' => ∃ A cp, e = .returned (.slice (some ⟨A, 0, none⟩) 1 cp) ∧ ∃ G, Ext (fun j => j = g) O w G w' ∧ Ob w' G g A [.int .u64 p.ver] := by
  obtain ⟨i0, hi, hz0, hz1, hz2⟩ := info_parts infoAd
  have HI := Lib.hid (And.intro hi (And.intro hz0 (And.intro hz1 hz2)))
  have hq := hp.q2
  have hv := hp.ver
  have HV := Lib.hid (fun W => c_rVersion p.b p.q W (by have := hp.b0; omega) (by have := hp.b1; omega) (by have := hp.q0; omega) (by omega))
  obtain ⟨ve, hve⟩ : ∃ ve, ve = p.ver := ⟨_, rfl⟩
  have hve2 : plVersion p.b p.q = ve := hve.symm
  rw [hve2] at HV
  rw [← hve] at hv ⊢
  obtain ⟨pb, hpb⟩ : ∃ z, z = p.b := ⟨_, rfl⟩
  obtain ⟨pq, hpq⟩ : ∃ z, z = p.q := ⟨_, rfl⟩
  rw [← hpb, ← hpq] at HV
  rw [← hpb] at x0
  rw [← hpq] at x1
  have dv : (ve == 0) = false := by rw [beq_eq_false_iff_ne]; omega
  have HH := Lib.hid hhi
  clear hp hq hv hve hve2 hpb hpq hhi hi hz0 hz1 hz2
  go_enter Tryz.func233, Tryz.ntmps233
  go_wp2_with fail
  refine wp_loop_rounds 2 ?_
  rw [rounds_succ]
  go_wp2_with fail
  refine (HV.out _).mono ?_
  rintro e w1 ⟨rfl, hb1⟩
  have HB1 : Hid (Below w.heap.size w w1) := Lib.hid (by first | exact ((Below.refl _ _).alloc (Nat.le_refl _) _).trans (hb1.mono (by simp)) | exact hb1)
  have E1 := Lib.hid (Ext.of_below (S := fun j => j = g) HH.out HB1.out)
  clear hb1
  go_wp2_with fail
  refine wp_loop_rounds 1 ?_
  rw [rounds_succ]
  go_wp2_with (at_builtin; refine append_row w1 rfl _ _ 261 rfl 42 i0 (.int .u64 0) 1 8 Tryz.underlying261 HI.out.1 HI.out.2.1 HI.out.2.2.1 HI.out.2.2.2 rfl (by decide) (by decide) O g hg E1.out.hi (.slice none 0 0) 0 [] rfl (Row.nil _ _ _ _ _) [.int .u64 ve] _ rfl rfl (by simp [Value.oneCell']) (by omega) ?_; intro gg cap w2 G2 e2 r2; have HR2 := Lib.hid r2; have E2 := Lib.hid (E1.out.trans e2); clear e2 r2)
  rw [rounds_succ]
  go_wp2_with fail
  go_ret
  exact ⟨gg, cap, rfl, G2, E2.out, HR2.out.ob (by decide)⟩
set_option maxHeartbeats 2000000 in
set_option maxRecDepth 100000 in
theorem c_rNewMark1 (p : Spt) (hp : p.ok) {b o c : Nat} (k : Nat) (hk : 10 ≤ k) (hc : 1 ≤ c ∧ c ≤ maxLen) (hb : b < w.heap.size) (x0 : w.cell? ⟨b, o, none⟩ = some (.int .i64 p.b)) (x1 : w.cell? ⟨b, o + 1, none⟩ = some (.int .i64 p.q)) (hhi : ∀ j, O j ≠ 0 → j < w.heap.size) :
    Calls Tryz.prog 168 #[.slice (some ⟨b, o, none⟩) 1 c] w fun e w' => ∃ X, RP (fun t => t = k ∨ t = k + 1) w O (.pointer (some ⟨X, 0, none⟩)) (fun W G => RmAt W G k X [p.ver]) e w' := by
  have HO := Lib.hid (c_rOf1 p hp (k + 1) (by omega) hc hb x0 x1 hhi)
  clear hp hb x0 x1 hhi
  go_enter Tryz.func168, Tryz.ntmps168
  go_wp2_with fail
  refine HO.out.mono ?_
  rintro e w1 ⟨A, cp, rfl, G1, e1, a1⟩
  obtain ⟨G2, e2, x2, k2⟩ := alloc_ob e1.hi k #[.int .i64 1, .slice (some ⟨A, 0, none⟩) 1 cp, .int .i64 0] 263 w1.heap.size rfl
  have HE := Lib.hid (And.intro ((e1.mono (T := fun t => t = k ∨ t = k + 1) fun t _ h => .inr h).trans (e2.mono fun t _ h => .inl h)) (And.intro x2 (k2 _ _ _ a1)))
  clear e1 a1 e2 x2 k2
  go_wp2_with fail
  go_ret
  exact ⟨_, rfl, G2, HE.out.1, ⟨A, 0, cp, [p.ver], HE.out.2.1, HE.out.2.2, rfl, by simp⟩⟩
end
/-- The document's Out. -/
def roCs (p : Spt) (o : Otm) : List Value := [.int .i64 (if o.ln = 3 then 0 else (o.ln : Int) + 1), .bool (decide (2 ≤ o.ln)), .bool true, .int .i64 p.b, .int .i64 p.q, .int .i64 p.s, .int .i64 0, .int .i64 0, .int .u64 o.w]
structure RoAt (W : World) (G : Om) (k R : Nat) (p : Spt) (o : Otm) : Prop where
  ob : Ob W G k R (roCs p o)
theorem RoAt.ext {S : Nat → Prop} {O O' : Om} {w w' : World} {k U : Nat} {p : Spt} {o : Otm} (h : RoAt w O k U p o) (e : Ext S O w O' w') (h1 : ¬ S k) : RoAt w' O' k U p o := ⟨h.ob.ext e h1⟩
theorem RoAt.below {O : Om} {w w' : World} {k U : Nat} {p : Spt} {o : Otm} (h : RoAt w O k U p o) (hb : Below w.heap.size w w') : RoAt w' O k U p o := ⟨h.ob.below hb⟩
section
variable {R : Nat} {w : World} {O : Om} {C : Wb} {f : Cf} {s : AW} {m k : Nat} {p : Spt}
set_option maxHeartbeats 1000000 in
set_option maxRecDepth 100000 in
theorem c_rNewOut (hp : p.ok) (hk : 10 ≤ k) (hhi : ∀ j, O j ≠ 0 → j < w.heap.size) : Calls Tryz.prog 179 #[.agg #[.int .i64 p.b, .int .i64 p.q, .int .i64 p.s]] w fun e w' => ∃ U, RP (fun t => t = k) w O (.pointer (some ⟨U, 0, none⟩)) (fun W G => RoAt W G k U p ⟨0, 0⟩) e w' := by
  have hit := hp.item
  have hq2 := hp.q2
  have HI := Lib.hid (fun W => c_rItem p.b p.q p.s W (by have := hp.b0; omega) (by have := hp.b1; omega) (by have := hp.q0; omega) (by omega) (by have := hp.s0; omega) (by have := hp.s1; omega))
  obtain ⟨ia, hia⟩ : ∃ ia, ia = p.item := ⟨_, rfl⟩
  have hia2 : plItem p.b p.q p.s = ia := hia.symm
  rw [hia2] at HI
  rw [← hia] at hit
  have di : (ia != 0) = true := by simp; omega
  obtain ⟨b, hb⟩ : ∃ z, z = p.b := ⟨_, rfl⟩
  obtain ⟨q, hq⟩ : ∃ z, z = p.q := ⟨_, rfl⟩
  obtain ⟨sl, hs⟩ : ∃ z, z = p.s := ⟨_, rfl⟩
  rw [← hb, ← hq, ← hs] at HI
  rw [← hb, ← hq, ← hs]
  obtain ⟨O1, e1, -, -⟩ := alloc_ob hhi 0 #[.int .i64 b, .int .i64 q, .int .i64 sl] 56 w.heap.size rfl
  have hhi1 : ∀ (o : Obj) (j : Nat), O j ≠ 0 → j < (w.alloc o).heap.size := fun o j hj => by have := hhi j hj; simp; omega
  obtain ⟨O2, e2, x2, -⟩ := alloc_ob (hhi1 (.cells #[.int .i64 b, .int .i64 q, .int .i64 sl] 56)) k #[.int .i64 0, .bool false, .bool true, .int .i64 b, .int .i64 q, .int .i64 sl, .int .i64 0, .int .i64 0, .int .u64 0] 265 (w.heap.size + 1) (by simp)
  have E0 : Ext (fun t => t = k) O w O (w.alloc (.cells #[.int .i64 b, .int .i64 q, .int .i64 sl] 56)) := Ext.of_below hhi ((Below.refl _ _).alloc (Nat.le_refl _) _)
  have HE := Lib.hid (And.intro (E0.trans e2) x2)
  have HP := Lib.hid (And.intro hb (And.intro hq hs))
  clear hit hq2 hia hia2 hp hb hq hs e1 e2 x2 hhi1 E0 hhi
  go_enter Tryz.func179, Tryz.ntmps179
  go_wp2_with fail
  obtain ⟨W, hW⟩ : ∃ W, W = (w.alloc (.cells #[.int .i64 b, .int .i64 q, .int .i64 sl] 56)).alloc (.cells #[.int .i64 0, .bool false, .bool true, .int .i64 b, .int .i64 q, .int .i64 sl, .int .i64 0, .int .i64 0, .int .u64 0] 265) := ⟨_, rfl⟩
  rw [← hW] at HE ⊢
  clear hW
  refine (HI.out _).mono ?_
  rintro e w1 ⟨rfl, hb1⟩
  have X1 := Lib.hid (HE.out.2.below hb1)
  have E1 := Lib.hid (HE.out.1.below hb1)
  have y0 := X1.out.c 0 _ rfl
  have f0 := X1.out.f 0
  clear hb1
  go_wp2_with fail
  go_ret
  have E3 := ext_set (j := 0) (v := .int .i64 1) E1.out.hi X1.out hk
  have x3 := X1.out.set 0 (.int .i64 1) (by simp)
  rw [HP.out.1, HP.out.2.1, HP.out.2.2] at x3
  exact ⟨_, rfl, O2, E1.out.trans E3, ⟨x3⟩⟩
end
end
section
open Go.RowKit Go.Shelf
set_option linter.unusedVariables false

section
variable {R : Nat} {w : World} {O : Om} {C : Wb} {f : Cf} {s : AW} {m k : Nat} {p : Spt}
set_option maxHeartbeats 4000000 in
set_option maxRecDepth 100000 in
theorem c_rOut0 (o : Otm) (h : RW w O C f s m) (hR : RoAt w O k R p o) (hp : p.ok) (ho : o.ln = 0) (hk : 10 ≤ k) (hm : m ≤ 900000) (hhi : ∀ j, O j ≠ 0 → j < w.heap.size) (n0 : 0 ≤ s.n) (n1 : s.n ≤ 4611686018427387904) :
    Calls Tryz.prog 149 #[.pointer (some ⟨R, 0, none⟩), .pointer (some ⟨C.p, 0, none⟩)] w (RP (SD k k) w O (.tuple #[]) fun W G => RW W G C f (outStep p s o).1 (m + 1) ∧ RoAt W G k R p (outStep p s o).2) := by
  obtain ⟨oln, ow⟩ := o
  dsimp only at ho
  subst ho
  have hx := hR.ob
  have HM : Hid (Md k k w O w O C f s m k R (roCs p ⟨0, ow⟩)) := Lib.hid (Md.start hhi h hx)
  have hit := hp.item
  have htg := hp.tags
  have hq2 := hp.q2
  have hs0 := hp.s0
  have hs1 := hp.s1
  have HI := Lib.hid (fun W => c_rItem p.b p.q p.s W (by have := hp.b0; omega) (by have := hp.b1; omega) (by have := hp.q0; omega) (by omega) (by omega) (by omega))
  have HT := Lib.hid (fun W => c_rTags p.b p.q W (by have := hp.b0; omega) (by have := hp.b1; omega) (by have := hp.q0; omega) (by omega))
  have x0 := hx.c 0 _ rfl
  have x1 := hx.c 1 _ rfl
  have x2 := hx.c 2 _ rfl
  have x3 := hx.c 3 _ rfl
  have x4 := hx.c 4 _ rfl
  have x5 := hx.c 5 _ rfl
  have x8 := hx.c 8 _ rfl
  obtain ⟨ia, hia⟩ : ∃ ia, ia = p.item := ⟨_, rfl⟩
  obtain ⟨ta, hta⟩ : ∃ ta, ta = p.tags := ⟨_, rfl⟩
  have hia2 : plItem p.b p.q p.s = ia := hia.symm
  have hta2 : plTags p.b p.q = ta := hta.symm
  rw [hia2] at HI
  rw [hta2] at HT
  rw [← hia] at hit
  rw [← hta] at htg
  have hib : 0 ≤ ia ∧ ia < 18446744073709551616 := by omega
  have htb : 0 ≤ ta ∧ ta < 18446744073709551616 := by omega
  obtain ⟨b, hb⟩ : ∃ z, z = p.b := ⟨_, rfl⟩
  obtain ⟨q, hq⟩ : ∃ z, z = p.q := ⟨_, rfl⟩
  obtain ⟨sl, hs⟩ : ∃ z, z = p.s := ⟨_, rfl⟩
  rw [← hb, ← hq, ← hs] at HI
  rw [← hb, ← hq] at HT
  rw [← hb] at x3
  rw [← hq] at x4
  rw [← hs] at x5 hs0 hs1
  dsimp only at x0 x1 x8
  have HEQ := Lib.hid (And.intro hia (And.intro hta (And.intro hb (And.intro hq hs))))
  have x0 : w.cell? ⟨R, 0, none⟩ = some (.int .i64 1) := x0
  have x1 : w.cell? ⟨R, 1, none⟩ = some (.bool false) := x1
  have hrl := hx.lt

  clear h hR hp hhi hx hit htg hq2 hia hta hia2 hta2 hb hq hs
  go_enter Tryz.func149, Tryz.ntmps149
  go_wp2_with fail
  refine (HT.out _).mono ?_
  rintro e w1 ⟨rfl, hb1⟩
  have M1 := Lib.hid (HM.out.below hb1)
  have k3 := (hb1.cell (p := ⟨R, 3, none⟩) hrl).trans x3
  have k4 := (hb1.cell (p := ⟨R, 4, none⟩) hrl).trans x4
  have k5 := (hb1.cell (p := ⟨R, 5, none⟩) hrl).trans x5
  have k0 := (hb1.cell (p := ⟨R, 0, none⟩) hrl).trans x0
  have k1 := (hb1.cell (p := ⟨R, 1, none⟩) hrl).trans x1
  have k2 := (hb1.cell (p := ⟨R, 2, none⟩) hrl).trans x2
  have k8 := (hb1.cell (p := ⟨R, 8, none⟩) hrl).trans x8
  have hrl1 : R < w1.heap.size := Nat.lt_of_lt_of_le hrl hb1.size
  clear hb1 x0 x1 x2 x3 x4 x5 x8 hrl
  go_wp2_with fail
  refine (HI.out _).mono ?_
  rintro e w2 ⟨rfl, hb2⟩
  have M2 := Lib.hid (M1.out.below hb2)
  have x0 := (hb2.cell (p := ⟨R, 0, none⟩) hrl1).trans k0
  have x1 := (hb2.cell (p := ⟨R, 1, none⟩) hrl1).trans k1
  have x2 := (hb2.cell (p := ⟨R, 2, none⟩) hrl1).trans k2
  have x5 := (hb2.cell (p := ⟨R, 5, none⟩) hrl1).trans k5
  have x8 := (hb2.cell (p := ⟨R, 8, none⟩) hrl1).trans k8
  clear hb2 k0 k1 k2 k3 k4 k5 k8 hrl1
  go_wp2_with fail
  refine (c_rwLoad ta M2.out.p (by omega) htb.1 htb.2 M2.out.e.hi n0 n1).mono ?_
  rintro e w3 ⟨rfl, G3, e3, P3⟩
  have M3 := Lib.hid (M2.out.world hk e3 P3)
  have y8 := M3.out.t.c 8 _ rfl
  have f8 := M3.out.t.f 8
  have y0 := M3.out.t.c 0 _ rfl
  have f0 := M3.out.t.f 0
  have M4 := M3.out.set hk (Nat.le_refl _) (Nat.le_refl _) 8 (.int .u64 (s.M ta)) (by simp [roCs])
  have M5 := Lib.hid (M4.set hk (Nat.le_refl _) (Nat.le_refl _) 0 (.int .i64 2) (by simp [roCs]))
  have y0 : w3.cell? ⟨R, 0, none⟩ = some (.int .i64 1) := y0
  clear e3 P3 M4 x0 x1 x2 x5 x8
  go_wp2_with fail
  go_end0
  obtain ⟨e0, G, E, P, T⟩ := M5.out.rp (v := .tuple #[])
  have hs : outStep p s ⟨0, ow⟩ = (awLoad ta s, ⟨1, s.M ta⟩) := by rw [HEQ.out.2.1]; rfl
  refine ⟨rfl, G, E, ?_, ?_⟩
  · rw [hs]; exact P
  · rw [hs]; exact ⟨T⟩
set_option maxHeartbeats 4000000 in
set_option maxRecDepth 100000 in
theorem c_rOut1 (o : Otm) (h : RW w O C f s m) (hR : RoAt w O k R p o) (hp : p.ok) (ho : o.ln = 1) (w0 : 0 ≤ o.w) (w1 : o.w < 18446744073709551616) (hk : 10 ≤ k) (hm : m ≤ 900000) (hhi : ∀ j, O j ≠ 0 → j < w.heap.size) (n0 : 0 ≤ s.n) (n1 : s.n ≤ 4611686018427387904) :
    Calls Tryz.prog 149 #[.pointer (some ⟨R, 0, none⟩), .pointer (some ⟨C.p, 0, none⟩)] w (RP (SD k k) w O (.tuple #[]) fun W G => RW W G C f (outStep p s o).1 (m + 1) ∧ RoAt W G k R p (outStep p s o).2) := by
  obtain ⟨oln, ow⟩ := o
  dsimp only at ho
  subst ho
  have hx := hR.ob
  have HM : Hid (Md k k w O w O C f s m k R (roCs p ⟨1, ow⟩)) := Lib.hid (Md.start hhi h hx)
  have hit := hp.item
  have htg := hp.tags
  have hq2 := hp.q2
  have hs0 := hp.s0
  have hs1 := hp.s1
  have HI := Lib.hid (fun W => c_rItem p.b p.q p.s W (by have := hp.b0; omega) (by have := hp.b1; omega) (by have := hp.q0; omega) (by omega) (by omega) (by omega))
  have HT := Lib.hid (fun W => c_rTags p.b p.q W (by have := hp.b0; omega) (by have := hp.b1; omega) (by have := hp.q0; omega) (by omega))
  have x0 := hx.c 0 _ rfl
  have x1 := hx.c 1 _ rfl
  have x2 := hx.c 2 _ rfl
  have x3 := hx.c 3 _ rfl
  have x4 := hx.c 4 _ rfl
  have x5 := hx.c 5 _ rfl
  have x8 := hx.c 8 _ rfl
  obtain ⟨ia, hia⟩ : ∃ ia, ia = p.item := ⟨_, rfl⟩
  obtain ⟨ta, hta⟩ : ∃ ta, ta = p.tags := ⟨_, rfl⟩
  have hia2 : plItem p.b p.q p.s = ia := hia.symm
  have hta2 : plTags p.b p.q = ta := hta.symm
  rw [hia2] at HI
  rw [hta2] at HT
  rw [← hia] at hit
  rw [← hta] at htg
  have hib : 0 ≤ ia ∧ ia < 18446744073709551616 := by omega
  have htb : 0 ≤ ta ∧ ta < 18446744073709551616 := by omega
  obtain ⟨b, hb⟩ : ∃ z, z = p.b := ⟨_, rfl⟩
  obtain ⟨q, hq⟩ : ∃ z, z = p.q := ⟨_, rfl⟩
  obtain ⟨sl, hs⟩ : ∃ z, z = p.s := ⟨_, rfl⟩
  rw [← hb, ← hq, ← hs] at HI
  rw [← hb, ← hq] at HT
  rw [← hb] at x3
  rw [← hq] at x4
  rw [← hs] at x5 hs0 hs1
  dsimp only at x0 x1 x8
  have HEQ := Lib.hid (And.intro hia (And.intro hta (And.intro hb (And.intro hq hs))))
  have x0 : w.cell? ⟨R, 0, none⟩ = some (.int .i64 2) := x0
  have x1 : w.cell? ⟨R, 1, none⟩ = some (.bool false) := x1
  have hrl := hx.lt
  have hwb := twWith_bd (s := sl) (t := 0) w0 w1
  have HW := Lib.hid (fun W => c_rTwWith ow sl 0 W w0 w1 hs0 hs1 (by decide) (by decide))
  obtain ⟨z, hz⟩ : ∃ z, z = twWith ow sl 0 := ⟨_, rfl⟩
  rw [← hz] at HW hwb
  have HZ := Lib.hid hz
  clear hz
  clear h hR hp hhi hx hit htg hq2 hia hta hia2 hta2 hb hq hs
  go_enter Tryz.func149, Tryz.ntmps149
  go_wp2_with fail
  refine (HT.out _).mono ?_
  rintro e w1 ⟨rfl, hb1⟩
  have M1 := Lib.hid (HM.out.below hb1)
  have k3 := (hb1.cell (p := ⟨R, 3, none⟩) hrl).trans x3
  have k4 := (hb1.cell (p := ⟨R, 4, none⟩) hrl).trans x4
  have k5 := (hb1.cell (p := ⟨R, 5, none⟩) hrl).trans x5
  have k0 := (hb1.cell (p := ⟨R, 0, none⟩) hrl).trans x0
  have k1 := (hb1.cell (p := ⟨R, 1, none⟩) hrl).trans x1
  have k2 := (hb1.cell (p := ⟨R, 2, none⟩) hrl).trans x2
  have k8 := (hb1.cell (p := ⟨R, 8, none⟩) hrl).trans x8
  have hrl1 : R < w1.heap.size := Nat.lt_of_lt_of_le hrl hb1.size
  clear hb1 x0 x1 x2 x3 x4 x5 x8 hrl
  go_wp2_with fail
  refine (HI.out _).mono ?_
  rintro e w2 ⟨rfl, hb2⟩
  have M2 := Lib.hid (M1.out.below hb2)
  have x0 := (hb2.cell (p := ⟨R, 0, none⟩) hrl1).trans k0
  have x1 := (hb2.cell (p := ⟨R, 1, none⟩) hrl1).trans k1
  have x2 := (hb2.cell (p := ⟨R, 2, none⟩) hrl1).trans k2
  have x5 := (hb2.cell (p := ⟨R, 5, none⟩) hrl1).trans k5
  have x8 := (hb2.cell (p := ⟨R, 8, none⟩) hrl1).trans k8
  clear hb2 k0 k1 k2 k3 k4 k5 k8 hrl1
  go_wp2_with fail
  go_region_held3 (fun w' => w'.cell? ⟨R, 5, none⟩ = some (.int .i64 sl) ∧ w'.cell? ⟨R, 8, none⟩ = some (.int .u64 ow)) (go_keep)
    ((first
      | (go_at_call 214
         refine (HW.out _).mono ?_
         rintro e w' ⟨rfl, rfl⟩)
      | (go_at_call 135
         refine (c_rwStore ta z (w := w2.drew) M2.out.drew.p (by omega) htb.1 htb.2 hwb.1 hwb.2 M2.out.drew.e.hi n0 n1).mono ?_
         rintro e w3 ⟨rfl, G3, e3, P3⟩
         have M3 := Lib.hid (M2.out.drew.world hk e3 P3)
         have y5 := M3.out.t.c 5 _ rfl
         have y8 := M3.out.t.c 8 _ rfl
         rw [← HEQ.out.2.2.2.2] at y5
         clear e3 P3)))
  all_goals
    clear x0 x1 x2 x5 x8 y5 y8
    have y1 := M3.out.t.c 1 _ rfl
    have f1 := M3.out.t.f 1
    have y0 := M3.out.t.c 0 _ rfl
    have f0 := M3.out.t.f 0
    have M4 := M3.out.set hk (Nat.le_refl _) (Nat.le_refl _) 1 (.bool true) (by simp [roCs])
    have M5 := Lib.hid (M4.set hk (Nat.le_refl _) (Nat.le_refl _) 0 (.int .i64 3) (by simp [roCs]))
    have y0 : w3.cell? ⟨R, 0, none⟩ = some (.int .i64 2) := y0
    have y1 : w3.cell? ⟨R, 1, none⟩ = some (.bool false) := y1
    clear M4
    go_wp2_with fail
    go_end0
    obtain ⟨e0, G, E, P, T⟩ := M5.out.rp (v := .tuple #[])
    refine ⟨rfl, G, E, ?_, ⟨T⟩⟩
    have := P
    rw [HEQ.out.2.1, HZ.out, HEQ.out.2.2.2.2] at this
    exact this
set_option maxHeartbeats 4000000 in
set_option maxRecDepth 100000 in
theorem c_rOut2 (o : Otm) (h : RW w O C f s m) (hR : RoAt w O k R p o) (hp : p.ok) (ho : o.ln = 2) (hk : 10 ≤ k) (hm : m ≤ 900000) (hhi : ∀ j, O j ≠ 0 → j < w.heap.size) (n0 : 0 ≤ s.n) (n1 : s.n ≤ 4611686018427387904) :
    Calls Tryz.prog 149 #[.pointer (some ⟨R, 0, none⟩), .pointer (some ⟨C.p, 0, none⟩)] w (RP (SD k k) w O (.tuple #[]) fun W G => RW W G C f (outStep p s o).1 (m + 1) ∧ RoAt W G k R p (outStep p s o).2) := by
  obtain ⟨oln, ow⟩ := o
  dsimp only at ho
  subst ho
  have hx := hR.ob
  have HM : Hid (Md k k w O w O C f s m k R (roCs p ⟨2, ow⟩)) := Lib.hid (Md.start hhi h hx)
  have hit := hp.item
  have htg := hp.tags
  have hq2 := hp.q2
  have hs0 := hp.s0
  have hs1 := hp.s1
  have HI := Lib.hid (fun W => c_rItem p.b p.q p.s W (by have := hp.b0; omega) (by have := hp.b1; omega) (by have := hp.q0; omega) (by omega) (by omega) (by omega))
  have HT := Lib.hid (fun W => c_rTags p.b p.q W (by have := hp.b0; omega) (by have := hp.b1; omega) (by have := hp.q0; omega) (by omega))
  have x0 := hx.c 0 _ rfl
  have x1 := hx.c 1 _ rfl
  have x2 := hx.c 2 _ rfl
  have x3 := hx.c 3 _ rfl
  have x4 := hx.c 4 _ rfl
  have x5 := hx.c 5 _ rfl
  have x8 := hx.c 8 _ rfl
  obtain ⟨ia, hia⟩ : ∃ ia, ia = p.item := ⟨_, rfl⟩
  obtain ⟨ta, hta⟩ : ∃ ta, ta = p.tags := ⟨_, rfl⟩
  have hia2 : plItem p.b p.q p.s = ia := hia.symm
  have hta2 : plTags p.b p.q = ta := hta.symm
  rw [hia2] at HI
  rw [hta2] at HT
  rw [← hia] at hit
  rw [← hta] at htg
  have hib : 0 ≤ ia ∧ ia < 18446744073709551616 := by omega
  have htb : 0 ≤ ta ∧ ta < 18446744073709551616 := by omega
  obtain ⟨b, hb⟩ : ∃ z, z = p.b := ⟨_, rfl⟩
  obtain ⟨q, hq⟩ : ∃ z, z = p.q := ⟨_, rfl⟩
  obtain ⟨sl, hs⟩ : ∃ z, z = p.s := ⟨_, rfl⟩
  rw [← hb, ← hq, ← hs] at HI
  rw [← hb, ← hq] at HT
  rw [← hb] at x3
  rw [← hq] at x4
  rw [← hs] at x5 hs0 hs1
  dsimp only at x0 x1 x8
  have HEQ := Lib.hid (And.intro hia (And.intro hta (And.intro hb (And.intro hq hs))))
  have x0 : w.cell? ⟨R, 0, none⟩ = some (.int .i64 3) := x0
  have x1 : w.cell? ⟨R, 1, none⟩ = some (.bool true) := x1
  have hrl := hx.lt

  clear h hR hp hhi hx hit htg hq2 hia hta hia2 hta2 hb hq hs
  go_enter Tryz.func149, Tryz.ntmps149
  go_wp2_with fail
  refine (HT.out _).mono ?_
  rintro e w1 ⟨rfl, hb1⟩
  have M1 := Lib.hid (HM.out.below hb1)
  have k3 := (hb1.cell (p := ⟨R, 3, none⟩) hrl).trans x3
  have k4 := (hb1.cell (p := ⟨R, 4, none⟩) hrl).trans x4
  have k5 := (hb1.cell (p := ⟨R, 5, none⟩) hrl).trans x5
  have k0 := (hb1.cell (p := ⟨R, 0, none⟩) hrl).trans x0
  have k1 := (hb1.cell (p := ⟨R, 1, none⟩) hrl).trans x1
  have k2 := (hb1.cell (p := ⟨R, 2, none⟩) hrl).trans x2
  have k8 := (hb1.cell (p := ⟨R, 8, none⟩) hrl).trans x8
  have hrl1 : R < w1.heap.size := Nat.lt_of_lt_of_le hrl hb1.size
  clear hb1 x0 x1 x2 x3 x4 x5 x8 hrl
  go_wp2_with fail
  refine (HI.out _).mono ?_
  rintro e w2 ⟨rfl, hb2⟩
  have M2 := Lib.hid (M1.out.below hb2)
  have x0 := (hb2.cell (p := ⟨R, 0, none⟩) hrl1).trans k0
  have x1 := (hb2.cell (p := ⟨R, 1, none⟩) hrl1).trans k1
  have x2 := (hb2.cell (p := ⟨R, 2, none⟩) hrl1).trans k2
  have x5 := (hb2.cell (p := ⟨R, 5, none⟩) hrl1).trans k5
  have x8 := (hb2.cell (p := ⟨R, 8, none⟩) hrl1).trans k8
  clear hb2 k0 k1 k2 k3 k4 k5 k8 hrl1
  go_wp2_with fail
  refine (c_rwStore ia 0 M2.out.p (by omega) hib.1 hib.2 (by decide) (by decide) M2.out.e.hi n0 n1).mono ?_
  rintro e w3 ⟨rfl, G3, e3, P3⟩
  have M3 := Lib.hid (M2.out.world hk e3 P3)
  have y0 := M3.out.t.c 0 _ rfl
  have f0 := M3.out.t.f 0
  have M5 := Lib.hid (M3.out.set hk (Nat.le_refl _) (Nat.le_refl _) 0 (.int .i64 0) (by simp [roCs]))
  have y0 : w3.cell? ⟨R, 0, none⟩ = some (.int .i64 3) := y0
  clear e3 P3 x0 x1 x2 x5 x8
  go_wp2_with fail
  go_end0
  obtain ⟨e0, G, E, P, T⟩ := M5.out.rp (v := .tuple #[])
  refine ⟨rfl, G, E, ?_, ⟨T⟩⟩
  have := P
  rw [HEQ.out.1] at this
  exact this
theorem c_rOutStep (o : Otm) (h : RW w O C f s m) (hR : RoAt w O k R p o) (hp : p.ok) (ho : o.ln < 3) (w0 : 0 ≤ o.w) (w1 : o.w < 18446744073709551616) (hk : 10 ≤ k) (hm : m ≤ 900000) (hhi : ∀ j, O j ≠ 0 → j < w.heap.size) (n0 : 0 ≤ s.n) (n1 : s.n ≤ 4611686018427387904) :
    Calls Tryz.prog 149 #[.pointer (some ⟨R, 0, none⟩), .pointer (some ⟨C.p, 0, none⟩)] w (RP (SD k k) w O (.tuple #[]) fun W G => RW W G C f (outStep p s o).1 (m + 1) ∧ RoAt W G k R p (outStep p s o).2) := by
  have h3 : o.ln = 0 ∨ o.ln = 1 ∨ o.ln = 2 := by omega
  rcases h3 with e | e | e
  · exact c_rOut0 o h hR hp e hk hm hhi n0 n1
  · exact c_rOut1 o h hR hp e w0 w1 hk hm hhi n0 n1
  · exact c_rOut2 o h hR hp e hk hm hhi n0 n1
end
end
section
open Go.RowKit Go.Shelf
set_option linter.unusedVariables false

def reCs (z : Evm) (p : Spt) (a u : Option Addr) : List Value := [.int .i64 z.ln, .int .i64 z.ref, .int .i64 p.b, .int .i64 p.q, .int .i64 p.s, .int .u64 z.t, .int .u64 z.h, .int .i64 z.n, .int .u64 z.mw, .pointer a, .pointer u]
structure ReAt (W : World) (G : Om) (k R : Nat) (z : Evm) : Prop where
  ex : ∃ (p : Spt) (a u : Option Addr), Ob W G k R (reCs z p a u) ∧ (5 ≤ z.ln ∧ z.ln ≤ 10 → p = evSpot z ∧ z.ref ≠ 0) ∧ (z.ln = 11 ∨ z.ln = 12 ∨ z.ln = 0 → p = if z.ref = 0 then ⟨0, 0, 0⟩ else evSpot z) ∧ (z.ln = 7 ∨ z.ln = 9 → ∃ Y, a = some ⟨Y, 0, none⟩ ∧ RmAt W G (k + 1) Y [(evSpot z).ver]) ∧ (z.ln = 8 → ∃ Y, u = some ⟨Y, 0, none⟩ ∧ RoAt W G (k + 3) Y (evSpot z) z.o) ∧ (1 ≤ z.ln ∧ z.ln ≤ 3 → z.n = 0) ∧ (z.ln = 7 → z.o.ln = 0 ∧ z.o.w = 0)
theorem ReAt.ext {S : Nat → Prop} {O O' : Om} {w w' : World} {k R : Nat} {z : Evm} (h : ReAt w O k R z) (e : Ext S O w O' w') (h0 : ¬ S k) (h1 : ¬ S (k + 1)) (h2 : ¬ S (k + 2)) (h3 : ¬ S (k + 3)) : ReAt w' O' k R z := by
  obtain ⟨p, a, u, x, c1, c2, c3, c4, c5⟩ := h.ex
  refine ⟨p, a, u, x.ext e h0, c1, c2, fun g => ?_, fun g => ?_, c5⟩
  · obtain ⟨Y, g1, g2⟩ := c3 g; exact ⟨Y, g1, g2.ext e h1 h2⟩
  · obtain ⟨Y, g1, g2⟩ := c4 g; exact ⟨Y, g1, g2.ext e h3⟩
theorem ReAt.below {O : Om} {w w' : World} {k R : Nat} {z : Evm} (h : ReAt w O k R z) (hb : Below w.heap.size w w') : ReAt w' O k R z := by
  obtain ⟨p, a, u, x, c1, c2, c3, c4, c5⟩ := h.ex
  refine ⟨p, a, u, x.below hb, c1, c2, fun g => ?_, fun g => ?_, c5⟩
  · obtain ⟨Y, g1, g2⟩ := c3 g; exact ⟨Y, g1, g2.below hb⟩
  · obtain ⟨Y, g1, g2⟩ := c4 g; exact ⟨Y, g1, g2.below hb⟩
theorem ReAt.simple {W : World} {G : Om} {k R : Nat} {z : Evm} (p : Spt) (a u : Option Addr) (x : Ob W G k R (reCs z p a u)) (c1 : 5 ≤ z.ln ∧ z.ln ≤ 10 → p = evSpot z ∧ z.ref ≠ 0) (c2 : z.ln = 11 ∨ z.ln = 12 ∨ z.ln = 0 → p = if z.ref = 0 then ⟨0, 0, 0⟩ else evSpot z) (c3 : z.ln ≠ 7 ∧ z.ln ≠ 8 ∧ z.ln ≠ 9) (c5 : 1 ≤ z.ln ∧ z.ln ≤ 3 → z.n = 0) : ReAt W G k R z :=
  ⟨p, a, u, x, c1, c2, fun g => by omega, fun g => by omega, c5, fun g => by omega⟩
theorem RW.up {w : World} {O : Om} {C : Wb} {f : Cf} {s : AW} {m m' : Nat} (h : RW w O C f s m) (hm : m ≤ m') : RW w O C f s m' := by
  obtain ⟨v, L, h1, h2, h3, h4, h5, h6, h7⟩ := h.ce.ex
  exact ⟨h.o, h.wo, ⟨v, L, h1, h2, h3, Nat.le_trans h4 hm, h5, h6, h7⟩, h.ar, h.no⟩
theorem Md.oth {a b k T m : Nat} {cs : List Value} {O O0 O1 : Om} {w w1 w0 : World} {B : Wb} {f : Cf} {s : AW} {S : Nat → Prop} (h : Md a b w0 O0 w O B f s m k T cs) (hk : 10 ≤ k) (e : Ext S O w O1 w1) (hS : ∀ t, S t → 10 ≤ t ∧ a ≤ t ∧ t ≤ b ∧ t ≠ k) : Md a b w0 O0 w1 O1 B f s m k T cs :=
  ⟨h.e.trans (e.mono fun t _ ht => .inr ⟨(hS t ht).2.1, (hS t ht).2.2.1⟩), h.p.ext e (fun g => by have := hS _ g; omega) (fun g => by have := hS _ g; omega) (fun g => by have := hS _ g; omega) (fun g => by have := hS _ g; omega), h.t.ext e fun g => (hS _ g).2.2.2 rfl⟩
def REPost (w : World) (O : Om) (C : Wb) (f : Cf) (k R m : Nat) (r : AW × Evm) : Ending → World → Prop :=
  RP (SD k (k + 3)) w O (.tuple #[]) fun W G => RW W G C f r.1 (m + 1) ∧ ReAt W G k R r.2
theorem c_rRef (r : Int) (w : World) (r0 : -9223372036854775808 ≤ r) (r1 : r ≤ 9223372036854775807) :
    Calls Tryz.prog 90 #[.int .i64 r] w fun e w' => e = .returned (.int .u64 (plRef r)) ∧ w = w' := by
  unfold plRef
  by_cases h : r < 1
  · have d : decide (r < 1) = true := by simp; omega
    rw [if_pos h]
    go_enter Tryz.func90, Tryz.ntmps90
    go_wp2
    go_ret
    exact ⟨rfl, rfl⟩
  · have d : decide (r < 1) = false := by simp; omega
    rw [if_neg h]
    go_enter Tryz.func90, Tryz.ntmps90
    go_wp2
    go_ret
    exact ⟨ret_int (by rw [IntKind.wrap_u64]; unfold wrap64; omega), rfl⟩
section
variable {R : Nat} {w : World} {O : Om} {C : Wb} {f : Cf} {s : AW} {m k : Nat}
theorem c_reMany (t : Int) (x : w.cell? ⟨R, 5, none⟩ = some (.int .u64 t)) (t0 : 0 ≤ t) (t1 : t < 18446744073709551616) :
    Calls Tryz.prog 165 #[.pointer (some ⟨R, 0, none⟩)] w fun e w' => e = .returned (.int .i64 (plSpots t)) ∧ w = w' := by
  have HS := Lib.hid (fun W => c_rSpots t W t0 t1)
  go_enter Tryz.func165, Tryz.ntmps165
  go_wp2_with fail
  refine (HS.out _).mono ?_
  rintro e w' ⟨rfl, rfl⟩
  go_wp2_with fail
  go_ret
  exact ⟨rfl, rfl⟩
set_option maxHeartbeats 4000000 in
set_option maxRecDepth 100000 in
theorem c_reNext (z : Evm) (p : Spt) (a u : Option Addr) (hx : Ob w O k R (reCs z p a u)) (t0 : 0 ≤ z.t) (t1 : z.t < 18446744073709551616) (m0 : 0 ≤ z.n) (m1 : z.n ≤ 65536) (hk : 10 ≤ k) (hhi : ∀ j, O j ≠ 0 → j < w.heap.size) :
    Calls Tryz.prog 167 #[.pointer (some ⟨R, 0, none⟩)] w (RP (fun t => t = k) w O (.tuple #[]) fun W G => ∃ p2, Ob W G k R (reCs (evNext z) p2 a u) ∧ ((evNext z).ln = 11 → p2 = ⟨0, 0, 0⟩)) := by
  obtain ⟨Z, hZ⟩ : ∃ Z, Z = evNext z := ⟨_, rfl⟩
  rw [← hZ]
  obtain ⟨ln, t, h, n, ref, mk, o⟩ := z
  unfold evNext at hZ
  dsimp only at t0 t1 m0 m1 hZ ⊢
  have hsp := plSpots_bd t
  have x7 := hx.c 7 _ rfl
  have f7 := hx.f 7
  have f0 := hx.f 0
  have x0 := hx.c 0 _ rfl
  dsimp only at x7 x0
  have E1 := ext_set (j := 7) (v := .int .i64 (n + 1)) hhi hx hk
  have X1 := hx.set 7 (.int .i64 (n + 1)) (by simp [reCs])
  have E2 := ext_set (j := 0) (v := .int .i64 4) E1.hi X1 hk
  have X2 := Lib.hid (X1.set 0 (.int .i64 4) (by simp [reCs]))
  have EE := Lib.hid (E1.trans E2)
  have hw1 : wrap64 (n + 1) = n + 1 := by unfold wrap64; omega
  have hw2 : IntKind.i64.wrap (n + 1) = n + 1 := by simp [IntKind.wrap, IntKind.bits, IntKind.signed]; omega
  obtain ⟨N, hN⟩ : ∃ N, N = plSpots t := ⟨_, rfl⟩
  rw [← hN] at hsp hZ
  have HZ := Lib.hid hZ
  have hw3 : wrap64 (2 * N) = 2 * N := by unfold wrap64; omega
  have hw4 : IntKind.i64.wrap (2 * N) = 2 * N := by simp [IntKind.wrap, IntKind.bits, IntKind.signed]; omega
  have HT := Lib.hid (And.intro t0 (And.intro t1 hN))
  clear hx hhi E1 X1 E2 t0 t1 m0 m1 hN hsp hZ
  go_enter Tryz.func167, Tryz.ntmps167
  go_upto_region 2 with fail
  obtain ⟨w2, hw⟩ : ∃ w2, w2 = (w.setCell ⟨R, 7, none⟩ (.int .i64 (n + 1))).setCell ⟨R, 0, none⟩ (.int .i64 4) := ⟨_, rfl⟩
  rw [← hw] at X2 EE ⊢
  clear hw x7 f7 f0 x0
  have y7 := X2.out.c 7 _ rfl
  have y5 := X2.out.c 5 _ rfl
  have HS := Lib.hid (fun n => c_reMany (R := R) (w := w2.drewN n) t ((X2.out.below (w' := w2.drewN n) ⟨rfl, rfl, rfl, Nat.le_refl _, fun _ _ => rfl⟩).c 5 _ rfl) HT.out.1 HT.out.2.1)
  rw [← HT.out.2.2] at HS
  by_cases he : n + 1 = 2 * N
  · have de : (n + 1 == 2 * N) = true := by simp [he]
    have HE := Lib.hid he
    clear he
    go_quiet ((go_at_call 165; exact quietS (HS.out _)))
    have X3 := Lib.hid (X2.out.below (w' := w2.drewN nq) ⟨rfl, rfl, rfl, Nat.le_refl _, fun _ _ => rfl⟩)
    have E3 := Lib.hid (EE.out.below (show Below w2.heap.size w2 (w2.drewN nq) from ⟨rfl, rfl, rfl, Nat.le_refl _, fun _ _ => rfl⟩))
    obtain ⟨w3, hw⟩ : ∃ w3, w3 = w2.drewN nq := ⟨_, rfl⟩
    rw [← hw] at X3 E3 ⊢
    clear hw y7 y5
    have y0 := X3.out.c 0 _ rfl
    have f0 := X3.out.f 0
    have y1 := X3.out.c 1 _ rfl
    have f1 := X3.out.f 1
    have y2 := X3.out.c 2 _ rfl
    have f2 := X3.out.f 2
    have y3 := X3.out.c 3 _ rfl
    have f3 := X3.out.f 3
    have y4 := X3.out.c 4 _ rfl
    have f4 := X3.out.f 4
    have A1 := X3.out.set 0 (.int .i64 11) (by simp [reCs])
    have F1 := ext_set (j := 0) (v := .int .i64 11) E3.out.hi X3.out hk
    have A2 := A1.set 1 (.int .i64 0) (by simp [reCs])
    have F2 := ext_set (j := 1) (v := .int .i64 0) F1.hi A1 hk
    have A3 := A2.set 2 (.int .i64 0) (by simp [reCs])
    have F3 := ext_set (j := 2) (v := .int .i64 0) F2.hi A2 hk
    have A4 := A3.set 3 (.int .i64 0) (by simp [reCs])
    have F4 := ext_set (j := 3) (v := .int .i64 0) F3.hi A3 hk
    have A5 := Lib.hid (A4.set 4 (.int .i64 0) (by simp [reCs]))
    have F5 := Lib.hid (((((E3.out.trans F1).trans F2).trans F3).trans F4).trans (ext_set (j := 4) (v := .int .i64 0) F4.hi A4 hk))
    clear A1 F1 A2 F2 A3 F3 A4 F4
    go_wp2_with fail
    go_end0
    have hZ := HZ.out
    rw [if_pos HE.out] at hZ
    rw [hZ]
    exact ⟨rfl, _, F5.out, ⟨0, 0, 0⟩, A5.out, fun _ => rfl⟩
  · have de : (n + 1 == 2 * N) = false := by simp [he]
    have HE := Lib.hid he
    clear he
    go_quiet ((go_at_call 165; exact quietS (HS.out _)))
    have X3 := Lib.hid (X2.out.below (w' := w2.drewN nq) ⟨rfl, rfl, rfl, Nat.le_refl _, fun _ _ => rfl⟩)
    have E3 := Lib.hid (EE.out.below (show Below w2.heap.size w2 (w2.drewN nq) from ⟨rfl, rfl, rfl, Nat.le_refl _, fun _ _ => rfl⟩))
    clear y7 y5
    go_wp2_with fail
    go_end0
    have hZ := HZ.out
    rw [if_neg HE.out] at hZ
    rw [hZ]
    exact ⟨rfl, _, E3.out, p, X3.out, fun g => absurd (show (4 : Int) = 11 from g) (by decide)⟩
end
end
section
open Go.RowKit Go.Shelf
set_option linter.unusedVariables false

theorem ReAt.next {W : World} {G : Om} {k R : Nat} (z : Evm) (p : Spt) (a u : Option Addr) (x : Ob W G k R (reCs (evNext z) p a u)) (hp : (evNext z).ln = 11 → p = ⟨0, 0, 0⟩) : ReAt W G k R (evNext z) := by
  by_cases hc : z.n + 1 = 2 * plSpots z.t
  · have e : evNext z = ⟨11, z.t, z.h, z.n + 1, 0, z.mw, z.o⟩ := by unfold evNext; rw [if_pos hc]
    rw [e] at x hp ⊢
    exact ReAt.simple p a u x (fun g => absurd g (by dsimp only; omega)) (fun _ => by rw [if_pos rfl]; exact hp rfl) (by dsimp only; omega) (fun g => absurd g (by dsimp only; omega))
  · have e : evNext z = ⟨4, z.t, z.h, z.n + 1, z.ref, z.mw, z.o⟩ := by unfold evNext; rw [if_neg hc]
    rw [e] at x hp ⊢
    exact ReAt.simple p a u x (fun g => absurd g (by dsimp only; omega)) (fun g => absurd g (by dsimp only; omega)) (by dsimp only; omega) (fun g => absurd g (by dsimp only; omega))
section
variable {R : Nat} {w : World} {O : Om} {C : Wb} {f : Cf} {s : AW} {m k : Nat}
set_option maxHeartbeats 4000000 in
set_option maxRecDepth 100000 in
theorem c_re1 {z : Evm} (hW : RW w O C f s m) (hX : ReAt w O k R z) (hz : EvOk z) (hl : z.ln = 1) (hk : 10 ≤ k) (hm : m ≤ 900000) (hhi : ∀ j, O j ≠ 0 → j < w.heap.size) (n0 : 0 ≤ s.n) (n1 : s.n ≤ 4611686018427387904) :
    Calls Tryz.prog 87 #[.pointer (some ⟨R, 0, none⟩), .pointer (some ⟨C.p, 0, none⟩)] w (REPost w O C f k R m (evStep (s, z))) := by
  obtain ⟨r, hr⟩ : ∃ r, r = evStep (s, z) := ⟨_, rfl⟩
  rw [← hr]
  rw [evStep_1 s z hl] at hr
  obtain ⟨ln, t, h, n, ref, mk, o⟩ := z
  dsimp only at hl
  subst hl
  obtain ⟨p, a, u, hx, c1, c2, c3, c4, c5, c6⟩ := hX.ex
  dsimp only at c1 c2 c3 c4 c5 c6 hr
  have HM : Hid (Md k (k + 3) w O w O C f s m k R (reCs ⟨1, t, h, n, ref, mk, o⟩ p a u)) := Lib.hid (Md.start hhi hW hx)
  have x0 := hx.c 0 _ rfl
  dsimp only at x0
  unfold REPost
  have HR := Lib.hid hr

  have hn := c5 ⟨by decide, by decide⟩
  clear hW hX hx hhi c1 c2 c3 c4 c5 c6 hr hz
  go_enter Tryz.func87, Tryz.ntmps87
  go_wp2_with fail
  refine (c_rwStore 5 1 HM.out.p (by omega) (by decide) (by decide) (by decide) (by decide) HM.out.e.hi n0 n1).mono ?_
  rintro e w2 ⟨rfl, G2, e2, P2⟩
  have M2 := Lib.hid (HM.out.world hk e2 P2)

  have y0 := M2.out.t.c 0 _ rfl
  have f0 := M2.out.t.f 0
  have M3 := Lib.hid (M2.out.set hk (Nat.le_refl _) (by omega) 0 (.int .i64 2) (by simp [reCs]))

  clear e2 P2 x0
  go_wp2_with fail
  go_end0
  rw [HR.out]
  exact ⟨rfl, _, M3.out.e, M3.out.p, ReAt.simple p a u M3.out.t (fun g => absurd g (by dsimp only; omega)) (fun g => absurd g (by dsimp only; omega)) (by dsimp only; omega) (fun _ => hn)⟩
set_option maxHeartbeats 4000000 in
set_option maxRecDepth 100000 in
theorem c_re2 {z : Evm} (hW : RW w O C f s m) (hX : ReAt w O k R z) (hz : EvOk z) (hl : z.ln = 2) (hk : 10 ≤ k) (hm : m ≤ 900000) (hhi : ∀ j, O j ≠ 0 → j < w.heap.size) (n0 : 0 ≤ s.n) (n1 : s.n ≤ 4611686018427387904) :
    Calls Tryz.prog 87 #[.pointer (some ⟨R, 0, none⟩), .pointer (some ⟨C.p, 0, none⟩)] w (REPost w O C f k R m (evStep (s, z))) := by
  obtain ⟨r, hr⟩ : ∃ r, r = evStep (s, z) := ⟨_, rfl⟩
  rw [← hr]
  rw [evStep_2 s z hl] at hr
  obtain ⟨ln, t, h, n, ref, mk, o⟩ := z
  dsimp only at hl
  subst hl
  obtain ⟨p, a, u, hx, c1, c2, c3, c4, c5, c6⟩ := hX.ex
  dsimp only at c1 c2 c3 c4 c5 c6 hr
  have HM : Hid (Md k (k + 3) w O w O C f s m k R (reCs ⟨2, t, h, n, ref, mk, o⟩ p a u)) := Lib.hid (Md.start hhi hW hx)
  have x0 := hx.c 0 _ rfl
  dsimp only at x0
  unfold REPost
  have HR := Lib.hid hr

  have hn := c5 ⟨by decide, by decide⟩
  clear hW hX hx hhi c1 c2 c3 c4 c5 c6 hr hz
  go_enter Tryz.func87, Tryz.ntmps87
  go_wp2_with fail
  refine (c_rwLoad 2 HM.out.p (by omega) (by decide) (by decide) HM.out.e.hi n0 n1).mono ?_
  rintro e w2 ⟨rfl, G2, e2, P2⟩
  have M2 := Lib.hid (HM.out.world hk e2 P2)
  have y5 := M2.out.t.c 5 _ rfl
  have f5 := M2.out.t.f 5
  have M3 := Lib.hid (M2.out.set hk (Nat.le_refl _) (by omega) 5 (.int .u64 (s.M 2)) (by simp [reCs]))

  have y0 := M3.out.t.c 0 _ rfl
  have f0 := M3.out.t.f 0
  have M4 := Lib.hid (M3.out.set hk (Nat.le_refl _) (by omega) 0 (.int .i64 3) (by simp [reCs]))

  clear e2 P2 x0
  go_wp2_with fail
  go_end0
  rw [HR.out]
  exact ⟨rfl, _, M4.out.e, M4.out.p, ReAt.simple p a u M4.out.t (fun g => absurd g (by dsimp only; omega)) (fun g => absurd g (by dsimp only; omega)) (by dsimp only; omega) (fun _ => hn)⟩
set_option maxHeartbeats 4000000 in
set_option maxRecDepth 100000 in
theorem c_re3 {z : Evm} (hW : RW w O C f s m) (hX : ReAt w O k R z) (hz : EvOk z) (hl : z.ln = 3) (hk : 10 ≤ k) (hm : m ≤ 900000) (hhi : ∀ j, O j ≠ 0 → j < w.heap.size) (n0 : 0 ≤ s.n) (n1 : s.n ≤ 4611686018427387904) :
    Calls Tryz.prog 87 #[.pointer (some ⟨R, 0, none⟩), .pointer (some ⟨C.p, 0, none⟩)] w (REPost w O C f k R m (evStep (s, z))) := by
  obtain ⟨r, hr⟩ : ∃ r, r = evStep (s, z) := ⟨_, rfl⟩
  rw [← hr]
  rw [evStep_3 s z hl] at hr
  obtain ⟨ln, t, h, n, ref, mk, o⟩ := z
  dsimp only at hl
  subst hl
  obtain ⟨p, a, u, hx, c1, c2, c3, c4, c5, c6⟩ := hX.ex
  dsimp only at c1 c2 c3 c4 c5 c6 hr
  have HM : Hid (Md k (k + 3) w O w O C f s m k R (reCs ⟨3, t, h, n, ref, mk, o⟩ p a u)) := Lib.hid (Md.start hhi hW hx)
  have x0 := hx.c 0 _ rfl
  dsimp only at x0
  unfold REPost
  have HR := Lib.hid hr

  have hn : n = 0 := c5 ⟨by decide, by decide⟩
  have hbd := hW.bd 4
  have h40 := hbd.1
  have t0 := hz.t0
  have t1 := hz.t1
  dsimp only at t0 t1
  have hsp := plSpots_bd t
  have HS := Lib.hid (fun (W : World) (g : W.cell? ⟨R, 5, none⟩ = some (.int .u64 t)) => c_reMany t g t0 t1)
  obtain ⟨N, hN⟩ : ∃ N, N = plSpots t := ⟨_, rfl⟩
  rw [← hN] at HS HR hsp
  have dz : (N == 0) = false := by rw [beq_eq_false_iff_ne]; omega
  have dz2 : ¬ N = 0 := by omega
  have dz3 : 0 < N := by omega
  have wa : IntKind.u64.wrap N = N := by rw [IntKind.wrap_u64]; omega
  have wc : IntKind.u64.wrap (s.M 4 % N) = s.M 4 % N := by
    have := Int.emod_nonneg (s.M 4) (show N ≠ 0 by omega)
    have := Int.emod_lt_of_pos (s.M 4) (show 0 < N by omega)
    rw [IntKind.wrap_u64]; omega
  have htm : (s.M 4).tmod N = s.M 4 % N := Int.tmod_eq_emod_of_nonneg h40
  clear hW hX hx hhi c1 c2 c3 c4 c5 c6 hr hz hN t0 t1
  go_enter Tryz.func87, Tryz.ntmps87
  go_wp2_with fail
  refine (c_rwLoad 4 HM.out.p (by omega) (by decide) (by decide) HM.out.e.hi n0 n1).mono ?_
  rintro e w2 ⟨rfl, G2, e2, P2⟩
  have M2 := Lib.hid (HM.out.world hk e2 P2)
  have y5 := M2.out.t.c 5 _ rfl
  have y6 := M2.out.t.c 6 _ rfl
  have f6 := M2.out.t.f 6
  have M3 := Lib.hid (M2.out.set hk (Nat.le_refl _) (by omega) 6 (.int .u64 (s.M 4 % N)) (by simp [reCs]))
  clear e2 P2 x0
  go_wp2_with fail
  refine (HS.out _ y5).mono ?_
  rintro e w' ⟨rfl, rfl⟩

  have y0 := M3.out.t.c 0 _ rfl
  have f0 := M3.out.t.f 0
  have M4 := Lib.hid (M3.out.set hk (Nat.le_refl _) (by omega) 0 (.int .i64 4) (by simp [reCs]))

  go_wp2_with fail
  go_end0
  subst hn
  rw [HR.out]
  exact ⟨rfl, _, M4.out.e, M4.out.p, ReAt.simple p a u M4.out.t (fun g => absurd g (by dsimp only; omega)) (fun g => absurd g (by dsimp only; omega)) (by dsimp only; omega) (fun g => absurd g (by dsimp only; omega))⟩
set_option maxHeartbeats 4000000 in
set_option maxRecDepth 100000 in
theorem c_re4 {z : Evm} (hW : RW w O C f s m) (hX : ReAt w O k R z) (hz : EvOk z) (hl : z.ln = 4) (hk : 10 ≤ k) (hm : m ≤ 900000) (hhi : ∀ j, O j ≠ 0 → j < w.heap.size) (n0 : 0 ≤ s.n) (n1 : s.n ≤ 4611686018427387904) :
    Calls Tryz.prog 87 #[.pointer (some ⟨R, 0, none⟩), .pointer (some ⟨C.p, 0, none⟩)] w (REPost w O C f k R m (evStep (s, z))) := by
  obtain ⟨r, hr⟩ : ∃ r, r = evStep (s, z) := ⟨_, rfl⟩
  rw [← hr]
  rw [evStep_4 s z hl] at hr
  obtain ⟨ln, t, h, n, ref, mk, o⟩ := z
  dsimp only at hl
  subst hl
  obtain ⟨p, a, u, hx, c1, c2, c3, c4, c5, c6⟩ := hX.ex
  dsimp only at c1 c2 c3 c4 c5 c6 hr
  have HM : Hid (Md k (k + 3) w O w O C f s m k R (reCs ⟨4, t, h, n, ref, mk, o⟩ p a u)) := Lib.hid (Md.start hhi hW hx)
  have x0 := hx.c 0 _ rfl
  dsimp only at x0
  unfold REPost
  have hrr : r = (awLoad (evSpot ⟨4, t, h, n, ref, mk, o⟩).item s, if evRef s ⟨4, t, h, n, ref, mk, o⟩ = 0 then evNext ⟨4, t, h, n, 0, mk, o⟩ else ⟨5, t, h, n, evRef s ⟨4, t, h, n, ref, mk, o⟩, mk, o⟩) := hr
  clear hr
  have hr := hrr
  clear hrr

  obtain ⟨l0, l1, t0, t1, h0, h1, m0, m1, m2, r0, r1, k0, k1, w0, w1, o8⟩ := hz
  dsimp only at t0 t1 h0 h1 m0 m1 m2 r0 r1 k0 k1
  have h1 := h1 (.inl (by decide))
  have HT := Lib.hid (And.intro t0 (And.intro t1 (And.intro m0 m1)))
  obtain ⟨v, hv⟩ : ∃ v, v = plAt t (h + n) := ⟨_, rfl⟩
  have hvo : v.ok := by rw [hv]; exact plAt_ok _ _
  have HV := Lib.hid (And.intro hv hvo)

  have hw0 : IntKind.i64.wrap h = h := by simp [IntKind.wrap, IntKind.bits, IntKind.signed]; omega
  have hw1 : wrap64 (h + n) = h + n := by unfold wrap64; omega
  have hw2 : IntKind.i64.wrap (h + n) = h + n := by simp [IntKind.wrap, IntKind.bits, IntKind.signed]; omega
  have hw3 : wrap64 h = h := by unfold wrap64; omega
  have HA : Hid (∀ W, Calls Tryz.prog 166 #[.int .u64 t, .int .i64 (h + n)] W fun e w' => e = .returned (.agg #[.int .i64 v.b, .int .i64 v.q, .int .i64 v.s]) ∧ Below W.heap.size W w') := Lib.hid (by rw [hv]; exact fun W => c_rPlAt t (h + n) W t0 t1 (by omega) (by omega))
  have hit := hvo.item
  have hq2 := hvo.q2
  have HI := Lib.hid (fun W => c_rItem v.b v.q v.s W (by have := hvo.b0; omega) (by have := hvo.b1; omega) (by have := hvo.q0; omega) (by omega) (by have := hvo.s0; omega) (by have := hvo.s1; omega))
  obtain ⟨ia, hia⟩ : ∃ ia, ia = v.item := ⟨_, rfl⟩
  have hia2 : plItem v.b v.q v.s = ia := hia.symm
  rw [hia2] at HI
  rw [← hia] at hit
  have es : (evSpot ⟨4, t, h, n, ref, mk, o⟩).item = ia := by rw [hia, hv]; rfl
  have er : evRef s ⟨4, t, h, n, ref, mk, o⟩ = wrap64 (s.M ia) := by unfold evRef; rw [es]
  rw [es, er] at hr
  obtain ⟨r', hr'⟩ : ∃ r, r = wrap64 (s.M ia) := ⟨_, rfl⟩
  rw [← hr'] at hr
  have hr1 : wrap64 (s.M ia) = r' := hr'.symm
  have hr2 : IntKind.i64.wrap (s.M ia) = r' := by rw [hr']; unfold wrap64; simp [IntKind.wrap, IntKind.bits, IntKind.signed]; omega
  have hia0 : 0 ≤ ia ∧ ia < 18446744073709551616 := by omega
  have HR := Lib.hid hr
  obtain ⟨vb, hvb⟩ : ∃ z, z = v.b := ⟨_, rfl⟩
  obtain ⟨vq, hvq⟩ : ∃ z, z = v.q := ⟨_, rfl⟩
  obtain ⟨vs, hvs⟩ : ∃ z, z = v.s := ⟨_, rfl⟩
  rw [← hvb, ← hvq, ← hvs] at HI HA
  have HB := Lib.hid (And.intro hvb (And.intro hvq hvs))
  have x5 := hx.c 5 _ rfl
  have x6 := hx.c 6 _ rfl
  have x7 := hx.c 7 _ rfl
  dsimp only at x5 x6 x7
  clear hr' hia hia2 es er hit hq2 hvb hvq hvs
  clear hW hX hx hhi c1 c2 c3 c4 c5 c6 hr hvo hv l0 l1 t0 t1 h0 h1 m0 m1 m2 r0 r1 k0 k1 w0 w1 o8
  go_enter Tryz.func87, Tryz.ntmps87
  go_wp2_with fail
  go_region_held3 (fun w' => w'.cell? ⟨R, 5, none⟩ = some (.int .u64 t) ∧ w'.cell? ⟨R, 6, none⟩ = some (.int .u64 h) ∧ w'.cell? ⟨R, 7, none⟩ = some (.int .i64 n)) (go_keep)
    ((go_at_call 166
      refine (HA.out _).mono ?_
      rintro e w1 ⟨rfl, hb1⟩
      have M1 := Lib.hid (HM.out.drew.below hb1)
      have y5 := M1.out.t.c 5 _ rfl
      have y6 := M1.out.t.c 6 _ rfl
      have y7 := M1.out.t.c 7 _ rfl
      have y2 := M1.out.t.c 2 _ rfl
      have y3 := M1.out.t.c 3 _ rfl
      have y4 := M1.out.t.c 4 _ rfl
      have f2 := M1.out.t.f 2
      have f3 := M1.out.t.f 3
      have f4 := M1.out.t.f 4
      have A1 := M1.out.set hk (Nat.le_refl _) (by omega) 2 (.int .i64 vb) (by simp [reCs])
      have A2 := A1.set hk (Nat.le_refl _) (by omega) 3 (.int .i64 vq) (by simp [reCs])
      have M2 := Lib.hid (A2.set hk (Nat.le_refl _) (by omega) 4 (.int .i64 vs) (by simp [reCs]))
      have z5 := M2.out.t.c 5 _ rfl
      have z6 := M2.out.t.c 6 _ rfl
      have z7 := M2.out.t.c 7 _ rfl
      clear hb1 A1 A2))
  all_goals
    clear x5 x6 x7
    go_upto_region 13 with fail
    obtain ⟨w2, hw2'⟩ : ∃ w2, w2 = ((w1.setCell ⟨R, 2, none⟩ (.int .i64 vb)).setCell ⟨R, 3, none⟩ (.int .i64 vq)).setCell ⟨R, 4, none⟩ (.int .i64 vs) := ⟨_, rfl⟩
    rw [← hw2'] at M2 ⊢
    clear z5 z6 z7 hw2' y5 y6 y7 y2 y3 y4 f2 f3 f4 x0 M1
    have y2 := M2.out.t.c 2 _ rfl
    have y3 := M2.out.t.c 3 _ rfl
    have y4 := M2.out.t.c 4 _ rfl
    go_wp2_with fail
    refine (HI.out _).mono ?_
    rintro e w3 ⟨rfl, hb3⟩
    have M3 := Lib.hid (M2.out.below hb3)
    clear hb3 y2 y3 y4
    go_wp2_with fail
    refine (c_rwLoad ia M3.out.p (by omega) hia0.1 hia0.2 M3.out.e.hi n0 n1).mono ?_
    rintro e w4 ⟨rfl, G4, e4, P4⟩
    have M4 := Lib.hid (M3.out.world hk e4 P4)
    have y1 := M4.out.t.c 1 _ rfl
    have f1 := M4.out.t.f 1
    have M5 := Lib.hid (M4.out.set hk (Nat.le_refl _) (by omega) 1 (.int .i64 r') (by simp [reCs]))
    have y0 := M5.out.t.c 0 _ rfl
    have f0 := M5.out.t.f 0
    have M6 := Lib.hid (M5.out.set hk (Nat.le_refl _) (by omega) 0 (.int .i64 5) (by simp [reCs]))

    clear e4 P4
    go_upto_region 15 with fail
    obtain ⟨w6, hw6⟩ : ∃ w6, w6 = (w4.setCell ⟨R, 1, none⟩ (.int .i64 r')).setCell ⟨R, 0, none⟩ (.int .i64 5) := ⟨_, rfl⟩
    rw [← hw6] at M6 ⊢
    clear y1 f1 y0 f0 hw6 hr1 hr2
    have y1 := M6.out.t.c 1 _ rfl
    have hvE : v = ⟨vb, vq, vs⟩ := by rw [HB.out.1, HB.out.2.1, HB.out.2.2]
    have HVE := Lib.hid hvE
    clear hvE
    by_cases hr0 : r' = 0
    · subst hr0
      go_wp2_with fail
      refine (c_reNext ⟨5, t, h, n, 0, mk, o⟩ ⟨vb, vq, vs⟩ a u M6.out.t HT.out.1 HT.out.2.1 HT.out.2.2.1 HT.out.2.2.2 hk M6.out.e.hi).mono ?_
      rintro e w9 ⟨rfl, G9, e9, p9, x9, hp9⟩
      have P9 := M6.out.p.ext e9 (by omega) (by omega) (by omega) (by omega)
      have E9 := M6.out.e.trans (e9.mono (T := SD k (k + 3)) fun t _ ht => .inr (by omega))
      have HE := Lib.hid (And.intro P9 (And.intro E9 (And.intro x9 hp9)))
      clear P9 E9 x9 hp9 e9
      go_wp2_with fail
      go_end0
      rw [HR.out]

      exact ⟨rfl, _, HE.out.2.1, HE.out.1, ReAt.next ⟨4, t, h, n, 0, mk, o⟩ p9 a u HE.out.2.2.1 HE.out.2.2.2⟩
    · have dr : (r' == 0) = false := by simp [hr0]
      have HR0 := Lib.hid hr0
      clear hr0
      go_wp2_with fail
      go_end0
      have hR := HR.out
      rw [if_neg HR0.out] at hR
      rw [hR]
      exact ⟨rfl, _, M6.out.e, M6.out.p, ReAt.simple ⟨vb, vq, vs⟩ a u M6.out.t (fun _ => ⟨by rw [← HVE.out]; exact HV.out.1, HR0.out⟩) (fun g => absurd g (by dsimp only; omega)) (by dsimp only; omega) (fun g => absurd g (by dsimp only; omega))⟩
set_option maxHeartbeats 4000000 in
set_option maxRecDepth 100000 in
theorem c_re5 {z : Evm} (hW : RW w O C f s m) (hX : ReAt w O k R z) (hz : EvOk z) (hl : z.ln = 5) (hk : 10 ≤ k) (hm : m ≤ 900000) (hhi : ∀ j, O j ≠ 0 → j < w.heap.size) (n0 : 0 ≤ s.n) (n1 : s.n ≤ 4611686018427387904) :
    Calls Tryz.prog 87 #[.pointer (some ⟨R, 0, none⟩), .pointer (some ⟨C.p, 0, none⟩)] w (REPost w O C f k R m (evStep (s, z))) := by
  obtain ⟨r, hr⟩ : ∃ r, r = evStep (s, z) := ⟨_, rfl⟩
  rw [← hr]
  rw [evStep_5 s z hl] at hr
  obtain ⟨ln, t, h, n, ref, mk, o⟩ := z
  dsimp only at hl
  subst hl
  obtain ⟨p, a, u, hx, c1, c2, c3, c4, c5, c6⟩ := hX.ex
  dsimp only at c1 c2 c3 c4 c5 c6 hr
  have HM : Hid (Md k (k + 3) w O w O C f s m k R (reCs ⟨5, t, h, n, ref, mk, o⟩ p a u)) := Lib.hid (Md.start hhi hW hx)
  have x0 := hx.c 0 _ rfl
  dsimp only at x0
  unfold REPost
  have hp : p = plAt t (h + n) := (c1 ⟨by decide, by decide⟩).1
  have hr00 := (c1 ⟨by decide, by decide⟩).2
  have H00 := Lib.hid hr00
  have hpo : p.ok := by rw [hp]; exact plAt_ok _ _
  obtain ⟨l0, l1, t0, t1, h0, h1, m0, m1, m2, r0, r1, k0, k1, w0, w1, o8⟩ := hz
  dsimp only at t0 t1 h0 h1 m0 m1 m2 r0 r1 k0 k1 w0 w1
  have h1 := h1 (.inl (by decide))
  have HT := Lib.hid (And.intro t0 (And.intro t1 (And.intro m0 m1)))
  have HP := Lib.hid (And.intro hp hpo)

  have hrf : 0 ≤ plRef ref ∧ plRef ref < 18446744073709551616 := by unfold plRef; split <;> omega
  have HRf := Lib.hid (fun W => c_rRef ref W r0 r1)
  obtain ⟨ra, hra⟩ : ∃ ra, ra = plRef ref := ⟨_, rfl⟩
  rw [← hra] at hrf HRf hr
  have hmb := hW.bd ra
  obtain ⟨mv, hmv⟩ : ∃ mv, mv = s.M ra := ⟨_, rfl⟩
  rw [← hmv] at hmb hr
  have htm : mv.tmod 2 = mv % 2 := Int.tmod_eq_emod_of_nonneg hmb.1
  have hwm : IntKind.u64.wrap (mv % 2) = mv % 2 := by rw [IntKind.wrap_u64]; omega
  have HL := Lib.hid (c_rwLoad ra hW (by omega) hrf.1 hrf.2 hhi n0 n1)
  rw [← hmv] at HL
  have HR := Lib.hid hr
  have x1 := hx.c 1 _ rfl
  dsimp only at x1
  clear hra hmv
  clear hr00 hW hX hx hhi c1 c2 c3 c4 c5 c6 hr hp hpo l0 l1 t0 t1 h0 h1 m0 m1 m2 r0 r1 k0 k1 w0 w1 o8
  go_enter Tryz.func87, Tryz.ntmps87
  go_wp2_with fail
  refine (HRf.out _).mono ?_
  rintro e w' ⟨rfl, rfl⟩
  go_wp2_with fail
  refine HL.out.mono ?_
  rintro e w3 ⟨rfl, G3, e3, P3⟩
  have M3 := Lib.hid (HM.out.world hk e3 P3)
  have y8 := M3.out.t.c 8 _ rfl
  have f8 := M3.out.t.f 8
  have M4 := Lib.hid (M3.out.set hk (Nat.le_refl _) (by omega) 8 (.int .u64 mv) (by simp [reCs]))

  have y0 := M4.out.t.c 0 _ rfl
  have f0 := M4.out.t.f 0
  have M5 := Lib.hid (M4.out.set hk (Nat.le_refl _) (by omega) 0 (.int .i64 6) (by simp [reCs]))

  clear e3 P3 x0 x1
  go_upto_region 20 with fail
  obtain ⟨w5, hw5⟩ : ∃ w5, w5 = (w3.setCell ⟨R, 8, none⟩ (.int .u64 mv)).setCell ⟨R, 0, none⟩ (.int .i64 6) := ⟨_, rfl⟩
  rw [← hw5] at M5 ⊢
  clear hw5 y8 f8 y0 f0
  have y8 := M5.out.t.c 8 _ rfl
  by_cases he : mv % 2 = 0
  · have de : (mv % 2 == 0) = true := by simp [he]
    have HE := Lib.hid he
    clear he
    have y2 := M5.out.t.c 2 _ rfl
    have y3 := M5.out.t.c 3 _ rfl
    obtain ⟨W5, hW5⟩ : ∃ W5, W5 = w5.alloc (.cells #[.int .i64 p.b, .int .i64 p.q] 51) := ⟨_, rfl⟩
    have bW5 : Below w5.heap.size w5 W5 := by rw [hW5]; exact (Below.refl _ _).alloc (Nat.le_refl _) _
    have N5 := Lib.hid (M5.out.below bW5)
    have u0 : W5.cell? ⟨w5.heap.size, 0, none⟩ = some (.int .i64 p.b) := by rw [hW5]; simp
    have u1 : W5.cell? ⟨w5.heap.size, 0 + 1, none⟩ = some (.int .i64 p.q) := by rw [hW5]; simp
    have ul : w5.heap.size < W5.heap.size := by rw [hW5]; simp
    go_wp2_with fail
    rw [← hW5]
    clear hW5
    refine (c_rNewMark1 p HP.out.2 (b := w5.heap.size) (o := 0) (c := 1) (k + 1) (by omega) ⟨Nat.le_refl _, by unfold maxLen; omega⟩ ul u0 u1 N5.out.e.hi).mono ?_
    clear u0 u1 ul y2 y3 y8
    rintro e w6 ⟨A, rfl, G6, e6, a6⟩
    have M6 := Lib.hid (N5.out.oth hk e6 (fun t h => by omega))
    have A6 := Lib.hid a6
    clear e6 a6 bW5

    have y9 := M6.out.t.c 9 _ rfl
    have f9 := M6.out.t.f 9
    have E1 := ext_set (j := 9) (v := .pointer (some ⟨A, 0, none⟩)) M6.out.e.hi M6.out.t hk
    have M7 := M6.out.set hk (Nat.le_refl _) (by omega) 9 (.pointer (some ⟨A, 0, none⟩)) (by simp [reCs])
    have y0 := M6.out.t.c 0 _ rfl
    have f0 := M6.out.t.f 0
    have E2 := ext_set (j := 0) (v := .int .i64 7) M7.e.hi M7.t hk
    have M8 := Lib.hid (M7.set hk (Nat.le_refl _) (by omega) 0 (.int .i64 7) (by simp [reCs]))
    have EE := Lib.hid (E1.trans E2)
    clear E1 M7 E2
    go_wp2_with fail
    go_end0
    have hR := HR.out
    rw [if_pos HE.out] at hR
    rw [hR]
    have hA := A6.out.ext EE.out (by omega) (by omega)
    refine ⟨rfl, _, M8.out.e, M8.out.p, p, some ⟨A, 0, none⟩, u, M8.out.t, fun _ => ⟨HP.out.1, H00.out⟩, (fun g => absurd g (by dsimp only; omega)), fun _ => ⟨A, rfl, by rw [HP.out.1] at hA; exact hA⟩, (fun g => absurd g (by dsimp only; omega)), (fun g => absurd g (by dsimp only; omega)), fun _ => ⟨rfl, rfl⟩⟩

  · have de : (mv % 2 == 0) = false := by simp [he]
    have HE := Lib.hid he
    clear he
    go_wp2_with fail
    go_end0
    have hR := HR.out
    rw [if_neg HE.out] at hR
    rw [hR]
    exact ⟨rfl, _, M5.out.e, M5.out.p, ReAt.simple p a u M5.out.t (fun _ => ⟨HP.out.1, H00.out⟩) (fun g => absurd g (by dsimp only; omega)) (by dsimp only; omega) (fun g => absurd g (by dsimp only; omega))⟩
set_option maxHeartbeats 4000000 in
set_option maxRecDepth 100000 in
theorem c_re6 {z : Evm} (hW : RW w O C f s m) (hX : ReAt w O k R z) (hz : EvOk z) (hl : z.ln = 6) (hk : 10 ≤ k) (hm : m ≤ 900000) (hhi : ∀ j, O j ≠ 0 → j < w.heap.size) (n0 : 0 ≤ s.n) (n1 : s.n ≤ 4611686018427387904) :
    Calls Tryz.prog 87 #[.pointer (some ⟨R, 0, none⟩), .pointer (some ⟨C.p, 0, none⟩)] w (REPost w O C f k R m (evStep (s, z))) := by
  obtain ⟨r, hr⟩ : ∃ r, r = evStep (s, z) := ⟨_, rfl⟩
  rw [← hr]
  rw [evStep_6 s z hl] at hr
  obtain ⟨ln, t, h, n, ref, mk, o⟩ := z
  dsimp only at hl
  subst hl
  obtain ⟨p, a, u, hx, c1, c2, c3, c4, c5, c6⟩ := hX.ex
  dsimp only at c1 c2 c3 c4 c5 c6 hr
  have HM : Hid (Md k (k + 3) w O w O C f s m k R (reCs ⟨6, t, h, n, ref, mk, o⟩ p a u)) := Lib.hid (Md.start hhi hW hx)
  have x0 := hx.c 0 _ rfl
  dsimp only at x0
  unfold REPost
  have hp : p = plAt t (h + n) := (c1 ⟨by decide, by decide⟩).1
  have hr00 := (c1 ⟨by decide, by decide⟩).2
  have H00 := Lib.hid hr00
  have hpo : p.ok := by rw [hp]; exact plAt_ok _ _
  obtain ⟨l0, l1, t0, t1, h0, h1, m0, m1, m2, r0, r1, k0, k1, w0, w1, o8⟩ := hz
  dsimp only at t0 t1 h0 h1 m0 m1 m2 r0 r1 k0 k1 w0 w1
  have h1 := h1 (.inl (by decide))
  have HT := Lib.hid (And.intro t0 (And.intro t1 (And.intro m0 m1)))
  have HP := Lib.hid (And.intro hp hpo)

  have hrf : 0 ≤ plRef ref ∧ plRef ref < 18446744073709551616 := by unfold plRef; split <;> omega
  have hmb : 0 ≤ (mk + 1) % 18446744073709551616 ∧ (mk + 1) % 18446744073709551616 < 18446744073709551616 := by omega
  have HRf := Lib.hid (fun W => c_rRef ref W r0 r1)
  obtain ⟨ra, hra⟩ : ∃ ra, ra = plRef ref := ⟨_, rfl⟩
  rw [← hra] at hrf HRf hr
  obtain ⟨nm, hnm⟩ : ∃ nm, nm = (mk + 1) % 18446744073709551616 := ⟨_, rfl⟩
  rw [← hnm] at hmb hr
  have hnm2 : IntKind.u64.wrap (mk + 1) = nm := by rw [IntKind.wrap_u64]; exact hnm.symm
  have HR := Lib.hid hr
  have x1 := hx.c 1 _ rfl
  have x8 := hx.c 8 _ rfl
  dsimp only at x1 x8
  clear hra hnm
  clear hr00 hW hX hx hhi c1 c2 c3 c4 c5 c6 hr hp hpo l0 l1 t0 t1 h0 h1 m0 m1 m2 r0 r1 k0 k1 w0 w1 o8
  go_enter Tryz.func87, Tryz.ntmps87
  go_wp2_with fail
  go_region_held3 (fun w' => w'.cell? ⟨R, 1, none⟩ = some (.int .i64 ref) ∧ w'.cell? ⟨R, 8, none⟩ = some (.int .u64 mk)) (go_keep)
    ((first
      | (go_at_call 90
         refine (HRf.out _).mono ?_
         rintro e w1 ⟨rfl, rfl⟩)
      | (go_at_call 135
         refine (c_rwStore ra nm (w := w.drew) HM.out.drew.p (by omega) hrf.1 hrf.2 hmb.1 hmb.2 HM.out.drew.e.hi n0 n1).mono ?_
         rintro e w2 ⟨rfl, G2, e2, P2⟩
         have M2 := Lib.hid (HM.out.drew.world hk e2 P2)
         have y1 := M2.out.t.c 1 _ rfl
         have y8 := M2.out.t.c 8 _ rfl
         clear e2 P2)))
  all_goals
    clear x0 x1 x8 y1 y8
    go_wp2_with fail
    refine (c_reNext ⟨6, t, h, n, ref, mk, o⟩ p a u M2.out.t HT.out.1 HT.out.2.1 HT.out.2.2.1 HT.out.2.2.2 hk M2.out.e.hi).mono ?_
    rintro e w9 ⟨rfl, G9, e9, p9, x9, hp9⟩
    have P9 := M2.out.p.ext e9 (by omega) (by omega) (by omega) (by omega)
    have E9 := M2.out.e.trans (e9.mono (T := SD k (k + 3)) fun t _ ht => .inr (by omega))
    have HE := Lib.hid (And.intro P9 (And.intro E9 (And.intro x9 hp9)))
    clear P9 E9 x9 hp9 e9
    go_wp2_with fail
    go_end0
    rw [HR.out]

    exact ⟨rfl, _, HE.out.2.1, HE.out.1, ReAt.next ⟨6, t, h, n, ref, mk, o⟩ p9 a u HE.out.2.2.1 HE.out.2.2.2⟩
end
end
section
open Go.RowKit Go.Shelf
set_option linter.unusedVariables false

section
variable {R : Nat} {w : World} {O : Om} {C : Wb} {f : Cf} {s : AW} {m k : Nat}
set_option maxHeartbeats 4000000 in
set_option maxRecDepth 100000 in
theorem c_re7 {z : Evm} (hW : RW w O C f s m) (hX : ReAt w O k R z) (hz : EvOk z) (hl : z.ln = 7) (hk : 10 ≤ k) (hm : m ≤ 900000) (hhi : ∀ j, O j ≠ 0 → j < w.heap.size) (n0 : 0 ≤ s.n) (n1 : s.n ≤ 4611686018427387904) :
    Calls Tryz.prog 169 #[.pointer (some ⟨R, 0, none⟩), .pointer (some ⟨C.p, 0, none⟩)] w (REPost w O C f k R m (evStep (s, z))) := by
  obtain ⟨r, hr⟩ : ∃ r, r = evStep (s, z) := ⟨_, rfl⟩
  rw [← hr]
  rw [evStep_7 s z hl] at hr
  obtain ⟨ln, t, h, n, ref, mk, o⟩ := z
  dsimp only at hl
  subst hl
  obtain ⟨p, a, u, hx, c1, c2, c3, c4, c5, c6⟩ := hX.ex
  dsimp only at c1 c2 c3 c4 c5 c6 hr
  have HM : Hid (Md k (k + 3) w O w O C f s m k R (reCs ⟨7, t, h, n, ref, mk, o⟩ p a u)) := Lib.hid (Md.start hhi hW hx)
  have x0 := hx.c 0 _ rfl
  dsimp only at x0
  unfold REPost
  have hp : p = plAt t (h + n) := (c1 ⟨by decide, by decide⟩).1
  have hr00 := (c1 ⟨by decide, by decide⟩).2
  have H00 := Lib.hid hr00
  have hpo : p.ok := by rw [hp]; exact plAt_ok _ _
  obtain ⟨l0, l1, t0, t1, h0, h1, m0, m1, m2, r0, r1, k0, k1, w0, w1, o8⟩ := hz
  dsimp only at t0 t1 h0 h1 m0 m1 m2 r0 r1 k0 k1 w0 w1
  have h1 := h1 (.inl (by decide))
  have HT := Lib.hid (And.intro t0 (And.intro t1 (And.intro m0 m1)))
  have HP := Lib.hid (And.intro hp hpo)

  obtain ⟨Y, rfl, hY⟩ := c3 (by decide)
  have hv := hpo.ver
  obtain ⟨ve, hve⟩ : ∃ ve, ve = p.ver := ⟨_, rfl⟩
  have es : evSpot ⟨7, t, h, n, ref, mk, o⟩ = p := hp.symm
  rw [es] at hY hr
  rw [← hve] at hY hr hv
  have HR := Lib.hid hr
  have HM : Hid (Md k (k + 3) w O w O C f s m k R (reCs ⟨7, t, h, n, ref, mk, o⟩ p (some ⟨Y, 0, none⟩) u)) := HM
  have HK := Lib.hid (c_rMkStep ve [] (k := k + 1) hW hY (by omega) hm hhi (by omega) (by omega) n0 n1)
  have H6 := Lib.hid c6
  have x9 := hx.c 9 _ rfl
  clear hY hv hve es
  clear hr00 hW hX hx hhi c1 c2 c3 c4 c5 c6 hr hp hpo l0 l1 t0 t1 h0 h1 m0 m1 m2 r0 r1 k0 k1 w0 w1 o8
  go_enter Tryz.func169, Tryz.ntmps169
  go_wp2_with fail
  refine HK.out.mono ?_
  rintro e w2 ⟨rfl, G2, e2, P2, Y2⟩
  have M2 := Lib.hid (HM.out.call hk (by omega) (by omega) (by omega) e2 P2)
  have z0 := Y2.cell
  rw [if_pos rfl] at z0
  have y9 := M2.out.t.c 9 _ rfl
  clear HK e2 P2 x0 x9 Y2

  have y0 := M2.out.t.c 0 _ rfl
  have f0 := M2.out.t.f 0
  have M3 := Lib.hid (M2.out.set hk (Nat.le_refl _) (by omega) 0 (.int .i64 8) (by simp [reCs]))

  have y0 : w2.cell? ⟨R, 0, none⟩ = some (.int .i64 7) := y0
  go_upto_region 6 with fail
  obtain ⟨w3, hw3⟩ : ∃ w3, w3 = w2.setCell ⟨R, 0, none⟩ (.int .i64 8) := ⟨_, rfl⟩
  rw [← hw3] at M3 ⊢
  clear hw3 y0 f0 y9 z0
  have y2 := M3.out.t.c 2 _ rfl
  have y3 := M3.out.t.c 3 _ rfl
  have y4 := M3.out.t.c 4 _ rfl
  go_wp2_with fail
  refine (c_rNewOut (k := k + 3) HP.out.2 (by omega) M3.out.e.hi).mono ?_
  rintro e w4 ⟨U, rfl, G4, e4, u4⟩
  have M4 := Lib.hid (M3.out.oth hk e4 (fun t h => by omega))
  have U4 := Lib.hid u4
  clear e4 u4 y2 y3 y4
  have y10 := M4.out.t.c 10 _ rfl
  have f10 := M4.out.t.f 10
  have EE := Lib.hid (ext_set (j := 10) (v := .pointer (some ⟨U, 0, none⟩)) M4.out.e.hi M4.out.t hk)
  have M5 := Lib.hid (M4.out.set hk (Nat.le_refl _) (by omega) 10 (.pointer (some ⟨U, 0, none⟩)) (by simp [reCs]))
  go_wp2_with fail
  go_end0
  rw [HR.out]
  have hU := U4.out.ext EE.out (by omega)

  obtain ⟨oln, ow⟩ := o
  obtain ⟨g1, g2⟩ := H6.out (by decide)
  dsimp only at g1 g2
  subst g1 g2
  exact ⟨rfl, _, M5.out.e, M5.out.p, p, some ⟨Y, 0, none⟩, some ⟨U, 0, none⟩, M5.out.t, fun _ => ⟨HP.out.1, H00.out⟩, (fun g => absurd g (by dsimp only; omega)), (fun g => absurd g (by dsimp only; omega)), fun _ => ⟨U, rfl, by rw [HP.out.1] at hU; exact hU⟩, (fun g => absurd g (by dsimp only; omega)), (fun g => absurd g (by dsimp only; omega))⟩
set_option maxHeartbeats 4000000 in
set_option maxRecDepth 100000 in
theorem c_re9 {z : Evm} (hW : RW w O C f s m) (hX : ReAt w O k R z) (hz : EvOk z) (hl : z.ln = 9) (hk : 10 ≤ k) (hm : m ≤ 900000) (hhi : ∀ j, O j ≠ 0 → j < w.heap.size) (n0 : 0 ≤ s.n) (n1 : s.n ≤ 4611686018427387904) :
    Calls Tryz.prog 169 #[.pointer (some ⟨R, 0, none⟩), .pointer (some ⟨C.p, 0, none⟩)] w (REPost w O C f k R m (evStep (s, z))) := by
  obtain ⟨r, hr⟩ : ∃ r, r = evStep (s, z) := ⟨_, rfl⟩
  rw [← hr]
  rw [evStep_9 s z hl] at hr
  obtain ⟨ln, t, h, n, ref, mk, o⟩ := z
  dsimp only at hl
  subst hl
  obtain ⟨p, a, u, hx, c1, c2, c3, c4, c5, c6⟩ := hX.ex
  dsimp only at c1 c2 c3 c4 c5 c6 hr
  have HM : Hid (Md k (k + 3) w O w O C f s m k R (reCs ⟨9, t, h, n, ref, mk, o⟩ p a u)) := Lib.hid (Md.start hhi hW hx)
  have x0 := hx.c 0 _ rfl
  dsimp only at x0
  unfold REPost
  have hp : p = plAt t (h + n) := (c1 ⟨by decide, by decide⟩).1
  have hr00 := (c1 ⟨by decide, by decide⟩).2
  have H00 := Lib.hid hr00
  have hpo : p.ok := by rw [hp]; exact plAt_ok _ _
  obtain ⟨l0, l1, t0, t1, h0, h1, m0, m1, m2, r0, r1, k0, k1, w0, w1, o8⟩ := hz
  dsimp only at t0 t1 h0 h1 m0 m1 m2 r0 r1 k0 k1 w0 w1
  have h1 := h1 (.inl (by decide))
  have HT := Lib.hid (And.intro t0 (And.intro t1 (And.intro m0 m1)))
  have HP := Lib.hid (And.intro hp hpo)

  obtain ⟨Y, rfl, hY⟩ := c3 (by decide)
  have hv := hpo.ver
  obtain ⟨ve, hve⟩ : ∃ ve, ve = p.ver := ⟨_, rfl⟩
  have es : evSpot ⟨9, t, h, n, ref, mk, o⟩ = p := hp.symm
  rw [es] at hY hr
  rw [← hve] at hY hr hv
  have HR := Lib.hid hr
  have HM : Hid (Md k (k + 3) w O w O C f s m k R (reCs ⟨9, t, h, n, ref, mk, o⟩ p (some ⟨Y, 0, none⟩) u)) := HM
  have HK := Lib.hid (c_rMkStep ve [] (k := k + 1) hW hY (by omega) hm hhi (by omega) (by omega) n0 n1)
  have H6 := Lib.hid c6
  have x9 := hx.c 9 _ rfl
  clear hY hv hve es
  clear hr00 hW hX hx hhi c1 c2 c3 c4 c5 c6 hr hp hpo l0 l1 t0 t1 h0 h1 m0 m1 m2 r0 r1 k0 k1 w0 w1 o8
  go_enter Tryz.func169, Tryz.ntmps169
  go_wp2_with fail
  refine HK.out.mono ?_
  rintro e w2 ⟨rfl, G2, e2, P2, Y2⟩
  have M2 := Lib.hid (HM.out.call hk (by omega) (by omega) (by omega) e2 P2)
  have z0 := Y2.cell
  rw [if_pos rfl] at z0
  have y9 := M2.out.t.c 9 _ rfl
  clear HK e2 P2 x0 x9 Y2

  have y0 := M2.out.t.c 0 _ rfl
  have f0 := M2.out.t.f 0
  have M3 := Lib.hid (M2.out.set hk (Nat.le_refl _) (by omega) 0 (.int .i64 10) (by simp [reCs]))

  have y0 : w2.cell? ⟨R, 0, none⟩ = some (.int .i64 9) := y0
  go_upto_region 6 with fail
  obtain ⟨w3, hw3⟩ : ∃ w3, w3 = w2.setCell ⟨R, 0, none⟩ (.int .i64 10) := ⟨_, rfl⟩
  rw [← hw3] at M3 ⊢
  clear hw3 y0 f0 y9 z0
  have y2 := M3.out.t.c 2 _ rfl
  have y3 := M3.out.t.c 3 _ rfl
  have y4 := M3.out.t.c 4 _ rfl
  go_wp2_with fail
  refine (c_rNewOut (k := k + 3) HP.out.2 (by omega) M3.out.e.hi).mono ?_
  rintro e w4 ⟨U, rfl, G4, e4, u4⟩
  have M4 := Lib.hid (M3.out.oth hk e4 (fun t h => by omega))
  have U4 := Lib.hid u4
  clear e4 u4 y2 y3 y4
  have y10 := M4.out.t.c 10 _ rfl
  have f10 := M4.out.t.f 10
  have EE := Lib.hid (ext_set (j := 10) (v := .pointer (some ⟨U, 0, none⟩)) M4.out.e.hi M4.out.t hk)
  have M5 := Lib.hid (M4.out.set hk (Nat.le_refl _) (by omega) 10 (.pointer (some ⟨U, 0, none⟩)) (by simp [reCs]))
  go_wp2_with fail
  go_end0
  rw [HR.out]
  have hU := U4.out.ext EE.out (by omega)

  exact ⟨rfl, _, M5.out.e, M5.out.p, ReAt.simple p _ _ M5.out.t (fun _ => ⟨HP.out.1, H00.out⟩) (fun g => absurd g (by dsimp only; omega)) (by dsimp only; omega) (fun g => absurd g (by dsimp only; omega))⟩
set_option maxHeartbeats 4000000 in
set_option maxRecDepth 100000 in
theorem c_re8_0 {z : Evm} (hW : RW w O C f s m) (hX : ReAt w O k R z) (hz : EvOk z) (hl : z.ln = 8) (ho : z.o.ln = 0) (hk : 10 ≤ k) (hm : m ≤ 900000) (hhi : ∀ j, O j ≠ 0 → j < w.heap.size) (n0 : 0 ≤ s.n) (n1 : s.n ≤ 4611686018427387904) :
    Calls Tryz.prog 169 #[.pointer (some ⟨R, 0, none⟩), .pointer (some ⟨C.p, 0, none⟩)] w (REPost w O C f k R m (evStep (s, z))) := by
  obtain ⟨r, hr⟩ : ∃ r, r = evStep (s, z) := ⟨_, rfl⟩
  rw [← hr]
  rw [evStep_8 s z hl] at hr
  obtain ⟨ln, t, h, n, ref, mk, o⟩ := z
  dsimp only at hl
  subst hl
  obtain ⟨p, a, u, hx, c1, c2, c3, c4, c5, c6⟩ := hX.ex
  dsimp only at c1 c2 c3 c4 c5 c6 hr
  have HM : Hid (Md k (k + 3) w O w O C f s m k R (reCs ⟨8, t, h, n, ref, mk, o⟩ p a u)) := Lib.hid (Md.start hhi hW hx)
  have x0 := hx.c 0 _ rfl
  dsimp only at x0
  unfold REPost
  have hp : p = plAt t (h + n) := (c1 ⟨by decide, by decide⟩).1
  have hr00 := (c1 ⟨by decide, by decide⟩).2
  have H00 := Lib.hid hr00
  have hpo : p.ok := by rw [hp]; exact plAt_ok _ _
  obtain ⟨l0, l1, t0, t1, h0, h1, m0, m1, m2, r0, r1, k0, k1, w0, w1, o8⟩ := hz
  dsimp only at t0 t1 h0 h1 m0 m1 m2 r0 r1 k0 k1 w0 w1
  have h1 := h1 (.inl (by decide))
  have HT := Lib.hid (And.intro t0 (And.intro t1 (And.intro m0 m1)))
  have HP := Lib.hid (And.intro hp hpo)

  obtain ⟨U, rfl, hU⟩ := c4 (by decide)
  obtain ⟨oln, ow⟩ := o
  dsimp only at ho w0 w1
  subst ho
  have es : evSpot ⟨8, t, h, n, ref, mk, ⟨0, ow⟩⟩ = p := hp.symm
  rw [es] at hU hr
  have HM : Hid (Md k (k + 3) w O w O C f s m k R (reCs ⟨8, t, h, n, ref, mk, ⟨0, ow⟩⟩ p a (some ⟨U, 0, none⟩))) := HM
  have HK := Lib.hid (c_rOutStep (k := k + 3) ⟨0, ow⟩ hW hU hpo (show (0 : Nat) < 3 by decide) w0 w1 (by omega) hm hhi n0 n1)
  have hon : (outStep p s ⟨0, ow⟩).2.ln = 1 := rfl
  obtain ⟨o2, ho2⟩ : ∃ o2, o2 = (outStep p s ⟨0, ow⟩).2 := ⟨_, rfl⟩
  obtain ⟨s2, hs2⟩ : ∃ s2, s2 = (outStep p s ⟨0, ow⟩).1 := ⟨_, rfl⟩
  rw [← ho2, ← hs2] at HK hr
  rw [← ho2] at hon
  have hr : r = (s2, ⟨8, t, h, n, ref, mk, o2⟩) := hr
  have HR := Lib.hid hr
  have j1 : w.cell? ⟨U, 1, none⟩ = some (.bool false) := hU.ob.c 1 _ rfl
  have x10 := hx.c 10 _ rfl
  clear es ho2 hs2 hU
  clear hr00 hW hX hx hhi c1 c2 c3 c4 c5 c6 hr hp hpo l0 l1 t0 t1 h0 h1 m0 m1 m2 r0 r1 k0 k1 w0 w1 o8
  go_enter Tryz.func169, Tryz.ntmps169
  go_wp2_with fail
  refine HK.out.mono ?_
  rintro e w2 ⟨rfl, G2, e2, P2, u2⟩
  have M2 := Lib.hid (HM.out.call hk (by omega) (by omega) (by omega) e2 P2)
  have U2 := Lib.hid u2
  have i0 : w2.cell? ⟨U, 0, none⟩ = some (.int .i64 2) := by have := u2.ob.c 0 _ rfl; rw [hon] at this; exact this
  have i1 : w2.cell? ⟨U, 1, none⟩ = some (.bool false) := by have := u2.ob.c 1 _ rfl; rw [hon] at this; exact this
  have y10 := M2.out.t.c 10 _ rfl
  clear HK e2 P2 u2 j1 x10 x0

  go_wp2_with fail
  go_end0
  rw [HR.out]
  exact ⟨rfl, _, M2.out.e, M2.out.p, p, a, some ⟨U, 0, none⟩, M2.out.t, fun _ => ⟨HP.out.1, H00.out⟩, (fun g => absurd g (by dsimp only; omega)), (fun g => absurd g (by dsimp only; omega)), fun _ => ⟨U, rfl, by have := U2.out; rw [HP.out.1] at this; exact this⟩, (fun g => absurd g (by dsimp only; omega)), (fun g => absurd g (by dsimp only; omega))⟩
set_option maxHeartbeats 4000000 in
set_option maxRecDepth 100000 in
theorem c_re8_1 {z : Evm} (hW : RW w O C f s m) (hX : ReAt w O k R z) (hz : EvOk z) (hl : z.ln = 8) (ho : z.o.ln = 1) (hk : 10 ≤ k) (hm : m ≤ 900000) (hhi : ∀ j, O j ≠ 0 → j < w.heap.size) (n0 : 0 ≤ s.n) (n1 : s.n ≤ 4611686018427387904) :
    Calls Tryz.prog 169 #[.pointer (some ⟨R, 0, none⟩), .pointer (some ⟨C.p, 0, none⟩)] w (REPost w O C f k R m (evStep (s, z))) := by
  obtain ⟨r, hr⟩ : ∃ r, r = evStep (s, z) := ⟨_, rfl⟩
  rw [← hr]
  rw [evStep_8 s z hl] at hr
  obtain ⟨ln, t, h, n, ref, mk, o⟩ := z
  dsimp only at hl
  subst hl
  obtain ⟨p, a, u, hx, c1, c2, c3, c4, c5, c6⟩ := hX.ex
  dsimp only at c1 c2 c3 c4 c5 c6 hr
  have HM : Hid (Md k (k + 3) w O w O C f s m k R (reCs ⟨8, t, h, n, ref, mk, o⟩ p a u)) := Lib.hid (Md.start hhi hW hx)
  have x0 := hx.c 0 _ rfl
  dsimp only at x0
  unfold REPost
  have hp : p = plAt t (h + n) := (c1 ⟨by decide, by decide⟩).1
  have hr00 := (c1 ⟨by decide, by decide⟩).2
  have H00 := Lib.hid hr00
  have hpo : p.ok := by rw [hp]; exact plAt_ok _ _
  obtain ⟨l0, l1, t0, t1, h0, h1, m0, m1, m2, r0, r1, k0, k1, w0, w1, o8⟩ := hz
  dsimp only at t0 t1 h0 h1 m0 m1 m2 r0 r1 k0 k1 w0 w1
  have h1 := h1 (.inl (by decide))
  have HT := Lib.hid (And.intro t0 (And.intro t1 (And.intro m0 m1)))
  have HP := Lib.hid (And.intro hp hpo)

  obtain ⟨U, rfl, hU⟩ := c4 (by decide)
  obtain ⟨oln, ow⟩ := o
  dsimp only at ho w0 w1
  subst ho
  have es : evSpot ⟨8, t, h, n, ref, mk, ⟨1, ow⟩⟩ = p := hp.symm
  rw [es] at hU hr
  have HM : Hid (Md k (k + 3) w O w O C f s m k R (reCs ⟨8, t, h, n, ref, mk, ⟨1, ow⟩⟩ p a (some ⟨U, 0, none⟩))) := HM
  have HK := Lib.hid (c_rOutStep (k := k + 3) ⟨1, ow⟩ hW hU hpo (show (1 : Nat) < 3 by decide) w0 w1 (by omega) hm hhi n0 n1)
  have hon : (outStep p s ⟨1, ow⟩).2.ln = 2 := rfl
  obtain ⟨o2, ho2⟩ : ∃ o2, o2 = (outStep p s ⟨1, ow⟩).2 := ⟨_, rfl⟩
  obtain ⟨s2, hs2⟩ : ∃ s2, s2 = (outStep p s ⟨1, ow⟩).1 := ⟨_, rfl⟩
  rw [← ho2, ← hs2] at HK hr
  rw [← ho2] at hon
  have hr : r = (awNote 1 ref p.b p.q p.s 0 s2, ⟨8, t, h, n, ref, mk, o2⟩) := hr
  have HR := Lib.hid hr
  have j1 : w.cell? ⟨U, 1, none⟩ = some (.bool false) := hU.ob.c 1 _ rfl
  have x10 := hx.c 10 _ rfl
  clear es ho2 hs2 hU
  clear hr00 hW hX hx hhi c1 c2 c3 c4 c5 c6 hr hp hpo l0 l1 t0 t1 h0 h1 m0 m1 m2 r0 r1 k0 k1 w0 w1 o8
  go_enter Tryz.func169, Tryz.ntmps169
  go_wp2_with fail
  refine HK.out.mono ?_
  rintro e w2 ⟨rfl, G2, e2, P2, u2⟩
  have M2 := Lib.hid (HM.out.call hk (by omega) (by omega) (by omega) e2 P2)
  have U2 := Lib.hid u2
  have i0 : w2.cell? ⟨U, 0, none⟩ = some (.int .i64 3) := by have := u2.ob.c 0 _ rfl; rw [hon] at this; exact this
  have i1 : w2.cell? ⟨U, 1, none⟩ = some (.bool true) := by have := u2.ob.c 1 _ rfl; rw [hon] at this; exact this
  have y10 := M2.out.t.c 10 _ rfl
  clear HK e2 P2 u2 j1 x10 x0

  have y1 := M2.out.t.c 1 _ rfl
  have y2 := M2.out.t.c 2 _ rfl
  have y3 := M2.out.t.c 3 _ rfl
  have y4 := M2.out.t.c 4 _ rfl
  obtain ⟨pb, hpb⟩ : ∃ z, z = p.b := ⟨_, rfl⟩
  obtain ⟨pq, hpq⟩ : ∃ z, z = p.q := ⟨_, rfl⟩
  obtain ⟨ps, hps⟩ : ∃ z, z = p.s := ⟨_, rfl⟩
  rw [← hpb] at y2
  rw [← hpq] at y3
  rw [← hps] at y4
  have HN := Lib.hid (c_rwNote 1 ref pb pq ps 0 (w := w2.drew) M2.out.drew.p M2.out.drew.e.hi (by decide) (by decide))
  rw [hpb, hpq, hps] at HN
  have HQ := Lib.hid (And.intro hpb (And.intro hpq hps))
  rw [← hpb, ← hpq, ← hps] at HN
  clear hpb hpq hps
  go_upto_region 11 with fail
  go_region_held3 (fun w' => w'.cell? ⟨R, 1, none⟩ = some (.int .i64 ref) ∧ w'.cell? ⟨R, 2, none⟩ = some (.int .i64 pb) ∧ w'.cell? ⟨R, 3, none⟩ = some (.int .i64 pq) ∧ w'.cell? ⟨R, 4, none⟩ = some (.int .i64 ps)) (go_keep)
    ((go_at_call 150
      refine HN.out.mono ?_
      rintro e w3 ⟨rfl, G3, e3, P3⟩
      have M3 := Lib.hid (M2.out.drew.world hk e3 P3)
      have U3 := Lib.hid ((U2.out.below (drew_below _)).ext e3 (by unfold SR; omega))
      have y13 := M3.out.t.c 1 _ rfl
      have y23 := M3.out.t.c 2 _ rfl
      have y33 := M3.out.t.c 3 _ rfl
      have y43 := M3.out.t.c 4 _ rfl
      rw [← HQ.out.1] at y23
      rw [← HQ.out.2.1] at y33
      rw [← HQ.out.2.2] at y43
      have y103 := M3.out.t.c 10 _ rfl
      have i03 : w3.cell? ⟨U, 0, none⟩ = some (.int .i64 3) := by have := U3.out.ob.c 0 _ rfl; rw [hon] at this; exact this
      clear e3 P3))
  all_goals
    clear y1 y2 y3 y4 y10 i0 i1 y13 y23 y33 y43
    go_wp2_with fail
    go_end0
    rw [HR.out, ← HQ.out.1, ← HQ.out.2.1, ← HQ.out.2.2]
    exact ⟨rfl, _, M3.out.e, M3.out.p, p, a, some ⟨U, 0, none⟩, M3.out.t, fun _ => ⟨HP.out.1, H00.out⟩, (fun g => absurd g (by dsimp only; omega)), (fun g => absurd g (by dsimp only; omega)), fun _ => ⟨U, rfl, by have := U3.out; rw [HP.out.1] at this; exact this⟩, (fun g => absurd g (by dsimp only; omega)), (fun g => absurd g (by dsimp only; omega))⟩
set_option maxHeartbeats 4000000 in
set_option maxRecDepth 100000 in
theorem c_re8_2 {z : Evm} (hW : RW w O C f s m) (hX : ReAt w O k R z) (hz : EvOk z) (hl : z.ln = 8) (ho : z.o.ln = 2) (hk : 10 ≤ k) (hm : m ≤ 900000) (hhi : ∀ j, O j ≠ 0 → j < w.heap.size) (n0 : 0 ≤ s.n) (n1 : s.n ≤ 4611686018427387904) :
    Calls Tryz.prog 169 #[.pointer (some ⟨R, 0, none⟩), .pointer (some ⟨C.p, 0, none⟩)] w (REPost w O C f k R m (evStep (s, z))) := by
  obtain ⟨r, hr⟩ : ∃ r, r = evStep (s, z) := ⟨_, rfl⟩
  rw [← hr]
  rw [evStep_8 s z hl] at hr
  obtain ⟨ln, t, h, n, ref, mk, o⟩ := z
  dsimp only at hl
  subst hl
  obtain ⟨p, a, u, hx, c1, c2, c3, c4, c5, c6⟩ := hX.ex
  dsimp only at c1 c2 c3 c4 c5 c6 hr
  have HM : Hid (Md k (k + 3) w O w O C f s m k R (reCs ⟨8, t, h, n, ref, mk, o⟩ p a u)) := Lib.hid (Md.start hhi hW hx)
  have x0 := hx.c 0 _ rfl
  dsimp only at x0
  unfold REPost
  have hp : p = plAt t (h + n) := (c1 ⟨by decide, by decide⟩).1
  have hr00 := (c1 ⟨by decide, by decide⟩).2
  have H00 := Lib.hid hr00
  have hpo : p.ok := by rw [hp]; exact plAt_ok _ _
  obtain ⟨l0, l1, t0, t1, h0, h1, m0, m1, m2, r0, r1, k0, k1, w0, w1, o8⟩ := hz
  dsimp only at t0 t1 h0 h1 m0 m1 m2 r0 r1 k0 k1 w0 w1
  have h1 := h1 (.inl (by decide))
  have HT := Lib.hid (And.intro t0 (And.intro t1 (And.intro m0 m1)))
  have HP := Lib.hid (And.intro hp hpo)

  obtain ⟨U, rfl, hU⟩ := c4 (by decide)
  obtain ⟨oln, ow⟩ := o
  dsimp only at ho w0 w1
  subst ho
  have es : evSpot ⟨8, t, h, n, ref, mk, ⟨2, ow⟩⟩ = p := hp.symm
  rw [es] at hU hr
  have HM : Hid (Md k (k + 3) w O w O C f s m k R (reCs ⟨8, t, h, n, ref, mk, ⟨2, ow⟩⟩ p a (some ⟨U, 0, none⟩))) := HM
  have HK := Lib.hid (c_rOutStep (k := k + 3) ⟨2, ow⟩ hW hU hpo (show (2 : Nat) < 3 by decide) w0 w1 (by omega) hm hhi n0 n1)
  have hon : (outStep p s ⟨2, ow⟩).2.ln = 3 := rfl
  obtain ⟨o2, ho2⟩ : ∃ o2, o2 = (outStep p s ⟨2, ow⟩).2 := ⟨_, rfl⟩
  obtain ⟨s2, hs2⟩ : ∃ s2, s2 = (outStep p s ⟨2, ow⟩).1 := ⟨_, rfl⟩
  rw [← ho2, ← hs2] at HK hr
  rw [← ho2] at hon
  have hr : r = (s2, ⟨9, t, h, n, ref, mk, o2⟩) := hr
  have HR := Lib.hid hr
  have j1 : w.cell? ⟨U, 1, none⟩ = some (.bool true) := hU.ob.c 1 _ rfl
  have x10 := hx.c 10 _ rfl
  clear es ho2 hs2 hU
  clear hr00 hW hX hx hhi c1 c2 c3 c4 c5 c6 hr hp hpo l0 l1 t0 t1 h0 h1 m0 m1 m2 r0 r1 k0 k1 w0 w1 o8
  go_enter Tryz.func169, Tryz.ntmps169
  go_wp2_with fail
  refine HK.out.mono ?_
  rintro e w2 ⟨rfl, G2, e2, P2, u2⟩
  have M2 := Lib.hid (HM.out.call hk (by omega) (by omega) (by omega) e2 P2)
  have U2 := Lib.hid u2
  have i0 : w2.cell? ⟨U, 0, none⟩ = some (.int .i64 0) := by have := u2.ob.c 0 _ rfl; rw [hon] at this; exact this
  have i1 : w2.cell? ⟨U, 1, none⟩ = some (.bool true) := by have := u2.ob.c 1 _ rfl; rw [hon] at this; exact this
  have y10 := M2.out.t.c 10 _ rfl
  clear HK e2 P2 u2 j1 x10 x0

  have y0 := M2.out.t.c 0 _ rfl
  have f0 := M2.out.t.f 0
  have M3 := Lib.hid (M2.out.set hk (Nat.le_refl _) (by omega) 0 (.int .i64 9) (by simp [reCs]))

  have y0 : w2.cell? ⟨R, 0, none⟩ = some (.int .i64 8) := y0
  go_upto_region 14 with fail
  obtain ⟨w3, hw3⟩ : ∃ w3, w3 = w2.setCell ⟨R, 0, none⟩ (.int .i64 9) := ⟨_, rfl⟩
  rw [← hw3] at M3 ⊢
  clear hw3 y0 f0 y10 i0 i1
  have y2 := M3.out.t.c 2 _ rfl
  have y3 := M3.out.t.c 3 _ rfl

  obtain ⟨W3, hW3⟩ : ∃ W3, W3 = w3.alloc (.cells #[.int .i64 p.b, .int .i64 p.q] 51) := ⟨_, rfl⟩
  have bW3 : Below w3.heap.size w3 W3 := by rw [hW3]; exact (Below.refl _ _).alloc (Nat.le_refl _) _
  have N3 := Lib.hid (M3.out.below bW3)
  have u0 : W3.cell? ⟨w3.heap.size, 0, none⟩ = some (.int .i64 p.b) := by rw [hW3]; simp
  have u1 : W3.cell? ⟨w3.heap.size, 0 + 1, none⟩ = some (.int .i64 p.q) := by rw [hW3]; simp
  have ul : w3.heap.size < W3.heap.size := by rw [hW3]; simp
  go_wp2_with fail
  rw [← hW3]
  clear hW3
  refine (c_rNewMark1 p HP.out.2 (b := w3.heap.size) (o := 0) (c := 1) (k + 1) (by omega) ⟨Nat.le_refl _, by unfold maxLen; omega⟩ ul u0 u1 N3.out.e.hi).mono ?_
  clear u0 u1 ul y2 y3
  rintro e w4 ⟨A, rfl, G4, e4, a4⟩
  have M4 := Lib.hid (N3.out.oth hk e4 (fun t h => by omega))
  have A4 := Lib.hid a4
  clear e4 a4 bW3

  have y9 := M4.out.t.c 9 _ rfl
  have f9 := M4.out.t.f 9
  have EE := Lib.hid (ext_set (j := 9) (v := .pointer (some ⟨A, 0, none⟩)) M4.out.e.hi M4.out.t hk)
  have M5 := Lib.hid (M4.out.set hk (Nat.le_refl _) (by omega) 9 (.pointer (some ⟨A, 0, none⟩)) (by simp [reCs]))
  go_wp2_with fail
  go_end0
  rw [HR.out]
  have hA := A4.out.ext EE.out (by omega) (by omega)
  exact ⟨rfl, _, M5.out.e, M5.out.p, p, some ⟨A, 0, none⟩, some ⟨U, 0, none⟩, M5.out.t, fun _ => ⟨HP.out.1, H00.out⟩, (fun g => absurd g (by dsimp only; omega)), fun _ => ⟨A, rfl, by rw [HP.out.1] at hA; exact hA⟩, (fun g => absurd g (by dsimp only; omega)), (fun g => absurd g (by dsimp only; omega)), (fun g => absurd g (by dsimp only; omega))⟩
set_option maxHeartbeats 4000000 in
set_option maxRecDepth 100000 in
theorem c_re10 {z : Evm} (hW : RW w O C f s m) (hX : ReAt w O k R z) (hz : EvOk z) (hl : z.ln = 10) (hk : 10 ≤ k) (hm : m ≤ 900000) (hhi : ∀ j, O j ≠ 0 → j < w.heap.size) (n0 : 0 ≤ s.n) (n1 : s.n ≤ 4611686018427387904) :
    Calls Tryz.prog 169 #[.pointer (some ⟨R, 0, none⟩), .pointer (some ⟨C.p, 0, none⟩)] w (REPost w O C f k R m (evStep (s, z))) := by
  obtain ⟨r, hr⟩ : ∃ r, r = evStep (s, z) := ⟨_, rfl⟩
  rw [← hr]
  rw [evStep_10 s z hl] at hr
  obtain ⟨ln, t, h, n, ref, mk, o⟩ := z
  dsimp only at hl
  subst hl
  obtain ⟨p, a, u, hx, c1, c2, c3, c4, c5, c6⟩ := hX.ex
  dsimp only at c1 c2 c3 c4 c5 c6 hr
  have HM : Hid (Md k (k + 3) w O w O C f s m k R (reCs ⟨10, t, h, n, ref, mk, o⟩ p a u)) := Lib.hid (Md.start hhi hW hx)
  have x0 := hx.c 0 _ rfl
  dsimp only at x0
  unfold REPost
  have hp : p = plAt t (h + n) := (c1 ⟨by decide, by decide⟩).1
  have hr00 := (c1 ⟨by decide, by decide⟩).2
  have H00 := Lib.hid hr00
  have hpo : p.ok := by rw [hp]; exact plAt_ok _ _
  obtain ⟨l0, l1, t0, t1, h0, h1, m0, m1, m2, r0, r1, k0, k1, w0, w1, o8⟩ := hz
  dsimp only at t0 t1 h0 h1 m0 m1 m2 r0 r1 k0 k1 w0 w1
  have h1 := h1 (.inl (by decide))
  have HT := Lib.hid (And.intro t0 (And.intro t1 (And.intro m0 m1)))
  have HP := Lib.hid (And.intro hp hpo)
  have HR := Lib.hid hr
  clear hr00 hW hX hx hhi c1 c2 c3 c4 c5 c6 hr hp hpo l0 l1 t0 t1 h0 h1 m0 m1 m2 r0 r1 k0 k1 w0 w1 o8
  go_enter Tryz.func169, Tryz.ntmps169
  go_wp2_with fail
  refine (c_rwAdd 6 18446744073709551615 HM.out.p (by omega) (by decide) (by decide) (by decide) (by decide) HM.out.e.hi n0 n1).mono ?_
  rintro e w2 ⟨rfl, G2, e2, P2⟩
  have M2 := Lib.hid (HM.out.world hk e2 P2)

  have y0 := M2.out.t.c 0 _ rfl
  have f0 := M2.out.t.f 0
  have M3 := Lib.hid (M2.out.set hk (Nat.le_refl _) (by omega) 0 (.int .i64 11) (by simp [reCs]))

  clear e2 P2 x0
  go_wp2_with fail
  go_end0
  rw [HR.out]
  exact ⟨rfl, _, M3.out.e, M3.out.p, ReAt.simple p a u M3.out.t (fun g => absurd g (by dsimp only; omega)) (fun _ => by rw [if_neg H00.out]; exact HP.out.1) (by dsimp only; omega) (fun g => absurd g (by dsimp only; omega))⟩
set_option maxHeartbeats 4000000 in
set_option maxRecDepth 100000 in
theorem c_re12 {z : Evm} (hW : RW w O C f s m) (hX : ReAt w O k R z) (hz : EvOk z) (hl : z.ln = 12) (hk : 10 ≤ k) (hm : m ≤ 900000) (hhi : ∀ j, O j ≠ 0 → j < w.heap.size) (n0 : 0 ≤ s.n) (n1 : s.n ≤ 4611686018427387904) :
    Calls Tryz.prog 169 #[.pointer (some ⟨R, 0, none⟩), .pointer (some ⟨C.p, 0, none⟩)] w (REPost w O C f k R m (evStep (s, z))) := by
  obtain ⟨r, hr⟩ : ∃ r, r = evStep (s, z) := ⟨_, rfl⟩
  rw [← hr]
  rw [evStep_12 s z hl] at hr
  obtain ⟨ln, t, h, n, ref, mk, o⟩ := z
  dsimp only at hl
  subst hl
  obtain ⟨p, a, u, hx, c1, c2, c3, c4, c5, c6⟩ := hX.ex
  dsimp only at c1 c2 c3 c4 c5 c6 hr
  have HM : Hid (Md k (k + 3) w O w O C f s m k R (reCs ⟨12, t, h, n, ref, mk, o⟩ p a u)) := Lib.hid (Md.start hhi hW hx)
  have x0 := hx.c 0 _ rfl
  dsimp only at x0
  unfold REPost
  have HR := Lib.hid hr

  have H2 := Lib.hid (c2 (by decide))
  clear hW hX hx hhi c1 c2 c3 c4 c5 c6 hr hz
  go_enter Tryz.func169, Tryz.ntmps169
  go_wp2_with fail
  refine (c_rwStore 5 0 HM.out.p (by omega) (by decide) (by decide) (by decide) (by decide) HM.out.e.hi n0 n1).mono ?_
  rintro e w2 ⟨rfl, G2, e2, P2⟩
  have M2 := Lib.hid (HM.out.world hk e2 P2)

  have y0 := M2.out.t.c 0 _ rfl
  have f0 := M2.out.t.f 0
  have M3 := Lib.hid (M2.out.set hk (Nat.le_refl _) (by omega) 0 (.int .i64 0) (by simp [reCs]))

  clear e2 P2 x0
  go_wp2_with fail
  go_end0
  rw [HR.out]
  exact ⟨rfl, _, M3.out.e, M3.out.p, ReAt.simple p a u M3.out.t (fun g => absurd g (by dsimp only; omega)) (fun _ => H2.out) (by dsimp only; omega) (fun g => absurd g (by dsimp only; omega))⟩
end
end
section
open Go.RowKit Go.Shelf
set_option linter.unusedVariables false

section
variable {R : Nat} {w : World} {O : Om} {C : Wb} {f : Cf} {s : AW} {m k : Nat}
set_option maxHeartbeats 4000000 in
set_option maxRecDepth 100000 in
theorem c_re11a {z : Evm} (hW : RW w O C f s m) (hX : ReAt w O k R z) (hz : EvOk z) (hl : z.ln = 11) (href : z.ref = 0) (hk : 10 ≤ k) (hm : m ≤ 900000) (hhi : ∀ j, O j ≠ 0 → j < w.heap.size) (n0 : 0 ≤ s.n) (n1 : s.n ≤ 4611686018427387904) :
    Calls Tryz.prog 169 #[.pointer (some ⟨R, 0, none⟩), .pointer (some ⟨C.p, 0, none⟩)] w (REPost w O C f k R m (evStep (s, z))) := by
  obtain ⟨r, hr⟩ : ∃ r, r = evStep (s, z) := ⟨_, rfl⟩
  rw [← hr]
  rw [evStep_11 s z hl] at hr
  obtain ⟨ln, t, h, n, ref, mk, o⟩ := z
  dsimp only at hl
  subst hl
  obtain ⟨p, a, u, hx, c1, c2, c3, c4, c5, c6⟩ := hX.ex
  dsimp only at c1 c2 c3 c4 c5 c6 hr
  have HM : Hid (Md k (k + 3) w O w O C f s m k R (reCs ⟨11, t, h, n, ref, mk, o⟩ p a u)) := Lib.hid (Md.start hhi hW hx)
  have x0 := hx.c 0 _ rfl
  dsimp only at x0
  unfold REPost
  have h2 := c2 (by decide)
  obtain ⟨l0, l1, t0, t1, h0, h1, m0, m1, m2, r0, r1, k0, k1, w0, w1, o8⟩ := hz
  dsimp only at t0 t1 h0 h1 m0 m1 m2 r0 r1 k0 k1 w0 w1 href
  have h1 := h1 (.inl (by decide))
  have x1 := hx.c 1 _ rfl
  have x6 := hx.c 6 _ rfl
  have x7 := hx.c 7 _ rfl
  have x5 := hx.c 5 _ rfl
  dsimp only at x1 x6 x7 x5

  subst href
  rw [if_pos rfl] at hr h2
  have HR := Lib.hid hr
  have H2 := Lib.hid h2
  have HS := Lib.hid (c_rwStore 4 h hW (by omega) (by decide) (by decide) h0 (by omega) hhi n0 n1)
  clear h2
  clear hW hX hx hhi c1 c2 c3 c4 c5 c6 hr l0 l1 t0 t1 h0 h1 m0 m1 m2 r0 r1 k0 k1 w0 w1 o8
  go_enter Tryz.func169, Tryz.ntmps169
  go_wp2_with fail
  refine HS.out.mono ?_
  rintro e w2 ⟨rfl, G2, e2, P2⟩
  have M2 := Lib.hid (HM.out.world hk e2 P2)
  have y7 := M2.out.t.c 7 _ rfl
  clear HS e2 P2 x0 x1 x5 x6 x7
  go_wp2_with fail
  refine (c_rwNote 8 0 0 0 0 n M2.out.p M2.out.e.hi (by decide) (by decide)).mono ?_
  rintro e w3 ⟨rfl, G3, e3, P3⟩
  have M3 := Lib.hid (M2.out.world hk e3 P3)
  clear e3 P3 y7

  have y0 := M3.out.t.c 0 _ rfl
  have f0 := M3.out.t.f 0
  have M4 := Lib.hid (M3.out.set hk (Nat.le_refl _) (by omega) 0 (.int .i64 12) (by simp [reCs]))

  go_wp2_with fail
  go_end0
  rw [HR.out]
  exact ⟨rfl, _, M4.out.e, M4.out.p, ReAt.simple p a u M4.out.t (fun g => absurd g (by dsimp only; omega)) (fun _ => by rw [if_pos rfl]; exact H2.out) (by dsimp only; omega) (fun g => absurd g (by dsimp only; omega))⟩
set_option maxHeartbeats 4000000 in
set_option maxRecDepth 100000 in
theorem c_re11b {z : Evm} (hW : RW w O C f s m) (hX : ReAt w O k R z) (hz : EvOk z) (hl : z.ln = 11) (href : z.ref ≠ 0) (hk : 10 ≤ k) (hm : m ≤ 900000) (hhi : ∀ j, O j ≠ 0 → j < w.heap.size) (n0 : 0 ≤ s.n) (n1 : s.n ≤ 4611686018427387904) :
    Calls Tryz.prog 169 #[.pointer (some ⟨R, 0, none⟩), .pointer (some ⟨C.p, 0, none⟩)] w (REPost w O C f k R m (evStep (s, z))) := by
  obtain ⟨r, hr⟩ : ∃ r, r = evStep (s, z) := ⟨_, rfl⟩
  rw [← hr]
  rw [evStep_11 s z hl] at hr
  obtain ⟨ln, t, h, n, ref, mk, o⟩ := z
  dsimp only at hl
  subst hl
  obtain ⟨p, a, u, hx, c1, c2, c3, c4, c5, c6⟩ := hX.ex
  dsimp only at c1 c2 c3 c4 c5 c6 hr
  have HM : Hid (Md k (k + 3) w O w O C f s m k R (reCs ⟨11, t, h, n, ref, mk, o⟩ p a u)) := Lib.hid (Md.start hhi hW hx)
  have x0 := hx.c 0 _ rfl
  dsimp only at x0
  unfold REPost
  have h2 := c2 (by decide)
  obtain ⟨l0, l1, t0, t1, h0, h1, m0, m1, m2, r0, r1, k0, k1, w0, w1, o8⟩ := hz
  dsimp only at t0 t1 h0 h1 m0 m1 m2 r0 r1 k0 k1 w0 w1 href
  have h1 := h1 (.inl (by decide))
  have x1 := hx.c 1 _ rfl
  have x6 := hx.c 6 _ rfl
  have x7 := hx.c 7 _ rfl
  have x5 := hx.c 5 _ rfl
  dsimp only at x1 x6 x7 x5

  rw [if_neg href] at hr h2
  have dr : (ref == 0) = false := by simp [href]
  have hsp := plSpots_bd t
  have HS := Lib.hid (c_reMany (R := R) (w := w.drew) t (HM.out.drew.t.c 5 _ rfl) t0 t1)
  obtain ⟨N, hN⟩ : ∃ N, N = plSpots t := ⟨_, rfl⟩
  rw [← hN] at HS hr hsp
  have dz : (N == 0) = false := by rw [beq_eq_false_iff_ne]; omega
  have dz2 : ¬ N = 0 := by omega
  have dz3 : 0 < N := by omega
  have hv0 := Int.emod_nonneg (h + n + 1) (show N ≠ 0 by omega)
  have hv1 := Int.emod_lt_of_pos (h + n + 1) (show 0 < N by omega)
  have wa : IntKind.u64.wrap N = N := by rw [IntKind.wrap_u64]; omega
  have wn : IntKind.u64.wrap n = n := by rw [IntKind.wrap_u64]; omega
  have ws : IntKind.u64.wrap (h + n) = h + n := by rw [IntKind.wrap_u64]; omega
  have ws1 : IntKind.u64.wrap (h + n + 1) = h + n + 1 := by rw [IntKind.wrap_u64]; omega
  have htm : (h + n + 1).tmod N = (h + n + 1) % N := Int.tmod_eq_emod_of_nonneg (by omega)
  obtain ⟨v, hv⟩ : ∃ v, v = (h + n + 1) % N := ⟨_, rfl⟩
  rw [← hv] at hr hv0 hv1 htm
  have wv : IntKind.u64.wrap v = v := by rw [IntKind.wrap_u64]; omega
  have wi1 : wrap64 (n + 1) = n + 1 := by unfold wrap64; omega
  have wi2 : IntKind.i64.wrap (n + 1) = n + 1 := by simp [IntKind.wrap, IntKind.bits, IntKind.signed]; omega
  obtain ⟨pb, hpb⟩ : ∃ z, z = p.b := ⟨_, rfl⟩
  obtain ⟨pq, hpq⟩ : ∃ z, z = p.q := ⟨_, rfl⟩
  obtain ⟨ps, hps⟩ : ∃ z, z = p.s := ⟨_, rfl⟩
  have es : evSpot ⟨11, t, h, n, ref, mk, o⟩ = p := h2.symm
  rw [es, ← hpb, ← hpq, ← hps] at hr
  have HQ := Lib.hid (And.intro hpb (And.intro hpq hps))
  have HR := Lib.hid hr
  have H2 := Lib.hid h2
  have HF := Lib.hid href
  have HL := Lib.hid (c_rwStore 4 v (w := w.drew) HM.out.drew.p (by omega) (by decide) (by decide) hv0 (by omega) HM.out.drew.e.hi n0 n1)
  clear h2 hv hN hv0 hv1 es hpb hpq hps hsp href
  clear hW hX hx hhi c1 c2 c3 c4 c5 c6 hr l0 l1 t0 t1 h0 h1 m0 m1 m2 r0 r1 k0 k1 w0 w1 o8
  go_enter Tryz.func169, Tryz.ntmps169
  go_wp2_with fail
  go_region_held3 (fun w' => w'.cell? ⟨R, 6, none⟩ = some (.int .u64 h) ∧ w'.cell? ⟨R, 7, none⟩ = some (.int .i64 n)) (go_keep)
    ((first
      | (go_at_call 165
         refine HS.out.mono ?_
         rintro e w1 ⟨rfl, rfl⟩)
      | (go_at_call 135
         refine HL.out.mono ?_
         rintro e w2 ⟨rfl, G2, e2, P2⟩
         have M2 := Lib.hid (HM.out.drew.world hk e2 P2)
         have y6 := M2.out.t.c 6 _ rfl
         have y7 := M2.out.t.c 7 _ rfl
         clear e2 P2)))
  all_goals
    clear x0 x1 x6 x7 x5 y6 y7 wv htm ws ws1 wn wa dz dz2 dz3
    have y1 := M2.out.t.c 1 _ rfl
    have y2 := M2.out.t.c 2 _ rfl
    have y3 := M2.out.t.c 3 _ rfl
    have y4 := M2.out.t.c 4 _ rfl
    have y7 := M2.out.t.c 7 _ rfl
    rw [← HQ.out.1] at y2
    rw [← HQ.out.2.1] at y3
    rw [← HQ.out.2.2] at y4
    go_upto_region 23 with fail
    go_region_held3 (fun w' => w'.cell? ⟨R, 1, none⟩ = some (.int .i64 ref) ∧ w'.cell? ⟨R, 2, none⟩ = some (.int .i64 pb) ∧ w'.cell? ⟨R, 3, none⟩ = some (.int .i64 pq) ∧ w'.cell? ⟨R, 4, none⟩ = some (.int .i64 ps) ∧ w'.cell? ⟨R, 7, none⟩ = some (.int .i64 n)) (go_keep)
      ((go_at_call 150
        refine (c_rwNote 8 ref pb pq ps (n + 1) (w := w2.drew) M2.out.drew.p M2.out.drew.e.hi (by decide) (by decide)).mono ?_
        rintro e w3 ⟨rfl, G3, e3, P3⟩
        have M3 := Lib.hid (M2.out.drew.world hk e3 P3)
        have y13 := M3.out.t.c 1 _ rfl
        have y23 := M3.out.t.c 2 _ rfl
        have y33 := M3.out.t.c 3 _ rfl
        have y43 := M3.out.t.c 4 _ rfl
        have y73 := M3.out.t.c 7 _ rfl
        rw [← HQ.out.1] at y23
        rw [← HQ.out.2.1] at y33
        rw [← HQ.out.2.2] at y43
        clear e3 P3))
  all_goals
    clear y1 y2 y3 y4 y7 y13 y23 y33 y43 y73
    have y0 := M3.out.t.c 0 _ rfl
    have f0 := M3.out.t.f 0
    have M4 := Lib.hid (M3.out.set hk (Nat.le_refl _) (by omega) 0 (.int .i64 12) (by simp [reCs]))

    go_wp2_with fail
    go_end0
    rw [HR.out]
    exact ⟨rfl, _, M4.out.e, M4.out.p, ReAt.simple p a u M4.out.t (fun g => absurd g (by dsimp only; omega)) (fun _ => by rw [if_neg HF.out]; exact H2.out) (by dsimp only; omega) (fun g => absurd g (by dsimp only; omega))⟩
set_option maxRecDepth 100000 in
theorem c_reFound {z : Evm} (L : Evm → AW → Prop) (hX : ReAt w O k R z) (hl : 7 ≤ z.ln) (r : AW × Evm) (HF : Calls Tryz.prog 169 #[.pointer (some ⟨R, 0, none⟩), .pointer (some ⟨C.p, 0, none⟩)] w (REPost w O C f k R m r)) :
    Calls Tryz.prog 87 #[.pointer (some ⟨R, 0, none⟩), .pointer (some ⟨C.p, 0, none⟩)] w (REPost w O C f k R m r) := by
  obtain ⟨p, a, u, hx, -⟩ := hX.ex
  have x0 : w.cell? ⟨R, 0, none⟩ = some (.int .i64 z.ln) := hx.c 0 _ rfl
  obtain ⟨ln, hln⟩ : ∃ ln, ln = z.ln := ⟨_, rfl⟩
  rw [← hln] at x0 hl
  have d1 : (ln == 1) = false := by rw [beq_eq_false_iff_ne]; omega
  have d2 : (ln == 2) = false := by rw [beq_eq_false_iff_ne]; omega
  have d3 : (ln == 3) = false := by rw [beq_eq_false_iff_ne]; omega
  have d4 : (ln == 4) = false := by rw [beq_eq_false_iff_ne]; omega
  have d5 : (ln == 5) = false := by rw [beq_eq_false_iff_ne]; omega
  have d6 : (ln == 6) = false := by rw [beq_eq_false_iff_ne]; omega
  have H := Lib.hid HF
  clear HF hx hX hln hl
  unfold REPost at *
  go_enter Tryz.func87, Tryz.ntmps87
  go_wp2_with fail
  refine H.out.mono ?_
  rintro e w' ⟨rfl, G, hh⟩
  have HH := Lib.hid hh
  clear hh
  go_wp2_with fail
  go_end0
  exact ⟨rfl, G, HH.out⟩
set_option maxRecDepth 100000 in
theorem c_reFound0 {z : Evm} (hX : ReAt w O k R z) (hl : z.ln = 0) :
    Calls Tryz.prog 169 #[.pointer (some ⟨R, 0, none⟩), .pointer (some ⟨C.p, 0, none⟩)] w fun e w' => e = .returned (.tuple #[]) ∧ w = w' := by
  obtain ⟨p, a, u, hx, -⟩ := hX.ex
  have x0 : w.cell? ⟨R, 0, none⟩ = some (.int .i64 z.ln) := hx.c 0 _ rfl
  rw [hl] at x0
  clear hx hX hl
  go_enter Tryz.func169, Tryz.ntmps169
  go_wp2_with fail
  go_end0
  exact ⟨rfl, rfl⟩
set_option maxRecDepth 100000 in
theorem c_reStep0 {z : Evm} (hX : ReAt w O k R z) (hl : z.ln = 0) :
    Calls Tryz.prog 87 #[.pointer (some ⟨R, 0, none⟩), .pointer (some ⟨C.p, 0, none⟩)] w fun e w' => e = .returned (.tuple #[]) ∧ w = w' := by
  have H := Lib.hid (c_reFound0 (C := C) hX hl)
  obtain ⟨p, a, u, hx, -⟩ := hX.ex
  have x0 : w.cell? ⟨R, 0, none⟩ = some (.int .i64 z.ln) := hx.c 0 _ rfl
  rw [hl] at x0
  clear hx hX hl
  go_enter Tryz.func87, Tryz.ntmps87
  go_wp2_with fail
  refine H.out.mono ?_
  rintro e w' ⟨rfl, rfl⟩
  go_wp2_with fail
  go_end0
  exact ⟨rfl, rfl⟩
/-- The document's Evict's step. -/
theorem c_reStep {z : Evm} (hW : RW w O C f s m) (hX : ReAt w O k R z) (hz : EvOk z) (hk : 10 ≤ k) (hm : m ≤ 900000) (hhi : ∀ j, O j ≠ 0 → j < w.heap.size) (n0 : 0 ≤ s.n) (n1 : s.n ≤ 4611686018427387904) :
    Calls Tryz.prog 87 #[.pointer (some ⟨R, 0, none⟩), .pointer (some ⟨C.p, 0, none⟩)] w (REPost w O C f k R m (evStep (s, z))) := by
  have l0 := hz.l0
  have l1 := hz.l1
  by_cases e0 : z.ln = 0
  · rw [evStep_0 s z e0]
    refine (c_reStep0 hX e0).mono ?_
    rintro e w' ⟨rfl, rfl⟩
    exact ⟨rfl, O, Ext.refl hhi, hW.up (by omega), hX⟩
  have h : z.ln = 1 ∨ z.ln = 2 ∨ z.ln = 3 ∨ z.ln = 4 ∨ z.ln = 5 ∨ z.ln = 6 ∨ z.ln = 7 ∨ z.ln = 8 ∨ z.ln = 9 ∨ z.ln = 10 ∨ z.ln = 11 ∨ z.ln = 12 := by omega
  rcases h with h | h | h | h | h | h | h | h | h | h | h | h
  · exact c_re1 hW hX hz h hk hm hhi n0 n1
  · exact c_re2 hW hX hz h hk hm hhi n0 n1
  · exact c_re3 hW hX hz h hk hm hhi n0 n1
  · exact c_re4 hW hX hz h hk hm hhi n0 n1
  · exact c_re5 hW hX hz h hk hm hhi n0 n1
  · exact c_re6 hW hX hz h hk hm hhi n0 n1
  · exact c_reFound (fun _ _ => True) hX (by omega) _ (c_re7 hW hX hz h hk hm hhi n0 n1)
  · have ho := hz.o8 (.inr h)
    have ho3 : z.o.ln = 0 ∨ z.o.ln = 1 ∨ z.o.ln = 2 := by omega
    rcases ho3 with g | g | g
    · exact c_reFound (fun _ _ => True) hX (by omega) _ (c_re8_0 hW hX hz h g hk hm hhi n0 n1)
    · exact c_reFound (fun _ _ => True) hX (by omega) _ (c_re8_1 hW hX hz h g hk hm hhi n0 n1)
    · exact c_reFound (fun _ _ => True) hX (by omega) _ (c_re8_2 hW hX hz h g hk hm hhi n0 n1)
  · exact c_reFound (fun _ _ => True) hX (by omega) _ (c_re9 hW hX hz h hk hm hhi n0 n1)
  · exact c_reFound (fun _ _ => True) hX (by omega) _ (c_re10 hW hX hz h hk hm hhi n0 n1)
  · by_cases hr : z.ref = 0
    · exact c_reFound (fun _ _ => True) hX (by omega) _ (c_re11a hW hX hz h hr hk hm hhi n0 n1)
    · exact c_reFound (fun _ _ => True) hX (by omega) _ (c_re11b hW hX hz h hr hk hm hhi n0 n1)
  · exact c_reFound (fun _ _ => True) hX (by omega) _ (c_re12 hW hX hz h hk hm hhi n0 n1)
theorem c_reNew (hk : 10 ≤ k) (hhi : ∀ j, O j ≠ 0 → j < w.heap.size) : Calls Tryz.prog 85 #[] w fun e w' => ∃ R, RP (fun t => t = k) w O (.pointer (some ⟨R, 0, none⟩)) (fun W G => ReAt W G k R evNew) e w' := by
  obtain ⟨G, e2, x2, -⟩ := alloc_ob hhi k #[.int .i64 1, .int .i64 0, .int .i64 0, .int .i64 0, .int .i64 0, .int .u64 0, .int .u64 0, .int .i64 0, .int .u64 0, .pointer none, .pointer none] 158 w.heap.size rfl
  have HE := Lib.hid (And.intro e2 x2)
  clear e2 x2
  go_enter Tryz.func85, Tryz.ntmps85
  go_wp2_with fail
  go_ret
  exact ⟨_, rfl, G, HE.out.1, ReAt.simple ⟨0, 0, 0⟩ none none HE.out.2 (fun g => absurd g (by unfold evNew; dsimp only; omega)) (fun g => absurd g (by unfold evNew; dsimp only; omega)) (by unfold evNew; dsimp only; omega) (fun _ => rfl)⟩
set_option maxHeartbeats 2000000 in
set_option maxRecDepth 100000 in
theorem c_reGot {z : Evm} (hX : ReAt w O k R z) :
    Calls Tryz.prog 164 #[.pointer (some ⟨R, 0, none⟩)] w fun e w' => e = .returned (.tuple #[.int .i64 (evGot z).1, spV (evGot z).2]) ∧ Below w.heap.size w w' := by
  obtain ⟨p, a, u, hx, c1, c2, -⟩ := hX.ex
  have x0 := hx.c 0 _ rfl
  have x1 := hx.c 1 _ rfl
  have x2 := hx.c 2 _ rfl
  have x3 := hx.c 3 _ rfl
  have x4 := hx.c 4 _ rfl
  have hl := hx.lt
  obtain ⟨ln, t, h, n, ref, mk, o⟩ := z
  dsimp only at x0 x1 x2 x3 x4 c1 c2
  clear hX hx
  have hB : ∀ o, Below w.heap.size w (w.alloc o) := fun o => (Below.refl _ _).alloc (Nat.le_refl _) o
  have HB := Lib.hid hB
  have hne : ¬ R = w.heap.size := by omega
  have hne2 : ¬ w.heap.size = R := by omega
  clear hB
  by_cases e0 : ln = 0
  · subst e0
    have hg : ((evGot ⟨0, t, h, n, ref, mk, o⟩).1, (evGot ⟨0, t, h, n, ref, mk, o⟩).2) = (ref, p) := by
      rw [c2 (.inr (.inr rfl))]
      by_cases er : ref = 0
      · subst er; unfold evGot; rw [if_neg (by simp)]
        first | rfl | done
      · unfold evGot; rw [if_pos ⟨rfl, er⟩, if_neg er]
    have g1 := congrArg Prod.fst hg
    have g2 := congrArg Prod.snd hg
    dsimp only at g1 g2
    rw [g1, g2]
    unfold spV
    clear hg g1 g2 c1 c2
    obtain ⟨pb, hpb⟩ : ∃ z, z = p.b := ⟨_, rfl⟩
    obtain ⟨pq, hpq⟩ : ∃ z, z = p.q := ⟨_, rfl⟩
    obtain ⟨ps, hps⟩ : ∃ z, z = p.s := ⟨_, rfl⟩
    rw [← hpb] at x2
    rw [← hpq] at x3
    rw [← hps] at x4
    rw [← hpb, ← hpq, ← hps]
    clear hpb hpq hps
    go_enter Tryz.func164, Tryz.ntmps164
    go_wp2_with fail
    obtain ⟨W, hW⟩ : ∃ W, W = w.alloc (.cells #[.int .i64 0, .int .i64 0, .int .i64 0] 56) := ⟨_, rfl⟩
    have hB : Below w.heap.size w W := by rw [hW]; exact HB.out _
    have y1 := (hB.cell (p := ⟨R, 1, none⟩) hl).trans x1
    have y2 := (hB.cell (p := ⟨R, 2, none⟩) hl).trans x2
    have y3 := (hB.cell (p := ⟨R, 3, none⟩) hl).trans x3
    have y4 := (hB.cell (p := ⟨R, 4, none⟩) hl).trans x4
    have z0 : W.cell? ⟨w.heap.size, 0, none⟩ = some (.int .i64 0) := by rw [hW]; simp
    have z1 : W.cell? ⟨w.heap.size, 1, none⟩ = some (.int .i64 0) := by rw [hW]; simp
    have z2 : W.cell? ⟨w.heap.size, 2, none⟩ = some (.int .i64 0) := by rw [hW]; simp
    have zf : ∀ j, W.frozen? ⟨w.heap.size, j, none⟩ = false := fun j => by rw [hW]; exact frozen_newA w #[.int .i64 0, .int .i64 0, .int .i64 0] _ _ rfl j
    have zf0 := zf 0
    have zf1 := zf 1
    have zf2 := zf 2
    have HBW := Lib.hid hB
    have s0 : (W.setCell ⟨w.heap.size, 0, none⟩ (.int .i64 pb)).cell? ⟨w.heap.size, 0, none⟩ = some (.int .i64 pb) := World.cell?_setCell_same _ _ _ z0
    have s1 : ((W.setCell ⟨w.heap.size, 0, none⟩ (.int .i64 pb)).setCell ⟨w.heap.size, 1, none⟩ (.int .i64 pq)).cell? ⟨w.heap.size, 1, none⟩ = some (.int .i64 pq) := World.cell?_setCell_same _ _ _ ((World.cell?_setCell_other _ _ _ _ (by simp)).trans z1)
    have s2 : (((W.setCell ⟨w.heap.size, 0, none⟩ (.int .i64 pb)).setCell ⟨w.heap.size, 1, none⟩ (.int .i64 pq)).setCell ⟨w.heap.size, 2, none⟩ (.int .i64 ps)).cell? ⟨w.heap.size, 2, none⟩ = some (.int .i64 ps) := World.cell?_setCell_same _ _ _ ((World.cell?_setCell_other _ _ _ _ (by simp)).trans ((World.cell?_setCell_other _ _ _ _ (by simp)).trans z2))
    try rw [← hW]
    clear hW hB zf
    go_region_held3 (fun w' => w'.cell? ⟨R, 1, none⟩ = some (.int .i64 ref) ∧ w'.cell? ⟨R, 2, none⟩ = some (.int .i64 pb) ∧ w'.cell? ⟨R, 3, none⟩ = some (.int .i64 pq) ∧ w'.cell? ⟨R, 4, none⟩ = some (.int .i64 ps)) (go_keep) (fail)
    all_goals
      go_wp2_with fail
      exact bodyPost_ret (v := .tuple #[.int .i64 ref, .agg #[.int .i64 pb, .int .i64 pq, .int .i64 ps]]) (by simp [results, Tryz.results164, go_sem, s0, s1, s2]) rfl ⟨rfl, (((HBW.out.setCell (p := ⟨w.heap.size, 0, none⟩) (Nat.le_refl _) _).setCell (p := ⟨w.heap.size, 1, none⟩) (Nat.le_refl _) _).setCell (p := ⟨w.heap.size, 2, none⟩) (Nat.le_refl _) _).drew⟩
  · have hg : evGot ⟨ln, t, h, n, ref, mk, o⟩ = (0, ⟨0, 0, 0⟩) := by unfold evGot; rw [if_neg (by intro g; exact e0 g.1)]
    have dn : (ln != 0) = true := by simp [e0]
    have dn2 : (ln == 0) = false := by simp [e0]
    rw [hg]
    unfold spV
    dsimp only
    clear hg c1 c2 e0
    go_enter Tryz.func164, Tryz.ntmps164
    go_wp2_with fail
    exact bodyPost_ret (v := .tuple #[.int .i64 0, .agg #[.int .i64 0, .int .i64 0, .int .i64 0]]) (by simp [results, Tryz.results164, go_sem]) rfl ⟨rfl, by first | exact (Below.refl _ _).alloc (Nat.le_refl _) _ | exact ((((Below.refl _ _).alloc (Nat.le_refl _) _).setCell (p := ⟨w.heap.size, 0, none⟩) (Nat.le_refl _) _).setCell (p := ⟨w.heap.size, 1, none⟩) (Nat.le_refl _) _).setCell (p := ⟨w.heap.size, 2, none⟩) (Nat.le_refl _) _⟩
end
end
end Go.Proofs.YtkpkhibknaoboaaGreat
