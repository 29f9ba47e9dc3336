/- Layer 26: the program's Change: a new record comes; a touch. -/
import Derived.Test.YtifkfhnbkjkakaaGreatDoorZrCg3
namespace Go.Proofs.YtifkfhnbkjkakaaGreatDoor
set_option linter.unusedSimpArgs false
set_option linter.unusedVariables false
set_option maxHeartbeats 8000000
set_option maxRecDepth 100000
open Go.RowKit
def itCs (x : It) : List Value := [.string x.key, .string x.val, .int .u32 x.fl, .int .u64 x.id, .int .i64 x.dies, .int .i64 x.gen]
def anKV (ka kn : Int) : Value := .agg #[.int .u8 ka, .int .u64 kn, .string ⟨#[]⟩, .string ⟨#[]⟩, .int .u32 0, .int .u64 0, .int .i64 0, .int .i64 0]
def StCut (k : Nat) (w0 : World) (O0 : Om) (w : World) (O : Om) (B : Wb) (f : Cf) (s : AW) (X : Nat) (c : Clm) (pv th : Value) (tl : List Value) (bx ba : Nat) (ka kn r : Int) (v : Value) (wx : World) : Prop :=
 ∃ (G : Om) (br : Nat), v = .pointer (some ⟨br, 0, none⟩) ∧ Me k (k + 30) w0 O0 wx G B f s k X (chCs c pv th tl) ∧ Ext (SX k (k + 30)) O w G wx ∧ Bx wx G bx [.pointer (some ⟨X, 0, none⟩)] ∧ Bx wx G ba (aKs ka kn) ∧ Ob wx G (k + 27) br [.int .i64 r]
section
variable {w w0 : World} {O O0 : Om} {B : Wb} {f : Cf} {s : AW} {a b k X : Nat} {pv th : Value} {tl : List Value} {c : Clm} {p : Spt} {x : It} {rf an nu ep pt : Int}
theorem stA {w1 : World} {G : Om} {bx ba : Nat} {ka kn r : Int} {ty : TypeId} (h : Me k (k + 30) w0 O0 w1 G B f s k X (chCs c pv th tl) ∧ Ext (SX k (k + 30)) O w G w1 ∧ Bx w1 G bx [.pointer (some ⟨X, 0, none⟩)] ∧ Bx w1 G ba (aKs ka kn)) (hk : 10 ≤ k) :
 StCut k w0 O0 w O B f s X c pv th tl bx ba ka kn r (.pointer (some ⟨w1.heap.size, 0, none⟩)) (w1.alloc (.cells #[.int .i64 r] ty)) := by
 obtain ⟨m, e, hx, ha⟩ := h
 obtain ⟨G1, e1, o1, -⟩ := alloc_ob m.e.hi (k + 27) #[.int .i64 r] ty w1.heap.size rfl
 obtain ⟨m1, em⟩ := m.ow e1 (by intro t ht; omega) hk
 exact ⟨G1, _, rfl, m1, e.trans em, hx.ext e1, ha.ext e1, o1⟩
theorem stB {w1 : World} {G : Om} {bx ba br : Nat} {ka kn r u : Int} (h : Me k (k + 30) w0 O0 w1 G B f s k X (chCs c pv th tl) ∧ Ext (SX k (k + 30)) O w G w1 ∧ Bx w1 G bx [.pointer (some ⟨X, 0, none⟩)] ∧ Bx w1 G ba (aKs ka kn)) (o : Ob w1 G (k + 27) br [.int .i64 u]) (hk : 10 ≤ k) :
 StCut k w0 O0 w O B f s X c pv th tl bx ba ka kn r (.pointer (some ⟨br, 0, none⟩)) (w1.setCell ⟨br, 0, none⟩ (.int .i64 r)) := by
 obtain ⟨m, e, hx, ha⟩ := h
 have e1 := Ext.of_set (j := 0) (v := .int .i64 r) (S := fun t => t = k + 27) m.e.hi o.o (by omega) rfl
 obtain ⟨m1, em⟩ := m.ow e1 (by intro t ht; omega) hk
 exact ⟨G, _, rfl, m1, e.trans em, hx.ext e1, ha.ext e1, o.set 0 _ (by simp)⟩
theorem c_ChStores (y : It) (ka kn : Int) (M : Me k (k + 30) w0 O0 w O B f s k X (chCs c pv th tl)) (hil : s.it.length ≤ 1000000) (hk : 10 ≤ k) :
 Calls Tryz.prog 191 #[.pointer (some ⟨X, 0, none⟩), .pointer (some ⟨B.p, 0, none⟩), itV y, anKV ka kn] w fun e w' => ∃ bx br ba, ChQ k w0 O0 w O B f (awItem y s) X c (ST1V bx br) (ST2V ba bx) tl (fun W G => Bx W G bx [.pointer (some ⟨X, 0, none⟩)] ∧ Ob W G (k + 27) br [.int .i64 (s.it.length + 1 : Nat)] ∧ Bx W G ba (aKs ka kn)) e w' := by
 obtain ⟨m1, x1, b1⟩ := box_more M (.pointer (some ⟨X, 0, none⟩)) 78 w.heap.size rfl
 have b2 := alloc_below (w.alloc (.cells #[.pointer (some ⟨X, 0, none⟩)] 78)) (.cells (itCs y).toArray 34)
 have y2 := Bx.new m1.e.hi (itCs y).toArray 34 (w.heap.size + 1) (by simp)
 have m2 := m1.below b2
 have b3 := alloc_below ((w.alloc (.cells #[.pointer (some ⟨X, 0, none⟩)] 78)).alloc (.cells (itCs y).toArray 34)) (.cells (aKs ka kn).toArray 36)
 have z3 := Bx.new m2.e.hi (aKs ka kn).toArray 36 (w.heap.size + 1 + 1) (by simp)
 have m3 := m2.below b3
 have x3 := (x1.below b2).below b3
 have y3 := y2.below b3
 have hE := Ext.of_below (S := SX k (k + 30)) M.e.hi ((b1.trans (b2.mono b1.size)).trans (b3.mono (by simp; omega)))
 obtain ⟨W, hW⟩ : ∃ W, W = ((w.alloc (.cells #[.pointer (some ⟨X, 0, none⟩)] 78)).alloc (.cells (itCs y).toArray 34)).alloc (.cells (aKs ka kn).toArray 36) := ⟨_, rfl⟩
 rw [← hW] at m3 x3 y3 z3 hE
 obtain ⟨bx, hbx⟩ : ∃ n, n = w.heap.size := ⟨_, rfl⟩
 obtain ⟨bi, hbi⟩ : ∃ n, n = w.heap.size + 1 := ⟨_, rfl⟩
 obtain ⟨ba, hba⟩ : ∃ n, n = w.heap.size + 1 + 1 := ⟨_, rfl⟩
 rw [← hbx] at x3
 rw [← hbi] at y3
 rw [← hba] at z3
 have y3 : Bx W O bi (itCs y) := y3
 have z3 : Bx W O ba (aKs ka kn) := z3
 have p1 := m3.p.wo.c1
 have i0 := y3.c 0 _ rfl
 have i1 := y3.c 1 _ rfl
 have i2 := y3.c 2 _ rfl
 have i3 := y3.c 3 _ rfl
 have i4 := y3.c 4 _ rfl
 have i5 := y3.c 5 _ rfl
 have HIA := Lib.hid (fun (W : World) (G : Om) (q : Ar W G 3 B.ip s.it) (hh : ∀ j, G j ≠ 0 → j < W.heap.size) => c_IAdd y q (by decide) hil hh)
 have bd := drew_below W
 have HA := Lib.hid (And.intro (m3.below bd) (And.intro (x3.below bd) (And.intro (y3.below bd) (And.intro (z3.below bd) (hE.below bd)))))
 obtain ⟨G6, e6, r6, -⟩ := alloc_ob m3.e.hi (k + 27) #[.int .i64 0] 3 W.heap.size rfl
 obtain ⟨m6, em6⟩ := m3.ow e6 (by intro t ht; omega) hk
 have bd6 := drew_below (W.alloc (.cells #[.int .i64 0] 3))
 have HB := Lib.hid (And.intro (m6.below bd6) (And.intro ((x3.ext e6).below bd6) (And.intro ((y3.ext e6).below bd6) (And.intro ((z3.ext e6).below bd6) (And.intro ((hE.trans em6).below bd6) (r6.below bd6))))))
 have hbxl := x3.lt
 have hbil := y3.lt
 have hXl := m3.t.lt
 have hBl := m3.p.wo.lt
 unfold itV anKV
 unfold itCs aKs at hW
 obtain ⟨r, hr⟩ : ∃ r : Int, r = ((s.it.length + 1 : Nat) : Int) := ⟨_, rfl⟩
 rw [← hr] at HIA ⊢
 clear M m1 x1 b1 m2 y2 b2 m3 b3 x3 y3 z3 hE hil bd e6 r6 m6 em6 bd6 hr
 go_enter Tryz.func191, Tryz.ntmps191
 go_upto_region 1 with fail
 have hW2 := hW
 rw [← hW2, ← hba, ← hbi, ← hbx]
 clear hW hW2 hba hbi hbx
 go_cut [8, 9] (fun v u wx => u = .int .i64 0 ∧ StCut k w0 O0 w O B f (awItem y s) X c pv th tl bx ba ka kn r v wx)
 case first =>
  go_region_held3 (fun w' => w'.cell? ⟨B.p, 1, none⟩ = some (.pointer (some ⟨B.ip, 0, none⟩)) ∧ w'.cell? ⟨bi, 0, none⟩ = some (.string y.key) ∧ w'.cell? ⟨bi, 1, none⟩ = some (.string y.val) ∧ w'.cell? ⟨bi, 2, none⟩ = some (.int .u32 y.fl) ∧ w'.cell? ⟨bi, 3, none⟩ = some (.int .u64 y.id) ∧ w'.cell? ⟨bi, 4, none⟩ = some (.int .i64 y.dies) ∧ w'.cell? ⟨bi, 5, none⟩ = some (.int .i64 y.gen)) (go_keep)
   (first
     | (go_at_call 111
        first
         | (refine (HIA.out W.drew O HA.out.1.p.ar HA.out.1.e.hi).mono ?_
            rintro e w7 ⟨rfl, G7, e7, a7⟩
            have em := e7.mono (T := SX k (k + 30)) fun t _ ht => .inl (by omega)
            have m7 : Me k (k + 30) w0 O0 w7 G7 B f (awItem y s) k X (chCs c pv th tl) := ⟨HA.out.1.e.trans em, HA.out.1.p.itm e7 a7, HA.out.1.t.ext e7 (by omega)⟩
            have y7 := HA.out.2.2.1.ext e7
            have p1 := m7.p.wo.c1
            have i0 := y7.c 0 _ rfl
            have i1 := y7.c 1 _ rfl
            have i2 := y7.c 2 _ rfl
            have i3 := y7.c 3 _ rfl
            have i4 := y7.c 4 _ rfl
            have i5 := y7.c 5 _ rfl
            have HJA := Lib.hid (And.intro m7 (And.intro (HA.out.2.2.2.2.trans em) (And.intro (HA.out.2.1.ext e7) (HA.out.2.2.2.1.ext e7))))
            have hz7 := e7.size
            have hy7 := y7.lt
            have hB7 := m7.p.wo.lt
            clear em m7 y7 e7 a7)
         | (refine (HIA.out (W.alloc (.cells #[.int .i64 0] 3)).drew G6 HB.out.1.p.ar HB.out.1.e.hi).mono ?_
            rintro e w7 ⟨rfl, G7, e7, a7⟩
            have em := e7.mono (T := SX k (k + 30)) fun t _ ht => .inl (by omega)
            have m7 : Me k (k + 30) w0 O0 w7 G7 B f (awItem y s) k X (chCs c pv th tl) := ⟨HB.out.1.e.trans em, HB.out.1.p.itm e7 a7, HB.out.1.t.ext e7 (by omega)⟩
            have y7 := HB.out.2.2.1.ext e7
            have r7 := HB.out.2.2.2.2.2.ext e7 (by omega)
            have p1 := m7.p.wo.c1
            have i0 := y7.c 0 _ rfl
            have i1 := y7.c 1 _ rfl
            have i2 := y7.c 2 _ rfl
            have i3 := y7.c 3 _ rfl
            have i4 := y7.c 4 _ rfl
            have i5 := y7.c 5 _ rfl
            have r0 := r7.c 0 _ rfl
            have rf0 := r7.f 0
            have HJB := Lib.hid (And.intro (And.intro m7 (And.intro (HB.out.2.2.2.2.1.trans em) (And.intro (HB.out.2.1.ext e7) (HB.out.2.2.2.1.ext e7)))) r7)
            have hn1 : ¬ W.heap.size = bi := by omega
            have hn2 : ¬ W.heap.size = B.p := by omega
            clear em m7 y7 r7 e7 a7)))
  all_goals
   go_wp2_with fail
   go_meet
   first
    | exact ⟨rfl, stA HJA.out hk⟩
    | exact ⟨rfl, stB HJB.out.1 HJB.out.2 hk⟩
 obtain ⟨rfl, G, br, rfl, m8, e8, x8, z8, r8⟩ := hcut
 have q0 := x8.c 0 _ rfl
 have HO := Lib.hid (c_ChOn (c := c) (tl := tl) 244 (.func (.func 245) #[] #[.pointer (some ⟨bx, 0, none⟩), .pointer (some ⟨br, 0, none⟩)]) (.func 246) #[] #[.pointer (some ⟨ba, 0, none⟩), .pointer (some ⟨bx, 0, none⟩)] m8 hk)
 have HJ := Lib.hid (And.intro e8 (And.intro x8 (And.intro z8 r8)))
 clear m8 e8 x8 z8 r8 HA HB HIA
 go_wp2_with fail
 refine HO.out.mono ?_
 rintro e w9 ⟨rfl, m9, e9⟩
 have HQ := Lib.hid (And.intro m9 (And.intro (HJ.out.1.trans (e9.mono fun t _ ht => SX.one ht)) (And.intro (HJ.out.2.1.ext e9) (And.intro (HJ.out.2.2.2.ext e9 (by omega)) (HJ.out.2.2.1.ext e9)))))
 clear m9 e9
 go_wp2_with fail
 go_end0
 exact ⟨bx, br, ba, rfl, G, HQ.out⟩
theorem c_ChTouches (M : Me k (k + 30) w0 O0 w O B f s k X (chCs c pv th (chTl p x rf an nu ep pt))) (hep : 0 ≤ ep ∧ ep ≤ 18446744073709551615) (hex : -9223372036854775808 ≤ c.exp ∧ c.exp ≤ 9223372036854775807) (hil : s.it.length ≤ 1000000) (hk : 10 ≤ k) :
 Calls Tryz.prog 125 #[.pointer (some ⟨X, 0, none⟩), .pointer (some ⟨B.p, 0, none⟩)] w fun e w' => ∃ bx br ba, ChQ k w0 O0 w O B f (awItem { x with dies := epDies ep c.exp } s) X c (ST1V bx br) (ST2V ba bx) (chTl p x rf an nu ep pt) (fun W G => Bx W G bx [.pointer (some ⟨X, 0, none⟩)] ∧ Ob W G (k + 27) br [.int .i64 (s.it.length + 1 : Nat)] ∧ Bx W G ba (aKs 7 0)) e w' := by
 have HDI := Lib.hid (fun W => c_Dies ep c.exp W hep.1 hep.2 hex.1 hex.2)
 have q12 := M.t.c 12 _ rfl
 have q13 := M.t.c 13 _ rfl
 have q14 := M.t.c 14 _ rfl
 have q15 := M.t.c 15 _ rfl
 have q16 := M.t.c 16 _ rfl
 have q17 := M.t.c 17 _ rfl
 obtain ⟨G1, e1, o1, -⟩ := alloc_ob M.e.hi (k + 10) (itCs x).toArray 34 w.heap.size rfl
 obtain ⟨m1, em⟩ := M.ow e1 (by intro t ht; omega) hk
 have o1 : Ob (w.alloc (.cells (itCs x).toArray 34)) G1 (k + 10) w.heap.size (itCs x) := o1
 obtain ⟨W, hW⟩ : ∃ W, W = w.alloc (.cells (itCs x).toArray 34) := ⟨_, rfl⟩
 rw [← hW] at m1 em o1
 have q4 := m1.t.c 4 _ rfl
 have q27 := m1.t.c 27 _ rfl
 have bd := drew_below W
 have HM := Lib.hid (And.intro (m1.below bd) (And.intro (em.below bd) (o1.below bd)))
 have HST := Lib.hid (fun (W : World) (G : Om) (m : Me k (k + 30) w0 O0 W G B f s k X (chCs c pv th (chTl p x rf an nu ep pt))) => c_ChStores { x with dies := epDies ep c.exp } 7 0 m hil hk)
 unfold itCs at hW
 obtain ⟨bi, hbi⟩ : ∃ n, n = w.heap.size := ⟨_, rfl⟩
 rw [← hbi] at HM
 have hn : ¬ X = bi := by have := M.t.lt; omega
 have hn2 : ¬ bi = X := fun e => hn e.symm
 unfold itV anKV at HST
 dsimp only at HST
 obtain ⟨ds, hds⟩ : ∃ d, d = epDies ep c.exp := ⟨_, rfl⟩
 have HQ0 : Hid (∀ e w', (∃ bx br ba, ChQ k w0 O0 w O B f (awItem ⟨x.key, x.val, x.fl, x.id, ds, x.gen⟩ s) X c (ST1V bx br) (ST2V ba bx) (chTl p x rf an nu ep pt) (fun W G => Bx W G bx [.pointer (some ⟨X, 0, none⟩)] ∧ Ob W G (k + 27) br [.int .i64 (s.it.length + 1 : Nat)] ∧ Bx W G ba (aKs 7 0)) e w') → (∃ bx br ba, ChQ k w0 O0 w O B f (awItem { x with dies := epDies ep c.exp } s) X c (ST1V bx br) (ST2V ba bx) (chTl p x rf an nu ep pt) (fun W G => Bx W G bx [.pointer (some ⟨X, 0, none⟩)] ∧ Ob W G (k + 27) br [.int .i64 (s.it.length + 1 : Nat)] ∧ Bx W G ba (aKs 7 0)) e w')) := Lib.hid (fun e w' h => by rw [hds] at h; exact h)
 have HST : Hid (∀ (W : World) (G : Om), Me k (k + 30) w0 O0 W G B f s k X (chCs c pv th (chTl p x rf an nu ep pt)) → Calls Tryz.prog 191 #[.pointer (some ⟨X, 0, none⟩), .pointer (some ⟨B.p, 0, none⟩), .agg #[.string x.key, .string x.val, .int .u32 x.fl, .int .u64 x.id, .int .i64 ds, .int .i64 x.gen], .agg #[.int .u8 7, .int .u64 0, .string ⟨#[]⟩, .string ⟨#[]⟩, .int .u32 0, .int .u64 0, .int .i64 0, .int .i64 0]] W fun e w' => ∃ bx br ba, ChQ k w0 O0 W G B f (awItem ⟨x.key, x.val, x.fl, x.id, ds, x.gen⟩ s) X c (ST1V bx br) (ST2V ba bx) (chTl p x rf an nu ep pt) (fun W G => Bx W G bx [.pointer (some ⟨X, 0, none⟩)] ∧ Ob W G (k + 27) br [.int .i64 (s.it.length + 1 : Nat)] ∧ Bx W G ba (aKs 7 0)) e w') := by
  rw [hds]; exact HST
 rw [← hds] at HDI
 clear M e1 m1 em o1 bd hep hex hil hds
 go_enter Tryz.func125, Tryz.ntmps125
 go_upto_region 1 with fail
 rw [← hW, ← hbi]
 clear hW hbi q12 q13 q14 q15 q16 q17
 go_cut [4] (fun v wx => v = .pointer (some ⟨bi, 0, none⟩) ∧ ∃ G, Me k (k + 30) w0 O0 wx G B f s k X (chCs c pv th (chTl p x rf an nu ep pt)) ∧ Ext (SX k (k + 30)) O w G wx ∧ Ob wx G (k + 10) bi [.string x.key, .string x.val, .int .u32 x.fl, .int .u64 x.id, .int .i64 ds, .int .i64 x.gen])
 case first =>
  go_region_held3 (fun w' => w'.cell? ⟨X, 4, none⟩ = some (.int .i64 c.exp) ∧ w'.cell? ⟨X, 27, none⟩ = some (.int .u64 ep)) (first | go_keep | (refine ⟨?_, ?_⟩ <;> simp [go_sem, hn, hn2, q4, q27]))
   (first
     | (go_at_call 37
        refine (HDI.out _).mono ?_
        rintro e w3 ⟨rfl, hb⟩
        have m3 := HM.out.1.below hb
        have o3 := HM.out.2.2.below hb
        have q4 := m3.t.c 4 _ rfl
        have q27 := m3.t.c 27 _ rfl
        have o4 := o3.c 4 _ rfl
        have of4 := o3.f 4
        have e4 := Ext.of_set (j := 4) (v := .int .i64 ds) (S := fun t => t = k + 10) m3.e.hi o3.o (by omega) rfl
        have HJ := Lib.hid (And.intro (m3.ow e4 (by intro t ht; omega) hk) (And.intro (HM.out.2.1.below hb) (o3.set 4 (.int .i64 ds) (by simp [itCs]))))
        clear hb m3 o3 e4))
  all_goals
   go_wp2_with fail
   go_meet
   exact ⟨rfl, G1, HJ.out.1.1, HJ.out.2.1.trans HJ.out.1.2, HJ.out.2.2⟩
 obtain ⟨rfl, G, m5, e5, o5⟩ := hcut
 have i0 := o5.c 0 _ rfl
 have i1 := o5.c 1 _ rfl
 have i2 := o5.c 2 _ rfl
 have i3 := o5.c 3 _ rfl
 have i4 := o5.c 4 _ rfl
 have i5 := o5.c 5 _ rfl
 have HC := Lib.hid (HST.out _ _ m5)
 have HE := Lib.hid e5
 clear m5 e5 o5 HM HDI HST q4 q27
 go_wp2_with fail
 refine HC.out.mono ?_
 rintro e w6 ⟨bx, br, ba, rfl, G6, m6, e6, h6⟩
 have HR := Lib.hid (And.intro m6 (And.intro (HE.out.trans e6) h6))
 clear m6 e6 h6
 go_wp2_with fail
 go_end0
 exact HQ0.out _ _ ⟨bx, br, ba, rfl, G6, HR.out⟩
end
end Go.Proofs.YtifkfhnbkjkakaaGreatDoor
