/- Layer 26: a new Change; what it got; Changes that do nothing; a run of one by itself. -/
import Derived.Test.YtifkfhnbkjkakaaGreatDoorZrCg7
import Derived.Test.YtifkfhnbkjkakaaGreatDoorZrSN
import Derived.Test.YtifkfhnbkjkakaaGreatDoorZrSeY
namespace Go.Proofs.YtifkfhnbkjkakaaGreatDoor
set_option linter.unusedSimpArgs false
set_option linter.unusedVariables false
set_option maxHeartbeats 4000000
set_option maxRecDepth 100000
open Go.RowKit
def it00 : It := ⟨⟨#[]⟩, ⟨#[]⟩, 0, 0, 0, 0⟩
def chTl0 : List Value := chTl sp20 it00 0 0 0 0 0
def chMay (c : Clm) : Bool := vbIs c.verb && kyOk c.key
section
variable {w : World} {O : Om} {B : Wb} {f : Cf} {s : AW} {k X : Nat} {c : Clm}
theorem c_ChOn0 {pv th : Value} {tl : List Value} (ty : TypeId) (v : Value) (gf : Fn) (gb gc : Array Value) (o : Ob w O k X (chCs c pv th tl)) (hhi : ∀ j, O j ≠ 0 → j < w.heap.size) (hk : 10 ≤ k) :
 Calls Tryz.prog 66 #[.pointer (some ⟨X, 0, none⟩), .iface ty v, .func gf gb gc] w fun e w' => e = .returned (.tuple #[]) ∧ Ob w' O k X (chCs c (.iface ty v) (.func gf gb gc) tl) ∧ Ext (fun t => t = k) O w O w' := by
 have q7 := o.c 7 _ rfl
 have f7 := o.f 7
 have q8 := o.c 8 _ rfl
 have f8 := o.f 8
 have e4 := Ext.of_set (j := 7) (v := .iface ty v) (S := fun t => t = k) hhi o.o (by omega) rfl
 have o4 := o.set 7 (.iface ty v) (by simp [chCs])
 have e5 := Ext.of_set (j := 8) (v := .func gf gb gc) (S := fun t => t = k) e4.hi o4.o (by omega) rfl
 have o5 := o4.set 8 (.func gf gb gc) (by simp [chCs])
 have HM := Lib.hid (And.intro o5 (e4.trans e5))
 clear o e4 o4 e5 o5 hhi
 go_enter Tryz.func66, Tryz.ntmps66
 go_wp2
 go_end0
 exact ⟨rfl, HM.out⟩
theorem c_NewChangeG (t : Int) (good : Bool) (hg : good = (decide (0 ≤ t ∧ t < 64) && chMay c)) (hz : c.key.size ≤ maxLen) (hk : 10 ≤ k) (hhi : ∀ j, O j ≠ 0 → j < w.heap.size) :
 Calls Tryz.prog 22 #[.int .i64 t, clV c] w fun e w' => ∃ X, RP (NX k) w O (PTR X) (fun W G => if good = true then ChAt W G k X t.toNat c chNew else Ob W G k X (chCs c .nilIface .nilFunc chTl0)) e w' := by
 have HO := Lib.hid (fun W => c_kyOk c.key W hz)
 obtain ⟨ko, hko⟩ : ∃ t, t = kyOk c.key := ⟨_, rfl⟩
 obtain ⟨vi, hvi⟩ : ∃ t, t = vbIs c.verb := ⟨_, rfl⟩
 obtain ⟨vf, hvf⟩ : ∃ t, t = vbV c.verb := ⟨_, rfl⟩
 rw [← hko] at HO
 have HG := Lib.hid (show good = (decide (0 ≤ t ∧ t < 64) && (vi && ko)) by rw [hg, hvi, hko]; rfl)
 have hlk : ∀ (W : World) (m : Nat), W.heap[m]? = some (.map VES 4) → (Instr.lookup 154 (.map (some m)) (.int .u8 c.verb) true).run Tryz.prog W = .ok (.tuple #[vf, .bool vi]) W := fun W m h => by
  rw [hvf, hvi]
  exact vbLook h c.verb true
 have HLK := Lib.hid hlk
 clear hg hko hvi hvf hlk hz
 have b1 := alloc_below w (.cells (clCs c).toArray 26)
 obtain ⟨G1, e1, o1, -⟩ := alloc_ob (hi_below hhi b1) k (chCs c .nilIface .nilFunc chTl0).toArray 77 (w.heap.size + 1) (by simp)
 have b3 := alloc_below ((w.alloc (.cells (clCs c).toArray 26)).alloc (.cells (chCs c .nilIface .nilFunc chTl0).toArray 77)) (.cells #[PTR (w.heap.size + 1)] 78)
 have x1 := Bx.new e1.hi #[PTR (w.heap.size + 1)] 78 (w.heap.size + 1 + 1) (by simp)
 have c1 := ((Bx.new hhi (clCs c).toArray 26 w.heap.size rfl).ext e1).below b3
 have E1 := ((Ext.of_below hhi b1).trans (e1.mono (T := NX k) fun t _ ht => NX.one ht)).below b3
 have o1 := o1.below b3
 obtain ⟨W1, hW1⟩ : ∃ W, W = ((w.alloc (.cells (clCs c).toArray 26)).alloc (.cells (chCs c .nilIface .nilFunc chTl0).toArray 77)).alloc (.cells #[PTR (w.heap.size + 1)] 78) := ⟨_, rfl⟩
 rw [← hW1] at E1 o1 x1 c1
 have HW := Lib.hid (And.intro E1 (And.intro o1 (And.intro x1 c1)))
 unfold clCs chCs chTl0 chTl sp20 it00 PTR at hW1
 clear b1 e1 b3 x1 c1 E1 o1 hhi
 dsimp only at hW1
 unfold clV
 go_enter Tryz.func22, Tryz.ntmps22
 go_upto_region 2 with fail
 rw [← hW1]
 clear hW1
 obtain ⟨bx, hbx⟩ : ∃ n, n = w.heap.size + 1 + 1 := ⟨_, rfl⟩
 obtain ⟨X, hX⟩ : ∃ n, n = w.heap.size + 1 := ⟨_, rfl⟩
 obtain ⟨bc, hbc⟩ : ∃ n, n = w.heap.size := ⟨_, rfl⟩
 rw [← hbx, ← hX, ← hbc]
 have HW : Hid (Ext (NX k) O w G1 W1 ∧ Ob W1 G1 k X (chCs c .nilIface .nilFunc chTl0) ∧ Bx W1 G1 bx [PTR X] ∧ Bx W1 G1 bc (clCs c)) := by rw [hbx, hX, hbc]; exact HW
 clear hbx hX hbc
 have HNT : Hid (∃ (b : Bool), b = !decide (0 ≤ t ∧ t < 64) ∧ Calls Tryz.prog 63 #[.int .i64 t] W1 fun e w' => ∃ T dv G2, e = .returned (.pointer (some ⟨T, 0, none⟩)) ∧ Ext (NX k) O w G2 w' ∧ Ob w' G2 k X (chCs c .nilIface .nilFunc chTl0) ∧ Bx w' G2 bx [PTR X] ∧ Bx w' G2 bc (clCs c) ∧ (w'.cell? ⟨T, 3, none⟩ = some dv ∧ T < w'.heap.size ∧ ((dv = .nilFunc ∧ b = true) ∨ (∃ f a c, dv = .func f a c ∧ b = false)) ∧ (b = false → Ob w' G2 (k + 1) T (takeCs (t.toNat : Int) 0 false (DRAWV T))))) := Lib.hid (by
  by_cases ht : 0 ≤ t ∧ t < 64
  · refine ⟨false, by rw [decide_eq_true ht]; rfl, (c_NewTakeE t W1 G1 (k + 1) (by omega) ht.1 ht.2 HW.out.1.hi).mono ?_⟩
    rintro e w2 ⟨T, rfl, G2, e2, t2⟩
    exact ⟨T, _, G2, rfl, HW.out.1.trans (e2.mono fun t _ ht => ⟨by omega, by omega⟩), HW.out.2.1.ext e2 (by omega), HW.out.2.2.1.ext e2, HW.out.2.2.2.ext e2, t2.c 3 _ rfl, t2.lt, .inr ⟨_, _, _, rfl, rfl⟩, fun _ => by rw [Int.toNat_of_nonneg ht.1]; exact t2⟩
  · refine ⟨true, by rw [decide_eq_false ht]; rfl, (c_NewTakeBadS t W1 ht).mono ?_⟩
    rintro e w2 ⟨rfl, rfl⟩
    have hb := alloc_below W1 (.cells #[.int .i64 t, .int .u64 0, .bool false, .nilFunc] 234)
    exact ⟨_, .nilFunc, G1, rfl, HW.out.1.below hb, HW.out.2.1.below hb, HW.out.2.2.1.below hb, HW.out.2.2.2.below hb, cell_newA W1 #[.int .i64 t, .int .u64 0, .bool false, .nilFunc] _ _ rfl 3 _ rfl, by simp, .inl ⟨rfl, rfl⟩, fun h => by cases h⟩)
 obtain ⟨b, hb, hc⟩ := HNT.out
 have hgood : good = (!b && (vi && ko)) := by rw [HG.out, hb, Bool.not_not]
 have HC := Lib.hid hc
 clear hc HNT HW HG hb
 go_wp2_with fail
 refine HC.out.mono ?_
 rintro e w2 ⟨T, dv, G2, rfl, e2, o2, x2, c2, t2⟩
 have bd := (alloc_below w2 (.map VES 4)).drew
 have HJ := Lib.hid (And.intro (e2.below bd) (And.intro (o2.below bd) (And.intro (x2.below bd) (And.intro (c2.below bd) t2))))
 have HT := Lib.hid ((bd.cell (p := ⟨T, 3, none⟩) t2.2.1).trans t2.1)
 have HTO := Lib.hid (fun (h : b = false) => (t2.2.2.2 h).below bd)
 have y0 := (c2.below (drew_below w2)).c 0 _ rfl
 have hz0 := HJ.out.2.2.2.1.c 0 _ rfl
 have hl0 := HLK.out (w2.alloc (.map VES 4)).drew w2.heap.size (by show (w2.heap.push _)[w2.heap.size]? = _; simp)
 clear e2 o2 x2 c2 t2 bd HC
 go_upto_region 3 with fail
 go_cut [7, 8] (fun v7 v8 wx => v8 = .bool vi ∧ wx = (w2.alloc (.map VES 4)).drew)
 case first =>
  go_region_held3 (fun w' => w'.cell? ⟨bc, 0, none⟩ = some (.int .u8 c.verb)) (first | assumption | go_keep)
   (first
     | (go_at_call 64
        refine (c_verbs _).mono ?_
        rintro e w' ⟨rfl, rfl⟩))
  all_goals
   go_wp2_with fail
   go_meet
   exact ⟨rfl, rfl⟩
 obtain ⟨rfl, rfl⟩ := hcut
 obtain ⟨w3, hw3⟩ : ∃ W, W = (w2.alloc (.map VES 4)).drew := ⟨_, rfl⟩
 rw [← hw3] at HJ HT HTO ⊢
 clear hw3 hl0 hz0 y0 HLK
 have z1 := HJ.out.2.2.2.1.c 1 _ rfl
 have y0 := HJ.out.2.2.1.c 0 _ rfl
 unfold PTR at y0
 have HTV := Lib.hid (c_TakeOver T dv w3 HT.out b HJ.out.2.2.2.2.2.2.1)
 cases vi with
 | false =>
   obtain rfl : good = false := by rw [hgood]; cases b <;> rfl
   clear hgood
   go_wp2_with fail
   go_ret
   exact ⟨X, rfl, G2, HJ.out.1, HJ.out.2.1⟩
 | true =>
   cases ko with
   | false =>
     obtain rfl : good = false := by rw [hgood]; cases b <;> rfl
     clear hgood
     go_wp2_with fail
     refine (HO.out _).mono ?_
     rintro e w' ⟨rfl, rfl⟩
     go_wp2_with fail
     go_ret
     exact ⟨X, rfl, G2, HJ.out.1, HJ.out.2.1⟩
   | true =>
     cases b with
     | true =>
       obtain rfl : good = false := hgood
       go_wp2_with fail
       refine (HO.out _).mono ?_
       rintro e w' ⟨rfl, rfl⟩
       go_wp2_with fail
       refine HTV.out.mono ?_
       rintro e w' ⟨rfl, rfl⟩
       go_wp2_with fail
       go_ret
       exact ⟨X, rfl, G2, HJ.out.1, HJ.out.2.1⟩
     | false =>
       obtain rfl : good = true := hgood
       have HON := Lib.hid (c_ChOn0 150 (.pointer (some ⟨T, 0, none⟩)) (.func 67) #[] #[.pointer (some ⟨bx, 0, none⟩)] HJ.out.2.1 HJ.out.1.hi hk)
       go_wp2_with fail
       refine (HO.out _).mono ?_
       rintro e w' ⟨rfl, rfl⟩
       go_wp2_with fail
       refine HTV.out.mono ?_
       rintro e w' ⟨rfl, rfl⟩
       go_wp2_with fail
       refine HON.out.mono ?_
       rintro e w4 ⟨rfl, o4, e4⟩
       have x4 := HJ.out.2.2.1.ext e4
       have t4 := (HTO.out trivial).ext e4 (by omega)
       have y0 := x4.c 0 _ rfl
       unfold PTR at y0
       have HR := Lib.hid (And.intro (HJ.out.1.trans (e4.mono fun t _ ht => NX.one ht)) (And.intro o4 (And.intro x4 t4)))
       clear o4 e4 x4 t4
       go_wp2_with fail
       go_ret
       refine ⟨X, rfl, G2, HR.out.1, ?_⟩
       exact ⟨_, _, sp20, it00, 0, HR.out.2.1, T, bx, rfl, rfl, HR.out.2.2.1, by have := HR.out.2.2.2; unfold tkCs; exact this⟩
theorem c_NewChange (t : Nat) (ht : t < 64) (hm : chMay c = true) (hz : c.key.size ≤ maxLen) (hk : 10 ≤ k) (hhi : ∀ j, O j ≠ 0 → j < w.heap.size) :
 Calls Tryz.prog 22 #[.int .i64 t, clV c] w fun e w' => ∃ X, RP (NX k) w O (PTR X) (fun W G => ChAt W G k X t c chNew) e w' :=
 c_NewChangeG (t : Int) true (by rw [hm, decide_eq_true (by omega)]; rfl) hz hk hhi
theorem c_ChGotC (an nu ep pt : Int) (hI : w.cell? ⟨X, 7, none⟩ = some .nilIface) (q14 : w.cell? ⟨X, 19, none⟩ = some (.int .u8 an)) (q15 : w.cell? ⟨X, 20, none⟩ = some (.int .u64 nu)) (q16 : w.cell? ⟨X, 21, none⟩ = some (.string ⟨#[]⟩)) (q17 : w.cell? ⟨X, 22, none⟩ = some (.string ⟨#[]⟩)) (q18 : w.cell? ⟨X, 23, none⟩ = some (.int .u32 0)) (q19 : w.cell? ⟨X, 24, none⟩ = some (.int .u64 0)) (q20 : w.cell? ⟨X, 25, none⟩ = some (.int .i64 0)) (q21 : w.cell? ⟨X, 26, none⟩ = some (.int .i64 0)) (q22 : w.cell? ⟨X, 27, none⟩ = some (.int .u64 ep)) (q23 : w.cell? ⟨X, 28, none⟩ = some (.int .i64 pt)) :
 Calls Tryz.prog 24 #[.pointer (some ⟨X, 0, none⟩)] w fun e w' => e = .returned (.tuple #[ansV an nu, .int .u64 ep, .int .i64 pt]) ∧ Below w.heap.size w w' := by
 unfold ansV
 have hl := blk_lt q14
 dsimp only at hl
 have hne : ¬ X = w.heap.size := by omega
 have hne2 : ¬ w.heap.size = X := by omega
 have HO := Lib.hid (c_ChOver (.inl ⟨rfl, ((alloc_below w _).cell (p := ⟨X, 7, none⟩) hl).trans hI⟩ : ChIdle (w.alloc (.cells #[.int .u8 0, .int .u64 0, .string ⟨#[]⟩, .string ⟨#[]⟩, .int .u32 0, .int .u64 0, .int .i64 0, .int .i64 0] 36)) X true))
 clear hI hl
 go_enter Tryz.func24, Tryz.ntmps24
 go_wp2_with fail
 refine HO.out.mono ?_
 rintro e w' ⟨rfl, rfl⟩
 go_upto_region 3 with fail
 go_region_held3 (fun w' => w'.cell? ⟨X, 19, none⟩ = some (.int .u8 an) ∧ w'.cell? ⟨X, 20, none⟩ = some (.int .u64 nu) ∧ w'.cell? ⟨X, 21, none⟩ = some (.string ⟨#[]⟩) ∧ w'.cell? ⟨X, 22, none⟩ = some (.string ⟨#[]⟩) ∧ w'.cell? ⟨X, 23, none⟩ = some (.int .u32 0) ∧ w'.cell? ⟨X, 24, none⟩ = some (.int .u64 0) ∧ w'.cell? ⟨X, 25, none⟩ = some (.int .i64 0) ∧ w'.cell? ⟨X, 26, none⟩ = some (.int .i64 0) ∧ w'.cell? ⟨X, 27, none⟩ = some (.int .u64 ep) ∧ w'.cell? ⟨X, 28, none⟩ = some (.int .i64 pt)) (go_keep)
  (fail)
 rename_i hheld
 clear hheld
 go_wp2_with fail
 exact bodyPost_ret (v := .tuple #[.agg #[.int .u8 an, .int .u64 nu, .string ⟨#[]⟩, .string ⟨#[]⟩, .int .u32 0, .int .u64 0, .int .i64 0, .int .i64 0], .int .u64 ep, .int .i64 pt]) (by simp [results, Tryz.results24, go_sem]) rfl ⟨rfl, (alloc_below _ _).drew⟩
theorem c_ChGot {t : Nat} {z : Chm} (h : ChAt w O k X t c z) (hn : z.ln = 0) : Calls Tryz.prog 24 #[.pointer (some ⟨X, 0, none⟩)] w fun e w' => e = .returned (.tuple #[ansV z.an z.nu, .int .u64 z.ep, .int .i64 z.pt]) ∧ Below w.heap.size w w' := by
 have hi := h.idle
 rw [hn] at hi
 obtain ⟨pv, th, pp, x, rf, ho, -⟩ := h.ex
 have hi : w.cell? ⟨X, 7, none⟩ = some .nilIface := by
  rcases hi with ⟨-, a⟩ | ⟨a, -⟩
  · exact a
  · cases a
 exact c_ChGotC z.an z.nu z.ep z.pt hi (ho.c 19 _ rfl) (ho.c 20 _ rfl) (ho.c 21 _ rfl) (ho.c 22 _ rfl) (ho.c 23 _ rfl) (ho.c 24 _ rfl) (ho.c 25 _ rfl) (ho.c 26 _ rfl) (ho.c 27 _ rfl) (ho.c 28 _ rfl)
end
theorem On1.found (c : Clm) (was : It) (s s1 : AW) (z : Chm) (h : On1 s s1) : On1 s (chFound c was s1 z).1 := by
 unfold chFound
 split
 · exact h
 · split
   · exact h
   · split
     · exact h
     · split
       · exact h
       · exact h
theorem chStep_n (t : Nat) (c : Clm) (x : AW × Chm) : (chStep t c x).1.n ≤ x.1.n + 1 ∧ x.1.n ≤ (chStep t c x).1.n := by
 show On1 x.1 (chStep t c x).1
 obtain ⟨s, z⟩ := x
 obtain ⟨ln, tk, fd, ml, o, p, ref, r, an, nu, ep, pt, ka, kn⟩ := z
 unfold chStep
 dsimp only
 split
 · exact On1.tk _ _ _
 · exact On1.load _ _
 · exact On1.fd _ (s, fd)
 · exact ⟨Int.le_refl _, by show s.n ≤ s.n + 1; omega⟩
 · exact On1.found _ _ _ _ _ (On1.load _ _)
 · exact On1.out _ _ _
 · exact ⟨Int.le_refl _, by show s.n ≤ s.n + 1; omega⟩
 · exact ⟨Int.le_refl _, by show s.n ≤ s.n + 1; omega⟩
 · exact ⟨by show s.n + 1 ≤ s.n + 1; omega, by show s.n ≤ s.n + 1; omega⟩
 · exact On1.load _ _
 · exact On1.store _ _ _
 · exact ⟨Int.le_refl _, by show s.n ≤ s.n + 1; omega⟩
 · exact On1.refl _
theorem nuDig_len : ∀ (f n : Nat), (nuDig f n).length ≤ f
 | 0, _ => Nat.le_refl _
 | f + 1, n => by
   unfold nuDig
   split
   · simp
   · rw [List.length_append, List.length_singleton]
     have := nuDig_len f (n / 10)
     omega
theorem nuText_len (n : Int) : (nuText n).size ≤ 20 := by
 show (nuDig 20 n.toNat).toArray.size ≤ 20
 rw [List.size_toArray]
 exact nuDig_len 20 n.toNat
def ChV (x : AW × Chm) : Prop := (∀ y ∈ x.1.it, y.val.size ≤ maxLen) ∧ (x.2.ln = 12 → x.2.r.val.size ≤ maxLen)
theorem ne12 {a : Nat} (b : Nat) (e : a = b) (h : b ≠ 12 := by decide) : a ≠ 12 := e ▸ h
theorem ChV.step {t : Nat} {c : Clm} : ∀ {x : AW × Chm}, ChV x → (x.2.ln = 5 → 1 ≤ x.2.ref ∧ x.2.ref ≤ x.1.it.length) → ChV (chStep t c x) := by
 rintro ⟨s, ln, tk, fd, ml, o, p, ref, r, an, nu, ep, pt, ka, kn⟩ ⟨h1, h2⟩ h5
 have it1 : ∀ {s' : AW} {z : Chm}, s'.it = s.it → z.ln ≠ 12 → ChV (s', z) := fun e hz => ⟨fun y hy => h1 y (e ▸ hy), fun e2 => absurd e2 hz⟩
 unfold chStep
 dsimp only
 split
 · refine it1 ?_ (by dsimp only; split <;> decide)
   unfold tkStep
   split
   · rfl
   · split
     · split <;> rfl
     · rfl
 · exact it1 rfl (ne12 3 rfl)
 · refine it1 ?_ ?_
   · unfold fdStep
     split <;> rfl
   · split
     · split
       · exact ne12 4 rfl
       · exact ne12 10 rfl
     · exact ne12 3 rfl
 · exact it1 rfl (by dsimp only; split <;> decide)
 · unfold chFound
   split
   · exact it1 rfl (ne12 8 rfl)
   · split
     · exact it1 rfl (ne12 6 rfl)
     · have h5 := h5 rfl
       obtain ⟨i, hi, -⟩ := itAt_ok h5.1 h5.2
       have hv := h1 _ (List.mem_of_getElem? hi)
       split
       · refine ⟨fun y hy => ?_, fun e => by cases e⟩
         have hy : y ∈ s.it ++ [_] := hy
         rw [List.mem_append, List.mem_singleton] at hy
         rcases hy with hy | rfl
         · exact h1 y hy
         · exact hv
       · split
         · exact it1 rfl (ne12 8 rfl)
         · exact ⟨h1, fun _ => by have := nuText_len (nuBy c.verb (by assumption) c.by_); exact Nat.le_trans this (by decide)⟩
 · refine it1 ?_ (by dsimp only; split <;> decide)
   unfold outStep
   split
   · rfl
   · split
     · rfl
     · split <;> rfl
 · exact it1 rfl (ne12 8 rfl)
 · exact it1 rfl (by dsimp only; split <;> decide)
 · exact it1 rfl (ne12 0 rfl)
 · exact it1 rfl (ne12 9 rfl)
 · exact it1 rfl (ne12 8 rfl)
 · refine ⟨fun y hy => ?_, fun e => by cases e⟩
   have hy : y ∈ s.it ++ [_] := hy
   rw [List.mem_append, List.mem_singleton] at hy
   rcases hy with hy | rfl
   · exact h1 y hy
   · exact h2 rfl
 · exact ⟨h1, h2⟩
theorem m_ChOver (a : Addr) (w : World) : (method 635 78 (.pointer (some a)) "Over").run Tryz.prog w = .ok (25, .pointer (some a)) w := by kernel_rfl
theorem m_ChStep (a : Addr) (w : World) : (method 635 78 (.pointer (some a)) "Step").run Tryz.prog w = .ok (26, .pointer (some a)) w := by kernel_rfl
section
variable {w : World} {O : Om} {B : Wb} {f : Cf} {s : AW} {k X t : Nat} {c : Clm}
theorem c_ChRun (m N : Nat) (z : Chm) (hP : PW w O B f s) (hX : ChAt w O k X t c z) (hV : Va w O) (hcv : ChV (s, z)) (hg : goodN chOver (chStep t c) (fun y => chPre c y.1 y.2) N (s, z) = true) (ht : t < 64) (hvb : c.verb = 7 ∨ c.verb = 8 ∨ c.verb = 9 ∨ c.verb = 10) (hex : -9223372036854775808 ≤ c.exp ∧ c.exp ≤ 9223372036854775807) (hby : 0 ≤ c.by_ ∧ c.by_ < 18446744073709551616) (hkz : c.key.size ≤ maxLen) (hk : 10 ≤ k) (hhi : ∀ j, O j ≠ 0 → j < w.heap.size) (n0 : 0 ≤ s.n) (n1 : s.n + m ≤ 4611686018427387904) :
 Calls Tryz.prog 33 #[.pointer (some ⟨B.p, 0, none⟩), .iface 78 (.pointer (some ⟨X, 0, none⟩)), .int .i64 m] w (RP (SX k (k + 30)) w O (.int .i64 (runN chOver (chStep t c) m (s, z)).1) fun W G => PW W G B f (runN chOver (chStep t c) m (s, z)).2.1 ∧ ChAt W G k X t c (runN chOver (chStep t c) m (s, z)).2.2 ∧ Va W G ∧ ChV (runN chOver (chStep t c) m (s, z)).2) := by
 refine (c_RunG chOver (chStep t c) (SX k (k + 30)) (fun W G y => PW W G B f y.1 ∧ ChAt W G k X t c y.2 ∧ Va W G ∧ ChV y ∧ ∃ N, goodN chOver (chStep t c) (fun y => chPre c y.1 y.2) N y = true) B.p X 78 25 26 (m_ChOver _) (m_ChStep _)
  (run_enter Tryz.func25 (by kernel_rfl) (by kernel_rfl)) (run_enter Tryz.func26 (by kernel_rfl) (by kernel_rfl)) ?_ ?_ (chStep_n t c) w O m (s, z) ⟨hP, hX, hV, hcv, N, hg⟩ hhi n0 n1).mono ?_
 · rintro W G ⟨s1, y⟩ ⟨h1, h2, h3⟩
   exact c_ChOver h2.idle
 · rintro W G ⟨s1, y⟩ ⟨h1, h2, hv, hc, N1, h3⟩ ho hh q0 q1
   obtain ⟨hp, M, h4⟩ := goodN_step h3 ho
   have hz : y.ln ≠ 0 := fun e => by dsimp only at ho; unfold chOver at ho; rw [e] at ho; cases ho
   refine (c_ChStep y h1 h2 hp hv hz ht hvb hex hby hkz hc.1 hk hh q0 q1).mono ?_
   rintro e w' ⟨rfl, G1, e1, p1, a1⟩
   refine ⟨_, rfl, G1, e1, p1, a1, hv.ext e1, hc.step (fun e5 => ?_), M, h4⟩
   have e5 : y.ln = 5 := e5
   unfold chPre at hp
   rw [Bool.and_eq_true] at hp
   have hp := hp.2
   dsimp only at hp
   rw [e5] at hp
   have hp : (decide (1 ≤ y.ref ∧ y.ref ≤ s1.it.length) && (spB y.p && decide (s1.it.length < 1000000))) = true := hp
   rw [Bool.and_eq_true, decide_eq_true_eq] at hp
   exact hp.1
 · intro e w' hp2
   exact RP.mono hp2 (fun _ _ h => h) fun W1 G1 h => ⟨h.1, h.2.1, h.2.2.1, h.2.2.2.1⟩
end
end Go.Proofs.YtifkfhnbkjkakaaGreatDoor
