/- Layer 15: the program's Find: what it has still to do. Layer 15: a Find looks at an item. Layer 15: a Find looks at a place's tags. Layer 15: a Find looks at the tables' word. Layer 15: a step of a Find; what it got. -/
import Derived.Test.YtifkfhnbkjkakaaGreatDoorZrGoA
import Derived.Test.YtifkfhnbkjkakaaGreatDoorZrFwA
import Derived.Deep.RegionHeld3
import Derived.Deep.RegionLaw
namespace Go.Proofs.YtifkfhnbkjkakaaGreatDoor
set_option linter.unusedSimpArgs false
set_option linter.unusedVariables false
set_option maxHeartbeats 8000000
set_option maxRecDepth 100000
section
open Go.RowKit
def TABLEV (F : Nat) : Value := .func (.func 194) #[.pointer (some ⟨F, 0, none⟩)] #[]
def TG1V (bx bp : Nat) : Value := .func (.func 247) #[] #[.pointer (some ⟨bx, 0, none⟩), .pointer (some ⟨bp, 0, none⟩)]
def IM1V (bx bp bn : Nat) : Value := .func (.func 278) #[] #[.pointer (some ⟨bx, 0, none⟩), .pointer (some ⟨bp, 0, none⟩), .pointer (some ⟨bn, 0, none⟩)]
def FdEl (w : World) (O : Om) (F : Nat) : Fl → Value → Prop
 | .tb, v => v = TABLEV F
 | .tg b q, v => ∃ bx bp, v = TG1V bx bp ∧ Bx w O bx [.pointer (some ⟨F, 0, none⟩)] ∧ Bx w O bp [.int .i64 b, .int .i64 q]
 | .im b q s, v => ∃ bx bp bn, v = IM1V bx bp bn ∧ Bx w O bx [.pointer (some ⟨F, 0, none⟩)] ∧ Bx w O bp [.int .i64 b, .int .i64 q] ∧ Bx w O bn [.int .i64 s]
structure FdL (w : World) (O : Om) (F : Nat) (l : List Fl) (xs : List Value) : Prop where
 len : xs.length = l.length
 el : ∀ (i : Nat) f v, l[i]? = some f → xs[i]? = some v → FdEl w O F f v
section
variable {S : Nat → Prop} {O O' : Om} {w w' : World} {F : Nat} {l l2 : List Fl} {xs ys : List Value} {f : Fl} {v : Value}
theorem FdEl.ext (h : FdEl w O F f v) (e : Ext S O w O' w') : FdEl w' O' F f v := by
 cases f with
 | tb => exact h
 | tg b q => obtain ⟨bx, bp, h1, h2, h3⟩ := h; exact ⟨bx, bp, h1, h2.ext e, h3.ext e⟩
 | im b q s => obtain ⟨bx, bp, bn, h1, h2, h3, h4⟩ := h; exact ⟨bx, bp, bn, h1, h2.ext e, h3.ext e, h4.ext e⟩
theorem FdEl.below (h : FdEl w O F f v) (e : Below w.heap.size w w') : FdEl w' O F f v := by
 cases f with
 | tb => exact h
 | tg b q => obtain ⟨bx, bp, h1, h2, h3⟩ := h; exact ⟨bx, bp, h1, h2.below e, h3.below e⟩
 | im b q s => obtain ⟨bx, bp, bn, h1, h2, h3, h4⟩ := h; exact ⟨bx, bp, bn, h1, h2.below e, h3.below e, h4.below e⟩
theorem FdEl.one (h : FdEl w O F f v) : v.oneCell' = true := by
 cases f with
 | tb => rw [show v = TABLEV F from h]; rfl
 | tg b q => obtain ⟨bx, bp, rfl, -⟩ := h; rfl
 | im b q s => obtain ⟨bx, bp, bn, rfl, -⟩ := h; rfl
theorem FdL.nil : FdL w O F [] [] := ⟨rfl, fun i f v h => by simp at h⟩
theorem FdL.ext (h : FdL w O F l xs) (e : Ext S O w O' w') : FdL w' O' F l xs := ⟨h.len, fun i f v a b => (h.el i f v a b).ext e⟩
theorem FdL.below (h : FdL w O F l xs) (e : Below w.heap.size w w') : FdL w' O F l xs := ⟨h.len, fun i f v a b => (h.el i f v a b).below e⟩
theorem FdL.append (h : FdL w O F l xs) (k : FdL w O F l2 ys) : FdL w O F (l ++ l2) (xs ++ ys) := by
 refine ⟨by rw [List.length_append, List.length_append, h.len, k.len], fun i f v a b => ?_⟩
 by_cases hi : i < l.length
 · rw [List.getElem?_append_left hi] at a
   rw [List.getElem?_append_left (by rw [h.len]; exact hi)] at b
   exact h.el i f v a b
 · rw [List.getElem?_append_right (by omega)] at a
   rw [List.getElem?_append_right (by rw [h.len]; omega), h.len] at b
   exact k.el _ f v a b
theorem FdL.one (h : FdEl w O F f v) : FdL w O F [f] [v] := by
 refine ⟨rfl, fun i f' v' a b => ?_⟩
 cases i with
 | zero => cases a; cases b; exact h
 | succ i => simp at a
theorem FdL.head (h : FdL w O F (f :: l) xs) : ∃ v ys, xs = v :: ys ∧ FdEl w O F f v ∧ FdL w O F l ys := by
 have hl := h.len
 cases xs with
 | nil => simp at hl
 | cons v ys =>
   refine ⟨v, ys, rfl, h.el 0 f v rfl rfl, ⟨by simpa using hl, fun i f' v' a b => h.el (i + 1) f' v' (by simpa using a) (by simpa using b)⟩⟩
theorem FdL.cells (h : FdL w O F l xs) : ∀ u ∈ xs, u.oneCell' = true := by
 intro u hu
 obtain ⟨i, hi, rfl⟩ := List.mem_iff_getElem.1 hu
 have hl := h.len
 exact (h.el i _ _ (List.getElem?_eq_getElem (show i < l.length by omega)) (List.getElem?_eq_getElem hi)).one
end
def fdCs (key : ByteArray) (lv : Value) (z : Fdm) : List Value := [.string key, lv, .int .u64 z.word, .int .i64 z.p.b, .int .i64 z.p.q, .int .i64 z.p.s, .int .i64 z.ref]
structure FdAt (w : World) (O : Om) (k F : Nat) (key : ByteArray) (z : Fdm) : Prop where
 ex : ∃ lv xs g, (g = 0 ∨ g = k + 1) ∧ Ob w O k F (fdCs key lv z) ∧ An w O g 1 lv z.left.length xs ∧ FdL w O F z.left xs ∧ (z.left = [.tb] → Sls w O (k + 1) 1 lv 1 xs)
theorem FdAt.ext {S : Nat → Prop} {O O' : Om} {w w' : World} {k F : Nat} {key : ByteArray} {z : Fdm} (h : FdAt w O k F key z) (e : Ext S O w O' w') (h1 : ¬ S k) (h2 : ¬ S (k + 1)) : FdAt w' O' k F key z := by
 obtain ⟨lv, xs, g, hg, a, b, c, d⟩ := h.ex
 exact ⟨lv, xs, g, hg, a.ext e h1, b.ext e (hg.imp id fun e => by rw [e]; exact h2), c.ext e, fun t => (d t).ext e h2⟩
theorem FdAt.below {O : Om} {w w' : World} {k F : Nat} {key : ByteArray} {z : Fdm} (h : FdAt w O k F key z) (e : Below w.heap.size w w') : FdAt w' O k F key z := by
 obtain ⟨lv, xs, g, hg, a, b, c, d⟩ := h.ex
 exact ⟨lv, xs, g, hg, a.below e, b.below e, c.below e, fun t => (d t).below e⟩
theorem c_FdOver {F : Nat} {ao : Option Addr} {n c : Nat} {w : World} (h : w.cell? ⟨F, 1, none⟩ = some (.slice ao n c)) : Calls Tryz.prog 456 #[.pointer (some ⟨F, 0, none⟩)] w fun e w' => e = .returned (.bool (n == 0)) ∧ w = w' := by
 go_enter Tryz.func456, Tryz.ntmps456
 go_wp2
 go_ret
 exact ⟨ret_bool (by rw [Bool.eq_iff_iff]; simp), rfl⟩
theorem infoLd : (Tryz.prog.info? 522).map (fun i => (i.zero, i.size, i.bytes)) = some (some .nilFunc, 1, 8) := by kernel_rfl
section
variable {w : World} {O : Om} {B : Wb} {f : Cf} {s : AW} {k F : Nat} {key : ByteArray}
theorem c_NewFind (hk : 10 ≤ k) (hhi : ∀ j, O j ≠ 0 → j < w.heap.size) : Calls Tryz.prog 129 #[.string key] w fun e w' => ∃ F, RP (fun t => t = k ∨ t = k + 1) w O (.pointer (some ⟨F, 0, none⟩)) (fun W G => FdAt W G k F key fdNew) e w' := by
 obtain ⟨O1, e1, x1, -⟩ := alloc_ob hhi k (fdCs key (.slice (some ⟨w.heap.size + 1, 0, none⟩) 1 1) fdNew).toArray 293 w.heap.size rfl
 obtain ⟨O2, e2, x2, k2⟩ := alloc_ob e1.hi (k + 1) #[TABLEV w.heap.size] 522 (w.heap.size + 1) (by simp)
 have hn := Lib.hid (And.intro ((e1.mono (T := fun t => t = k ∨ t = k + 1) fun t _ h => .inl h).trans (e2.mono fun t _ h => .inr h)) (And.intro (k2 _ _ _ x1) (Sls.of_ob (size := 1) (n := 1) x2 (by simp) (by unfold maxLen; omega))))
 clear e1 x1 e2 x2 k2 hhi
 go_enter Tryz.func129, Tryz.ntmps129
 go_wp2
 go_ret
 obtain ⟨E, X, A⟩ := hn.out
 exact ⟨w.heap.size, rfl, O2, E, _, [TABLEV w.heap.size], k + 1, .inr rfl, X, An.of_sls A, FdL.one (f := .tb) rfl, fun _ => A⟩
end
end
section
open Go.RowKit
theorem byL_loop (b : ByteArray) : ∀ (n i : Nat) (r : List UInt8), b.size - i = n → ByteArray.toList.loop b i r = r.reverse ++ b.data.toList.drop i := by
 intro n
 induction n with
 | zero =>
   intro i r h
   unfold ByteArray.toList.loop
   rw [if_neg (by omega), List.drop_of_length_le (by simpa using (show b.size ≤ i by omega)), List.append_nil]
 | succ n ih =>
   intro i r h
   have hi : i < b.data.toList.length := by simpa using (show i < b.size by omega)
   unfold ByteArray.toList.loop
   rw [if_pos (by omega), ih (i + 1) _ (by omega), List.drop_eq_getElem_cons hi, List.reverse_cons, List.append_assoc]
   congr 1
   rw [List.singleton_append]
   congr 1
   have hi2 : i < b.data.size := by simpa using hi
   simp only [ByteArray.get!, Array.getElem_toList]
   exact getElem!_pos b.data i hi2
theorem byL (b : ByteArray) : b.toList = b.data.toList := by
 unfold ByteArray.toList
 rw [byL_loop b b.size 0 [] (by omega)]
 simp
theorem by_beq (a b : ByteArray) : (a.toList == b.toList) = decide (a = b) := by
 rw [byL, byL]
 by_cases h : a = b
 · subst h; simp
 · rw [decide_eq_false h, beq_eq_false_iff_ne]
   intro e
   refine h ?_
   cases a; cases b
   congr
   exact Array.ext' (by simpa using e)
theorem fdHit_at (it : List It) (m : Int) (m0 : 0 ≤ m) (m1 : m < 18446744073709551616) (hl : it.length ≤ 1000000) :
 (∃ (i : Nat) (x : It), it[i]? = some x ∧ m = i + 1 ∧ IntKind.i64.wrap m = m ∧ ∀ key, fdHit it m key = decide (x.key = key)) ∨ (¬ (1 ≤ IntKind.i64.wrap m ∧ IntKind.i64.wrap m ≤ it.length) ∧ ∀ key, fdHit it m key = false) := by
 by_cases h : 1 ≤ m ∧ m ≤ it.length
 · left
   obtain ⟨i, hi⟩ : ∃ i : Nat, m = i + 1 := ⟨(m - 1).toNat, by omega⟩
   have hlt : i < it.length := by omega
   refine ⟨i, it[i], List.getElem?_eq_getElem hlt, hi, by simp [IntKind.wrap, IntKind.bits, IntKind.signed]; omega, fun key => ?_⟩
   unfold fdHit
   rw [decide_eq_true h.1, show (m - 1).toNat = i by omega, List.getElem?_eq_getElem hlt]
   rfl
 · right
   refine ⟨by simp [IntKind.wrap, IntKind.bits, IntKind.signed]; omega, fun key => ?_⟩
   unfold fdHit
   by_cases h1 : 1 ≤ m
   · rw [List.getElem?_eq_none (by omega)]; simp
   · rw [decide_eq_false h1]; rfl
section
variable {w : World} {O : Om} {B : Wb} {f : Cf} {s : AW} {k F : Nat} {key : ByteArray}
theorem c_FdItem {lv : Value} {z : Fdm} (p : Spt) (hP : PW w O B f s) (hX : Ob w O k F (fdCs key lv z)) (hp : p.ok) (hk : 10 ≤ k) (hil : s.it.length ≤ 1000000) (hhi : ∀ j, O j ≠ 0 → j < w.heap.size) (n0 : 0 ≤ s.n) (n1 : s.n ≤ 4611686018427387904) :
 Calls Tryz.prog 279 #[.pointer (some ⟨F, 0, none⟩), .pointer (some ⟨B.p, 0, none⟩), .agg #[.int .i64 p.b, .int .i64 p.q, .int .i64 p.s]] w
  (RP (SX k k) w O (.bool (fdHit s.it (s.M p.item) key)) fun W G => PW W G B f (awLoad p.item s) ∧ Ob W G k F (fdCs key lv (if fdHit s.it (s.M p.item) key = true then ⟨z.left, z.word, p, s.M p.item⟩ else z))) := by
 have HM : Hid (Me k k w O w O B f s k F (fdCs key lv z)) := Lib.hid (Me.start hhi hP hX)
 have ht := hp.item
 have hq := hp.q2
 have HI := Lib.hid (fun W => c_Item p.b p.q p.s W (by have := hp.b0; omega) (by have := hp.b1; omega) (by have := hp.q0; omega) (by omega) (by have := hp.s0; omega) (by have := hp.s1; omega))
 rw [show plItem p.b p.q p.s = p.item from rfl] at HI
 have HL := Lib.hid (fun (W : World) (h : Below w.heap.size w W) => c_LoadP p.item (w := W) (hP.below hhi h) (hi_below hhi h) (by omega) (by omega) n0 n1)
 obtain ⟨a, ha⟩ : ∃ a, a = p.item := ⟨_, rfl⟩
 rw [← ha] at HI HL ⊢
 obtain ⟨z', hz'⟩ : ∃ y : Fdm, y = (if fdHit s.it (s.M a) key = true then ⟨z.left, z.word, p, s.M a⟩ else z) := ⟨_, rfl⟩
 obtain ⟨th, hth⟩ : ∃ t, t = fdHit s.it (s.M a) key := ⟨_, rfl⟩
 rw [← hz', ← hth]
 have HTH := Lib.hid (And.intro hth hz')
 clear hth hz'
 obtain ⟨pb, hpb⟩ : ∃ b, b = p.b := ⟨_, rfl⟩
 obtain ⟨pq, hpq⟩ : ∃ b, b = p.q := ⟨_, rfl⟩
 obtain ⟨ps, hps⟩ : ∃ b, b = p.s := ⟨_, rfl⟩
 rw [← hpb, ← hpq, ← hps] at HI ⊢
 have HPE := Lib.hid (And.intro hpb (And.intro hpq hps))
 have p0 := hP.wo.c0
 have pl := hP.wo.lt
 have hne : ¬ B.p = w.heap.size := by omega
 have pA : (w.alloc (.cells #[.int .i64 pb, .int .i64 pq, .int .i64 ps] 75)).cell? ⟨B.p, 0, none⟩ = some (.pointer (some ⟨B.c, 0, none⟩)) := ((alloc_below w _).cell (p := ⟨B.p, 0, none⟩) pl).trans p0
 have BX0 := Lib.hid (Bx.new hhi #[.int .i64 pb, .int .i64 pq, .int .i64 ps] 75 w.heap.size rfl)
 clear hP hX hp hq ht ha hpb hpq hps hhi
 go_enter Tryz.func279, Tryz.ntmps279
 go_upto_region 1 with fail
 go_region_held3 (fun w' => w'.cell? ⟨w.heap.size, 0, none⟩ = some (.int .i64 pb) ∧ w'.cell? ⟨w.heap.size, 1, none⟩ = some (.int .i64 pq) ∧ w'.cell? ⟨w.heap.size, 2, none⟩ = some (.int .i64 ps) ∧ w'.cell? ⟨B.p, 0, none⟩ = some (.pointer (some ⟨B.c, 0, none⟩))) (go_keep)
  (first
    | (go_at_call 154
       refine (HI.out _).mono ?_
       rintro e w1 ⟨rfl, hb1⟩
       have hb2 : Below w.heap.size w w1 := (alloc_below w _).drew.trans (hb1.mono (by simp))
       have e0 : w1.cell? ⟨w.heap.size, 0, none⟩ = some (.int .i64 pb) := (hb1.cell (p := ⟨w.heap.size, 0, none⟩) (by simp <;> omega)).trans (by go_simp)
       have e1 : w1.cell? ⟨w.heap.size, 1, none⟩ = some (.int .i64 pq) := (hb1.cell (p := ⟨w.heap.size, 1, none⟩) (by simp <;> omega)).trans (by go_simp)
       have e2 : w1.cell? ⟨w.heap.size, 2, none⟩ = some (.int .i64 ps) := (hb1.cell (p := ⟨w.heap.size, 2, none⟩) (by simp <;> omega)).trans (by go_simp)
       have e3 : w1.cell? ⟨B.p, 0, none⟩ = some (.pointer (some ⟨B.c, 0, none⟩)) := (hb2.cell (p := ⟨B.p, 0, none⟩) pl).trans p0
       have HB2 := Lib.hid hb2
       have BX1 := Lib.hid (BX0.out.below ((drew_below _).trans (hb1.mono (by simp))))
       clear hb1 hb2)
    | (go_at_call 172
       refine (HL.out _ HB2.out).mono ?_
       rintro e w2 ⟨rfl, G2, E2, P2⟩
       have BX2 := BX1.out.ext E2
       have g0 := BX2.c 0 _ rfl
       have g1 := BX2.c 1 _ rfl
       have g2 := BX2.c 2 _ rfl
       have g3 := P2.wo.c0
       have HE2 := Lib.hid (And.intro E2 (And.intro P2 BX2))
       clear E2 P2 BX2))
 have M2 := (HM.out.below HB2.out).world hk HE2.out.1 HE2.out.2.1
 have HM2 := Lib.hid M2
 have g4 := M2.p.wo.c1
 have hbd := M2.p.bd a
 have HAr := Lib.hid M2.p.ar
 have hNl : w.heap.size < w2.heap.size := HE2.out.2.2.lt
 have hFl : F < w2.heap.size := M2.t.lt
 clear M2 HM HB2 e0 e1 e2 e3 BX0 BX1 HL HI
 rename_i hheld
 clear hheld
 have HC := Lib.hid (fdHit_at s.it (s.M a) hbd.1 hbd.2 hil)
 obtain ⟨m, hm⟩ : ∃ m, m = s.M a := ⟨_, rfl⟩
 rw [← hm] at HC ⊢
 have HMm := Lib.hid hm
 clear hm hbd
 rcases HC.out with ⟨i, x, hx, hmi, hw, hh⟩ | ⟨hn, hh⟩
 · have HAt := Lib.hid (c_IAt_yes m i x HAr.out hil hx hmi)
   rw [hw]
   have Hh := Lib.hid (hh key)
   obtain ⟨t, ht⟩ : ∃ t, t = decide (x.key = key) := ⟨_, rfl⟩
   rw [← ht] at Hh
   have hbq : (x.key.toList == key.toList) = t := (by_beq _ _).trans ht.symm
   clear hx hmi hw hh ht HC
   go_wp2_with fail
   refine HAt.out.mono ?_
   rintro e w3 ⟨rfl, hb3⟩
   have hbb := hb3.trans ((alloc_below w3 (.cells #[.string x.key, .string x.val, .int .u32 x.fl, .int .u64 x.id, .int .i64 x.dies, .int .i64 x.gen] 34)).mono hb3.size)
   have HM3 := Lib.hid (HM2.out.below hbb)
   have BX3 := HE2.out.2.2.below hbb
   have x0 := HM3.out.t.c 0 _ rfl
   have y0 := BX3.c 0 _ rfl
   have y1 := BX3.c 1 _ rfl
   have y2 := BX3.c 2 _ rfl
   clear hb3 HM2 HAt hbb g0 g1 g2 g3 g4 HE2
   go_upto_region 3 with fail
   go_quiet (fail)
   cases t with
   | false =>
     go_wp2_with fail
     go_ret
     have h1 := HTH.out.1
     have h2 := HTH.out.2
     rw [← HMm.out, Hh.out] at h1 h2
     rw [if_neg (by decide)] at h2
     rw [h1, h2]
     have HM4 := HM3.out.below (below_drewN (Below.refl _ _) nq)
     exact ⟨rfl, _, HM4.e, HM4.p, HM4.t⟩
   | true =>
     have HM4 := HM3.out.below (below_drewN (Below.refl _ _) nq)
     have f3 := HM4.t.f 3
     have f4 := HM4.t.f 4
     have f5 := HM4.t.f 5
     have f6 := HM4.t.f 6
     have z3 := HM4.t.c 3 _ rfl
     have z4 := HM4.t.c 4 _ rfl
     have z5 := HM4.t.c 5 _ rfl
     have z6 := HM4.t.c 6 _ rfl
     have HM5 := Lib.hid ((((HM4.set hk (Nat.le_refl _) (Nat.le_refl _) 3 (.int .i64 pb) (by simp [fdCs])).set hk (Nat.le_refl _) (Nat.le_refl _) 4 (.int .i64 pq) (by simp [fdCs])).set hk (Nat.le_refl _) (Nat.le_refl _) 5 (.int .i64 ps) (by simp [fdCs])).set hk (Nat.le_refl _) (Nat.le_refl _) 6 (.int .i64 m) (by simp [fdCs]))
     clear HM4 HM3
     go_wp2_with fail
     go_ret
     have h1 := HTH.out.1
     have h2 := HTH.out.2
     rw [← HMm.out, Hh.out] at h1 h2
     rw [if_pos rfl] at h2
     rw [h1, h2]
     refine ⟨rfl, _, HM5.out.e, HM5.out.p, ?_⟩
     have := HM5.out.t
     obtain ⟨e1, e2, e3⟩ := HPE.out
     have hq : (fdCs key lv ⟨z.left, z.word, p, m⟩) = ((((fdCs key lv z).set 3 (.int .i64 pb)).set 4 (.int .i64 pq)).set 5 (.int .i64 ps)).set 6 (.int .i64 m) := by rw [e1, e2, e3]; rfl
     rw [hq]
     exact this
 · have HAt := Lib.hid (c_IAt_no _ HAr.out hil hn)
   obtain ⟨r, hr⟩ : ∃ r, r = IntKind.i64.wrap m := ⟨_, rfl⟩
   rw [← hr] at HAt ⊢
   have Hh := Lib.hid (hh key)
   clear hn hh hr HC
   go_wp2_with fail
   refine HAt.out.mono ?_
   rintro e w3 ⟨rfl, hb3⟩
   have HM3 := Lib.hid (HM2.out.below (hb3.trans ((alloc_below w3 (.cells #[.string ⟨#[]⟩, .string ⟨#[]⟩, .int .u32 0, .int .u64 0, .int .i64 0, .int .i64 0] 34)).mono hb3.size)))
   clear hb3 HM2 HAt
   go_upto_region 3 with fail
   go_quiet (fail)
   go_wp2_with fail
   go_ret
   have h1 := HTH.out.1
   have h2 := HTH.out.2
   rw [← HMm.out, Hh.out] at h1 h2
   rw [if_neg (by decide)] at h2
   rw [h1, h2]
   have HM4 := HM3.out.below (below_drewN (Below.refl _ _) nq)
   exact ⟨rfl, _, HM4.e, HM4.p, HM4.t⟩
end
end
section
open Go.RowKit
theorem An.clip {w : World} {O : Om} {g size n c : Nat} {ao : Option Addr} {xs : List Value} (h : An w O g size (.slice ao n c) n xs) : An w O g size (.slice ao n n) n xs := by
 obtain ⟨hl, ao', c', he, hc, hm, hx⟩ := h.ex
 cases he
 exact ⟨hl, _, n, rfl, Nat.le_refl _, by omega, hx⟩
structure FdW (k : Nat) (w0 : World) (O0 : Om) (w : World) (O : Om) (B : Wb) (f : Cf) (s : AW) (F : Nat) (cs : List Value) (bx bp : Nat) (b q : Int) (lv : Value) (l : List Fl) (xs : List Value) : Prop where
 m : Me k (k + 2) w0 O0 w O B f s k F cs
 x : Bx w O bx [.pointer (some ⟨F, 0, none⟩)]
 p : Bx w O bp [.int .i64 b, .int .i64 q]
 la : ∃ g, (g = 0 ∨ g = k + 1) ∧ An w O g 1 lv l.length xs
 fl : FdL w O F l xs
section
variable {w0 w w1 : World} {O0 O O1 : Om} {B : Wb} {f : Cf} {s s1 : AW} {k F bx bp : Nat} {b q : Int} {cs : List Value} {lv : Value} {l : List Fl} {xs : List Value}
theorem FdW.below (h : FdW k w0 O0 w O B f s F cs bx bp b q lv l xs) (hb : Below w.heap.size w w1) : FdW k w0 O0 w1 O B f s F cs bx bp b q lv l xs := ⟨h.m.below hb, h.x.below hb, h.p.below hb, h.la.imp fun g q => ⟨q.1, q.2.below hb⟩, h.fl.below hb⟩
theorem FdW.world (h : FdW k w0 O0 w O B f s F cs bx bp b q lv l xs) (hk : 10 ≤ k) (e : Ext SW O w O1 w1) (hp : PW w1 O1 B f s1) : FdW k w0 O0 w1 O1 B f s1 F cs bx bp b q lv l xs := ⟨h.m.world hk e hp, h.x.ext e, h.p.ext e, h.la.imp fun g q => ⟨q.1, q.2.ext e (q.1.imp id fun e h => by have := h.2; omega)⟩, h.fl.ext e⟩
theorem FdW.own (h : FdW k w0 O0 w O B f s F cs bx bp b q lv l xs) (hk : 10 ≤ k) (e : Ext (fun t => t = k + 2) O w O1 w1) : FdW k w0 O0 w1 O1 B f s F cs bx bp b q lv l xs :=
 ⟨⟨h.m.e.trans (e.mono fun t _ ht => .inr (by omega)), h.m.p.ext e (by omega) (by omega) (by omega) (by omega), h.m.t.ext e (by omega)⟩, h.x.ext e, h.p.ext e, h.la.imp fun g q => ⟨q.1, q.2.ext e (q.1.imp id fun e h => by omega)⟩, h.fl.ext e⟩
end
structure ItR (wc : World) (G : Om) (L : List Int) (bx bp : Nat) (wr : World) (o : Value) (j : Nat) (ns : List Nat) : Prop where
 bel : Below wc.heap.size wc wr
 own : wr.ownsRow wc.heap.size 522 1 o j (ns.map (IM1V bx bp))
 len : ns.length = j
 el : ∀ (i : Nat) bn, ns[i]? = some bn → ∃ x, L[i]? = some x ∧ Bx wr G bn [.int .i64 x] ∧ o.ownBlock ≠ some bn
theorem ItR.step {wc wr w2 : World} {G : Om} {L : List Int} {bx bp j g cap : Nat} {o : Value} {ns : List Nat} {x : Int} {t1 t2 : TypeId} (h : ItR wc G L bx bp wr o j ns) (hx : L[j]? = some x) (hhi : ∀ j, G j ≠ 0 → j < wc.heap.size)
 (hown : w2.ownsRow wc.heap.size 522 1 (.slice (some ⟨g, 0, none⟩) (j + 1) cap) (j + 1) (ns.map (IM1V bx bp) ++ [IM1V bx bp wr.heap.size]))
 (hg : ((wr.alloc (.cells #[.int .i64 x] t1)).alloc (.cells #[IM1V bx bp wr.heap.size] t2)).grownBy w2 o.ownBlock) (hat : o.ownBlock = some g ∨ g = wr.heap.size + 2) :
 ItR wc G L bx bp w2 (.slice (some ⟨g, 0, none⟩) (j + 1) cap) (j + 1) (ns ++ [wr.heap.size]) := by
 have hz := h.bel.size
 have b1 := alloc_below wr (.cells #[.int .i64 x] t1)
 have b2 := alloc_below (wr.alloc (.cells #[.int .i64 x] t1)) (.cells #[IM1V bx bp wr.heap.size] t2)
 have b12 := b1.trans (b2.mono (by simp))
 have hbB := h.bel.trans (b12.mono hz)
 have hh := hi_below hhi h.bel
 have hw : Wrote (fun k => o.ownBlock = some k) ((wr.alloc (.cells #[.int .i64 x] t1)).alloc (.cells #[IM1V bx bp wr.heap.size] t2)) w2 := (Wrote.refl _ _).grown hg fun k hk _ => hk
 have keep : ∀ {b : Nat} {cs : List Value}, Bx ((wr.alloc (.cells #[.int .i64 x] t1)).alloc (.cells #[IM1V bx bp wr.heap.size] t2)) G b cs → o.ownBlock ≠ some b → Bx w2 G b cs := fun hb hn =>
  ⟨hb.o, Nat.lt_of_lt_of_le hb.lt hw.size, fun j u hu => (hw.cell (p := ⟨_, j, none⟩) hb.lt hn).trans (hb.c j u hu)⟩
 refine ⟨?_, by rw [List.map_append]; exact hown, by rw [List.length_append, h.len]; rfl, fun i bn hi => ?_⟩
 · exact hbB.trans (hw.below (fun b _ hb => (h.own.lt b hb).1) hbB.size)
 · by_cases hij : i < j
   · rw [List.getElem?_append_left (by rw [h.len]; exact hij)] at hi
     obtain ⟨y, h1, h2, h3⟩ := h.el i bn hi
     refine ⟨y, h1, keep (h2.below b12) h3, fun e => ?_⟩
     have e' : g = bn := Option.some.inj e
     rcases hat with e | e
     · exact h3 (by rw [e, e'])
     · have := h2.lt; omega
   · have hlen := (List.getElem?_eq_some_iff.1 hi).1
     rw [List.length_append, h.len] at hlen
     obtain rfl : i = j := by simp at hlen; omega
     rw [List.getElem?_append_right (by rw [h.len]; exact Nat.le_refl _), h.len, Nat.sub_self] at hi
     cases hi
     have hne : o.ownBlock ≠ some wr.heap.size := fun e => by have := (h.own.lt _ e).2; omega
     refine ⟨x, hx, keep ((Bx.new hh #[.int .i64 x] t1 _ rfl).below b2) hne, fun e => ?_⟩
     have e' : g = wr.heap.size := Option.some.inj e
     rcases hat with e | e
     · exact hne (by rw [e, e'])
     · omega
theorem ItR.fdl {wc wr : World} {G : Om} {L : List Int} {bx bp F : Nat} {o : Value} {ns : List Nat} {b q : Int} (h : ItR wc G L bx bp wr o L.length ns) (hx : Bx wr G bx [.pointer (some ⟨F, 0, none⟩)]) (hp : Bx wr G bp [.int .i64 b, .int .i64 q]) : FdL wr G F (L.map (.im b q)) (ns.map (IM1V bx bp)) := by
 refine ⟨by rw [List.length_map, List.length_map, h.len], fun i f v hf hv => ?_⟩
 rw [List.getElem?_map] at hf hv
 cases e : ns[i]? with
 | none => rw [e] at hv; cases hv
 | some bn =>
   obtain ⟨x, h1, h2, -⟩ := h.el i bn e
   rw [e] at hv
   rw [h1] at hf
   cases hv
   cases hf
   exact ⟨bx, bp, bn, rfl, hx, hp, h2⟩
section
variable {w : World} {O : Om} {B : Wb} {f : Cf} {s : AW} {k F : Nat} {key : ByteArray}
theorem c_FdTags {lv : Value} {xs : List Value} {z : Fdm} (b q : Int) (hP : PW w O B f s) (hX : Ob w O k F (fdCs key lv z)) {g : Nat} (hg : g = 0 ∨ g = k + 1) (hA : An w O g 1 lv z.left.length xs) (hL : FdL w O F z.left xs) (hn : z.left.length ≤ 100) (hb : 1 ≤ b ∧ b ≤ 12) (hq : 0 ≤ q ∧ q < fnvSize b) (hz : key.size ≤ maxLen) (hk : 10 ≤ k) (hhi : ∀ j, O j ≠ 0 → j < w.heap.size) (n0 : 0 ≤ s.n) (n1 : s.n ≤ 4611686018427387904) :
 Calls Tryz.prog 248 #[.pointer (some ⟨F, 0, none⟩), .pointer (some ⟨B.p, 0, none⟩), .agg #[.int .i64 b, .int .i64 q]] w
  (RP (SX k (k + 2)) w O (.bool false) fun W G => PW W G B f (awLoad (plTags b q) s) ∧ ∃ lv' xs', Ob W G k F (fdCs key lv' z) ∧ An W G 0 1 lv' ((twHas (s.M (plTags b q)) (fnvTag (kyH key))).length + z.left.length) xs' ∧ FdL W G F ((twHas (s.M (plTags b q)) (fnvTag (kyH key))).map (.im b q) ++ z.left) xs') := by
 have hs := fnvSize_bd b
 have hts : 4096 ≤ plTags b q ∧ plTags b q < 18446744073709551616 := by rw [plTags_in hq]; omega
 have hbd := hP.bd (plTags b q)
 have hy : 0 ≤ kyH key ∧ kyH key < 18446744073709551616 := fnvHash_bd _
 have htg := fnvTag_bd (kyH key) hy.1 hy.2
 have HTS := Lib.hid (fun W => c_Tags b q W (by omega) (by omega) (by omega) (by omega))
 have HHS := Lib.hid (fun W => c_Hash key W hz)
 rw [show fnvHash key.data.toList = kyH key from rfl] at HHS
 have HTG := Lib.hid (fun W => c_fTag (kyH key) W hy.1 hy.2)
 have HHAS := Lib.hid (fun (W : World) (G : Om) (hh : ∀ j, G j ≠ 0 → j < W.heap.size) => c_Has (s.M (plTags b q)) (fnvTag (kyH key)) (k + 2) (by omega) W G hbd.1 hbd.2 htg.1 htg.2 hh)
 have HLO := Lib.hid (fun (W : World) (G : Om) (hp : PW W G B f s) (hh : ∀ j, G j ≠ 0 → j < W.heap.size) => c_LoadP (plTags b q) hp hh (by omega) hts.2 n0 n1)
 obtain ⟨L, hLL⟩ : ∃ L, L = twHas (s.M (plTags b q)) (fnvTag (kyH key)) := ⟨_, rfl⟩
 have hL4 : L.length ≤ 4 := by rw [hLL]; exact twHas_len _ _
 rw [← hLL] at HHAS ⊢
 obtain ⟨a, ha⟩ : ∃ a, a = plTags b q := ⟨_, rfl⟩
 rw [← ha] at HTS HLO HHAS ⊢
 obtain ⟨v, hv⟩ : ∃ v, v = s.M a := ⟨_, rfl⟩
 rw [← hv] at HLO HHAS
 obtain ⟨tg, htg2⟩ : ∃ v, v = fnvTag (kyH key) := ⟨_, rfl⟩
 rw [← htg2] at HTG HHAS
 obtain ⟨hx, hhx⟩ : ∃ v, v = kyH key := ⟨_, rfl⟩
 rw [← hhx] at HTG HHS
 obtain ⟨lo, lc, rfl, hlc1, hlc2⟩ := hA.shape
 obtain ⟨cs, hcs⟩ : ∃ cs, cs = fdCs key (.slice lo z.left.length lc) z := ⟨_, rfl⟩
 have hc0 : cs[0]? = some (.string key) := by rw [hcs]; rfl
 have hc1 : cs[1]? = some (.slice lo z.left.length lc) := by rw [hcs]; rfl
 have hcl : cs.length = 7 := by rw [hcs]; rfl
 rw [← hcs] at hX
 have hsize : w.heap.size < (w.alloc (.cells #[.pointer (some ⟨F, 0, none⟩)] 240)).heap.size := by simp
 have hb1 := (alloc_below w (.cells #[.pointer (some ⟨F, 0, none⟩)] 240)).trans ((alloc_below (w.alloc (.cells #[.pointer (some ⟨F, 0, none⟩)] 240)) (.cells #[.int .i64 b, .int .i64 q] 73)).mono (by simp))
 have BX := (Bx.new hhi #[.pointer (some ⟨F, 0, none⟩)] 240 w.heap.size rfl).below (alloc_below _ (.cells #[.int .i64 b, .int .i64 q] 73))
 have BP := Bx.new (hi_below hhi (alloc_below w (.cells #[.pointer (some ⟨F, 0, none⟩)] 240))) #[.int .i64 b, .int .i64 q] 73 (w.heap.size + 1) (by simp)
 have HJ0 : Hid (FdW k w O _ O B f s F cs w.heap.size (w.heap.size + 1) b q (.slice lo z.left.length lc) z.left xs) := Lib.hid ⟨Me.mk ((Ext.refl hhi).below hb1) (hP.below hhi hb1) (hX.below hb1), BX, BP, ⟨g, hg, hA.below hb1⟩, hL.below hb1⟩
 have HJ := Lib.hid (HJ0.out.below (drew_below _))
 have x0 := HJ0.out.x.c 0 _ rfl
 have y0 := HJ0.out.p.c 0 _ rfl
 have y1 := HJ0.out.p.c 1 _ rfl
 have z0 := HJ0.out.m.t.c 0 _ hc0
 have p0 := HJ0.out.m.p.wo.c0
 have HFIN := Lib.hid (And.intro ha (And.intro hLL hcs))
 clear hP hX hA hL hhi hts hbd hy htg hb hq hs hLL ha hv htg2 hhx hcs hb1 BX BP HJ0 n0 n1 hz
 go_enter Tryz.func248, Tryz.ntmps248
 go_upto_region 2 with fail
 go_cut [23, 24, 25] (fun vv nn ii wx => ∃ (G : Om) (ao : Option Addr) (cc : Nat), vv = .slice ao L.length cc ∧ nn = .int .i64 L.length ∧ ii = .int .i64 0 ∧ FdW k w O wx G B f (awLoad a s) F cs w.heap.size (w.heap.size + 1) b q (.slice lo z.left.length lc) z.left xs ∧ Sls wx G (k + 2) 1 (.slice ao L.length cc) L.length (ints L))
 case first =>
  go_region_held3 (fun w' => w'.cell? ⟨w.heap.size, 0, none⟩ = some (.pointer (some ⟨F, 0, none⟩)) ∧ w'.cell? ⟨w.heap.size + 1, 0, none⟩ = some (.int .i64 b) ∧ w'.cell? ⟨w.heap.size + 1, 1, none⟩ = some (.int .i64 q) ∧ w'.cell? ⟨F, 0, none⟩ = some (.string key) ∧ w'.cell? ⟨B.p, 0, none⟩ = some (.pointer (some ⟨B.c, 0, none⟩))) (go_keep)
   (first
     | (go_at_call 153
        refine (HTS.out _).mono ?_
        rintro e w1 ⟨rfl, hb1⟩
        replace HJ := Lib.hid (HJ.out.below hb1)
        clear hb1
        have x0 := HJ.out.x.c 0 _ rfl
        have y0 := HJ.out.p.c 0 _ rfl
        have y1 := HJ.out.p.c 1 _ rfl
        have z0 := HJ.out.m.t.c 0 _ hc0
        have p0 := HJ.out.m.p.wo.c0)
     | (go_at_call 82
        refine (HHS.out _).mono ?_
        rintro e w1 ⟨rfl, hw⟩
        replace HJ := Lib.hid (HJ.out.below (w1 := w1) (by rw [← hw]; exact alloc_below _ _))
        clear hw
        have x0 := HJ.out.x.c 0 _ rfl
        have y0 := HJ.out.p.c 0 _ rfl
        have y1 := HJ.out.p.c 1 _ rfl
        have z0 := HJ.out.m.t.c 0 _ hc0
        have p0 := HJ.out.m.p.wo.c0)
     | (go_at_call 85
        refine (HTG.out _).mono ?_
        rintro e w1 ⟨rfl, rfl⟩)
     | (go_at_call 172
        refine (HLO.out _ _ HJ.out.m.p HJ.out.m.e.hi).mono ?_
        rintro e w1 ⟨rfl, G1, E1, P1⟩
        replace HJ := Lib.hid (HJ.out.world hk E1 P1)
        clear E1 P1
        have x0 := HJ.out.x.c 0 _ rfl
        have y0 := HJ.out.p.c 0 _ rfl
        have y1 := HJ.out.p.c 1 _ rfl
        have z0 := HJ.out.m.t.c 0 _ hc0
        have p0 := HJ.out.m.p.wo.c0)
     | (go_at_call 277
        refine (HHAS.out _ _ HJ.out.m.e.hi).mono ?_
        rintro e w1 ⟨vv, rfl, G1, E1, S1⟩
        replace HJ := Lib.hid (HJ.out.own hk E1)
        obtain ⟨ao, cc, rfl, hd1, hd2⟩ := S1.shape
        have HS := Lib.hid S1
        clear E1 S1
        have x0 := HJ.out.x.c 0 _ rfl
        have y0 := HJ.out.p.c 0 _ rfl
        have y1 := HJ.out.p.c 1 _ rfl
        have z0 := HJ.out.m.t.c 0 _ hc0
        have p0 := HJ.out.m.p.wo.c0))
  all_goals
   go_wp2_with fail
   go_meet
   exact ⟨G1, ao, cc, rfl, rfl, rfl, HJ.out, HS.out⟩
 clear x0 y0 y1 z0 p0 HTS HLO HHAS HHS HTG HJ
 obtain ⟨G, ao, cc, rfl, rfl, rfl, hJ, hS⟩ := hcut
 have HJ := Lib.hid hJ
 have HO : Hid (0 < L.length → ∃ sb so, ao = some ⟨sb, so, none⟩ ∧ sb < wc.heap.size ∧ ∀ j x, L[j]? = some x → wc.cell? ⟨sb, so + j, none⟩ = some (.int .i64 x)) := Lib.hid (fun hn => by
  obtain ⟨sb, so, c', he, -, -⟩ := hS.open hn
  cases he
  exact ⟨sb, so, rfl, hS.lt.1, fun j x hx => hS.c j _ (by unfold ints; rw [List.getElem?_map, hx]; rfl)⟩)
 obtain ⟨i0, hi, hz0, hz1, hz2⟩ := info_parts infoLd
 have HI := Lib.hid (And.intro hi (And.intro hz0 (And.intro hz1 hz2)))
 have hcc : L.length ≤ cc ∧ cc ≤ maxLen := ⟨hS.none0.1, hS.none0.2.1⟩
 clear hi hz0 hz1 hz2 hJ hS
 obtain ⟨bx, hbx⟩ : ∃ n, n = w.heap.size := ⟨_, rfl⟩
 obtain ⟨bp, hbp⟩ : ∃ n, n = w.heap.size + 1 := ⟨_, rfl⟩
 rw [← hbp, ← hbx] at HJ ⊢
 clear hbx hbp
 go_wp2_with fail
 go_loopw [7, 25] (fun o i wr => ∃ (j : Nat) (ns : List Nat), j ≤ L.length ∧ i = .int .i64 j ∧ ItR wc G L bx bp wr o j ns) (fun o i _ => L.length - (intOf i).toNat)
 case atStart => exact ⟨0, [], Nat.zero_le _, rfl, Below.refl _ _, World.ownsRow_nil _ _ _ _, rfl, fun i bn h => by simp at h⟩
 case round =>
  obtain ⟨j, ns, hj, rfl, hR⟩ := hrel
  obtain ⟨oo, oc, rfl, ho1, ho2⟩ := (Arr.of_own hR.own).shape
  have HR := Lib.hid hR
  clear hR
  by_cases hlt : j < L.length
  · obtain ⟨sb, so, rfl, hsb, hsx⟩ := HO.out (by omega)
    obtain ⟨x, hx⟩ : ∃ x, L[j]? = some x := ⟨_, List.getElem?_eq_getElem hlt⟩
    have q0 := (HR.out.bel.cell (p := ⟨sb, so + j, none⟩) hsb).trans (hsx j x hx)
    have hsr : sb < wr.heap.size := Nat.lt_of_lt_of_le hsb HR.out.bel.size
    have HX := Lib.hid hx
    clear hsx hx
    go_wp2_with (at_builtin; refine wpList_append_lies ((wr.alloc (.cells #[.int .i64 x] 3)).alloc (.cells #[IM1V bx bp wr.heap.size] 522)) rfl _ _ 291 rfl wc.heap.size 522 i0 .nilFunc 1 8 Tryz.underlying291 HI.out.1 HI.out.2.1 HI.out.2.2.1 HI.out.2.2.2 rfl (by decide) (.slice oo j oc) j (ns.map (IM1V bx bp)) rfl ((HR.out.own.alloc _).alloc _) ⟨wr.heap.size + 1, 0, none⟩ 1 1 [IM1V bx bp wr.heap.size] rfl rfl (alloc_cells (wr.alloc (.cells #[.int .i64 x] 3)) [IM1V bx bp wr.heap.size] _ (wr.heap.size + 1) (by simp)) (by simp [Value.oneCell', IM1V]) (by decide) (by unfold maxLen; omega) (by omega) (by have := HR.out.bel.size; simp; omega) (wr.heap.size + 2) (by simp) ?_; intro g cap w2 hown hg hat hgl; have HR2 := Lib.hid (HR.out.step HX.out HJ.out.m.e.hi hown hg hat); clear hown hg hat hgl)
    go_roundw
    case rel => exact ⟨j + 1, ns ++ [wr.heap.size], by omega, by go_num, HR2.out⟩
    case measure => simp [intOf]; omega
  · obtain rfl : j = L.length := by omega
    have hJ2 := HJ.out.below HR.out.bel
    have hsh : (oo = none ∧ L.length = 0 ∧ oc = 0) ∨ ∃ g, oo = some ⟨g, 0, none⟩ := by
     rcases HR.out.own.2 with ⟨he, h0⟩ | ⟨g, cap, cur, he, -⟩
     · injection he with h1 h2 h3; exact .inl ⟨h1, h0, h3⟩
     · injection he with h1 h2 h3; exact .inr ⟨g, h1⟩
    have hhr := hJ2.m.e.hi
    obtain ⟨g0, hg0, hla⟩ := hJ2.la
    have hO : ∀ j, wr.heap.size ≤ j → G j = 0 := fun j hj => own_new hhr hj
    have hA := ((An.of_own (O := G) HR.out.own (fun j hj => own_new HJ.out.m.e.hi hj)).clip).below (drew_below wr)
    obtain ⟨v', w2, hrun, hA2, hb2⟩ := run_append_cut (P := Tryz.prog) wr.drew G 291 291 522 i0 .nilFunc 1 8 Tryz.underlying291 HI.out.1 HI.out.2.1 HI.out.2.2.1 HI.out.2.2.2 rfl (by decide) oo L.length (ns.map (IM1V bx bp)) hO hA (.slice lo z.left.length lc) z.left.length xs (hla.below (drew_below wr)) hJ2.fl.cells (by unfold maxLen; omega) (by omega)
    have hb3 := (drew_below wr).trans (hb2.mono (Nat.le_refl _))
    have hJ3 := hJ2.below hb3
    have hFL := ((HR.out.fdl hJ2.x hJ2.p).append hJ2.fl).below hb3
    obtain ⟨vo, vc, rfl, hv1, hv2⟩ := hA2.shape
    have x0 := hJ2.x.c 0 _ rfl
    have z1 := hJ2.m.t.c 1 _ hc1
    have y1 := hJ3.m.t.c 1 _ hc1
    have x2 := hJ3.x.c 0 _ rfl
    have g1 := hJ3.m.t.f 1
    have es := Ext.of_set (j := 1) (v := .slice vo (L.length + z.left.length) vc) (S := fun t => t = k) hJ3.m.e.hi hJ3.m.t.o (by omega) rfl
    have HM := Lib.hid (And.intro (hJ3.m.set hk (Nat.le_refl _) (by omega) 1 (.slice vo (L.length + z.left.length) vc) (by omega)) (And.intro (hA2.ext es (.inl rfl)) (hFL.ext es)))
    have HEND : Hid (RP (SX k (k + 2)) w O (.bool false) (fun W G => PW W G B f (awLoad a s) ∧ ∃ lv' xs', Ob W G k F (fdCs key lv' z) ∧ An W G 0 1 lv' (L.length + z.left.length) xs' ∧ FdL W G F (L.map (.im b q) ++ z.left) xs') (.returned (.bool false)) (w2.setCell ⟨F, 1, none⟩ (.slice vo (L.length + z.left.length) vc))) := Lib.hid (by
     obtain ⟨m1, m2, m3⟩ := HM.out
     refine ⟨rfl, _, m1.e, m1.p, _, _, ?_, m2, m3⟩
     have := m1.t
     rw [HFIN.out.2.2] at this
     exact this)
    clear hJ2 hO hA hA2 hb2 hb3 hJ3 hFL es HJ HR HM hla hg0
    rcases hsh with ⟨rfl, h0, rfl⟩ | ⟨g, rfl⟩
    · rw [show Value.slice none L.length L.length = .slice none 0 0 by rw [h0]] at hrun
      go_upto_region 7 with fail
      go_region_law (refine step_append_run (by rfl) _ _ 291 (by rfl) (by rfl) (by rfl) hrun ?_)
      all_goals
       go_wp2_with fail
       go_ret
       have h9 : w2.setCell ⟨F, 1, none⟩ (.slice vo z.left.length vc) = w2.setCell ⟨F, 1, none⟩ (.slice vo (L.length + z.left.length) vc) := by rw [h0, Nat.zero_add]
       rw [h9]
       exact HEND.out
    · go_upto_region 7 with fail
      go_region_law (refine step_append_run (by rfl) _ _ 291 (by rfl) (by rfl) (by rfl) hrun ?_)
      all_goals
       go_wp2_with fail
       go_ret
       exact HEND.out
end
end
section
open Go.RowKit
structure TbW (k : Nat) (w0 : World) (O0 : Om) (w : World) (O : Om) (B : Wb) (f : Cf) (s : AW) (F : Nat) (cs : List Value) (bx : Nat) (lv : Value) (l : List Fl) : Prop where
 m : Me k (k + 1) w0 O0 w O B f s k F cs
 x : Bx w O bx [.pointer (some ⟨F, 0, none⟩)]
 l : ∃ xs, Sls w O (k + 1) 1 lv l.length xs ∧ FdL w O F l xs
section
variable {w0 w w1 : World} {O0 O O1 : Om} {B : Wb} {f : Cf} {s s1 : AW} {k F bx : Nat} {cs : List Value} {lv : Value} {l : List Fl}
theorem TbW.below (h : TbW k w0 O0 w O B f s F cs bx lv l) (hb : Below w.heap.size w w1) : TbW k w0 O0 w1 O B f s F cs bx lv l := ⟨h.m.below hb, h.x.below hb, h.l.imp fun xs q => ⟨q.1.below hb, q.2.below hb⟩⟩
theorem TbW.world (h : TbW k w0 O0 w O B f s F cs bx lv l) (hk : 10 ≤ k) (e : Ext SW O w O1 w1) (hp : PW w1 O1 B f s1) : TbW k w0 O0 w1 O1 B f s1 F cs bx lv l :=
 ⟨h.m.world hk e hp, h.x.ext e, h.l.imp fun xs q => ⟨q.1.ext e (fun h => by have := h.2; omega), q.2.ext e⟩⟩
theorem TbW.set (h : TbW k w0 O0 w O B f s F cs bx lv l) (hk : 10 ≤ k) (j : Nat) (v : Value) (hj : j < cs.length) : TbW k w0 O0 (w.setCell ⟨F, j, none⟩ v) O B f s F (cs.set j v) bx lv l := by
 have e := Ext.of_set (j := j) (v := v) (S := fun t => t = k) h.m.e.hi h.m.t.o (by omega) rfl
 exact ⟨h.m.set hk (Nat.le_refl _) (by omega) j v hj, h.x.ext e, h.l.imp fun xs q => ⟨q.1.ext e (by omega), q.2.ext e⟩⟩
theorem TbW.ne (h : TbW k w0 O0 w O B f s F cs bx lv l) (hk : 10 ≤ k) : ¬ bx = F ∧ ¬ B.p = F := by
 refine ⟨fun e => ?_, fun e => ?_⟩
 · have := h.x.o; rw [e, h.m.t.o] at this; omega
 · have := h.m.p.o; rw [e, h.m.t.o] at this; omega
end
section
variable {w : World} {O : Om} {B : Wb} {f : Cf} {s : AW} {k F : Nat} {key : ByteArray}
theorem c_FdTable {lo : Option Addr} {lc : Nat} {z : Fdm} (hP : PW w O B f s) (hX : Ob w O k F (fdCs key (.slice lo 0 lc) z)) (hS : Sls w O (k + 1) 1 (.slice lo 0 lc) 0 []) (hz : key.size ≤ maxLen) (hk : 10 ≤ k) (hhi : ∀ j, O j ≠ 0 → j < w.heap.size) (n0 : 0 ≤ s.n) (n1 : s.n ≤ 4611686018427387904) :
 Calls Tryz.prog 194 #[.pointer (some ⟨F, 0, none⟩), .pointer (some ⟨B.p, 0, none⟩)] w
  (RP (SX k (k + 1)) w O (.bool false) fun W G => PW W G B f (awLoad 2 s) ∧ ∃ lv' xs', Ob W G k F (fdCs key lv' ⟨z.left, s.M 2, z.p, z.ref⟩) ∧ An W G (k + 1) 1 lv' (plPlaces (kyH key) (s.M 2)).length xs' ∧ FdL W G F ((plPlaces (kyH key) (s.M 2)).map fun p => .tg p.1 p.2) xs') := by
 have hbd := hP.bd 2
 have hy : 0 ≤ kyH key ∧ kyH key < 18446744073709551616 := fnvHash_bd _
 have HHS := Lib.hid (fun W => c_Hash key W hz)
 rw [show fnvHash key.data.toList = kyH key from rfl] at HHS
 have HPL := Lib.hid (fun W => c_Places (kyH key) (s.M 2) W hy.1 hy.2 hbd.1 hbd.2)
 have HLO := Lib.hid (fun (W : World) (G : Om) (hp : PW W G B f s) (hh : ∀ j, G j ≠ 0 → j < W.heap.size) => c_LoadP 2 hp hh (by decide) (by decide) n0 n1)
 obtain ⟨P, hPP⟩ : ∃ P, P = plPlaces (kyH key) (s.M 2) := ⟨_, rfl⟩
 have hP4 : P.length ≤ 4 := by rw [hPP]; exact plPlaces_le _ _
 rw [← hPP] at HPL ⊢
 obtain ⟨v, hv⟩ : ∃ v, v = s.M 2 := ⟨_, rfl⟩
 rw [← hv] at HLO HPL ⊢
 obtain ⟨hx, hhx⟩ : ∃ v, v = kyH key := ⟨_, rfl⟩
 rw [← hhx] at HPL HHS
 obtain ⟨cs, hcs⟩ : ∃ cs, cs = fdCs key (.slice lo 0 lc) z := ⟨_, rfl⟩
 have hc0 : cs[0]? = some (.string key) := by rw [hcs]; rfl
 have hc2 : cs[2]? = some (.int .u64 z.word) := by rw [hcs]; rfl
 have hcl : cs.length = 7 := by rw [hcs]; rfl
 have hcd0 : (cs.set 2 (.int .u64 v))[0]? = some (.string key) := by rw [hcs]; rfl
 have hcd2 : (cs.set 2 (.int .u64 v))[2]? = some (.int .u64 v) := by rw [hcs]; rfl
 have hcd1 : (cs.set 2 (.int .u64 v))[1]? = some (.slice lo 0 lc) := by rw [hcs]; rfl
 have hcs1 : (cs.set 2 (.int .u64 v)).set 1 (.slice lo 0 lc) = cs.set 2 (.int .u64 v) := by rw [hcs]; rfl
 have hcz : ∀ o, (cs.set 2 (.int .u64 v)).set 1 o = fdCs key o ⟨z.left, v, z.p, z.ref⟩ := fun o => by rw [hcs]; rfl
 rw [← hcs] at hX
 have hb1 := alloc_below w (.cells #[.pointer (some ⟨F, 0, none⟩)] 240)
 have BX := Bx.new hhi #[.pointer (some ⟨F, 0, none⟩)] 240 w.heap.size rfl
 have HJ0 : Hid (TbW k w O _ O B f s F cs w.heap.size (.slice lo 0 lc) []) := Lib.hid ⟨Me.mk ((Ext.refl hhi).below hb1) (hP.below hhi hb1) (hX.below hb1), BX, [], hS.below hb1, FdL.nil⟩
 have HJ := Lib.hid (HJ0.out.below (drew_below _))
 have hne := HJ0.out.ne hk
 have hne1 := hne.1
 have hne2 := hne.2
 have x0 := HJ0.out.x.c 0 _ rfl
 have z0 := HJ0.out.m.t.c 0 _ hc0
 have p0 := HJ0.out.m.p.wo.c0
 have HFIN := Lib.hid (And.intro hPP (And.intro hcs hv))
 clear hP hX hS hhi hbd hy hPP hv hhx hcs hb1 BX HJ0 n0 n1 hz hne
 go_enter Tryz.func194, Tryz.ntmps194
 go_upto_region 1 with fail
 go_region_held3 (fun w' => w'.cell? ⟨w.heap.size, 0, none⟩ = some (.pointer (some ⟨F, 0, none⟩)) ∧ w'.cell? ⟨B.p, 0, none⟩ = some (.pointer (some ⟨B.c, 0, none⟩))) (go_keep)
  (first
    | (go_at_call 172
       refine (HLO.out _ _ HJ.out.m.p HJ.out.m.e.hi).mono ?_
       rintro e w1 ⟨rfl, G1, E1, P1⟩
       replace HJ := Lib.hid (HJ.out.world hk E1 P1)
       clear E1 P1
       have x0 := HJ.out.x.c 0 _ rfl
       have z0 := HJ.out.m.t.c 0 _ hc0
       have z2 := HJ.out.m.t.c 2 _ hc2
       have f2 := HJ.out.m.t.f 2
       have p0 := HJ.out.m.p.wo.c0
       have HJS := HJ.out.set hk 2 (.int .u64 v) (by omega)
       have y0 := HJS.x.c 0 _ rfl
       have y1 := HJS.m.p.wo.c0
       clear HJS))
 all_goals
  replace HJ := Lib.hid (HJ.out.set hk 2 (.int .u64 v) (by omega))
  obtain ⟨w2, hw2⟩ : ∃ W, W = w1.setCell ⟨F, 2, none⟩ (.int .u64 v) := ⟨_, rfl⟩
  rw [← hw2] at HJ ⊢
  rename_i hheld
  clear hheld z2 f2 hw2 y0 y1
  have x0 := HJ.out.x.c 0 _ rfl
  have z0 := HJ.out.m.t.c 0 _ hcd0
  have z2 := HJ.out.m.t.c 2 _ hcd2
  replace HJ := Lib.hid (HJ.out.below (drew_below _))
  go_upto_region 2 with fail
  go_region_held3 (fun w' => w'.cell? ⟨w.heap.size, 0, none⟩ = some (.pointer (some ⟨F, 0, none⟩)) ∧ w'.cell? ⟨F, 0, none⟩ = some (.string key) ∧ w'.cell? ⟨F, 2, none⟩ = some (.int .u64 v)) (go_keep)
   (first
     | (go_at_call 82
        refine (HHS.out _).mono ?_
        rintro e w3 ⟨rfl, hw⟩
        replace HJ := Lib.hid (HJ.out.below (w1 := w3) (by rw [← hw]; exact alloc_below _ _))
        clear hw
        have x0 := HJ.out.x.c 0 _ rfl
        have z0 := HJ.out.m.t.c 0 _ hcd0
        have z2 := HJ.out.m.t.c 2 _ hcd2)
     | (go_at_call 83
        refine (HPL.out _).mono ?_
        rintro e w4 ⟨⟨pv, rfl, hA, hF, po, rfl⟩, hb4⟩
        have HA := Lib.hid (An.of_fresh (O := G1) (g := 0) hA hF (fun j hj => own_new HJ.out.m.e.hi hj))
        replace HJ := Lib.hid (HJ.out.below hb4)
        clear hA hF hb4
        have x0 := HJ.out.x.c 0 _ rfl
        have z0 := HJ.out.m.t.c 0 _ hcd0
        have z2 := HJ.out.m.t.c 2 _ hcd2))
  all_goals
   rename_i hheld
   clear hheld x0 z0 z2 HHS HPL HLO p0 hc0 hc2 hcd0 hcd2 hne1 hne2 hcl
   obtain ⟨i0, hi, hz0, hz1, hz2⟩ := info_parts infoLd
   have HI := Lib.hid (And.intro hi (And.intro hz0 (And.intro hz1 hz2)))
   have HO : Hid (0 < P.length → ∃ sb so, po = some ⟨sb, so, none⟩ ∧ sb < w4.heap.size ∧ G1 sb = 0 ∧ ∀ j p, P[j]? = some p → w4.cell? ⟨sb, so + j * 2, none⟩ = some (.int .i64 p.1) ∧ w4.cell? ⟨sb, so + j * 2 + 1, none⟩ = some (.int .i64 p.2)) := Lib.hid (fun hn => by
    obtain ⟨sb, so, c', he, -, -, q1, q2, q3⟩ := HA.out.open hn (by decide)
    injection he with he1 he2 he3
    refine ⟨sb, so, he1, q1, q2, fun j p hp => ?_⟩
    obtain ⟨hj, rfl⟩ := List.getElem?_eq_some_iff.1 hp
    exact ⟨q3 (j * 2 + 0) _ ((rowOf_get plc_len P j 0 hj (by decide)).trans rfl), q3 (j * 2 + 1) _ ((rowOf_get plc_len P j 1 hj (by decide)).trans rfl)⟩)
   have hpl : P.length ≤ maxLen := by unfold maxLen; omega
   clear hi hz0 hz1 hz2 HA
   obtain ⟨bx, hbx⟩ : ∃ n, n = w.heap.size := ⟨_, rfl⟩
   rw [← hbx] at HJ ⊢
   clear hbx
   go_wp2_with fail
   go_loopw [26] (fun i wr => ∃ (j : Nat) (G : Om) (o : Value), j ≤ P.length ∧ i = .int .i64 j ∧ Ext (SX k (k + 1)) G1 w4 G wr ∧ TbW k w O wr G B f (awLoad 2 s) F ((cs.set 2 (.int .u64 v)).set 1 o) bx o ((P.take j).map fun p => .tg p.1 p.2)) (fun i _ => P.length - (intOf i).toNat)
   case atStart => exact ⟨0, G1, .slice lo 0 lc, Nat.zero_le _, rfl, Ext.refl HJ.out.m.e.hi, by rw [hcs1]; exact HJ.out⟩
   case round =>
    obtain ⟨j, G, o, hj, rfl, hE, hT⟩ := hrel
    obtain ⟨ys, hs, hf⟩ := hT.l
    have hlen : ((P.take j).map fun p => Fl.tg p.1 p.2).length = j := by rw [List.length_map, List.length_take]; omega
    rw [hlen] at hs
    obtain ⟨oo, oc, rfl, ho1, ho2⟩ := hs.shape
    have HE := Lib.hid hE
    have HT := Lib.hid hT
    by_cases hlt : j < P.length
    · obtain ⟨sb, so, rfl, hsb, hsg, hsx⟩ := HO.out (by omega)
      obtain ⟨⟨pb, pq⟩, hp⟩ : ∃ p, P[j]? = some p := ⟨_, List.getElem?_eq_getElem hlt⟩
      have q0 := (hE.wr.cell (p := ⟨sb, so + j * 2, none⟩) hsb (fun h => h.2 hsg)).trans (hsx j _ hp).1
      have q1 := (hE.wr.cell (p := ⟨sb, so + j * 2 + 1, none⟩) hsb (fun h => h.2 hsg)).trans (hsx j _ hp).2
      have hsr : sb < wr.heap.size := Nat.lt_of_lt_of_le hsb hE.size
      have HTk : Hid ((P.take (j + 1)).map (fun p => Fl.tg p.1 p.2) = (P.take j).map (fun p => Fl.tg p.1 p.2) ++ [Fl.tg pb pq]) := Lib.hid (by
       obtain ⟨h1, h2⟩ := List.getElem?_eq_some_iff.1 hp
       rw [List.take_succ_eq_append_getElem h1, List.map_append, h2]; rfl)
      dsimp only at q0 q1
      obtain ⟨wA, hwA⟩ : ∃ W, W = wr.alloc (.cells #[.int .i64 pb, .int .i64 pq] 73) := ⟨_, rfl⟩
      have bA : Below wr.heap.size wr wA := by rw [hwA]; exact alloc_below _ _
      have BP : Bx wA G wr.heap.size [.int .i64 pb, .int .i64 pq] := by rw [hwA]; exact Bx.new hT.m.e.hi _ _ _ rfl
      have hTA := hT.below bA
      have bB := alloc_below wA (.cells #[TG1V bx wr.heap.size] 522)
      have x1 := hTA.x.c 0 _ rfl
      have z1 : wA.cell? ⟨F, 1, none⟩ = some (.slice oo j oc) := hTA.m.t.c 1 _ (by rw [hcz]; rfl)
      have x2 := (hTA.x.below bB).c 0 _ rfl
      have z2 := (bB.cell (p := ⟨F, 1, none⟩) hTA.m.t.lt).trans z1
      have HXd := Lib.hid (And.intro (hTA.below (drew_below wA)) (And.intro (BP.below (drew_below wA)) (And.intro ((hs.below bA).below (drew_below wA)) ((hf.below bA).below (drew_below wA)))))
      have HEA := Lib.hid ((hE.below bA).below (drew_below wA))
      obtain ⟨bn, hbn⟩ : ∃ n, n = wr.heap.size := ⟨_, rfl⟩
      rw [← hbn] at HXd x2 z2
      clear hE hT hs hf hsx hp hsg bA BP hTA bB HE HT
      go_upto_region 5 with fail
      rw [← hwA, ← hbn]
      clear hwA hbn
      unfold TG1V at x2 z2
      go_region_law ((refine step_append_sls wA.drew (by rfl) _ _ 291 (by rfl) 522 i0 .nilFunc 1 8 Tryz.underlying291 HI.out.1 HI.out.2.1 HI.out.2.2.1 HI.out.2.2.2 rfl (by decide) G (k + 1) (by omega) HXd.out.1.m.e.hi (.slice oo j oc) j ys (by rfl) HXd.out.2.2.1 1 (by decide) [TG1V bx bn] _ (by rfl) rfl (by simp [Value.oneCell', TG1V]) (by unfold maxLen; omega) (by omega) ?_); intro b1 o1 c1 w5 G5 e1 s1; have HS1 := Lib.hid (And.intro e1 s1); have y1 : w5.cell? ⟨F, 1, none⟩ = some (.slice oo j oc) := (HXd.out.1.m.t.ext e1 (by omega)).c 1 _ (by rw [hcz]; rfl); have g1 := (HXd.out.1.m.t.ext e1 (by omega)).f 1; have y2 := (HXd.out.1.x.ext e1).c 0 _ rfl; clear e1 s1)
      all_goals
       have HT5 : Hid (Ext (SX k (k + 1)) G1 w4 G5 (w5.setCell ⟨F, 1, none⟩ (.slice (some ⟨b1, o1, none⟩) (j + 1) c1)) ∧ TbW k w O (w5.setCell ⟨F, 1, none⟩ (.slice (some ⟨b1, o1, none⟩) (j + 1) c1)) G5 B f (awLoad 2 s) F ((cs.set 2 (.int .u64 v)).set 1 (.slice (some ⟨b1, o1, none⟩) (j + 1) c1)) bx (.slice (some ⟨b1, o1, none⟩) (j + 1) c1) ((P.take (j + 1)).map fun p => .tg p.1 p.2)) := Lib.hid (by
        obtain ⟨e1, s1⟩ := HS1.out
        obtain ⟨t1, t2, t3, t4⟩ := HXd.out
        have em := e1.mono (T := SX k (k + 1)) fun t _ ht => .inr (by omega)
        have tf := t1.m.t.ext e1 (by omega)
        have es := Ext.of_set (j := 1) (v := .slice (some ⟨b1, o1, none⟩) (j + 1) c1) (S := fun t => t = k) em.hi tf.o (by omega) rfl
        have esm := es.mono (T := SX k (k + 1)) fun t _ ht => .inr (by omega)
        refine ⟨(HEA.out.trans em).trans esm, ⟨(t1.m.e.trans em).trans esm, (t1.m.p.ext e1 (by omega) (by omega) (by omega) (by omega)).ext es (by omega) (by omega) (by omega) (by omega), ?_⟩, (t1.x.ext e1).ext es, ys ++ [TG1V bx bn], ?_, ?_⟩
        · have := tf.set 1 (.slice (some ⟨b1, o1, none⟩) (j + 1) c1) (by rw [hcz]; simp [fdCs])
          rw [hcz] at this ⊢
          exact this
        · rw [HTk.out, List.length_append, hlen]
          exact s1.ext es (by omega)
        · rw [HTk.out]
          exact ((t4.ext e1).append (FdL.one (f := .tg pb pq) ⟨bx, bn, rfl, t1.x.ext e1, t2.ext e1⟩)).ext es)
       obtain ⟨w6, hw6⟩ : ∃ W, W = w5.setCell ⟨F, 1, none⟩ (.slice (some ⟨b1, o1, none⟩) (j + 1) c1) := ⟨_, rfl⟩
       rw [← hw6] at HT5 ⊢
       clear hw6 HS1 y1 y2 g1
       go_wp2_with fail
       go_roundw
       case rel => exact ⟨j + 1, G5, _, by omega, by go_num, HT5.out.1, HT5.out.2⟩
       case measure => simp [intOf]; omega
    · obtain rfl : j = P.length := by omega
      have HEND : Hid (RP (SX k (k + 1)) w O (.bool false) (fun W G => PW W G B f (awLoad 2 s) ∧ ∃ lv' xs', Ob W G k F (fdCs key lv' ⟨z.left, v, z.p, z.ref⟩) ∧ An W G (k + 1) 1 lv' P.length xs' ∧ FdL W G F (P.map fun p => .tg p.1 p.2) xs') (.returned (.bool false)) wr) := Lib.hid (by
       have t := HT.out
       rw [List.take_length] at hf
       have tt := t.m.t
       rw [hcz] at tt
       exact ⟨rfl, _, t.m.e, t.m.p, _, _, tt, An.of_sls hs, hf⟩)
      clear hs hf hE hT HT HE
      go_wp2_with fail
      go_ret
      exact HEND.out
end
end
section
open Go.RowKit
section
variable {F : Nat}
theorem c_FdStepBy {w : World} {wp : Addr} {b o n cp : Nat} {K : FuncId} {bd caps : Array Value} {t : Bool} {R : World → Prop} (q1 : w.cell? ⟨F, 1, none⟩ = some (.slice (some ⟨b, o, none⟩) (n + 1) cp)) (hc : n + 1 ≤ cp) (hcm : cp ≤ maxLen) (f1 : w.frozen? ⟨F, 1, none⟩ = false) (q2 : w.cell? ⟨b, o, none⟩ = some (.func (.func K) bd caps)) (hbF : ¬ b = F)
 (hK : enters K) (o' : Nat) (ho : o' = if cp = 1 then o else o + 1)
 (HC : Calls Tryz.prog K (bd ++ #[.pointer (some wp)] ++ caps) (w.setCell ⟨F, 1, none⟩ (.slice (some ⟨b, o', none⟩) n (cp - 1))) fun e w' => e = .returned (.bool t) ∧ R w')
 {R' : World → Prop} {m : Nat} (hT : t = true → m = 0 ∧ ∀ w1, R w1 → w1.frozen? ⟨F, 1, none⟩ = false ∧ (∃ u, w1.cell? ⟨F, 1, none⟩ = some u) ∧ R' (w1.setCell ⟨F, 1, none⟩ (.slice none 0 0)))
 (hF : t = false → ∀ w1, R w1 → (∃ ao c, w1.cell? ⟨F, 1, none⟩ = some (.slice ao m c)) ∧ R' w1) :
 Calls Tryz.prog 457 #[.pointer (some ⟨F, 0, none⟩), .pointer (some wp)] w fun e w' => e = .returned (.bool (m == 0)) ∧ R' w' := by
 unfold enters at hK
 unfold maxLen at hcm
 have HCH := Lib.hid HC
 have HTH := Lib.hid hT
 have HFH := Lib.hid hF
 have HOV := Lib.hid (c_FdOver q1)
 have e0 : (n + 1 == 0) = false := by simp
 rw [e0] at HOV
 clear HC hT hF e0
 by_cases h1 : cp = 1
 · rw [if_pos h1] at ho
   subst ho
   subst h1
   obtain rfl : n = 0 := by omega
   go_enter Tryz.func457, Tryz.ntmps457
   go_wp2_with fail
   refine HOV.out.mono ?_
   rintro e w' ⟨rfl, rfl⟩
   go_wp2_with fail
   refine HCH.out.mono ?_
   rintro e w1 ⟨rfl, hr⟩
   have HR := Lib.hid hr
   clear hr
   cases t with
   | true =>
     obtain ⟨hm, h2⟩ := HTH.out rfl
     obtain ⟨g1, ⟨u, y1⟩, h3⟩ := h2 w1 HR.out
     subst hm
     have HR2 := Lib.hid h3
     have y2 : (w1.setCell ⟨F, 1, none⟩ (.slice none 0 0)).cell? ⟨F, 1, none⟩ = some (.slice none 0 0) := World.cell?_setCell_same _ _ _ y1
     have HO2 := Lib.hid (c_FdOver y2)
     clear h2 h3 y2
     go_wp2_with fail
     refine HO2.out.mono ?_
     rintro e w' ⟨rfl, rfl⟩
     go_wp2_with fail
     go_ret
     exact ⟨rfl, HR2.out⟩
   | false =>
     obtain ⟨⟨ao, c, y1⟩, h3⟩ := HFH.out rfl w1 HR.out
     have HR2 := Lib.hid h3
     have HO2 := Lib.hid (c_FdOver y1)
     clear h3
     go_wp2_with fail
     refine HO2.out.mono ?_
     rintro e w' ⟨rfl, rfl⟩
     go_wp2_with fail
     go_ret
     exact ⟨rfl, HR2.out⟩
 · rw [if_neg h1] at ho
   subst ho
   have hc2 : ¬ cp - 1 = 0 := by omega
   go_enter Tryz.func457, Tryz.ntmps457
   go_wp2_with fail
   refine HOV.out.mono ?_
   rintro e w' ⟨rfl, rfl⟩
   go_wp2_with fail
   refine HCH.out.mono ?_
   rintro e w1 ⟨rfl, hr⟩
   have HR := Lib.hid hr
   clear hr
   cases t with
   | true =>
     obtain ⟨hm, h2⟩ := HTH.out rfl
     obtain ⟨g1, ⟨u, y1⟩, h3⟩ := h2 w1 HR.out
     subst hm
     have HR2 := Lib.hid h3
     have y2 : (w1.setCell ⟨F, 1, none⟩ (.slice none 0 0)).cell? ⟨F, 1, none⟩ = some (.slice none 0 0) := World.cell?_setCell_same _ _ _ y1
     have HO2 := Lib.hid (c_FdOver y2)
     clear h2 h3 y2
     go_wp2_with fail
     refine HO2.out.mono ?_
     rintro e w' ⟨rfl, rfl⟩
     go_wp2_with fail
     go_ret
     exact ⟨rfl, HR2.out⟩
   | false =>
     obtain ⟨⟨ao, c, y1⟩, h3⟩ := HFH.out rfl w1 HR.out
     have HR2 := Lib.hid h3
     have HO2 := Lib.hid (c_FdOver y1)
     clear h3
     go_wp2_with fail
     refine HO2.out.mono ?_
     rintro e w' ⟨rfl, rfl⟩
     go_wp2_with fail
     go_ret
     exact ⟨rfl, HR2.out⟩
theorem c_FdTg1 {w : World} {O : Om} {wp : Addr} {bx bp : Nat} {b q : Int} {t : Bool} {R : World → Prop} (hx : Bx w O bx [.pointer (some ⟨F, 0, none⟩)]) (hp : Bx w O bp [.int .i64 b, .int .i64 q])
 (HC : Calls Tryz.prog 248 #[.pointer (some ⟨F, 0, none⟩), .pointer (some wp), .agg #[.int .i64 b, .int .i64 q]] w fun e w' => e = .returned (.bool t) ∧ R w') :
 Calls Tryz.prog 247 #[.pointer (some wp), .pointer (some ⟨bx, 0, none⟩), .pointer (some ⟨bp, 0, none⟩)] w fun e w' => e = .returned (.bool t) ∧ R w' := by
 have q0 := hx.c 0 _ rfl
 have q1 := hp.c 0 _ rfl
 have q2 := hp.c 1 _ rfl
 have HCH := Lib.hid HC
 clear HC hx hp
 go_enter Tryz.func247, Tryz.ntmps247
 go_wp2_with fail
 refine HCH.out.mono ?_
 rintro e w' ⟨rfl, h⟩
 have HR := Lib.hid h
 clear h
 go_wp2_with fail
 go_ret
 exact ⟨rfl, HR.out⟩
theorem c_FdIm1 {w : World} {O : Om} {wp : Addr} {bx bp bn : Nat} {b q n : Int} {t : Bool} {R : World → Prop} (hx : Bx w O bx [.pointer (some ⟨F, 0, none⟩)]) (hp : Bx w O bp [.int .i64 b, .int .i64 q]) (hn : Bx w O bn [.int .i64 n])
 (HC : Calls Tryz.prog 279 #[.pointer (some ⟨F, 0, none⟩), .pointer (some wp), .agg #[.int .i64 b, .int .i64 q, .int .i64 n]] w fun e w' => e = .returned (.bool t) ∧ R w') :
 Calls Tryz.prog 278 #[.pointer (some wp), .pointer (some ⟨bx, 0, none⟩), .pointer (some ⟨bp, 0, none⟩), .pointer (some ⟨bn, 0, none⟩)] w fun e w' => e = .returned (.bool t) ∧ R w' := by
 have q0 := hx.c 0 _ rfl
 have q1 := hp.c 0 _ rfl
 have q2 := hp.c 1 _ rfl
 have q3 := hn.c 0 _ rfl
 have HCH := Lib.hid HC
 clear HC hx hp hn
 go_enter Tryz.func278, Tryz.ntmps278
 go_wp2_with fail
 refine HCH.out.mono ?_
 rintro e w' ⟨rfl, h⟩
 have HR := Lib.hid h
 clear h
 go_wp2_with fail
 go_ret
 exact ⟨rfl, HR.out⟩
end
def FlOk : Fl → Prop
 | .tb => True
 | .tg b q => (1 ≤ b ∧ b ≤ 12) ∧ 0 ≤ q ∧ q < fnvSize b
 | .im b q s => (⟨b, q, s⟩ : Spt).ok
structure FdOk (z : Fdm) : Prop where
 ok : ∀ x ∈ z.left, FlOk x
 tb : .tb ∈ z.left → z.left = [.tb]
 len : z.left.length ≤ 40
 p : z.ref ≠ 0 → z.p.ok
theorem RP.swap {S : Nat → Prop} {w : World} {O : Om} {v : Value} {Q : World → Om → Prop} {e : Ending} {w' : World} (h : RP S w O v Q e w') : e = .returned v ∧ ∃ G, Ext S O w G w' ∧ Q w' G := h
section
variable {w : World} {O : Om} {B : Wb} {f : Cf} {s : AW} {k F : Nat} {key : ByteArray}
theorem c_FdStep (z : Fdm) (hP : PW w O B f s) (hX : FdAt w O k F key z) (hz : FdOk z) (hne : z.left ≠ []) (hkz : key.size ≤ maxLen) (hil : s.it.length ≤ 1000000) (hk : 10 ≤ k) (hhi : ∀ j, O j ≠ 0 → j < w.heap.size) (n0 : 0 ≤ s.n) (n1 : s.n ≤ 4611686018427387904) :
 Calls Tryz.prog 457 #[.pointer (some ⟨F, 0, none⟩), .pointer (some ⟨B.p, 0, none⟩)] w (RP (SX k (k + 2)) w O (.bool ((fdStep key (s, z)).2.left.length == 0)) fun W G => PW W G B f (fdStep key (s, z)).1 ∧ FdAt W G k F key (fdStep key (s, z)).2) := by
 obtain ⟨lv, xs, g, hg, hO, hA, hL, hS⟩ := hX.ex
 obtain ⟨left, word, p, ref⟩ := z
 dsimp only at hne hA hL hS
 cases left with
 | nil => exact absurd rfl hne
 | cons x l =>
   rw [List.length_cons] at hA
   obtain ⟨b, o, cp, rfl, hc, hcm, hbl, hbg, hxc⟩ := hA.open (by omega) (by decide)
   obtain ⟨v, ys, rfl, hv, hLy⟩ := hL.head
   have q1 : w.cell? ⟨F, 1, none⟩ = some (.slice (some ⟨b, o, none⟩) (l.length + 1) cp) := hO.c 1 _ rfl
   have q2 : w.cell? ⟨b, o, none⟩ = some v := by have := hxc 0 v rfl; rwa [Nat.add_zero] at this
   have hbF : ¬ b = F := fun e => by
    have h1 := hO.o
    rw [← e, hbg] at h1
    omega
   obtain ⟨o', ho⟩ : ∃ o', o' = if cp = 1 then o else o + 1 := ⟨_, rfl⟩
   have ho2 : o' = o + 1 ∨ (cp = 1 ∧ o' = o) := by by_cases h : cp = 1; rw [if_pos h] at ho; exact .inr ⟨h, ho⟩; rw [if_neg h] at ho; exact .inl ho
   have es := Ext.of_set (j := 1) (v := .slice (some ⟨b, o', none⟩) l.length (cp - 1)) (S := fun t => t = k) hhi hO.o (by omega) rfl
   have hO1 : Ob (w.setCell ⟨F, 1, none⟩ (.slice (some ⟨b, o', none⟩) l.length (cp - 1))) O k F (fdCs key (.slice (some ⟨b, o', none⟩) l.length (cp - 1)) ⟨x :: l, word, p, ref⟩) := hO.set 1 _ (by simp [fdCs])
   have hA1 := (hA.tail ho2).ext es (hg.imp id fun e h => by omega)
   have hL1 := hLy.ext es
   have hP1 := hP.ext es (by omega) (by omega) (by omega) (by omega)
   have em := es.mono (T := SX k (k + 2)) fun t _ ht => .inr (by omega)
   rw [List.drop_one, List.tail_cons] at hA1
   cases x with
   | tb =>
     have hl : l = [] := by have := hz.tb (List.mem_cons_self); simpa using this
     subst hl
     cases hv
     have hs0 := (hS rfl).tail ho2
     rw [List.drop_one, List.tail_cons] at hs0
     have hys : ys = [] := List.eq_nil_of_length_eq_zero hLy.len
     subst hys
     have HC := c_FdTable (k := k) hP1 hO1 (hs0.ext es (by omega)) hkz hk es.hi n0 n1
     refine (c_FdStepBy (t := false) (m := (fdStep key (s, ⟨[.tb], word, p, ref⟩)).2.left.length) (R' := fun w' => ∃ G, Ext (SX k (k + 2)) O w G w' ∧ PW w' G B f (fdStep key (s, ⟨[.tb], word, p, ref⟩)).1 ∧ FdAt w' G k F key (fdStep key (s, ⟨[.tb], word, p, ref⟩)).2) q1 hc hcm (hO.f 1) q2 hbF (run_enter Tryz.func194 (by kernel_rfl) (by kernel_rfl)) o' ho (HC.mono fun _ _ h => RP.swap h) (fun h => by cases h) (fun _ w1 h1 => ?_)).mono fun _ _ h => ⟨h.1, h.2⟩
     obtain ⟨G, e1, p1, lv', xs', x1, a1, l1⟩ := h1
     obtain ⟨ao, c, rfl, -, -⟩ := a1.shape
     have hlen : (plPlaces (kyH key) (s.M 2)).length = (fdStep key (s, ⟨[.tb], word, p, ref⟩)).2.left.length := by simp [fdStep]
     refine ⟨⟨ao, c, by rw [← hlen]; exact x1.c 1 _ rfl⟩, G, em.trans (e1.mono fun t _ ht => SX.mono (Nat.le_refl _) (by omega) ht), p1, _, xs', k + 1, .inr rfl, x1, ?_, l1, fun h => ?_⟩
     · rw [← hlen]; exact a1
     · exfalso
       simp [fdStep] at h
   | tg tb tq =>
     obtain ⟨bx, bp, rfl, hbx, hbp⟩ := hv
     have hok : (1 ≤ tb ∧ tb ≤ 12) ∧ 0 ≤ tq ∧ tq < fnvSize tb := hz.ok (.tg tb tq) List.mem_cons_self
     have hnt : Fl.tb ∉ l := fun h => by have := hz.tb (List.mem_cons_of_mem _ h); simp at this
     have hlen40 := hz.len
     dsimp only at hlen40
     rw [List.length_cons] at hlen40
     have hO2 : Ob (w.setCell ⟨F, 1, none⟩ (.slice (some ⟨b, o', none⟩) l.length (cp - 1))) O k F (fdCs key (.slice (some ⟨b, o', none⟩) l.length (cp - 1)) ⟨l, word, p, ref⟩) := hO1
     have HC := c_FdTags (k := k) (z := ⟨l, word, p, ref⟩) tb tq hP1 hO2 hg hA1 hL1 (by dsimp only; omega) hok.1 hok.2 hkz hk es.hi n0 n1
     refine (c_FdStepBy (t := false) (m := (fdStep key (s, ⟨.tg tb tq :: l, word, p, ref⟩)).2.left.length) (R' := fun w' => ∃ G, Ext (SX k (k + 2)) O w G w' ∧ PW w' G B f (fdStep key (s, ⟨.tg tb tq :: l, word, p, ref⟩)).1 ∧ FdAt w' G k F key (fdStep key (s, ⟨.tg tb tq :: l, word, p, ref⟩)).2) q1 hc hcm (hO.f 1) q2 hbF (run_enter Tryz.func247 (by kernel_rfl) (by kernel_rfl)) o' ho (c_FdTg1 (hbx.ext es) (hbp.ext es) (HC.mono fun _ _ h => RP.swap h)) (fun h => by cases h) (fun _ w1 h1 => ?_)).mono fun _ _ h => ⟨h.1, h.2⟩
     obtain ⟨G, e1, p1, lv', xs', x1, a1, l1⟩ := h1
     obtain ⟨ao, c, rfl, -, -⟩ := a1.shape
     have hlen : (twHas (s.M (plTags tb tq)) (fnvTag (kyH key))).length + l.length = (fdStep key (s, ⟨.tg tb tq :: l, word, p, ref⟩)).2.left.length := by simp [fdStep]
     refine ⟨⟨ao, c, by rw [← hlen]; exact x1.c 1 _ rfl⟩, G, em.trans e1, p1, _, xs', 0, .inl rfl, x1, ?_, l1, fun h => ?_⟩
     · rw [← hlen]; exact a1
     · exfalso
       have h : (twHas (s.M (plTags tb tq)) (fnvTag (kyH key))).map (Fl.im tb tq) ++ l = [.tb] := h
       have hm : Fl.tb ∈ (twHas (s.M (plTags tb tq)) (fnvTag (kyH key))).map (Fl.im tb tq) ++ l := by rw [h]; exact List.mem_cons_self
       rcases List.mem_append.1 hm with h1 | h1
       · simp at h1
       · exact hnt h1
   | im tb tq ts =>
     obtain ⟨bx, bp, bn, rfl, hbx, hbp, hbn⟩ := hv
     have hok : (⟨tb, tq, ts⟩ : Spt).ok := hz.ok (.im tb tq ts) List.mem_cons_self
     have hnt : Fl.tb ∉ l := fun h => by have := hz.tb (List.mem_cons_of_mem _ h); simp at this
     have HC := c_FdItem (k := k) ⟨tb, tq, ts⟩ hP1 hO1 hok hk hil es.hi n0 n1
     obtain ⟨t, ht⟩ : ∃ t, t = fdHit s.it (s.M (⟨tb, tq, ts⟩ : Spt).item) key := ⟨_, rfl⟩
     rw [← ht] at HC
     have hst : fdStep key (s, ⟨.im tb tq ts :: l, word, p, ref⟩) = (awLoad (plItem tb tq ts) s, if t = true then ⟨[], word, ⟨tb, tq, ts⟩, s.M (plItem tb tq ts)⟩ else ⟨l, word, p, ref⟩) := by rw [ht]; rfl
     rw [hst]
     refine (c_FdStepBy (t := t) (m := (if t = true then (⟨[], word, ⟨tb, tq, ts⟩, s.M (plItem tb tq ts)⟩ : Fdm) else ⟨l, word, p, ref⟩).left.length) (R' := fun w' => ∃ G, Ext (SX k (k + 2)) O w G w' ∧ PW w' G B f (awLoad (plItem tb tq ts) s) ∧ FdAt w' G k F key (if t = true then ⟨[], word, ⟨tb, tq, ts⟩, s.M (plItem tb tq ts)⟩ else ⟨l, word, p, ref⟩)) q1 hc hcm (hO.f 1) q2 hbF (run_enter Tryz.func278 (by kernel_rfl) (by kernel_rfl)) o' ho (c_FdIm1 (hbx.ext es) (hbp.ext es) (hbn.ext es) (HC.mono fun _ _ h => RP.swap h)) (fun h => ?_) (fun h w1 h1 => ?_)).mono fun _ _ h => ⟨h.1, h.2⟩
     · subst h
       refine ⟨rfl, fun w1 h1 => ?_⟩
       obtain ⟨G, e1, p1, x1⟩ := h1
       rw [if_pos rfl] at x1
       have es2 := Ext.of_set (j := 1) (v := .slice none 0 0) (S := fun t => t = k) e1.hi x1.o (by omega) rfl
       refine ⟨x1.f 1, ⟨_, x1.c 1 _ rfl⟩, G, (em.trans (e1.mono fun t _ ht => SX.mono (Nat.le_refl _) (by omega) ht)).trans (es2.mono fun t _ ht => .inr (by omega)), p1.ext es2 (by omega) (by omega) (by omega) (by omega), .slice none 0 0, [], 0, .inl rfl, ?_, An.nil _ _ _ _ _, FdL.nil, fun h => by simp at h⟩
       rw [if_pos rfl]
       exact x1.set 1 _ (by simp [fdCs])
     · subst h
       obtain ⟨G, e1, p1, x1⟩ := h1
       rw [if_neg (by decide)] at x1 ⊢
       refine ⟨⟨_, _, x1.c 1 _ rfl⟩, G, em.trans (e1.mono fun t _ ht => SX.mono (Nat.le_refl _) (by omega) ht), p1, _, ys, g, hg, x1, hA1.ext e1 (hg.imp id fun e h => by unfold SX at h; omega), hL1.ext e1, fun h => ?_⟩
       exfalso
       have h : l = [.tb] := h
       exact hnt (by rw [h]; exact List.mem_cons_self)
end
end
end Go.Proofs.YtifkfhnbkjkakaaGreatDoor
