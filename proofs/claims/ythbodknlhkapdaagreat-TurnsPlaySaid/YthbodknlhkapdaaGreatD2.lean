/- Parts of the walk. -/
import Derived.Test.YthbodknlhkapdaaGreatD1
import Derived.Test.YthbodknlhkapdaaGreatG1
import Derived.Test.YthbodknlhkapdaaGreatG6
import Derived.Test.YthbodknlhkapdaaGreatG2
namespace Go.Proofs.YthbodknlhkapdaaGreat
set_option linter.unusedVariables false
set_option linter.unusedSimpArgs false
set_option maxHeartbeats 8000000
set_option maxRecDepth 100000
section
open Go.RowKit Go.Shelf
theorem Ahc {P : Program} {ops : Array Oper} {o : Oper} {a : Act} {K : Act → World → Prop} {Q : Exit → Act → World → Prop} {E : Prop} (w : World) (hgd : o.guard = none) (s x : Operand) (ty : TypeId)
 (ho : o.op = .call { callee := .builtin .append, args := #[s, x], argTypes := #[ty, ty] })
 (e : TypeId) (i : TypeInfo) (z : Value) (size bytes : Nat) (ht : P.underlying ty = some (.slice e)) (hi : P.info? e = some i) (hz : i.zero = some z)
 (hsize : i.size = size) (hby : i.bytes = bytes) (hzs : z.cells.size = size) (hsz : 0 < size)
 (O : Om) (t : Nat) (ht0 : t ≠ 0) (hhi : Hh O w)
 (b of n c : Nat) (xs : List Value) (hs : a.eval s = .slice (some ⟨b, of, none⟩) n c) (hxl : xs.length = n * size) (hxc : ∀ j u, xs[j]? = some u → w.cell? ⟨b, of + j, none⟩ = some u)
 (xv : Value) (m : Nat) (ys : List Value) (hx : a.eval x = xv) (hy : Arr w xv m size ys) (h1 : ∀ u ∈ ys, u.oneCell' = true) (hm : 0 < m) (hgr : c < n + m)
 (hnm : n + m ≤ maxLen) (hbytes : (n + m) * bytes ≤ 140737488355328)
 (hK : ∀ b' o' c' w' O', Ext (fun j => j = t) O w O' w' → Sls w' O' t size (.slice (some ⟨b', o', none⟩) (n + m) c') (n + m) (xs ++ ys) → K (a.put o.dst (.slice (some ⟨b', o', none⟩) (n + m) c')) w') :
 if Region.wanted o (yielded ops a.tmps) = true then Oper.wp P o a w K Q else E := by
 have hw : Region.wanted o (yielded ops a.tmps) = true := by simp [Region.wanted, hgd]
 rw [if_pos hw]
 obtain ⟨b2, o2, c2, rfl, hnc, hcm, hlt, hx2⟩ := hy.open hm hsz
 obtain ⟨v', w', hrun, r1, r2⟩ := run_append_arg_grows (P := P) (w := w) ty o.type e i z size bytes ht hi hz hsize hby hzs hsz ⟨b, of, none⟩ n c xs hxl (fun j u hj => by rw [Addr.add_lit]; exact hxc j u hj) ⟨b2, o2, none⟩ m c2 ys hy.1 (fun j u hj => by rw [Addr.add_lit]; exact hx2 j u hj) hgr hnm hbytes
 have hb : Below w.heap.size w w' := (Below.refl _ _).grown r2 (Nat.le_refl _) fun k hk => by cases hk
 obtain ⟨O', e2, s2⟩ := Sls.of_row ht0 hhi r1 hb
 obtain ⟨b', o', c', rfl, -⟩ := s2.open (by omega)
 unfold Oper.wp
 simp [execOp, ho, resolve, invoke, builtin, hs, hx, hrun, Result.andThen]
 exact hK b' o' c' w' O' e2 s2
theorem dwS {W : World} {G : Om} {k X A o j n c m wc T : Nat} {wao : Option Addr} {b mq nq nf ns : Int} (x1 : W.cell? ⟨X, 1, none⟩ = some (.slice (some ⟨A, o, none⟩) n c)) (x3 : W.cell? ⟨X, 3, none⟩ = some (.int .i64 b)) (x5 : W.cell? ⟨X, 5, none⟩ = some (.slice wao m wc)) (t : Ob W G (k + 3) T (Ahi ⟨nq, nf, ns⟩)) (u : W.cell? ⟨A, o + j * 3, none⟩ = some (.int .i64 mq)) :
 W.cell? ⟨X, 1, none⟩ = some (.slice (some ⟨A, o, none⟩) n c) ∧ W.cell? ⟨X, 3, none⟩ = some (.int .i64 b) ∧ W.cell? ⟨X, 5, none⟩ = some (.slice wao m wc) ∧ W.cell? ⟨T, 1, none⟩ = some (.int .i64 nf) ∧ W.cell? ⟨T, 2, none⟩ = some (.int .i64 ns) ∧ W.cell? ⟨A, o + j * 3, none⟩ = some (.int .i64 mq) :=
 ⟨x1, x3, x5, t.c 1 _ rfl, t.c 2 _ rfl, u⟩
theorem Agw (b : Int) (l : List Wnd) (f j : Nat) (s : Int) (acc : List Spt) (n : Wnd) (h : l[j]? = some n) : Ab9 b l (f + 1) j s acc = Ab9 b l f n.fr n.sl (⟨b, n.q, s⟩ :: acc) := by
 conv => lhs; unfold Ab9
 rw [if_neg (by omega)]
 simp only [Int.toNat_natCast, h]
theorem Api (b q s : Int) {X : Nat} {w : World} (h : w.cell? ⟨X, 3, none⟩ = some (.int .i64 b)) :
 Calls Tryz.prog 146 #[.pointer (some ⟨X, 0, none⟩), .int .i64 q, .int .i64 s] w fun e w' => e = .returned (.agg #[.int .i64 b, .int .i64 q, .int .i64 s]) ∧ Below w.heap.size w w' := by
 have hl := Aj0 h
 dsimp only at hl
 have hb := bal w (.cells #[.int .i64 b, .int .i64 q, .int .i64 s] 95)
 have HB := hQd hb
 clear hb
 go_enter Tryz.func146, Tryz.ntmps146
 go_wp2_with fail
 exact bodyPost_ret (v := .agg #[.int .i64 b, .int .i64 q, .int .i64 s]) (by simp [results, Tryz.results146, go_sem]) rfl ⟨rfl, HB.out⟩
structure Dz (k X : Nat) (b mo i : Int) (L : List Wnd) (acc : List Spt) (w0 : World) (O0 : Om) (C : Wb) (f : Cf) (s : AW) (m : Nat) (W : World) (G : Om) (lv wv : Value) : Prop where
 e : Ext (SD k (k + 3)) O0 w0 G W
 p : RW W G C f s m
 x : Ob W G k X (Aqm 1 lv i b mo wv)
 l : Sls W G (k + 1) 3 lv L.length (L.flatMap Ahi)
 y : Sls W G (k + 2) 3 wv acc.length (acc.flatMap spl)
structure Dy (k X : Nat) (b mo i : Int) (L : List Wnd) (wv v : Value) (n : Nat) (xs : List Value) (w0 : World) (O0 : Om) (C : Wb) (f : Cf) (s : AW) (m : Nat) (W : World) (G : Om) (lv : Value) : Prop where
 e : Ext (SD k (k + 3)) O0 w0 G W
 p : RW W G C f s m
 x : Ob W G k X (Aqm 1 lv i b mo wv)
 l : Sls W G (k + 1) 3 lv L.length (L.flatMap Ahi)
 y : Sls W G (k + 2) 3 v n xs
section
variable {k X : Nat} {b mo i : Int} {L : List Wnd} {acc : List Spt} {w0 : World} {O0 : Om} {C : Wb} {f : Cf} {s s1 : AW} {m m1 : Nat} {W W' : World} {G G' : Om} {lv wv : Value}
theorem Dz.below (h : Dz k X b mo i L acc w0 O0 C f s m W G lv wv) (hb : Below W.heap.size W W') : Dz k X b mo i L acc w0 O0 C f s m W' G lv wv :=
 ⟨h.e.below hb, h.p.below h.e.hi hb, h.x.below hb, h.l.below hb, h.y.below hb⟩
theorem Dz.ext (h : Dz k X b mo i L acc w0 O0 C f s m W G lv wv) (e : Ext (fun t => t = k + 3) G W G' W') (hk : 10 ≤ k := by omega) : Dz k X b mo i L acc w0 O0 C f s m W' G' lv wv :=
 ⟨h.e.trans (e.mono fun t _ ht => .inr (by omega)), h.p.ext e, h.x.ext e, h.l.ext e, h.y.ext e⟩
theorem Dz.world (h : Dz k X b mo i L acc w0 O0 C f s m W G lv wv) (hk : 10 ≤ k) (e : Ext SR G W G' W') (hp : RW W' G' C f s1 m1) : Dz k X b mo i L acc w0 O0 C f s1 m1 W' G' lv wv :=
 ⟨h.e.trans (e.mono fun t _ ht => .inl ht), hp, h.x.ext e (fun h => by have := h.2; omega), h.l.ext e (fun h => by have := h.2; omega), h.y.ext e (fun h => by have := h.2; omega)⟩
theorem Dz.app {L' : List Wnd} {v : Value} {n : Nat} {xs : List Value} (h : Dz k X b mo i L acc w0 O0 C f s m W G lv wv) (hk : 10 ≤ k) (e : Ext (fun t => t = k + 1) G W G' W') (hs : Sls W' G' (k + 1) 3 v n xs) (hn : n = L'.length) (hxs : xs = L'.flatMap Ahi) : Dz k X b mo i L' acc w0 O0 C f s m (W'.setCell ⟨X, 1, none⟩ v) G' v wv ∧ Ext (fun t => t = k ∨ t = k + 1) G W G' (W'.setCell ⟨X, 1, none⟩ v) := by
 have x1 := h.x.ext e
 have e2 := Aaf (j := 1) (v := v) e.hi x1 hk
 have e12 := (e.mono (T := fun t => t = k ∨ t = k + 1) fun t _ h => .inr h).trans (e2.mono fun t _ h => .inl h)
 exact ⟨⟨h.e.trans (e12.mono fun t _ ht => .inr (by omega)), h.p.ext e12, x1.set 1 v (by simp [Aqm]), by rw [← hn, ← hxs]; exact hs.ext e2, h.y.ext e12⟩, e12⟩
theorem Dz.y2 {g o c n : Nat} {xs : List Value} (h : Dz k X b mo i L acc w0 O0 C f s m W G lv wv) (hk : 10 ≤ k) (e : Ext (fun t => t = k + 2) G W G' W') (hs : Sls W' G' (k + 2) 3 (.slice (some ⟨g, o, none⟩) n c) n xs) : Dy k X b mo i L wv (.slice (some ⟨g, o, none⟩) n c) n xs w0 O0 C f s m W' G' lv :=
 ⟨h.e.trans (e.mono fun t _ ht => .inr (by omega)), h.p.ext e, h.x.ext e, h.l.ext e, hs⟩
theorem Dy.put {v : Value} {n : Nat} {xs : List Value} {acc' : List Spt} (h : Dy k X b mo i L wv v n xs w0 O0 C f s m W G lv) (hk : 10 ≤ k) (e : Ext (fun t => t = k) G W G W') (hx : Ob W' G k X (Aqm 1 lv i b mo v)) (hn : n = acc'.length) (hxs : xs = acc'.flatMap spl) : Dz k X b mo i L acc' w0 O0 C f s m W' G lv v :=
 ⟨h.e.trans (e.mono fun t _ ht => .inr (by omega)), h.p.ext e, hx, h.l.ext e, by rw [← hn, ← hxs]; exact h.y.ext e⟩
end
structure DkAt (k X : Nat) (b mo i : Int) (l : List Wnd) (P : List Spt) (w0 : World) (O0 : Om) (C : Wb) (f : Cf) (s : AW) (m : Nat) (lv : Value) (T : Nat) (n : Wnd) (W : World) : Prop where
 ex : ∃ G wv acc fu, Dz k X b mo i l acc w0 O0 C f s m W G lv wv ∧ Ob W G (k + 3) T (Ahi n) ∧ Ab9 b l fu n.fr n.sl acc = P ∧ n.fr < (fu : Int) ∧ acc.length + fu ≤ 4097 ∧ 0 < acc.length
def Bav (T : Nat) (w : World) : Nat := match w.cell? ⟨T, 1, none⟩ with
 | some v => (intOf v + 1).toNat
 | none => 0
section
variable {X : Nat} {w : World} {O : Om} {C : Wb} {f : Cf} {s : AW} {m k : Nat}
theorem Asz (i : Nat) (n : Wnd) {b mo : Int} {L : List Wnd} {lv wv : Value} (h : Dz k X b mo i L [] w O C f s m w O lv wv) (hL : WyL b L) (hn : L[i]? = some n) (hb0 : 1 ≤ b) (hb1 : b ≤ 12) (hk : 10 ≤ k) (hm : m ≤ 900000) (n0 : 0 ≤ s.n) (n1 : s.n ≤ 4611686018427387904) :
 C2 116 X C.p w (RP (SD k (k + 3)) w O (.tuple #[]) fun W G => RW W G C f (Aaw (s, ⟨1, L, i, b, mo, []⟩)).1 (m + 1) ∧ Apz W G k X (Aaw (s, ⟨1, L, i, b, mo, []⟩)).2) := by
 have hlen := hL.len
 have hi : i < L.length := (List.getElem?_eq_some_iff.1 hn).1
 have hnq := hL.q n (List.mem_iff_getElem?.2 ⟨i, hn⟩)
 have hnf := hL.fr i n hn
 have hsz := Aah b
 have hQ : wyQ ⟨1, L, i, b, mo, []⟩ = n.q := by unfold wyQ; dsimp only; rw [hn]
 have hT : Auh s ⟨1, L, i, b, mo, []⟩ = s.M (Aai b n.q) := by unfold Auh; rw [hQ]
 have ht := Ab2 (b := b) (k := n.q) hnq
 have HTa := hQd (fun W => Ac8 b n.q W (by omega) (by omega) (by omega) (by omega))
 have hbd := h.p.bd (Aai b n.q)
 have HF := hQd (fun W => Amd (s.M (Aai b n.q)) W hbd.1 hbd.2)
 obtain ⟨A, o, c, rfl, -⟩ := h.l.open (by omega)
 obtain ⟨a1, a2, a3⟩ := Aj3 L i n hn
 have u1 := h.l.c _ _ a1
 have u2 := h.l.c _ _ a2
 have u3 := h.l.c _ _ a3
 rw [← Nat.add_assoc] at u2 u3
 have H := hQd h
 have HNQ := hQd (aN hnq (aN hsz hnf))
 have HL := hQd (aN hL hn)
 have HPL := hQd (aN hQ hT)
 obtain ⟨x0, x1, x2⟩ := h.x.c3
 have hil : (i : Int) < L.length := by omega
 have hXl : X < w.heap.size := h.x.lt
 have hAl : A < w.heap.size := h.l.lt.1
 have hta : 0 ≤ Aai b n.q ∧ Aai b n.q < 18446744073709551616 := by omega
 have HTA := hQd hta
 have HBD := hQd hbd
 obtain ⟨⟨nq', nf, ns⟩, hne⟩ : ∃ z, z = n := ⟨_, rfl⟩
 rw [← hne] at u1 u2 u3 HNQ HL HPL HTa HF HTA HBD hnf
 dsimp only at u1 u2 u3 HNQ HPL HTa HF HTA HBD hnf
 obtain ⟨ta, hta2⟩ := exq (Aai b nq')
 rw [← hta2] at HTa HF HPL HTA HBD
 obtain ⟨tg, htg⟩ := exq (s.M ta)
 rw [← htg] at HF HPL HBD
 obtain ⟨fr, hfr⟩ := exq (Aa5 tg)
 rw [← hfr] at HF
 have HFR := hQd hfr
 have HTG := hQd htg
 have HTT := hQd hta2
 obtain ⟨i0, hi0, hz0, hz1, hz2⟩ := info_parts Ao4
 have HI := hQd (aN hi0 (aN hz0 (aN hz1 hz2)))
 obtain ⟨i1, hi1, hz3, hz4, hz5⟩ := info_parts Af5
 have HJ := hQd (aN hi1 (aN hz3 (aN hz4 hz5)))
 clear h hL hn hnq hsz hQ hT ht hbd hta hta2 htg hfr a1 a2 a3 hne hi0 hz0 hz1 hz2 hi1 hz3 hz4 hz5 hnf
 go_enter Tryz.func116, Tryz.ntmps116
 go_wp2_with fail
 go_region
 go_upto_region 2 with fail
 obtain ⟨G1, e1, t1, -⟩ := Aar H.out.e.hi (k + 3) #[.int .i64 nq', .int .i64 nf, .int .i64 ns] 254 w.heap.size rfl
 have hb2' := Aaa (w.alloc (.cells #[.int .i64 nq', .int .i64 nf, .int .i64 ns] 254))
 have HT0 : Hid (Dz k X b mo i L [] w O C f s m (w.alloc (.cells #[.int .i64 nq', .int .i64 nf, .int .i64 ns] 254)).drew G1 (.slice (some ⟨A, o, none⟩) L.length c) wv ∧ Ob (w.alloc (.cells #[.int .i64 nq', .int .i64 nf, .int .i64 ns] 254)).drew G1 (k + 3) w.heap.size (Ahi ⟨nq', nf, ns⟩)) := hQd ⟨(H.out.ext e1 hk).below hb2', t1.below hb2'⟩
 obtain ⟨W, hW⟩ := exq ((w.alloc (.cells #[.int .i64 nq', .int .i64 nf, .int .i64 ns] 254)).drew)
 rw [← hW] at HT0 ⊢
 obtain ⟨T, hT⟩ := exq w.heap.size
 rw [← hT] at HT0 ⊢
 clear hW hT e1 t1 hb2' x0 x1 x2 u1 u2 u3 hXl hAl H
 have x3 := HT0.out.1.x.c 3 _ rfl
 have t0 := HT0.out.2.c 0 _ rfl
 go_region_held3 (fun w' => w'.cell? ⟨X, 3, none⟩ = some (.int .i64 b) ∧ w'.cell? ⟨T, 0, none⟩ = some (.int .i64 nq')) (go_keep)
  ((first
    | (go_at_call 68
       refine (HTa.out _).mono ?_
       rintro e w3 ⟨rfl, hb3⟩
       have M3 := hQd ((HT0.out.1.below (Aaa _)).below hb3)
       have T3 := hQd ((HT0.out.2.below (Aaa _)).below hb3)
       have p33 := M3.out.x.c 3 _ rfl
       have t03 := T3.out.c 0 _ rfl
       clear hb3)
    | (go_at_call 28
       refine (Ac1 ta M3.out.p (by omega) HTA.out.1 HTA.out.2 M3.out.e.hi n0 n1).mono ?_
       rintro e w4 ⟨rfl, G4, e4, P4⟩
       have M4 := hQd (M3.out.world hk e4 P4)
       have T4 := hQd (T3.out.ext e4 (by unfold SR; omega))
       have p34 := M4.out.x.c 3 _ rfl
       have t04 := T4.out.c 0 _ rfl
       clear e4 P4)))
 all_goals
  rw [← HTG.out]
  clear x3 t0 p33 t03 p34 t04 HT0 M3 T3
  go_wp2_with fail
  refine (HF.out _).mono ?_
  rintro e w' ⟨rfl, rfl⟩
  obtain ⟨-, -, -, x3, -, x5⟩ := M4.out.x.c6
  have f5 := M4.out.x.f 5
  have t0 := T4.out.c 0 _ rfl
  by_cases hf : 0 ≤ fr
  · have d1 : decide (0 ≤ fr) = true := by simp; omega
    have hfr3 : fr ≤ 3 := by have := Adw tg; rw [HFR.out]; omega
    have HFF := hQd (aN hf hfr3)
    have HSP := hQd (Api b nq' fr x3)
    clear hf hfr3
    go_wp2_with fail
    refine HSP.out.mono ?_
    rintro e w5 ⟨rfl, hb5⟩
    have M5 := hQd (M4.out.below hb5)
    have T5 := hQd (T4.out.below hb5)
    clear hb5 x3 x5 f5 t0 HSP
    have x5 := M5.out.x.c 5 _ rfl
    have f5 := M5.out.x.f 5
    have hXl : X < w5.heap.size := M5.out.x.lt
    have e6 := Aaf (j := 5) (v := .slice (some ⟨w5.heap.size, 0, none⟩) 1 1) M5.out.e.hi M5.out.x hk
    have X6 := M5.out.x.set 5 (.slice (some ⟨w5.heap.size, 0, none⟩) 1 1) (by simp [Aqm])
    obtain ⟨G6, e7, a7, k7⟩ := Aar e6.hi (k + 2) #[.int .i64 b, .int .i64 nq', .int .i64 fr] 95 w5.heap.size (by simp)
    have e67 := e6.mono (T := SD k (k + 3)) fun t _ h => .inr (by omega)
    have e78 := e7.mono (T := SD k (k + 3)) fun t _ h => .inr (by omega)
    obtain ⟨P, hP⟩ := exq (Ab9 b L (i + 1) i fr [])
    have hP2 : Ab9 b L i nf ns [⟨b, nq', fr⟩] = P := by rw [hP, Agw b L i i fr [] ⟨nq', nf, ns⟩ HL.out.2]
    have HK : Hid (DkAt k X b mo i L P w O C f (Aan ta s) (m + 1) (.slice (some ⟨A, o, none⟩) L.length c) T ⟨nq', nf, ns⟩ ((w5.setCell ⟨X, 5, none⟩ (.slice (some ⟨w5.heap.size, 0, none⟩) 1 1)).alloc (.cells #[.int .i64 b, .int .i64 nq', .int .i64 fr] 95))) := hQd
     ⟨G6, _, [⟨b, nq', fr⟩], i, ⟨(M5.out.e.trans e67).trans e78, (M5.out.p.ext e6).ext e7, k7 _ _ _ X6, (M5.out.l.ext e6).ext e7, Sls.of_ob (size := 3) (n := 1) a7 rfl (by unfold maxLen; decide)⟩, k7 _ _ _ (T5.out.ext e6), hP2, by have := HNQ.out.2.2; dsimp only; omega, by simp; omega, by simp⟩
    obtain ⟨w7, hw7⟩ := exq ((w5.setCell ⟨X, 5, none⟩ (.slice (some ⟨w5.heap.size, 0, none⟩) 1 1)).alloc (.cells #[.int .i64 b, .int .i64 nq', .int .i64 fr] 95))
    clear e6 a7 k7 X6 e7 e67 e78 hP2 M5 T5 M4 T4
    have HPP := hQd hP
    clear hP
    go_wp2_with fail
    rw [← hw7] at HK ⊢
    clear hw7 x5 f5 hXl
    go_loopw [] (fun wr => ∃ (n : Wnd), DkAt k X b mo i L P w O C f (Aan ta s) (m + 1) (.slice (some ⟨A, o, none⟩) L.length c) T n wr ∧ -1 ≤ n.fr ∧ n.fr < L.length)
     (fun wr => Bav T wr)
    case atStart => exact ⟨_, HK.out, by have := HNQ.out.2.2; dsimp only; omega, by have := HNQ.out.2.2; dsimp only; omega⟩
    obtain ⟨⟨nq, nf, ns⟩, hdk, hn0, hn1⟩ := hrel
    obtain ⟨G, wv, acc, fu, D, tT, hP, hfu, haf, hac⟩ := hdk.ex
    dsimp only at hn0 hn1 hP hfu
    obtain ⟨t0, t1, t2⟩ := tT.c3
    by_cases hf0 : 0 ≤ nf
    · obtain ⟨j, rfl⟩ : ∃ j : Nat, nf = j := ⟨nf.toNat, by omega⟩
      have hj : j < L.length := by omega
      have hnj : L[j]? = some L[j] := List.getElem?_eq_getElem hj
      obtain ⟨⟨mq, mf, ms⟩, hme⟩ : ∃ n, n = L[j] := ⟨_, rfl⟩
      rw [← hme] at hnj
      clear hme
      have hmf := HL.out.1.fr j _ hnj
      obtain ⟨g, rfl⟩ : ∃ g, fu = g + 1 := ⟨fu - 1, by omega⟩
      rw [Agw b L g j ns acc ⟨mq, mf, ms⟩ hnj] at hP
      dsimp only at hP
      obtain ⟨a1, a2, a3⟩ := Aj3 L j _ hnj
      have u1 := D.l.c _ _ a1
      have u2 := D.l.c _ _ a2
      have u3 := D.l.c _ _ a3
      rw [← Nat.add_assoc] at u2 u3
      obtain ⟨-, x1, -, x3, -, x5⟩ := D.x.c6
      have f5 := D.x.f 5
      have hjl : (j : Int) < L.length := by omega
      go_upto_region 7 with fail
      have HA1 := hQd a1
      have HAC : Hid (0 < acc.length ∧ acc.length ≤ 4097) := hQd ⟨hac, by omega⟩
      have HNN := hQd (aN hn0 (aN hn1 (aN hP (aN hfu (aN haf hmf)))))
      obtain ⟨wao, wc, rfl, -⟩ := D.y.shape
      refine Ad7 22 (S := fun w' => w'.cell? ⟨X, 1, none⟩ = some (.slice (some ⟨A, o, none⟩) L.length c) ∧ w'.cell? ⟨X, 3, none⟩ = some (.int .i64 b) ∧ w'.cell? ⟨X, 5, none⟩ = some (.slice wao acc.length wc) ∧ w'.cell? ⟨T, 1, none⟩ = some (.int .i64 j) ∧ w'.cell? ⟨T, 2, none⟩ = some (.int .i64 ns) ∧ w'.cell? ⟨A, o + j * 3, none⟩ = some (.int .i64 mq)) (by kernel_rfl) ?sA (fun hH0 => ?rA)
      case sA => exact dwS ((D.below (Aaa _)).x.c 1 _ rfl) ((D.below (Aaa _)).x.c 3 _ rfl) ((D.below (Aaa _)).x.c 5 _ rfl) (tT.below (Aaa _)) ((D.below (Aaa _)).l.c _ _ HA1.out)
      have HTM := hQd t1
      have D0 := hQd (D.below (Aaa wr))
      have T0 := hQd (tT.below (Aaa wr))
      obtain ⟨wd, hwd⟩ := exq wr.drew
      rw [← hwd] at hH0 D0 T0 ⊢
      clear hwd D tT t0 t1 t2 u1 u2 u3 x1 x3 x5 f5 a1 a2 a3 hac hn0 hn1 hP hfu haf hmf hdk HK
      refine' Aem [0,1,2,3,4,5,6,7,8,9,10,11,12,15,16,17,18] (by kernel_rfl) (fun _ _ _ _ h => h) hH0 ?_
      iterate 17 ((try simp only [zz]); refine' tky (List.getElem?_toArray.trans rfl) (Or.inl ⟨by rfl, ?_⟩) ?_; rotate_left; · intro w hSw; (try dsimp only at hSw); go_simp; try with_reducible rfl)
      refine tk0 ?_
      try simp only [zz, Adk]
      refine Aad (rs := [13]) (by kernel_rfl) (by simp) ?_
      refine' Aab.cons (List.getElem?_toArray.trans rfl) (fun K hK => ?st18) ?more18
      case st18 =>
       go_simp
       refine' Calls.mono (Api b mq ns (D0.out.x.c 3 _ rfl)) ?c19
       rintro e w19 ⟨rfl, hb19⟩
       have D19 := hQd (D0.out.below hb19)
       have T19 := hQd (T0.out.below hb19)
       clear hb19 D0 T0
       try go_wp2_with fail
       refine hK.out _ _ ?s19 (fun hH19 => ?r19)
       case s19 => ((try dsimp only); exact dwS (D19.out.x.c 1 _ rfl) (D19.out.x.c 3 _ rfl) (D19.out.x.c 5 _ rfl) T19.out (D19.out.l.c _ _ HA1.out))
       clear hK K hH0
       try simp only [zz]
       refine Aad (rs := [14]) (by kernel_rfl) (by simp) ?_
       refine' Aab.cons (List.getElem?_toArray.trans rfl) (fun K hK => ?st20) ?more20
       case st20 =>
        go_simp
        refine hK.out _ _ ?s21 (fun hH21 => ?r21)
        case s21 => ((try dsimp only); exact dwS ((D19.out.below (bal _ _)).x.c 1 _ rfl) ((D19.out.below (bal _ _)).x.c 3 _ rfl) ((D19.out.below (bal _ _)).x.c 5 _ rfl) (T19.out.below (bal _ _)) ((D19.out.below (bal _ _)).l.c _ _ HA1.out))
        obtain ⟨ea21, ta21⟩ := Aau (S := fun _ => False) D19.out.e.hi #[.int .i64 b, .int .i64 mq, .int .i64 ns] 95 w19.heap.size rfl
        have hb21 : Below w19.heap.size w19 (w19.alloc (.cells #[.int .i64 b, .int .i64 mq, .int .i64 ns] 95)) := bal _ _
        have D21 := hQd (D19.out.below hb21)
        have T21 := hQd (T19.out.below hb21)
        have A21 := hQd ta21
        obtain ⟨v21, hv21⟩ := exq (w19.alloc (.cells #[.int .i64 b, .int .i64 mq, .int .i64 ns] 95))
        obtain ⟨N21, hn21⟩ := exq w19.heap.size
        rw [← hv21] at hH21 D21 T21 A21 ⊢
        rw [← hn21] at A21 ⊢
        clear hv21 hn21 ea21 ta21 hb21 D19 T19
        clear hK K hH19
        try simp only [zz]
        refine Aad (rs := [19]) (by kernel_rfl) (by simp) ?_
        refine' Aab.cons (List.getElem?_toArray.trans rfl) (fun K hK => ?st22) ?more22
        case st22 =>
         refine Ahc v21 (by rfl) _ _ 227 (by rfl) 95 i1 (.agg #[.int .i64 0, .int .i64 0, .int .i64 0]) 3 24 Tryz.underlying227 HJ.out.1 HJ.out.2.1 HJ.out.2.2.1 HJ.out.2.2.2 rfl (by decide) G (k + 2) (by omega) D21.out.e.hi N21 0 1 1 [.int .i64 b, .int .i64 mq, .int .i64 ns] (by rfl) (by rfl) (fun j u hu => by rw [Nat.zero_add]; exact A21.out.c j u hu) _ acc.length (acc.flatMap spl) (by rfl) D21.out.y.arr (Aes acc) HAC.out.1 (by have := HAC.out.1; omega) (by have := HAC.out.2; unfold maxLen; omega) (by have := HAC.out.2; omega) ?_
         intro b23 o23 c23 w23 G23 e23 s23
         have D23 := hQd ((D21.out.y2 hk e23 s23))
         have T23 := hQd (T21.out.ext e23)
         clear e23 s23 D21 T21 A21
         refine hK.out _ _ ?s23 (fun hH23 => ?r23)
         case s23 => ((try dsimp only); exact dwS (D23.out.x.c 1 _ rfl) (D23.out.x.c 3 _ rfl) (D23.out.x.c 5 _ rfl) T23.out (D23.out.l.c _ _ HA1.out))
         have z5 := D23.out.x.c 5 _ rfl
         have zf := D23.out.x.f 5
         clear hK K hH21
         try simp only [zz]
         refine Aad (rs := [20]) (by kernel_rfl) (by simp) ?_
         refine' Aab.cons (List.getElem?_toArray.trans rfl) (fun K hK => ?st24) ?more24
         case st24 =>
          go_simp
          refine hK.out _ _ ?s25 (fun hH25 => ?r25)
          case s25 => ((try dsimp only); exact dwS (D23.out.x.c 1 _ rfl) (D23.out.x.c 3 _ rfl) (D23.out.x.c 5 _ rfl) T23.out (D23.out.l.c _ _ HA1.out))
          clear hK K hH23
          refine' Aem [21] (by kernel_rfl) (fun _ _ _ _ h => h) hH25 ?_
          iterate 1 ((try simp only [zz]); refine' tky (List.getElem?_toArray.trans rfl) (Or.inl ⟨by rfl, ?_⟩) ?_; rotate_left; · intro w hSw; (try dsimp only at hSw); go_simp; try with_reducible rfl)
          refine tk0 ?_
          try simp only [zz, Adk]
          refine Aad (rs := [22]) (by kernel_rfl) (by simp) ?_
          refine' Aab.last (List.getElem?_toArray.trans rfl) (fun K hK => ?st27) ?more27
          case st27 =>
           go_simp
           refine hK.out _ _ ?_
           clear hK K
           try simp only [zz]
           refine Ad8 (by kernel_rfl) ?_ _
           have E7 := Aaf (j := 5) (v := .slice (some ⟨b23, o23, none⟩) (1 + acc.length) c23) D23.out.e.hi D23.out.x hk
           have X7 := D23.out.x.set 5 (.slice (some ⟨b23, o23, none⟩) (1 + acc.length) c23) (by simp [Aqm])
           have DD := hQd (D23.out.put (acc' := ⟨b, mq, ns⟩ :: acc) hk E7 X7 (by simp; omega) rfl)
           have TT := hQd (T23.out.ext E7)
           obtain ⟨w8, hw8⟩ := exq (w23.setCell ⟨X, 5, none⟩ (.slice (some ⟨b23, o23, none⟩) (1 + acc.length) c23))
           rw [← hw8] at DD TT ⊢
           clear hw8 E7 X7 z5 zf D23 T23
           obtain ⟨z0, z1, z2⟩ := TT.out.c3
           have g0 := TT.out.f 0
           have g1 := TT.out.f 1
           have g2 := TT.out.f 2
           have z3 := DD.out.x.c 1 _ rfl
           obtain ⟨a1, a2, a3⟩ := Aj3 L j _ hnj
           have u1 := DD.out.l.c _ _ a1
           have u2 := DD.out.l.c _ _ a2
           have u3 := DD.out.l.c _ _ a3
           rw [← Nat.add_assoc] at u2 u3
           clear a1 a2 a3 hH25
           go_wp2_with fail
           go_region
           obtain ⟨r0, t0⟩ := Aal TT.out (by omega) DD.out.e.hi 0 (.int .i64 mq) (by simp [Ahi])
           obtain ⟨r1, t1⟩ := Aal t0 (by omega) r0.hi 1 (.int .i64 mf) (by simp [Ahi])
           obtain ⟨r2, t2⟩ := Aal t1 (by omega) r1.hi 2 (.int .i64 ms) (by simp [Ahi])
           have bd := Aaa (((w8.setCell ⟨T, 0, none⟩ (.int .i64 mq)).setCell ⟨T, 1, none⟩ (.int .i64 mf)).setCell ⟨T, 2, none⟩ (.int .i64 ms))
           have D9 := (DD.out.ext ((r0.trans r1).trans r2) hk).below bd
           have T9 : Ob _ G23 (k + 3) T (Ahi ⟨mq, mf, ms⟩) := t2.below bd
           have hm1 : Bav T wr = j + 1 := by unfold Bav; rw [HTM.out]; simp [intOf] <;> omega
           have hm2 : Bav T (((w8.setCell ⟨T, 0, none⟩ (.int .i64 mq)).setCell ⟨T, 1, none⟩ (.int .i64 mf)).setCell ⟨T, 2, none⟩ (.int .i64 ms)).drew = (mf + 1).toNat := by
            unfold Bav; rw [T9.c 1 _ rfl]; simp [intOf]
           have H9 := hQd (aN D9 (aN T9 (aN hm1 hm2)))
           clear r0 t0 r1 t1 r2 t2 bd D9 T9 hm1 hm2 z0 z1 z2 g0 g1 g2 z3 u1 u2 u3
           generalize (((w8.setCell ⟨T, 0, none⟩ (.int .i64 mq)).setCell ⟨T, 1, none⟩ (.int .i64 mf)).setCell ⟨T, 2, none⟩ (.int .i64 ms)).drew = w9 at H9 ⊢
           go_wp2_with fail
           go_roundw
           case rel => exact ⟨⟨mq, mf, ms⟩, ⟨G23, _, _, g, H9.out.1, H9.out.2.1, HNN.out.2.2.1, by have := HNN.out; dsimp only; omega, by have := HNN.out; rw [List.length_cons]; omega, by simp⟩, by have := HNN.out; dsimp only; omega, by have := HNN.out; dsimp only; omega⟩
           case measure => rw [H9.out.2.2.1, H9.out.2.2.2]; have := HNN.out; omega
          exact Aab.nil
         exact Aab.nil
        exact Aab.nil
       exact Aab.nil
      exact Aab.nil
      --REST
    have hPe : P = acc := by rw [← hP]; exact Aje b L fu nf ns acc (by omega)
    subst hPe
    have d0 : decide (0 ≤ nf) = false := by simp; omega
    have x0 := D.x.c 0 _ rfl
    have f0 := D.x.f 0
    have DD := hQd D
    have HM : Hid (Aaw (s, ⟨1, L, i, b, mo, []⟩) = (Aan ta s, ⟨0, L, i, b, mo, P⟩)) := hQd (by
     unfold Aaw
     dsimp only
     rw [if_neg (by omega), HPL.out.2, HPL.out.1, ← HTT.out, ← HFR.out, if_pos HFF.out.1, ← HPP.out])
    clear D tT hP hfu haf hac hdk t0 t2 hf0 hn0 hn1 HK
    go_wp2_with fail
    refine bodyPost_ret (v := .tuple #[]) (results_none (by rfl) _ _ _) rfl ?_
    have E7 := Aaf (j := 0) (v := .int .i64 0) DD.out.e.hi DD.out.x hk
    have X7 := DD.out.x.set 0 (.int .i64 0) (by simp [Aqm])
    rw [HM.out]
    exact ⟨rfl, G, DD.out.e.trans (E7.mono fun t _ h => .inr (by omega)), DD.out.p.ext E7, _, _, X7, fun g => absurd g (by show ¬ (0 : Int) = 1; decide), DD.out.y.ext E7⟩
  have d1 : decide (0 ≤ fr) = false := by simp; omega
  have HFF := hQd hf
  have HMT := hQd (aN M4.out T4.out)
  clear hf x3 x5 f5 t0 M4 T4
  go_wp2_with fail
  go_loopw [7] (fun t wr => ∃ (j : Nat) (G : Om) (lv : Value), j ≤ 4 ∧ t = .int .i64 j ∧ Dz k X b mo i (Aco b mo i nq' tg j L) [] w O C f (Aan ta s) (m + 1) wr G lv wv ∧ Ob wr G (k + 3) T (Ahi ⟨nq', nf, ns⟩))
   (fun t _ => 4 - (intOf t).toNat)
  case atStart => exact ⟨0, _, _, by omega, rfl, HMT.out.1, HMT.out.2⟩
  obtain ⟨j, G7, lv7, hj, rfl, h7, tt7⟩ := hrel
  clear HMT
  have hgl := Ae0 b mo i nq' tg j L
  have hgr := HL.out.1.grow mo i nq' tg hi HNQ.out.1 (by have := HFF.out; rw [HFR.out] at this; omega) j hj
  obtain ⟨L7, hL7⟩ := exq (Aco b mo i nq' tg j L)
  rw [← hL7] at h7 hgl hgr
  have hl7 := hgr.len
  obtain ⟨ao7, c7, rfl, -⟩ := h7.l.shape
  have HG7 := hQd (aN hL7 (aN hgl hgr))
  have H7 := hQd (aN h7 tt7)
  obtain ⟨-, x1, x2, x3, x4⟩ := h7.x.c5
  have t0 := tt7.c 0 _ rfl
  clear h7 tt7 hL7 hgl hgr HF HTa
  by_cases hj4 : j < 4
  · have hj4' : (j : Int) < 4 := by omega
    have htg4 := Ae1 tg j
    have HTW := hQd (fun W => Adr tg j W HBD.out.1 HBD.out.2 (by omega) (by omega))
    have HOT := hQd (fun W => Ahp nq' (Aay tg j) b W (by have := HNQ.out; omega) (by have := HNQ.out; omega) (by omega) (by omega) (by omega) (by omega))
    have HST : Hid (Aco b mo i nq' tg (j + 1) L = Ai8 mo L7 ⟨Aa8 nq' (Aay tg j) b, i, j⟩) := hQd (by rw [Aco, ← HG7.out.1])
    obtain ⟨tt, htt⟩ := exq (Aay tg j)
    rw [← htt] at HTW HOT HST
    obtain ⟨q8, hq8⟩ := exq (Aa8 nq' tt b)
    rw [← hq8] at HOT HST
    clear htg4 htt hq8
    go_upto_region 13 with fail
    go_region_held3 (fun w' => w'.cell? ⟨X, 3, none⟩ = some (.int .i64 b) ∧ w'.cell? ⟨T, 0, none⟩ = some (.int .i64 nq')) (go_keep)
     ((first
       | (go_at_call 77
          refine (HTW.out _).mono ?_
          rintro e w' ⟨rfl, rfl⟩)
       | (go_at_call 105
          refine (HOT.out _).mono ?_
          rintro e w' ⟨rfl, rfl⟩)))
    all_goals
     have x1 := (H7.out.1.below (Aaa wr)).x.c 1 _ rfl
     go_upto_region 14 with fail
     obtain ⟨W8, hW8⟩ := exq wr.drew
     have H8 : Hid (Dz k X b mo i L7 [] w O C f (Aan ta s) (m + 1) W8 G7 (.slice ao7 L7.length c7) wv ∧ Ob W8 G7 (k + 3) T (Ahi ⟨nq', nf, ns⟩)) := hQd (by rw [hW8]; exact ⟨H7.out.1.below (Aaa wr), H7.out.2.below (Aaa wr)⟩)
     rw [← hW8]
     clear hW8 x1 x2 x3 x4 t0 H7 HTW HOT
     obtain ⟨-, x1, -, -, x4⟩ := H8.out.1.x.c5
     have HIS : Hid (∀ nq, Calls Tryz.prog 147 #[.pointer (some ⟨X, 0, none⟩), .int .i64 q8] (W8.drewN nq) fun e w' => e = .returned (.bool (Aha L7 q8)) ∧ W8.drewN nq = w') := hQd fun nq => by
      have hd := H8.out.1.below (W' := W8.drewN nq) ⟨rfl, rfl, rfl, Nat.le_refl _, fun _ _ => rfl⟩
      exact Ba8 q8 hd.x hd.l hl7
     by_cases hmo : (L7.length : Int) < mo
     · have dm : decide ((L7.length : Int) < mo) = true := by simp; omega
       have HADD : Hid (Aco b mo i nq' tg (j + 1) L = Ab7 L7 ⟨q8, i, j⟩) := hQd (by rw [HST.out, Ai8, if_pos hmo])
       obtain ⟨hs, hhs⟩ := exq (Aha L7 q8)
       rw [← hhs] at HIS
       have HHS := hQd hhs
       clear hmo hhs
       go_quiet ((go_at_call 147; exact Ack (HIS.out _)))
       obtain ⟨W9, hW9⟩ := exq (W8.drewN nq)
       have H9 : Hid (Dz k X b mo i L7 [] w O C f (Aan ta s) (m + 1) W9 G7 (.slice ao7 L7.length c7) wv ∧ Ob W9 G7 (k + 3) T (Ahi ⟨nq', nf, ns⟩)) := hQd (by
        have bd : Below W8.heap.size W8 W9 := by rw [hW9]; exact ⟨rfl, rfl, rfl, Nat.le_refl _, fun _ _ => rfl⟩
        exact ⟨H8.out.1.below bd, H8.out.2.below bd⟩)
       rw [← hW9]
       clear hW9 x1 x4 HIS H8
       cases hs with
       | true =>
         have HN : Hid (Ab7 L7 ⟨q8, i, j⟩ = L7) := hQd (by unfold Ab7; dsimp only; rw [← HHS.out, if_pos rfl])
         go_wp2_with fail
         go_roundw
         case rel => exact ⟨j + 1, G7, _, by omega, by go_num, by rw [HADD.out, HN.out]; exact H9.out.1, H9.out.2⟩
         case measure => simp [intOf]; omega
       | false =>
         have HN : Hid (Ab7 L7 ⟨q8, i, j⟩ = L7 ++ [⟨q8, i, j⟩]) := hQd (by unfold Ab7; dsimp only; rw [← HHS.out, if_neg (by decide)])
         obtain ⟨-, x1, x2⟩ := H9.out.1.x.c3
         have hXl : X < W9.heap.size := H9.out.1.x.lt
         have hXW : ¬ X = W9.heap.size := by omega
         have hXW2 : ¬ W9.heap.size = X := by omega
         have hba := bal W9 (.cells #[.int .i64 q8, .int .i64 i, .int .i64 j] 254)
         have ca1 := (hba.cell (p := ⟨X, 1, none⟩) hXl).trans x1
         have ca2 := (hba.cell (p := ⟨X, 2, none⟩) hXl).trans x2
         clear hba
         have HXd := hQd (aN (H9.out.1.below (Aaa W9)) (H9.out.2.below (Aaa W9)))
         go_upto_region 15 with fail
         go_region_law ((refine Acu W9.drew (by rfl) _ _ 226 (by rfl) 254 i0 (.agg #[.int .i64 0, .int .i64 0, .int .i64 0]) 3 24 Tryz.underlying226 HI.out.1 HI.out.2.1 HI.out.2.2.1 HI.out.2.2.2 rfl (by decide) G7 (k + 1) (by omega) HXd.out.1.e.hi (.slice ao7 L7.length c7) L7.length (L7.flatMap Ahi) (by rfl) HXd.out.1.l 1 (by decide) [.int .i64 q8, .int .i64 i, .int .i64 j] _ (by rfl) rfl (by simp [Value.oneCell']) (by unfold maxLen; omega) (by omega) ?_; intro b1 o1 c1 w1 G8 e1 s1; have y1 := (HXd.out.1.x.ext e1).c 1 _ rfl; have g1 := (HXd.out.1.x.ext e1).f 1; have H1 := hQd (aN e1 s1); clear e1 s1))
         all_goals
          clear x1 x2 hXl hXW hXW2 ca1 ca2 y1 g1
          have HA := hQd (HXd.out.1.app (L' := L7 ++ [⟨q8, i, j⟩]) hk H1.out.1 H1.out.2 (by simp) (by simp [Ahi]))
          have TA := hQd ((HXd.out.2.ext HA.out.2))
          obtain ⟨w2, hw2⟩ := exq (w1.setCell ⟨X, 1, none⟩ (.slice (some ⟨b1, o1, none⟩) (L7.length + 1) c1))
          rw [← hw2] at HA TA ⊢
          clear hw2 H1 HXd H9
          go_wp2_with fail
          go_roundw
          case rel => exact ⟨j + 1, G8, _, by omega, by go_num, by rw [HADD.out, HN.out]; exact HA.out.1, TA.out⟩
          case measure => simp [intOf]; omega
     have dm : decide ((L7.length : Int) < mo) = false := by simp; omega
     have HADD : Hid (Aco b mo i nq' tg (j + 1) L = L7) := hQd (by rw [HST.out, Ai8, if_neg hmo])
     clear hmo
     go_quiet (fail)
     have H9 : Hid (Dz k X b mo i L7 [] w O C f (Aan ta s) (m + 1) (W8.drewN nq) G7 (.slice ao7 L7.length c7) wv ∧ Ob (W8.drewN nq) G7 (k + 3) T (Ahi ⟨nq', nf, ns⟩)) := hQd (by
      have bd : Below W8.heap.size W8 (W8.drewN nq) := ⟨rfl, rfl, rfl, Nat.le_refl _, fun _ _ => rfl⟩
      exact ⟨H8.out.1.below bd, H8.out.2.below bd⟩)
     clear x1 x4 HIS H8
     go_wp2_with fail
     go_roundw
     case rel => exact ⟨j + 1, G7, _, by omega, by go_num, by rw [HADD.out]; exact H9.out.1, H9.out.2⟩
     case measure => simp [intOf]; omega
  obtain rfl : j = 4 := by omega
  have f2 := H7.out.1.x.f 2
  have hjf : decide (((4 : Nat) : Int) < 4) = false := by decide
  have hwi : IntKind.i64.wrap ((i : Int) + 1) = (i : Int) + 1 := by simp [IntKind.wrap, IntKind.bits, IntKind.signed]; omega
  have hg0 := HG7.out.1
  obtain ⟨e1, y1⟩ := Aal H7.out.1.x hk H7.out.1.e.hi 2 (.int .i64 ((i : Int) + 1)) (by simp [Aqm])
  have e1' := e1.mono (T := SD k (k + 3)) fun t _ h => .inr (by omega)
  have HB : Hid (Ext (SD k (k + 3)) O w G7 (wr.setCell ⟨X, 2, none⟩ (.int .i64 ((i : Int) + 1))) ∧ RW (wr.setCell ⟨X, 2, none⟩ (.int .i64 ((i : Int) + 1))) G7 C f (Aan ta s) (m + 1) ∧ Ob (wr.setCell ⟨X, 2, none⟩ (.int .i64 ((i : Int) + 1))) G7 k X (Aqm 1 (.slice ao7 L7.length c7) ((i : Int) + 1) b mo wv) ∧ Sls (wr.setCell ⟨X, 2, none⟩ (.int .i64 ((i : Int) + 1))) G7 (k + 1) 3 (.slice ao7 L7.length c7) L7.length (L7.flatMap Ahi) ∧ Sls (wr.setCell ⟨X, 2, none⟩ (.int .i64 ((i : Int) + 1))) G7 (k + 2) 3 wv 0 []) := hQd
   ⟨H7.out.1.e.trans e1', H7.out.1.p.ext e1, y1, H7.out.1.l.ext e1, H7.out.1.y.ext e1⟩
  have HST2 : Hid (Aaw (s, ⟨1, L, i, b, mo, []⟩) = (Aan ta s, ⟨if i + 1 = L7.length then 0 else 1, L7, i + 1, b, mo, []⟩)) := hQd (by
   unfold Aaw
   dsimp only
   rw [if_neg (by omega), HPL.out.2, HPL.out.1, ← HTT.out, ← HFR.out, if_neg (by have := HFF.out; omega), ← HG7.out.1])
  have hov : ((i : Int) + 1 == (L7.length : Int)) = decide (i + 1 = L7.length) := by rw [Bool.eq_iff_iff]; simp; omega
  have HOVV := hQd hov
  clear hov
  obtain ⟨w2, hw2⟩ := exq (wr.setCell ⟨X, 2, none⟩ (.int .i64 ((i : Int) + 1)))
  rw [← hw2] at HB
  clear e1 y1 e1' hg0 x3 x4 t0 H7
  go_upto_region 17 with fail
  rw [← hw2]
  clear hw2 x1 x2 f2
  obtain ⟨-, x1, x2⟩ := HB.out.2.2.1.c3
  go_quiet (fail)
  have bd : Below w2.heap.size w2 (w2.drewN nq) := ⟨rfl, rfl, rfl, Nat.le_refl _, fun _ _ => rfl⟩
  have HB2 := hQd (aN (HB.out.1.below bd) (aN (HB.out.2.1.below HB.out.1.hi bd) (aN (HB.out.2.2.1.below bd) (aN (HB.out.2.2.2.1.below bd) (HB.out.2.2.2.2.below bd)))))
  obtain ⟨w3, hw3⟩ := exq (w2.drewN nq)
  rw [← hw3] at HB2 ⊢
  clear bd hw3 x1 x2 HB hwi
  obtain ⟨ov, hov3⟩ : ∃ x : Bool, x = ((i : Int) + 1 == (L7.length : Int)) := ⟨_, rfl⟩
  rw [← hov3]
  have hov := HOVV.out
  rw [← hov3] at hov
  clear hov3
  have HOV := hQd hov
  clear hov
  cases ov with
  | true =>
    have hil7 : i + 1 = L7.length := by have := HOV.out; simpa using this.symm
    have HST3 := hQd (HST2.out.trans (by rw [if_pos hil7]))
    have x0 := HB2.out.2.2.1.c 0 _ rfl
    have f0 := HB2.out.2.2.1.f 0
    clear hil7 HST2
    go_wp2_with fail
    go_end0
    obtain ⟨e4, y4⟩ := Aal HB2.out.2.2.1 hk HB2.out.1.hi 0 (.int .i64 0) (by simp [Aqm])
    rw [HST3.out]
    exact ⟨rfl, G7, HB2.out.1.trans (e4.mono fun t _ h => .inr (by omega)), HB2.out.2.1.ext e4, _, _, y4, fun g => absurd g (by show ¬ (0 : Int) = 1; decide), HB2.out.2.2.2.2.ext e4⟩
  | false =>
    have hil7 : ¬ i + 1 = L7.length := by have := HOV.out; simpa using this.symm
    have HST3 := hQd (HST2.out.trans (by rw [if_neg hil7]))
    clear hil7 HST2
    go_wp2_with fail
    go_end0
    rw [HST3.out]
    exact ⟨rfl, G7, HB2.out.1, HB2.out.2.1, _, _, HB2.out.2.2.1, fun _ => HB2.out.2.2.2.1, HB2.out.2.2.2.2⟩
end
end
section
open Go.RowKit Go.Shelf
section
variable {X : Nat} {w : World} {O : Om} {C : Wb} {f : Cf} {s : AW} {m k : Nat}
theorem Af7 {z z2 : Hom} {wv : Value} {b0 b1 u p : Nat} (hx : Ob w O k X (Ahn z.ln z.k wv z.tag (.pointer (some ⟨b0, 0, none⟩)) (.pointer (some ⟨b1, 0, none⟩)) (.pointer (some ⟨u, 0, none⟩)) (.pointer (some ⟨p, 0, none⟩)))) (hw : Sls w O (k + 1) 3 wv z.way.length (z.way.flatMap spl)) (h1 : Ajd w O (k + 2) b0 z.m1) (h2 : Ajd w O (k + 4) b1 z.m2) (h3 : Ajc w O (k + 6) u z.s z.o) (h4 : Ai5 w O (k + 7) p z.t z.tag z.ref z.u)
 (hl0 : 3 ≤ z.ln) (hl6 : z.ln ≤ 6) (hk0 : 0 ≤ z.k) (hk1 : z.k ≤ 8192) (ho : z.ln = 3 → z.o.ln ≠ 3) (hm2 : z.ln ≠ 6 → z.m2 ≠ [])
 (he : Aen z.ln z.k (if z.m1 = [] then 0 else 1) (if z.o.ln = 3 then 0 else (z.o.ln : Int) + 1) (if z.u.ln = 3 then 0 else (z.u.ln : Int) + 1) (if z.m2 = [] then 0 else 1) = (z2.ln, z2.k)) (hs : z2 = ⟨z2.ln, z2.k, z.way, z.tag, z.ref, z.m1, z.o, z.u, z.m2⟩) (h3k : 3 ≤ z2.ln → z2.k = z.k) (hk : 10 ≤ k) (hhi : Hh O w) :
 C1 150 X w (RP (fun t => t = k) w O (.tuple #[]) fun W G => Ahu W G k X z2) := by
 obtain ⟨A0, o0, c0, f0, q0, -⟩ := h1.ex
 obtain ⟨A1, o1, c1, f1, q1, -⟩ := h2.ex
 refine (Ba9 _ _ _ _ _ _ hx h1.cell h2.cell (h3.ob.c 0 _ rfl) (h4.ob.c 0 _ rfl) (q0.ne hx (by omega)) (q1.ne hx (by omega)) (h3.ob.ne hx (by omega)) (h4.ob.ne hx (by omega)) hl0 hl6 hk0 hk1 (fun g => ?_) (fun g => ?_) hk hhi).mono ?_
 · rw [if_neg (ho g)]; omega
 · rw [if_neg (hm2 g)]; decide
 rintro e w' ⟨rfl, G, e1, rfl, x1⟩
 rw [he] at x1
 refine ⟨rfl, _, e1, wv, _, _, _, _, ?_, fun _ => ?_, fun g => ⟨b0, b1, u, p, rfl, rfl, rfl, rfl, ?_⟩⟩
 · rw [hs] at x1 ⊢; exact x1
 · rw [hs]; exact hw.ext e1
 replace h3k := h3k g
 obtain ⟨ln2, k2, way2, tag2, ref2, l12, o2, u2, l22⟩ := z2
 injection hs with a1 a2 a3 a4 a5 a6 a7 a8 a9
 dsimp only at h3k a1 a2 a3 a4 a5 a6 a7 a8 a9
 subst a3 a4 a5 a6 a7 a8 a9
 have h3k : k2 = z.k := h3k
 subst h3k
 exact ⟨h1.ext e1, h2.ext e1, h3.ext e1, h4.ext e1⟩
theorem Atk {z : Hom} (hz : Ahh z) (h : RW w O C f s m) (hM : Ahu w O k X z) (hl : z.ln = 3) (hk : 10 ≤ k) (hm : m ≤ 900000) (hhi : Hh O w) (n0 : 0 ≤ s.n) (n1 : s.n ≤ 4611686018427387904) :
 C2 118 X C.p w (RP (SD k (k + 7)) w O (.tuple #[]) fun W G => RW W G C f (Aas (s, z)).1 (m + 1) ∧ Ahu W G k X (Aas (s, z)).2) := by
 have hz2 := hz.step (s := s) h.bd
 have hkk := hz.k (by omega)
 have hlen := hz.len
 have hsk := hz.sok (by omega)
 have htk := hz.tok (by omega)
 have hm2 := hz.m2 (by omega)
 have hm1 := hz.m1 hl
 have ho := hz.o (by omega) (by omega)
 obtain ⟨a, l, hal, ha0, ha1⟩ := hm1.head
 obtain ⟨y, hy⟩ := exq (Aas (s, z))
 have hy2 := hy.trans (Akt s z hl)
 rw [← hy] at hz2 ⊢
 obtain ⟨wv, q0, q1, qo, qp, hx, hw, hparts⟩ := hM.ex
 have hw := hw (by omega)
 obtain ⟨b0, b1, u, p, rfl, rfl, rfl, rfl, h1, h2, h3, h4⟩ := hparts (by omega)
 obtain ⟨i, hi⟩ : ∃ i : Nat, z.k = i := ⟨z.k.toNat, by omega⟩
 have hil : i < z.way.length := by omega
 obtain ⟨sp, hsp⟩ := exq (z.way[i])
 have hspi : z.way[i]? = some sp := by rw [hsp]; exact List.getElem?_eq_getElem hil
 obtain ⟨A, o, c, hwe, -⟩ := hw.open (by omega)
 subst hwe
 obtain ⟨v1, v2, v3⟩ := Abu z.way i sp hspi
 have u1 := hw.c _ _ v1
 have u2 := hw.c _ _ v2
 have u3 := hw.c _ _ v3
 rw [← Nat.add_assoc] at u2 u3
 obtain ⟨sb, hsb⟩ := exq sp.b
 obtain ⟨sq, hsq⟩ := exq sp.q
 obtain ⟨ss, hss⟩ := exq sp.s
 rw [← hsb] at u1
 rw [← hsq] at u2
 rw [← hss] at u3
 have hXl : X < w.heap.size := hx.lt
 have hAl : A < w.heap.size := hw.lt.1
 obtain ⟨x0, x1, x2, -, x4⟩ := hx.c5
 rw [hl] at x0
 rw [hi] at x1
 obtain ⟨N, hN⟩ := exq z.way.length
 rw [← hN] at x2
 have hiN : (i : Int) < (N : Int) := by omega
 have hb1 := bal w (.cells #[.int .i64 sb, .int .i64 sq, .int .i64 ss] 95)
 have hb2 := Aaa (w.alloc (.cells #[.int .i64 sb, .int .i64 sq, .int .i64 ss] 95))
 have hb := hb1.trans (hb2.mono (by simp <;> omega))
 have HB : Hid (Ext (SD k (k + 7)) O w O (w.alloc (.cells #[.int .i64 sb, .int .i64 sq, .int .i64 ss] 95)).drew ∧ RW (w.alloc (.cells #[.int .i64 sb, .int .i64 sq, .int .i64 ss] 95)).drew O C f s m ∧ _ ∧ _ ∧ _ ∧ _ ∧ _ ∧ _) := hQd ⟨Ext.of_below hhi hb, h.below hhi hb, hx.below hb, hw.below hb, h1.below hb, h2.below hb, h3.below hb, h4.below hb⟩
 obtain ⟨W, hW⟩ := exq ((w.alloc (.cells #[.int .i64 sb, .int .i64 sq, .int .i64 ss] 95)).drew)
 rw [← hW] at HB
 have HZ := hQd (aN hz (aN hz2 (aN hkk (aN hlen (aN hsk (aN htk (aN hm2 (aN hl (aN hi hy2)))))))))
 have HM := hQd (aN hal (aN ha0 ha1))
 have HO3 := hQd ho.1
 clear hm1 ho hal ha0 ha1
 clear hz hz2 hkk hlen hsk htk hm2 h hM hx hw hparts h1 h2 h3 h4 hil hsp hspi v1 v2 v3 hsb hsq hss hb1 hb2 hb hhi hy hy2 hl hi hN
 go_enter Tryz.func118, Tryz.ntmps118
 go_wp2_with fail
 go_region
 rw [← hW]
 clear hW x0 x1 x2 u1 u2 u3 hXl hAl hiN x4
 have x0 := HB.out.2.2.1.c 0 _ rfl
 rw [HZ.out.2.2.2.2.2.2.2.1] at x0
 have x4 := HB.out.2.2.1.c 4 _ rfl
 go_wp2_with fail
 refine (Ad2 a l HB.out.2.1 (k := k + 2) (by have := HB.out.2.2.2.2.1; rw [HM.out.1] at this; exact this) (by omega) hm HB.out.1.hi HM.out.2.1 HM.out.2.2 n0 n1).mono ?_
 rintro e w2 ⟨rfl, G2, e2, P2, r2⟩
 have X2 := HB.out.2.2.1.ext e2 (by unfold SD SR; omega)
 have W2 := HB.out.2.2.2.1.ext e2 (by unfold SD SR; omega)
 have R2 := HB.out.2.2.2.2.2.1.ext e2 (by unfold SD SR; omega) (by unfold SD SR; omega)
 have R3 := HB.out.2.2.2.2.2.2.1.ext e2 (by unfold SD SR; omega)
 have R4 := HB.out.2.2.2.2.2.2.2.ext e2 (by unfold SD SR; omega)
 have hy2 := HZ.out.2.2.2.2.2.2.2.2.2
 have hmm := HM.out.1
 have ho3 := HO3.out
 rw [hmm] at hy2
 simp only [List.headD_cons, List.tail_cons] at hy2
 have hln := HZ.out.2.2.2.2.2.2.2.1
 have hq2 : y.2 = ⟨if l = [] then 4 else 3, z.k, z.way, z.tag, z.ref, l, z.o, z.u, z.m2⟩ := congrArg Prod.snd hy2
 have HT : Hid ((z.ln = 3 → z.o.ln ≠ 3) ∧ (z.ln ≠ 6 → z.m2 ≠ []) ∧ Aen z.ln z.k (if l = [] then 0 else 1) (if z.o.ln = 3 then 0 else (z.o.ln : Int) + 1) (if z.u.ln = 3 then 0 else (z.u.ln : Int) + 1) (if z.m2 = [] then 0 else 1) = (y.2.ln, y.2.k) ∧ y.2 = ⟨y.2.ln, y.2.k, z.way, z.tag, z.ref, l, z.o, z.u, z.m2⟩ ∧ (3 ≤ y.2.ln → y.2.k = z.k)) := hQd (by
  refine ⟨fun _ => by omega, fun _ => HZ.out.2.2.2.2.2.2.1.1, ?_, by rw [hq2], fun _ => by rw [hq2]⟩
  rw [hq2, hln]
  unfold Aen
  dsimp only
  by_cases c : l = []
  · simp [c]
  simp [c])
 have hl0 : 3 ≤ z.ln := by omega
 have hl6 : z.ln ≤ 6 := by omega
 have TL := hQd (Af7 (z := ⟨z.ln, z.k, z.way, z.tag, z.ref, l, z.o, z.u, z.m2⟩) (z2 := y.2) X2 W2 r2 R2 R3 R4 (by omega) (by omega) (by have := HZ.out; dsimp only; omega) (by have := HZ.out; dsimp only; omega) HT.out.1 HT.out.2.1 HT.out.2.2.1 HT.out.2.2.2.1 HT.out.2.2.2.2 hk e2.hi)
 have H2 := hQd (aN (HB.out.1.trans (e2.mono (T := SD k (k + 7)) fun t _ h => SD.mono (by omega) (by omega) h)) P2)
 clear e2 P2 r2 X2 W2 x0 x4 HT
 go_wp2_with fail
 refine TL.out.mono ?_
 rintro e w3 ⟨rfl, G3, e3, d3⟩
 have H3 := hQd (aN (H2.out.1.trans (e3.mono (T := SD k (k + 7)) fun t _ h => .inr (by omega))) (aN (H2.out.2.ext e3) d3))
 clear e3 d3 TL H2
 go_wp2_with fail
 go_end0
 obtain ⟨y1, y2⟩ := y
 have hy2 := HZ.out.2.2.2.2.2.2.2.2.2
 refine ⟨rfl, G3, H3.out.1, ?_, H3.out.2.2⟩
 have := H3.out.2.1
 have hq : y1 = _ := congrArg Prod.fst hy2
 rw [HM.out.1] at hq
 show RW w3 G3 C f y1 (m + 1)
 rw [hq]
 exact this
theorem Atj {z : Hom} (hz : Ahh z) (h : RW w O C f s m) (hM : Ahu w O k X z) (hl : z.ln = 4) (hk : 10 ≤ k) (hm : m ≤ 900000) (hhi : Hh O w) (n0 : 0 ≤ s.n) (n1 : s.n ≤ 4611686018427387904) :
 C2 118 X C.p w (RP (SD k (k + 7)) w O (.tuple #[]) fun W G => RW W G C f (Aas (s, z)).1 (m + 1) ∧ Ahu W G k X (Aas (s, z)).2) := by
 have hz2 := hz.step (s := s) h.bd
 have hkk := hz.k (by omega)
 have hlen := hz.len
 have hsk := hz.sok (by omega)
 have htk := hz.tok (by omega)
 have hm2 := hz.m2 (by omega)
 have ho := hz.o (by omega) (by omega)
 have hu0 := hz.u0 (by omega) (by omega)
 have huln : z.u.ln ≤ 3 := by rw [hu0]; exact Aux _ _
 obtain ⟨y, hy⟩ := exq (Aas (s, z))
 have hy2 := hy.trans (Aks s z hl)
 rw [← hy] at hz2 ⊢
 obtain ⟨wv, q0, q1, qo, qp, hx, hw, hparts⟩ := hM.ex
 have hw := hw (by omega)
 obtain ⟨b0, b1, u, p, rfl, rfl, rfl, rfl, h1, h2, h3, h4⟩ := hparts (by omega)
 obtain ⟨i, hi⟩ : ∃ i : Nat, z.k = i := ⟨z.k.toNat, by omega⟩
 have hil : i < z.way.length := by omega
 obtain ⟨sp, hsp⟩ := exq (z.way[i])
 have hspi : z.way[i]? = some sp := by rw [hsp]; exact List.getElem?_eq_getElem hil
 obtain ⟨A, o, c, hwe, -⟩ := hw.open (by omega)
 subst hwe
 obtain ⟨v1, v2, v3⟩ := Abu z.way i sp hspi
 have u1 := hw.c _ _ v1
 have u2 := hw.c _ _ v2
 have u3 := hw.c _ _ v3
 rw [← Nat.add_assoc] at u2 u3
 obtain ⟨sb, hsb⟩ := exq sp.b
 obtain ⟨sq, hsq⟩ := exq sp.q
 obtain ⟨ss, hss⟩ := exq sp.s
 rw [← hsb] at u1
 rw [← hsq] at u2
 rw [← hss] at u3
 have hXl : X < w.heap.size := hx.lt
 have hAl : A < w.heap.size := hw.lt.1
 obtain ⟨x0, x1, x2, -, -, -, x6⟩ := hx.c7
 rw [hl] at x0
 rw [hi] at x1
 obtain ⟨N, hN⟩ := exq z.way.length
 rw [← hN] at x2
 have hiN : (i : Int) < (N : Int) := by omega
 have hb1 := bal w (.cells #[.int .i64 sb, .int .i64 sq, .int .i64 ss] 95)
 have hb2 := Aaa (w.alloc (.cells #[.int .i64 sb, .int .i64 sq, .int .i64 ss] 95))
 have hb := hb1.trans (hb2.mono (by simp <;> omega))
 have HB : Hid (Ext (SD k (k + 7)) O w O (w.alloc (.cells #[.int .i64 sb, .int .i64 sq, .int .i64 ss] 95)).drew ∧ RW (w.alloc (.cells #[.int .i64 sb, .int .i64 sq, .int .i64 ss] 95)).drew O C f s m ∧ _ ∧ _ ∧ _ ∧ _ ∧ _ ∧ _) := hQd ⟨Ext.of_below hhi hb, h.below hhi hb, hx.below hb, hw.below hb, h1.below hb, h2.below hb, h3.below hb, h4.below hb⟩
 obtain ⟨W, hW⟩ := exq ((w.alloc (.cells #[.int .i64 sb, .int .i64 sq, .int .i64 ss] 95)).drew)
 rw [← hW] at HB
 have HZ := hQd (aN hz (aN hz2 (aN hkk (aN hlen (aN hsk (aN htk (aN hm2 (aN hl (aN hi hy2)))))))))
 have HM := hQd ho
 have HU := hQd huln
 clear ho hu0 huln
 clear hz hz2 hkk hlen hsk htk hm2 h hM hx hw hparts h1 h2 h3 h4 hil hsp hspi v1 v2 v3 hsb hsq hss hb1 hb2 hb hhi hy hy2 hl hi hN
 go_enter Tryz.func118, Tryz.ntmps118
 go_wp2_with fail
 go_region
 rw [← hW]
 clear hW x0 x1 x2 u1 u2 u3 hXl hAl hiN x6
 have x0 := HB.out.2.2.1.c 0 _ rfl
 rw [HZ.out.2.2.2.2.2.2.2.1] at x0
 have x6 := HB.out.2.2.1.c 6 _ rfl
 go_wp2_with fail
 refine (Agq z.o HB.out.2.1 HB.out.2.2.2.2.2.2.1 HZ.out.2.2.2.2.1 HM.out.1 HM.out.2.1 HM.out.2.2 (by omega) hm HB.out.1.hi n0 n1).mono ?_
 rintro e w2 ⟨rfl, G2, e2, P2, r2⟩
 have X2 := HB.out.2.2.1.ext e2 (by unfold SD SR; omega)
 have W2 := HB.out.2.2.2.1.ext e2 (by unfold SD SR; omega)
 have R1 := HB.out.2.2.2.2.1.ext e2 (by unfold SD SR; omega) (by unfold SD SR; omega)
 have R2 := HB.out.2.2.2.2.2.1.ext e2 (by unfold SD SR; omega) (by unfold SD SR; omega)
 have R4 := HB.out.2.2.2.2.2.2.2.ext e2 (by unfold SD SR; omega)
 have hy2 := HZ.out.2.2.2.2.2.2.2.2.2
 have hln := HZ.out.2.2.2.2.2.2.2.1
 have hq2 : y.2 = ⟨if Aa7 (Aaj z.s s z.o).2 = true then (if Aa7 z.u = true then 6 else 5) else 4, z.k, z.way, z.tag, z.ref, z.m1, (Aaj z.s s z.o).2, z.u, z.m2⟩ := congrArg Prod.snd hy2
 have hol := Ab5 z.s s z.o HM.out.1
 have hov := Abt (o := (Aaj z.s s z.o).2) (by have := HM.out.1; omega)
 have hul := HU.out
 have hovu := Abt (o := z.u) hul
 have hoLn : (Aaj z.s s z.o).2.ln ≤ 3 := by have := HM.out.1; omega
 obtain ⟨o2, ho2⟩ := exq ((Aaj z.s s z.o).2)
 rw [← ho2] at hq2 hol hov r2 hoLn
 have HT : Hid ((z.ln = 3 → o2.ln ≠ 3) ∧ (z.ln ≠ 6 → z.m2 ≠ []) ∧ Aen z.ln z.k (if z.m1 = [] then 0 else 1) (if o2.ln = 3 then 0 else (o2.ln : Int) + 1) (if z.u.ln = 3 then 0 else (z.u.ln : Int) + 1) (if z.m2 = [] then 0 else 1) = (y.2.ln, y.2.k) ∧ y.2 = ⟨y.2.ln, y.2.k, z.way, z.tag, z.ref, z.m1, o2, z.u, z.m2⟩ ∧ (3 ≤ y.2.ln → y.2.k = z.k)) := hQd (by
  refine ⟨fun g => by omega, fun _ => HZ.out.2.2.2.2.2.2.1.1, ?_, by rw [hq2], fun _ => by rw [hq2]⟩
  rw [hq2, hln, hov, hovu]
  have q1 : ¬ ((o2.ln : Int) + 1 = 0) := by omega
  have q2 : ¬ ((z.u.ln : Int) + 1 = 0) := by omega
  by_cases c : o2.ln = 3
  · by_cases d : z.u.ln = 3
    · simp [Aen, c, d]
    simp [Aen, c, d, q2]
  simp [Aen, c, q1])
 have hl0 : 3 ≤ z.ln := by omega
 have hl6 : z.ln ≤ 6 := by omega
 have TL := hQd (Af7 (z := ⟨z.ln, z.k, z.way, z.tag, z.ref, z.m1, o2, z.u, z.m2⟩) (z2 := y.2) X2 W2 R1 R2 r2 R4 (by omega) (by omega) (by have := HZ.out; dsimp only; omega) (by have := HZ.out; dsimp only; omega) HT.out.1 HT.out.2.1 HT.out.2.2.1 HT.out.2.2.2.1 HT.out.2.2.2.2 hk e2.hi)
 have H2 := hQd (aN (HB.out.1.trans (e2.mono (T := SD k (k + 7)) fun t _ h => SD.mono (by omega) (by omega) h)) P2)
 clear e2 P2 r2 X2 W2 x0 x6 HT
 go_wp2_with fail
 refine TL.out.mono ?_
 rintro e w3 ⟨rfl, G3, e3, d3⟩
 have H3 := hQd (aN (H2.out.1.trans (e3.mono (T := SD k (k + 7)) fun t _ h => .inr (by omega))) (aN (H2.out.2.ext e3) d3))
 clear e3 d3 TL H2
 go_wp2_with fail
 go_end0
 obtain ⟨y1, y2⟩ := y
 have hy2 := HZ.out.2.2.2.2.2.2.2.2.2
 refine ⟨rfl, G3, H3.out.1, ?_, H3.out.2.2⟩
 have := H3.out.2.1
 have hq : y1 = _ := congrArg Prod.fst hy2
 skip
 show RW w3 G3 C f y1 (m + 1)
 rw [hq]
 exact this
theorem Ati {z : Hom} (hz : Ahh z) (h : RW w O C f s m) (hM : Ahu w O k X z) (hl : z.ln = 5) (hk : 10 ≤ k) (hm : m ≤ 900000) (hhi : Hh O w) (n0 : 0 ≤ s.n) (n1 : s.n ≤ 4611686018427387904) :
 C2 118 X C.p w (RP (SD k (k + 7)) w O (.tuple #[]) fun W G => RW W G C f (Aas (s, z)).1 (m + 1) ∧ Ahu W G k X (Aas (s, z)).2) := by
 have hz2 := hz.step (s := s) h.bd
 have hkk := hz.k (by omega)
 have hlen := hz.len
 have hsk := hz.sok (by omega)
 have htk := hz.tok (by omega)
 have hm2 := hz.m2 (by omega)
 have hu := hz.u hl
 have ht0 := hz.t0
 have hrf := hz.rf
 obtain ⟨y, hy⟩ := exq (Aas (s, z))
 have hy2 := hy.trans (Akr s z hl)
 rw [← hy] at hz2 ⊢
 obtain ⟨wv, q0, q1, qo, qp, hx, hw, hparts⟩ := hM.ex
 have hw := hw (by omega)
 obtain ⟨b0, b1, u, p, rfl, rfl, rfl, rfl, h1, h2, h3, h4⟩ := hparts (by omega)
 obtain ⟨i, hi⟩ : ∃ i : Nat, z.k = i := ⟨z.k.toNat, by omega⟩
 have hil : i < z.way.length := by omega
 obtain ⟨sp, hsp⟩ := exq (z.way[i])
 have hspi : z.way[i]? = some sp := by rw [hsp]; exact List.getElem?_eq_getElem hil
 obtain ⟨A, o, c, hwe, -⟩ := hw.open (by omega)
 subst hwe
 obtain ⟨v1, v2, v3⟩ := Abu z.way i sp hspi
 have u1 := hw.c _ _ v1
 have u2 := hw.c _ _ v2
 have u3 := hw.c _ _ v3
 rw [← Nat.add_assoc] at u2 u3
 obtain ⟨sb, hsb⟩ := exq sp.b
 obtain ⟨sq, hsq⟩ := exq sp.q
 obtain ⟨ss, hss⟩ := exq sp.s
 rw [← hsb] at u1
 rw [← hsq] at u2
 rw [← hss] at u3
 have hXl : X < w.heap.size := hx.lt
 have hAl : A < w.heap.size := hw.lt.1
 obtain ⟨x0, x1, x2, -, -, -, -, x7⟩ := hx.c8
 rw [hl] at x0
 rw [hi] at x1
 obtain ⟨N, hN⟩ := exq z.way.length
 rw [← hN] at x2
 have hiN : (i : Int) < (N : Int) := by omega
 have hb1 := bal w (.cells #[.int .i64 sb, .int .i64 sq, .int .i64 ss] 95)
 have hb2 := Aaa (w.alloc (.cells #[.int .i64 sb, .int .i64 sq, .int .i64 ss] 95))
 have hb := hb1.trans (hb2.mono (by simp <;> omega))
 have HB : Hid (Ext (SD k (k + 7)) O w O (w.alloc (.cells #[.int .i64 sb, .int .i64 sq, .int .i64 ss] 95)).drew ∧ RW (w.alloc (.cells #[.int .i64 sb, .int .i64 sq, .int .i64 ss] 95)).drew O C f s m ∧ _ ∧ _ ∧ _ ∧ _ ∧ _ ∧ _) := hQd ⟨Ext.of_below hhi hb, h.below hhi hb, hx.below hb, hw.below hb, h1.below hb, h2.below hb, h3.below hb, h4.below hb⟩
 obtain ⟨W, hW⟩ := exq ((w.alloc (.cells #[.int .i64 sb, .int .i64 sq, .int .i64 ss] 95)).drew)
 rw [← hW] at HB
 have HZ := hQd (aN hz (aN hz2 (aN hkk (aN hlen (aN hsk (aN htk (aN hm2 (aN hl (aN hi hy2)))))))))
 have HM := hQd (show z.u.ln < 3 ∧ 0 ≤ z.u.w ∧ z.u.w < 18446744073709551616 from ⟨hu.1, hu.2.1, hu.2.2.1⟩)
 have HU := hQd (show 1 ≤ z.tag ∧ z.tag ≤ 255 ∧ 1 ≤ z.ref ∧ z.ref ≤ 9223372036854775807 from ⟨hu.2.2.2.1, ht0.2, hu.2.2.2.2, hrf.2⟩)
 clear hu ht0 hrf
 clear hz hz2 hkk hlen hsk htk hm2 h hM hx hw hparts h1 h2 h3 h4 hil hsp hspi v1 v2 v3 hsb hsq hss hb1 hb2 hb hhi hy hy2 hl hi hN
 go_enter Tryz.func118, Tryz.ntmps118
 go_wp2_with fail
 go_region
 rw [← hW]
 clear hW x0 x1 x2 u1 u2 u3 hXl hAl hiN x7
 have x0 := HB.out.2.2.1.c 0 _ rfl
 rw [HZ.out.2.2.2.2.2.2.2.1] at x0
 have x7 := HB.out.2.2.1.c 7 _ rfl
 go_wp2_with fail
 refine (Ajx z.u HB.out.2.1 HB.out.2.2.2.2.2.2.2 HZ.out.2.2.2.2.2.1 HU.out HM.out.1 HM.out.2.1 HM.out.2.2 (by omega) hm HB.out.1.hi n0 n1).mono ?_
 rintro e w2 ⟨rfl, G2, e2, P2, r2⟩
 have X2 := HB.out.2.2.1.ext e2 (by unfold SD SR; omega)
 have W2 := HB.out.2.2.2.1.ext e2 (by unfold SD SR; omega)
 have R1 := HB.out.2.2.2.2.1.ext e2 (by unfold SD SR; omega) (by unfold SD SR; omega)
 have R2 := HB.out.2.2.2.2.2.1.ext e2 (by unfold SD SR; omega) (by unfold SD SR; omega)
 have R3 := HB.out.2.2.2.2.2.2.1.ext e2 (by unfold SD SR; omega)
 have hy2 := HZ.out.2.2.2.2.2.2.2.2.2
 have hln := HZ.out.2.2.2.2.2.2.2.1
 have hq2 : y.2 = ⟨if Aa7 (Aap z.t z.tag z.ref s z.u).2 = true then 6 else 5, z.k, z.way, z.tag, z.ref, z.m1, z.o, (Aap z.t z.tag z.ref s z.u).2, z.m2⟩ := congrArg Prod.snd hy2
 have hol := Acw z.t z.tag z.ref s z.u HM.out.1
 have hov := Abt (o := (Aap z.t z.tag z.ref s z.u).2) (by have := HM.out.1; omega)
 obtain ⟨o2, ho2⟩ := exq ((Aap z.t z.tag z.ref s z.u).2)
 rw [← ho2] at hq2 hol hov r2
 have HT : Hid ((z.ln = 3 → z.o.ln ≠ 3) ∧ (z.ln ≠ 6 → z.m2 ≠ []) ∧ Aen z.ln z.k (if z.m1 = [] then 0 else 1) (if z.o.ln = 3 then 0 else (z.o.ln : Int) + 1) (if o2.ln = 3 then 0 else (o2.ln : Int) + 1) (if z.m2 = [] then 0 else 1) = (y.2.ln, y.2.k) ∧ y.2 = ⟨y.2.ln, y.2.k, z.way, z.tag, z.ref, z.m1, z.o, o2, z.m2⟩ ∧ (3 ≤ y.2.ln → y.2.k = z.k)) := hQd (by
  refine ⟨fun g => by omega, fun _ => HZ.out.2.2.2.2.2.2.1.1, ?_, by rw [hq2], fun _ => by rw [hq2]⟩
  rw [hq2, hln, hov]
  have q1 : ¬ ((o2.ln : Int) + 1 = 0) := by omega
  by_cases c : o2.ln = 3
  · simp [Aen, c]
  simp [Aen, c, q1])
 have hl0 : 3 ≤ z.ln := by omega
 have hl6 : z.ln ≤ 6 := by omega
 have TL := hQd (Af7 (z := ⟨z.ln, z.k, z.way, z.tag, z.ref, z.m1, z.o, o2, z.m2⟩) (z2 := y.2) X2 W2 R1 R2 R3 r2 (by omega) (by omega) (by have := HZ.out; dsimp only; omega) (by have := HZ.out; dsimp only; omega) HT.out.1 HT.out.2.1 HT.out.2.2.1 HT.out.2.2.2.1 HT.out.2.2.2.2 hk e2.hi)
 have H2 := hQd (aN (HB.out.1.trans (e2.mono (T := SD k (k + 7)) fun t _ h => SD.mono (by omega) (by omega) h)) P2)
 clear e2 P2 r2 X2 W2 x0 x7 HT
 go_wp2_with fail
 refine TL.out.mono ?_
 rintro e w3 ⟨rfl, G3, e3, d3⟩
 have H3 := hQd (aN (H2.out.1.trans (e3.mono (T := SD k (k + 7)) fun t _ h => .inr (by omega))) (aN (H2.out.2.ext e3) d3))
 clear e3 d3 TL H2
 go_wp2_with fail
 go_end0
 obtain ⟨y1, y2⟩ := y
 have hy2 := HZ.out.2.2.2.2.2.2.2.2.2
 refine ⟨rfl, G3, H3.out.1, ?_, H3.out.2.2⟩
 have := H3.out.2.1
 have hq : y1 = _ := congrArg Prod.fst hy2
 skip
 show RW w3 G3 C f y1 (m + 1)
 rw [hq]
 exact this
theorem Ath {z : Hom} (hz : Ahh z) (h : RW w O C f s m) (hM : Ahu w O k X z) (hl : z.ln = 6) (hk : 10 ≤ k) (hm : m ≤ 900000) (hhi : Hh O w) (n0 : 0 ≤ s.n) (n1 : s.n ≤ 4611686018427387904) :
 C2 118 X C.p w (RP (SD k (k + 7)) w O (.tuple #[]) fun W G => RW W G C f (Aas (s, z)).1 (m + 1) ∧ Ahu W G k X (Aas (s, z)).2) := by
 have hz2 := hz.step (s := s) h.bd
 have hkk := hz.k (by omega)
 have hlen := hz.len
 have hsk := hz.sok (by omega)
 have htk := hz.tok (by omega)
 have hm2 := hz.m2 (by omega)
 obtain ⟨a, l, hal, ha0, ha1⟩ := hm2.head
 obtain ⟨y, hy⟩ := exq (Aas (s, z))
 have hy2 := hy.trans (Akq s z hl)
 rw [← hy] at hz2 ⊢
 obtain ⟨wv, q0, q1, qo, qp, hx, hw, hparts⟩ := hM.ex
 have hw := hw (by omega)
 obtain ⟨b0, b1, u, p, rfl, rfl, rfl, rfl, h1, h2, h3, h4⟩ := hparts (by omega)
 obtain ⟨i, hi⟩ : ∃ i : Nat, z.k = i := ⟨z.k.toNat, by omega⟩
 have hil : i < z.way.length := by omega
 obtain ⟨sp, hsp⟩ := exq (z.way[i])
 have hspi : z.way[i]? = some sp := by rw [hsp]; exact List.getElem?_eq_getElem hil
 obtain ⟨A, o, c, hwe, -⟩ := hw.open (by omega)
 subst hwe
 obtain ⟨v1, v2, v3⟩ := Abu z.way i sp hspi
 have u1 := hw.c _ _ v1
 have u2 := hw.c _ _ v2
 have u3 := hw.c _ _ v3
 rw [← Nat.add_assoc] at u2 u3
 obtain ⟨sb, hsb⟩ := exq sp.b
 obtain ⟨sq, hsq⟩ := exq sp.q
 obtain ⟨ss, hss⟩ := exq sp.s
 rw [← hsb] at u1
 rw [← hsq] at u2
 rw [← hss] at u3
 have hXl : X < w.heap.size := hx.lt
 have hAl : A < w.heap.size := hw.lt.1
 obtain ⟨x0, x1, x2, -, -, x5⟩ := hx.c6
 rw [hl] at x0
 rw [hi] at x1
 obtain ⟨N, hN⟩ := exq z.way.length
 rw [← hN] at x2
 have hiN : (i : Int) < (N : Int) := by omega
 have hb1 := bal w (.cells #[.int .i64 sb, .int .i64 sq, .int .i64 ss] 95)
 have hb2 := Aaa (w.alloc (.cells #[.int .i64 sb, .int .i64 sq, .int .i64 ss] 95))
 have hb := hb1.trans (hb2.mono (by simp <;> omega))
 have HB : Hid (Ext (SD k (k + 7)) O w O (w.alloc (.cells #[.int .i64 sb, .int .i64 sq, .int .i64 ss] 95)).drew ∧ RW (w.alloc (.cells #[.int .i64 sb, .int .i64 sq, .int .i64 ss] 95)).drew O C f s m ∧ _ ∧ _ ∧ _ ∧ _ ∧ _ ∧ _) := hQd ⟨Ext.of_below hhi hb, h.below hhi hb, hx.below hb, hw.below hb, h1.below hb, h2.below hb, h3.below hb, h4.below hb⟩
 obtain ⟨W, hW⟩ := exq ((w.alloc (.cells #[.int .i64 sb, .int .i64 sq, .int .i64 ss] 95)).drew)
 rw [← hW] at HB
 have HZ := hQd (aN hz (aN hz2 (aN hkk (aN hlen (aN hsk (aN htk (aN hm2 (aN hl (aN hi hy2)))))))))
 have HM := hQd (aN hal (aN ha0 ha1))
 clear hal ha0 ha1
 clear hz hz2 hkk hlen hsk htk hm2 h hM hx hw hparts h1 h2 h3 h4 hil hsp hspi v1 v2 v3 hsb hsq hss hb1 hb2 hb hhi hy hy2 hl hi hN
 go_enter Tryz.func118, Tryz.ntmps118
 go_wp2_with fail
 go_region
 rw [← hW]
 clear hW x0 x1 x2 u1 u2 u3 hXl hAl hiN x5
 have x0 := HB.out.2.2.1.c 0 _ rfl
 rw [HZ.out.2.2.2.2.2.2.2.1] at x0
 have x5 := HB.out.2.2.1.c 5 _ rfl
 go_wp2_with fail
 refine (Ad2 a l HB.out.2.1 (k := k + 4) (by have := HB.out.2.2.2.2.2.1; rw [HM.out.1] at this; exact this) (by omega) hm HB.out.1.hi HM.out.2.1 HM.out.2.2 n0 n1).mono ?_
 rintro e w2 ⟨rfl, G2, e2, P2, r2⟩
 have X2 := HB.out.2.2.1.ext e2 (by unfold SD SR; omega)
 have W2 := HB.out.2.2.2.1.ext e2 (by unfold SD SR; omega)
 have R1 := HB.out.2.2.2.2.1.ext e2 (by unfold SD SR; omega) (by unfold SD SR; omega)
 have R3 := HB.out.2.2.2.2.2.2.1.ext e2 (by unfold SD SR; omega)
 have R4 := HB.out.2.2.2.2.2.2.2.ext e2 (by unfold SD SR; omega)
 have hy2 := HZ.out.2.2.2.2.2.2.2.2.2
 have hmm := HM.out.1
 rw [hmm] at hy2
 simp only [List.headD_cons, List.tail_cons] at hy2
 have hln := HZ.out.2.2.2.2.2.2.2.1
 have hq2 : y.2 = if l = [] then ⟨if z.k - 1 < 0 then 0 else 1, z.k - 1, z.way, z.tag, z.ref, z.m1, z.o, z.u, l⟩ else ⟨6, z.k, z.way, z.tag, z.ref, z.m1, z.o, z.u, l⟩ := congrArg Prod.snd hy2
 have HT : Hid ((z.ln = 3 → z.o.ln ≠ 3) ∧ (z.ln ≠ 6 → l ≠ []) ∧ Aen z.ln z.k (if z.m1 = [] then 0 else 1) (if z.o.ln = 3 then 0 else (z.o.ln : Int) + 1) (if z.u.ln = 3 then 0 else (z.u.ln : Int) + 1) (if l = [] then 0 else 1) = (y.2.ln, y.2.k) ∧ y.2 = ⟨y.2.ln, y.2.k, z.way, z.tag, z.ref, z.m1, z.o, z.u, l⟩ ∧ (3 ≤ y.2.ln → y.2.k = z.k)) := hQd (by
  by_cases c : l = []
  · rw [if_pos c] at hq2
    refine ⟨fun g => by omega, fun g => by omega, ?_, by rw [hq2], fun g => ?_⟩
    · rw [hq2, hln]
      simp [Aen, c]
    rw [hq2] at g
    dsimp only at g
    split at g <;> omega
  rw [if_neg c] at hq2
  refine ⟨fun g => by omega, fun g => by omega, ?_, by rw [hq2], fun _ => by rw [hq2]⟩
  rw [hq2, hln]
  simp [Aen, c])
 have hl0 : 3 ≤ z.ln := by omega
 have hl6 : z.ln ≤ 6 := by omega
 have TL := hQd (Af7 (z := ⟨z.ln, z.k, z.way, z.tag, z.ref, z.m1, z.o, z.u, l⟩) (z2 := y.2) X2 W2 R1 r2 R3 R4 (by omega) (by omega) (by have := HZ.out; dsimp only; omega) (by have := HZ.out; dsimp only; omega) HT.out.1 HT.out.2.1 HT.out.2.2.1 HT.out.2.2.2.1 HT.out.2.2.2.2 hk e2.hi)
 have H2 := hQd (aN (HB.out.1.trans (e2.mono (T := SD k (k + 7)) fun t _ h => SD.mono (by omega) (by omega) h)) P2)
 clear e2 P2 r2 X2 W2 x0 x5 HT
 go_wp2_with fail
 refine TL.out.mono ?_
 rintro e w3 ⟨rfl, G3, e3, d3⟩
 have H3 := hQd (aN (H2.out.1.trans (e3.mono (T := SD k (k + 7)) fun t _ h => .inr (by omega))) (aN (H2.out.2.ext e3) d3))
 clear e3 d3 TL H2
 go_wp2_with fail
 go_end0
 obtain ⟨y1, y2⟩ := y
 have hy2 := HZ.out.2.2.2.2.2.2.2.2.2
 refine ⟨rfl, G3, H3.out.1, ?_, H3.out.2.2⟩
 have := H3.out.2.1
 have hq : y1 = _ := congrArg Prod.fst hy2
 rw [HM.out.1] at hq
 show RW w3 G3 C f y1 (m + 1)
 rw [hq]
 exact this
end
end
section
open Go.RowKit Go.Shelf
def Ago (ln b a c : Int) (wv hv : Value) (p : Spt) (is : Bool) : List Value := [.int .i64 ln, .int .i64 b, .int .i64 a, .int .i64 c, wv, hv, .int .i64 p.b, .int .i64 p.q, .int .i64 p.s, .bool is]
structure Ai7 (W : World) (G : Om) (k X : Nat) (z : Rmm) : Prop where
 ex : ∃ (wv hv : Value), Ob W G k X (Ago z.ln z.b z.a z.c wv hv z.p z.is) ∧ (z.ln = 3 → ∃ Y, wv = .pointer (some ⟨Y, 0, none⟩) ∧ Apz W G (k + 1) Y z.wy) ∧ (z.ln = 4 → ∃ Y, hv = .pointer (some ⟨Y, 0, none⟩) ∧ Ahu W G (k + 5) Y z.ho)
theorem Ai7.ext {S : Nat → Prop} {O O' : Om} {w w' : World} {k X : Nat} {z : Rmm} (h : Ai7 w O k X z) (e : Ext S O w O' w') (hs : ∀ t, k ≤ t → t < k + 13 → ¬ S t) : Ai7 w' O' k X z := by
 obtain ⟨wv, hv, h1, h2, h3⟩ := h.ex
 refine ⟨wv, hv, h1.ext e (hs _ (by omega) (by omega)), fun g => ?_, fun g => ?_⟩
 · obtain ⟨Y, q1, q2⟩ := h2 g; exact ⟨Y, q1, q2.ext e fun t a b => hs t (by omega) (by omega)⟩
 obtain ⟨Y, q1, q2⟩ := h3 g; exact ⟨Y, q1, q2.ext e fun t a b => hs t (by omega) (by omega)⟩
theorem Ai7.below {O : Om} {w w' : World} {k X : Nat} {z : Rmm} (h : Ai7 w O k X z) (e : Below w.heap.size w w') : Ai7 w' O k X z := by
 obtain ⟨wv, hv, h1, h2, h3⟩ := h.ex
 refine ⟨wv, hv, h1.below e, fun g => ?_, fun g => ?_⟩
 · obtain ⟨Y, q1, q2⟩ := h2 g; exact ⟨Y, q1, q2.below e⟩
 obtain ⟨Y, q1, q2⟩ := h3 g; exact ⟨Y, q1, q2.below e⟩
theorem Ai7.c0 {O : Om} {w : World} {k X : Nat} {z : Rmm} (h : Ai7 w O k X z) : w.cell? ⟨X, 0, none⟩ = some (.int .i64 z.ln) := by
 obtain ⟨wv, hv, h1, -⟩ := h.ex
 exact h1.c 0 _ rfl
section
variable {X : Nat} {w : World} {O : Om} {C : Wb} {f : Cf} {s : AW} {m k : Nat}
theorem Ayr (b h : Int) (b0 : 1 ≤ b) (b1 : b ≤ 12) (h0 : 0 ≤ h) (h1 : h < 18446744073709551616) (hk : 10 ≤ k) (hhi : Hh O w) :
 Calls Tryz.prog 79 #[.int .i64 b, .int .u64 h] w fun e w' => ∃ R, RP (fun t => t = k) w O (.pointer (some ⟨R, 0, none⟩)) (fun W G => Ai7 W G k R (Afc b h)) e w' := by
 have hn : Afc b h = ⟨1, b, Aat h b, Aa8 (Aat h b) (Ab3 h) b, wy0, ho0, Am0, false⟩ := by unfold Afc; rw [if_pos ⟨b0, b1⟩]
 rw [hn]
 have hsz := Abf b0 b1
 have hbk := Aby (h := h) b0 b1
 have hbs := Aah b
 have htg := Ad0 h h0 h1
 have HS := hQd (fun W => Ab6 b W (by omega) (by omega))
 have HB := hQd (fun W => Aip h b W h0 h1 (by omega) (by omega))
 have HT := hQd (fun W => Ape h W h0 h1)
 have HO := hQd (fun W => Ahp (Aat h b) (Ab3 h) b W (by omega) (by omega) (by omega) (by omega) (by omega) (by omega))
 obtain ⟨sz, e1⟩ := exq (Aac b)
 obtain ⟨bk, e2⟩ := exq (Aat h b)
 obtain ⟨tg, e3⟩ := exq (Ab3 h)
 rw [← e1] at HS hsz
 rw [← e2] at HB HO ⊢
 rw [← e3] at HT HO ⊢
 obtain ⟨ot, e4⟩ := exq (Aa8 bk tg b)
 rw [← e4] at HO ⊢
 have d : decide (0 < sz) = true := by simp; omega
 obtain ⟨G1, E1, x1, -⟩ := Aar hhi k #[.int .i64 1, .int .i64 b, .int .i64 bk, .int .i64 0, .pointer none, .pointer none, .int .i64 0, .int .i64 0, .int .i64 0, .bool false] 166 w.heap.size rfl
 have HE := hQd (aN E1 x1)
 obtain ⟨W, hW⟩ := exq (w.alloc (.cells #[.int .i64 1, .int .i64 b, .int .i64 bk, .int .i64 0, .pointer none, .pointer none, .int .i64 0, .int .i64 0, .int .i64 0, .bool false] 166))
 rw [← hW] at HE
 obtain ⟨N, hN⟩ := exq w.heap.size
 clear e1 e2 e3 e4 hn hsz hbk hbs htg b0 b1 h0 h1 E1 x1 hhi
 go_enter Tryz.func79, Tryz.ntmps79
 go_wp2_with fail
 refine (HS.out _).mono ?_
 rintro e w' ⟨rfl, rfl⟩
 go_wp2_with fail
 refine (HB.out _).mono ?_
 rintro e w' ⟨rfl, rfl⟩
 go_upto_region 5 with fail
 rw [← hW]
 rw [← hN] at HE ⊢
 clear hW hN
 obtain ⟨-, -, y2, y3⟩ := HE.out.2.c4
 have f3 := HE.out.2.f 3
 have y22 : (W.setCell ⟨N, 3, none⟩ (.int .i64 ot)).cell? ⟨N, 2, none⟩ = some (.int .i64 bk) := (World.cell?_setCell_other _ _ _ _ (by simp)).trans y2
 go_region_held3 (fun w' => w'.cell? ⟨N, 2, none⟩ = some (.int .i64 bk)) (go_keep)
  ((first
    | (go_at_call 70
       refine (HT.out _).mono ?_
       rintro e w' ⟨rfl, rfl⟩)
    | (go_at_call 105
       refine (HO.out _).mono ?_
       rintro e w' ⟨rfl, rfl⟩)))
 all_goals
  clear y2 y3 f3 y22
  have X1 := HE.out.2.below (Aaa W)
  have E1 := HE.out.1.below (Aaa W)
  have y3 := X1.c 3 _ rfl
  have f3 := X1.f 3
  have E2 := Aaf (j := 3) (v := .int .i64 ot) E1.hi X1 hk
  have X2 := X1.set 3 (.int .i64 ot) (by simp)
  have H3 := hQd (aN (E1.trans E2) X2)
  clear X1 E1 E2 X2
  go_wp2_with fail
  go_ret
  exact ⟨N, rfl, G1, H3.out.1, _, _, H3.out.2, fun g => absurd g (by show ¬ (1 : Int) = 3; decide), fun g => absurd g (by show ¬ (1 : Int) = 4; decide)⟩
def Agv (ln b a c : Int) (wv hv : Value) (p : Spt) (is : Bool) (ta q fr : Int) (k X : Nat) (C : Wb) (f : Cf) (s : AW) (m : Nat) (w : World) (O : Om) (e : Ending) (w' : World) : Prop :=
 RP (SD k k) w O (.bool (decide (0 ≤ fr))) (fun W G => RW W G C f (Aan ta s) (m + 1) ∧ Ob W G k X (if 0 ≤ fr then Ago 0 b a c wv hv ⟨b, q, fr⟩ true else Ago ln b a c wv hv p is)) e w'
theorem Apj {ln b a c : Int} {wv hv : Value} {p : Spt} {is : Bool} (q : Int) (h : RW w O C f s m) (hx : Ob w O k X (Ago ln b a c wv hv p is)) (hb : 1 ≤ b ∧ b ≤ 12) (hq : 0 ≤ q ∧ q < Aac b) (hk : 10 ≤ k) (hm : m ≤ 900000) (hhi : Hh O w) (n0 : 0 ≤ s.n) (n1 : s.n ≤ 4611686018427387904) :
 Calls Tryz.prog 114 #[.pointer (some ⟨X, 0, none⟩), .pointer (some ⟨C.p, 0, none⟩), .int .i64 q] w (Agv ln b a c wv hv p is (Aai b q) q (Aa5 (s.M (Aai b q))) k X C f s m w O) := by
 have hsz := Aah b
 have ht := Ab2 (b := b) (k := q) hq
 have HTa := hQd (fun W => Ac8 b q W (by omega) (by omega) (by omega) (by omega))
 have hbd := h.bd (Aai b q)
 have HF := hQd (fun W => Amd (s.M (Aai b q)) W hbd.1 hbd.2)
 have hta : 0 ≤ Aai b q ∧ Aai b q < 18446744073709551616 := by omega
 have HTA := hQd hta
 obtain ⟨ta, hta2⟩ := exq (Aai b q)
 rw [← hta2] at HTa HF HTA ⊢
 obtain ⟨fr, hfr⟩ := exq (Aa5 (s.M ta))
 rw [← hfr] at HF ⊢
 have x1 := hx.c 1 _ rfl
 have hXl := hx.lt
 have hb1 := bal w (.cells #[.int .i64 b, .int .i64 q] 93)
 obtain ⟨e1, t1⟩ := Aau (S := SD k k) hhi #[.int .i64 b, .int .i64 q] 93 w.heap.size rfl
 have HE := hQd (aN e1 (aN (h.below hhi hb1) (aN (hx.below hb1) t1)))
 obtain ⟨W, hW⟩ := exq (w.alloc (.cells #[.int .i64 b, .int .i64 q] 93))
 rw [← hW] at HE
 have hTN := hQd (show w.heap.size ≤ w.heap.size from Nat.le_refl _)
 clear h hx hb hq hsz ht hbd hta hta2 hfr hb1 e1 t1 hhi
 go_enter Tryz.func114, Tryz.ntmps114
 go_wp2_with fail
 rw [← hW]
 obtain ⟨T, hT⟩ := exq w.heap.size
 rw [← hT] at HE ⊢
 clear hW hT x1 hXl
 refine (HTa.out _).mono ?_
 rintro e w2 ⟨rfl, hb2⟩
 have H2 := hQd (aN (HE.out.1.below hb2) (aN (HE.out.2.1.below HE.out.1.hi hb2) (aN (HE.out.2.2.1.below hb2) (HE.out.2.2.2.below hb2))))
 clear hb2
 go_wp2_with fail
 refine (Ac1 ta H2.out.2.1 (by omega) HTA.out.1 HTA.out.2 H2.out.1.hi n0 n1).mono ?_
 rintro e w3 ⟨rfl, G3, e3, P3⟩
 have H3 := hQd (aN (H2.out.1.trans (e3.mono (T := SD k k) fun t _ ht => .inl ht)) (aN P3 (aN (H2.out.2.2.1.ext e3 (by unfold SR; omega)) (H2.out.2.2.2.ext e3 (by unfold SR; omega)))))
 clear e3 P3 H2 HE
 go_wp2_with fail
 refine (HF.out _).mono ?_
 rintro e w' ⟨rfl, rfl⟩
 obtain ⟨t0, t1⟩ := H3.out.2.2.2.c2
 obtain ⟨y0, -, -, -, -, -, y6, y7, y8, y9⟩ := H3.out.2.2.1.c10
 have f0 := H3.out.2.2.1.f 0
 have f6 := H3.out.2.2.1.f 6
 have f7 := H3.out.2.2.1.f 7
 have f8 := H3.out.2.2.1.f 8
 have f9 := H3.out.2.2.1.f 9
 by_cases hf : 0 ≤ fr
 · have d : decide (fr < 0) = false := by simp; omega
   have d2 : decide (0 ≤ fr) = true := by simp; omega
   have HF0 := hQd (aN hf d2)
   clear hf d2
   go_wp2_with fail
   go_ret
   obtain ⟨q1, z1⟩ := Aal H3.out.2.2.1 hk H3.out.1.hi 6 (.int .i64 b) (by simp [Ago])
   obtain ⟨q2, z2⟩ := Aal z1 hk q1.hi 7 (.int .i64 q) (by simp [Ago])
   obtain ⟨q3, z3⟩ := Aal z2 hk q2.hi 8 (.int .i64 fr) (by simp [Ago])
   obtain ⟨q4, z4⟩ := Aal z3 hk q3.hi 9 (.bool true) (by simp [Ago])
   obtain ⟨q5, z5⟩ := Aal z4 hk q4.hi 0 (.int .i64 0) (by simp [Ago])
   have Q := (((q1.trans q2).trans q3).trans q4).trans q5
   unfold Agv
   rw [HF0.out.2, if_pos HF0.out.1]
   exact ⟨rfl, G3, H3.out.1.trans (Q.mono fun t _ h => .inr (by omega)), H3.out.2.1.ext Q, z5⟩
 have d : decide (fr < 0) = true := by simp; omega
 have d2 : decide (0 ≤ fr) = false := by simp; omega
 have HF0 := hQd (aN hf d2)
 clear hf d2
 go_wp2_with fail
 go_ret
 unfold Agv
 rw [HF0.out.2, if_neg (by have := HF0.out.1; omega)]
 exact ⟨rfl, G3, H3.out.1, H3.out.2.1, H3.out.2.2.1⟩
theorem Ajy {ln b a c : Int} {wv hv : Value} {p : Spt} {is : Bool} (h : RW w O C f s m) (hx : Ob w O k X (Ago ln b a c wv hv p is)) (hb : 1 ≤ b ∧ b ≤ 12) (ha : 0 ≤ a ∧ a < Aac b) (hc : 0 ≤ c ∧ c < Aac b) (hk : 10 ≤ k) (hhi : Hh O w) :
 C2 115 X C.p w (RP (fun t => k ≤ t ∧ t ≤ k + 3) w O (.tuple #[]) fun W G => RW W G C f s m ∧ ∃ Y, Ob W G k X (Ago 3 b a c (.pointer (some ⟨Y, 0, none⟩)) hv p is) ∧ Apz W G (k + 1) Y (Ag9 b a c f.y)) := by
 have x0 := hx.c 0 _ rfl
 have f0 := hx.f 0
 obtain ⟨e1, X1⟩ := Aal hx hk hhi 0 (.int .i64 3) (by simp [Ago])
 have P1 := h.ext e1
 have H1 := hQd (aN (e1.mono (T := fun t => k ≤ t ∧ t ≤ k + 3) fun t _ h => by omega) (aN P1 X1))
 have HH := hQd (aN hb (aN ha hc))
 obtain ⟨W, hW⟩ := exq (w.setCell ⟨X, 0, none⟩ (.int .i64 3))
 rw [← hW] at H1
 clear h hx hb ha hc hhi e1 X1 P1
 go_enter Tryz.func115, Tryz.ntmps115
 go_upto_region 1 with fail
 rw [← hW]
 clear hW x0 f0
 obtain ⟨-, y1, y2, y3⟩ := H1.out.2.2.c4
 have cy := H1.out.2.1.wo.c7
 go_region_held3 (fun w' => w'.cell? ⟨X, 1, none⟩ = some (.int .i64 b) ∧ w'.cell? ⟨X, 2, none⟩ = some (.int .i64 a) ∧ w'.cell? ⟨X, 3, none⟩ = some (.int .i64 c) ∧ w'.cell? ⟨C.p, 7, none⟩ = some (.int .i64 f.y)) (go_keep)
  ((go_at_call 145
    refine (Ayp (k := k + 1) b a c f.y HH.out.1.1 HH.out.1.2 HH.out.2.1 HH.out.2.2 (by omega) (w := W.drew) (H1.out.1.below (Aaa W)).hi).mono ?_
    rintro e w2 ⟨Y, rfl, G2, e2, d2⟩
    have X2 := (H1.out.2.2.below (Aaa W)).ext e2
    have H2 := hQd (aN ((H1.out.1.below (Aaa W)).trans (e2.mono (T := fun t => k ≤ t ∧ t ≤ k + 3) fun t _ h => by omega)) (aN ((H1.out.2.1.below H1.out.1.hi (Aaa W)).ext e2) (aN X2 d2)))
    obtain ⟨-, z1, z2, z3⟩ := X2.c4
    have z7 := H2.out.2.1.wo.c7
    have y4 := H2.out.2.2.1.c 4 _ rfl
    have f4 := H2.out.2.2.1.f 4
    obtain ⟨ee, xx⟩ := Aal H2.out.2.2.1 hk H2.out.1.hi 4 (.pointer (some ⟨Y, 0, none⟩)) (by simp [Ago])
    obtain ⟨-, s1', s2', s3'⟩ := xx.c4
    have s7' := (H2.out.2.1.ext ee).wo.c7
    clear e2 d2 X2 ee xx))
 all_goals
  clear y1 y2 y3 cy z1 z2 z3 z7 s1' s2' s3' s7'
  go_wp2_with fail
  go_end0
  obtain ⟨e3, X3⟩ := Aal H2.out.2.2.1 hk H2.out.1.hi 4 (.pointer (some ⟨Y, 0, none⟩)) (by simp [Ago])
  exact ⟨rfl, G2, H2.out.1.trans (e3.mono fun t _ h => by omega), H2.out.2.1.ext e3, Y, X3, H2.out.2.2.2.ext e3 (fun t q1 q2 => by omega)⟩
theorem Ays {z : Rmm} (hR : Ai7 w O k X z) : C1 81 X w fun e w' => e = .returned (.tuple #[.agg #[.int .i64 (if z.is = true then z.p.b else 0), .int .i64 (if z.is = true then z.p.q else 0), .int .i64 (if z.is = true then z.p.s else 0)], .bool z.is]) ∧ Below w.heap.size w w' := by
 obtain ⟨wv, hv, h1, -⟩ := hR.ex
 obtain ⟨-, -, -, -, -, -, x6, x7, x8, x9⟩ := h1.c10
 have hXl := h1.lt
 obtain ⟨pb, hpb⟩ := exq z.p.b
 obtain ⟨pq, hpq⟩ := exq z.p.q
 obtain ⟨ps, hps⟩ := exq z.p.s
 rw [← hpb] at x6 ⊢
 rw [← hpq] at x7 ⊢
 rw [← hps] at x8 ⊢
 obtain ⟨is, his⟩ := exq z.is
 rw [← his] at x9 ⊢
 clear hR h1 hpb hpq hps his
 cases is with
 | true =>
   have HB := hQd (bal w (.cells #[.int .i64 pb, .int .i64 pq, .int .i64 ps] 95))
   go_enter Tryz.func81, Tryz.ntmps81
   go_wp2_with fail
   exact bodyPost_ret (v := .tuple #[.agg #[.int .i64 pb, .int .i64 pq, .int .i64 ps], .bool true]) (by simp [results, Tryz.results81, go_sem]) rfl ⟨rfl, HB.out⟩
 | false =>
   have HB := hQd (bal w (.cells #[.int .i64 0, .int .i64 0, .int .i64 0] 95))
   go_enter Tryz.func81, Tryz.ntmps81
   go_wp2_with fail
   exact bodyPost_ret (v := .tuple #[.agg #[.int .i64 0, .int .i64 0, .int .i64 0], .bool false]) (by simp [results, Tryz.results81, go_sem]) rfl ⟨rfl, HB.out⟩
end
end
section
open Go.RowKit Go.Shelf
section
variable {X : Nat} {w : World} {O : Om} {C : Wb} {f : Cf} {s : AW} {m k : Nat}
theorem Atm {z : Hom} (hz : Ahh z) (hP : RW w O C f s m) (hM : Ahu w O k X z) (hl : z.ln = 1) (hk : 10 ≤ k) (hm : m ≤ 900000) (hhi : Hh O w) (n0 : 0 ≤ s.n) (n1 : s.n ≤ 4611686018427387904) :
 C2 118 X C.p w (RP (SD k (k + 7)) w O (.tuple #[]) fun W G => RW W G C f (Aas (s, z)).1 (m + 1) ∧ Ahu W G k X (Aas (s, z)).2) := by
 have hkk := hz.k (by omega)
 have hlen := hz.len
 have hsk := hz.sok (by omega)
 have htk := hz.tok (by omega)
 have ht0 := hz.t0
 rw [Akv s z hl]
 obtain ⟨wv, q0, q1, qo, qp, hx, hw, -⟩ := hM.ex
 replace hw := hw (by omega)
 obtain ⟨p, hpe⟩ := exq z.s
 rw [← hpe] at hsk ⊢
 obtain ⟨ln, kk, way, tag, ref, l1, o, u, l2⟩ := z
 dsimp only at hkk hlen ht0 hx hw hl ⊢
 subst hl
 obtain ⟨i, rfl⟩ : ∃ i : Nat, kk = i := ⟨kk.toNat, by omega⟩
 have hil : i < way.length := by omega
 have hpi : way[i]? = some p := by
  rw [hpe]
  show way[i]? = some (Ag1 way i)
  unfold Ag1
  rw [if_neg (by omega), Int.toNat_natCast, List.getD, List.getElem?_eq_getElem hil]
  rfl
 have HT := hQd (fun W => Ac8 p.b p.q W (by have := hsk.b0; omega) (by have := hsk.b1; omega) (by have := hsk.q0; omega) (by have := hsk.q2; omega))
 have hta2 : Aai p.b p.q = p.tags := rfl
 rw [hta2] at HT
 have hbt := hP.bd p.tags
 have HTG := hQd (fun W => Adr (s.M p.tags) p.s W hbt.1 hbt.2 (by have := hsk.s0; omega) (by have := hsk.s1; omega))
 obtain ⟨A2, o2, c2, rfl, -⟩ := hw.open (by omega)
 obtain ⟨b1, b2, b3⟩ := Abu way i p hpi
 have u1 := hw.c _ _ b1
 have u2 := hw.c _ _ b2
 have u3 := hw.c _ _ b3
 rw [← Nat.add_assoc] at u2 u3
 have hXl : X < w.heap.size := hx.lt
 have hAl : A2 < w.heap.size := hw.lt.1
 obtain ⟨x0, x1, x2⟩ := hx.c3
 have hj1 : (i : Int) < way.length := by omega
 have htg := hsk.tags
 have hit := hsk.item
 have hq2 := hsk.q2
 have hs0 := hsk.s0
 have hs1 := hsk.s1
 obtain ⟨pb, hpb⟩ := exq p.b
 obtain ⟨pq, hpq⟩ := exq p.q
 obtain ⟨ps, hps⟩ := exq p.s
 rw [← hpb] at u1
 rw [← hpq] at u2
 rw [← hps] at u3
 have hb1 := bal w (.cells #[.int .i64 pb, .int .i64 pq, .int .i64 ps] 95)
 have hb2 := Aaa (w.alloc (.cells #[.int .i64 pb, .int .i64 pq, .int .i64 ps] 95))
 have hb := hb1.trans (hb2.mono (by simp <;> omega))
 obtain ⟨-, t1⟩ := Aau (S := fun _ => False) hhi #[.int .i64 pb, .int .i64 pq, .int .i64 ps] 95 w.heap.size rfl
 have t2 := t1.below hb2
 have hti : Ob (w.alloc (.cells #[.int .i64 pb, .int .i64 pq, .int .i64 ps] 95)).drew O 0 w.heap.size (spl p) := by rw [hpb, hpq, hps] at t2 ⊢; exact t2
 have HM : Hid (Md k (k + 7) w O (w.alloc (.cells #[.int .i64 pb, .int .i64 pq, .int .i64 ps] 95)).drew O C f s m k X (Ahn 1 i (.slice (some ⟨A2, o2, none⟩) way.length c2) tag q0 q1 qo qp)) := hQd ⟨Ext.of_below hhi hb, hP.below hhi hb, hx.below hb⟩
 have HS : Hid (Sls (w.alloc (.cells #[.int .i64 pb, .int .i64 pq, .int .i64 ps] 95)).drew O (k + 1) 3 (.slice (some ⟨A2, o2, none⟩) way.length c2) way.length (way.flatMap spl) ∧ Ob (w.alloc (.cells #[.int .i64 pb, .int .i64 pq, .int .i64 ps] 95)).drew O 0 w.heap.size (spl p)) := hQd ⟨hw.below hb, hti⟩
 have hta : 0 ≤ p.tags ∧ p.tags < 18446744073709551616 := by omega
 obtain ⟨ta, hta3⟩ := exq p.tags
 rw [← hta3] at HT HTG hta ⊢
 obtain ⟨tg, htg2⟩ := exq (Aay (s.M ta) p.s)
 rw [← htg2] at HTG ⊢
 rw [← hpb, ← hpq] at HT
 rw [← hps] at HTG
 have HTA := hQd hta
 have HPP := hQd (aN hpb (aN hpq hps))
 obtain ⟨W, hW⟩ := exq ((w.alloc (.cells #[.int .i64 pb, .int .i64 pq, .int .i64 ps] 95)).drew)
 rw [← hW] at HM HS
 obtain ⟨T, hTe⟩ := exq w.heap.size
 clear hP hM hx hw hhi hsk htk ht0 hil hpi hpe b1 b2 b3 htg hit hq2 hs0 hs1 hb1 hb2 hb t1 t2 hti hta hta2 hta3 htg2 hbt hpb hpq hps
 go_enter Tryz.func118, Tryz.ntmps118
 go_wp2_with fail
 go_region
 rw [← hW]
 rw [← hTe] at HS ⊢
 clear hW hTe x0 x1 x2 u1 u2 u3 hXl hAl hj1
 have y0 := HM.out.t.c 0 _ rfl
 obtain ⟨t0, t1, t2⟩ := HS.out.2.c3
 rw [← HPP.out.1] at t0
 rw [← HPP.out.2.1] at t1
 rw [← HPP.out.2.2] at t2
 have hXT : ¬ T = X := HS.out.2.ne HM.out.t (by omega)
 have hXT2 : ¬ X = T := fun e => hXT e.symm
 go_upto_region 4 with fail
 go_region_held3 (fun w' => w'.cell? ⟨T, 0, none⟩ = some (.int .i64 pb) ∧ w'.cell? ⟨T, 1, none⟩ = some (.int .i64 pq) ∧ w'.cell? ⟨T, 2, none⟩ = some (.int .i64 ps)) (go_keep)
  ((first
    | (go_at_call 68
       refine (HT.out _).mono ?_
       rintro e w1 ⟨rfl, hb1⟩
       have M1 := hQd (HM.out.drew.below hb1)
       have S1 := hQd (aN ((HS.out.1.below (Aaa _)).below hb1) ((HS.out.2.below (Aaa _)).below hb1))
       obtain ⟨t01, t11, t21⟩ := S1.out.2.c3
       rw [← HPP.out.1] at t01
       rw [← HPP.out.2.1] at t11
       rw [← HPP.out.2.2] at t21
       clear hb1)
    | (go_at_call 28
       refine (Ac1 ta M1.out.p (by omega) HTA.out.1 HTA.out.2 M1.out.e.hi n0 n1).mono ?_
       rintro e w2 ⟨rfl, G2, e2, P2⟩
       have M2 := hQd (M1.out.world hk e2 P2)
       have S2 := hQd (aN (S1.out.1.ext e2 (by unfold SR; omega)) (S1.out.2.ext e2 (by unfold SR; omega)))
       obtain ⟨t02, t12, t22⟩ := S2.out.2.c3
       rw [← HPP.out.1] at t02
       rw [← HPP.out.2.1] at t12
       rw [← HPP.out.2.2] at t22
       have x23 := M2.out.t.c 3 _ rfl
       have f23 := M2.out.t.f 3
       clear e2 P2)
    | (go_at_call 77
       refine (HTG.out _).mono ?_
       rintro e w' ⟨rfl, rfl⟩)))
 all_goals
  clear y0 t0 t1 t2 t01 t11 t21 t02 t12 t22 x23 f23 M1 S1 HM HS HT HTG
  have x3 := M2.out.t.c 3 _ rfl
  have f3 := M2.out.t.f 3
  have x0 := M2.out.t.c 0 _ rfl
  have f0 := M2.out.t.f 0
  go_wp2_with fail
  refine bodyPost_ret (v := .tuple #[]) (results_none (by rfl) _ _ _) rfl ?_
  obtain ⟨e1, y1⟩ := Aal M2.out.t hk M2.out.e.hi 3 (.int .i64 tg) (by simp [Ahn])
  obtain ⟨e2, y2⟩ := Aal y1 hk e1.hi 0 (.int .i64 2) (by simp [Ahn])
  have e12 := e1.trans e2
  exact ⟨rfl, G2, M2.out.e.trans (e12.mono fun t _ h => .inr (by omega)), M2.out.p.ext e12, _, _, _, _, _, y2, fun _ => S2.out.1.ext e12, fun h => absurd h (by show ¬ (3 : Int) ≤ 2; decide)⟩
theorem Atl {z : Hom} (hz : Ahh z) (hP : RW w O C f s m) (hM : Ahu w O k X z) (hl : z.ln = 2) (hk : 10 ≤ k) (hm : m ≤ 900000) (hhi : Hh O w) (n0 : 0 ≤ s.n) (n1 : s.n ≤ 4611686018427387904) :
 C2 118 X C.p w (RP (SD k (k + 7)) w O (.tuple #[]) fun W G => RW W G C f (Aas (s, z)).1 (m + 1) ∧ Ahu W G k X (Aas (s, z)).2) := by
 have hkk := hz.k (by omega)
 have hlen := hz.len
 have hsk := hz.sok (by omega)
 have htk := hz.tok (by omega)
 have ht0 := hz.t0
 rw [Aku s z hl]
 obtain ⟨wv, q0, q1, qo, qp, hx, hw, -⟩ := hM.ex
 replace hw := hw (by omega)
 obtain ⟨p, hpe⟩ := exq z.s
 rw [← hpe] at hsk ⊢
 obtain ⟨ln, kk, way, tag, ref, l1, o, u, l2⟩ := z
 dsimp only at hkk hlen ht0 hx hw hl ⊢
 subst hl
 obtain ⟨i, rfl⟩ : ∃ i : Nat, kk = i := ⟨kk.toNat, by omega⟩
 have hil : i < way.length := by omega
 have hpi : way[i]? = some p := by
  rw [hpe]
  show way[i]? = some (Ag1 way i)
  unfold Ag1
  rw [if_neg (by omega), Int.toNat_natCast, List.getD, List.getElem?_eq_getElem hil]
  rfl
 have hpi1 : way[i + 1]? = some (Ag1 way (i + 1)) := by
  unfold Ag1
  have hi2 : i + 1 < way.length := by omega
  rw [if_neg (by omega), show ((i : Int) + 1).toNat = i + 1 from by omega, List.getD, List.getElem?_eq_getElem hi2]
  rfl
 obtain ⟨dd, hdd⟩ := exq (Ag1 way (i + 1))
 have htd : Hom.t ⟨2, i, way, tag, ref, l1, o, u, l2⟩ = dd := hdd.symm
 rw [htd] at htk ⊢
 rw [← hdd] at hpi1
 have HI := hQd (fun W => Adh p.b p.q p.s W (by have := hsk.b0; omega) (by have := hsk.b1; omega) (by have := hsk.q0; omega) (by have := hsk.q2; omega) (by have := hsk.s0; omega) (by have := hsk.s1; omega))
 have hia2 : Aca p.b p.q p.s = p.item := rfl
 rw [hia2] at HI
 have hbt := hP.bd p.item
 obtain ⟨A2, o2, c2, rfl, -⟩ := hw.open (by omega)
 obtain ⟨b1, b2, b3⟩ := Abu way i p hpi
 have u1 := hw.c _ _ b1
 have u2 := hw.c _ _ b2
 have u3 := hw.c _ _ b3
 rw [← Nat.add_assoc] at u2 u3
 have hXl : X < w.heap.size := hx.lt
 have hAl : A2 < w.heap.size := hw.lt.1
 obtain ⟨x0, x1, x2⟩ := hx.c3
 have hj1 : (i : Int) < way.length := by omega
 have htg := hsk.tags
 have hit := hsk.item
 have hq2 := hsk.q2
 have hs0 := hsk.s0
 have hs1 := hsk.s1
 obtain ⟨pb, hpb⟩ := exq p.b
 obtain ⟨pq, hpq⟩ := exq p.q
 obtain ⟨ps, hps⟩ := exq p.s
 rw [← hpb] at u1
 rw [← hpq] at u2
 rw [← hps] at u3
 have hb1 := bal w (.cells #[.int .i64 pb, .int .i64 pq, .int .i64 ps] 95)
 have hb2 := Aaa (w.alloc (.cells #[.int .i64 pb, .int .i64 pq, .int .i64 ps] 95))
 have hb := hb1.trans (hb2.mono (by simp <;> omega))
 obtain ⟨-, t1⟩ := Aau (S := fun _ => False) hhi #[.int .i64 pb, .int .i64 pq, .int .i64 ps] 95 w.heap.size rfl
 have t2 := t1.below hb2
 have hti : Ob (w.alloc (.cells #[.int .i64 pb, .int .i64 pq, .int .i64 ps] 95)).drew O 0 w.heap.size (spl p) := by rw [hpb, hpq, hps] at t2 ⊢; exact t2
 have HM : Hid (Md k (k + 7) w O (w.alloc (.cells #[.int .i64 pb, .int .i64 pq, .int .i64 ps] 95)).drew O C f s m k X (Ahn 2 i (.slice (some ⟨A2, o2, none⟩) way.length c2) tag q0 q1 qo qp)) := hQd ⟨Ext.of_below hhi hb, hP.below hhi hb, hx.below hb⟩
 have HS : Hid (Sls (w.alloc (.cells #[.int .i64 pb, .int .i64 pq, .int .i64 ps] 95)).drew O (k + 1) 3 (.slice (some ⟨A2, o2, none⟩) way.length c2) way.length (way.flatMap spl) ∧ Ob (w.alloc (.cells #[.int .i64 pb, .int .i64 pq, .int .i64 ps] 95)).drew O 0 w.heap.size (spl p)) := hQd ⟨hw.below hb, hti⟩
 have hia : 0 ≤ p.item ∧ p.item < 18446744073709551616 := by omega
 have HPK := hQd (aN hsk (aN htk (aN hpi (aN hpi1 (aN hdd hpe)))))
 obtain ⟨ia, hia3⟩ := exq p.item
 rw [← hia3] at HI hia hbt ⊢
 obtain ⟨rf, hrf⟩ := exq (wrap64 (s.M ia))
 have hrf2 : IntKind.i64.wrap (s.M ia) = rf := by rw [hrf]; unfold wrap64; simp [IntKind.wrap, IntKind.bits, IntKind.signed]; omega
 rw [← hrf]
 rw [← hpb, ← hpq, ← hps] at HI
 have HIA := hQd hia
 have HPP := hQd (aN hpb (aN hpq hps))
 have HT0 := hQd (aN ht0 hlen)
 obtain ⟨W, hW⟩ := exq ((w.alloc (.cells #[.int .i64 pb, .int .i64 pq, .int .i64 ps] 95)).drew)
 rw [← hW] at HM HS
 obtain ⟨T, hTe⟩ := exq w.heap.size
 have HIL := hQd hil
 have hii : i < 9223372036854775807 := by omega
 clear hP hM hx hw hhi hsk htk ht0 hil hpi hpi1 hpe htd hdd b1 b2 b3 htg hit hq2 hs0 hs1 hb1 hb2 hb t1 t2 hti hia hia2 hia3 hbt hpb hpq hps hrf
 go_enter Tryz.func118, Tryz.ntmps118
 go_wp2_with fail
 go_region
 rw [← hW]
 rw [← hTe] at HS ⊢
 clear hW hTe x0 x1 x2 u1 u2 u3 hXl hAl hj1
 have y0 := HM.out.t.c 0 _ rfl
 obtain ⟨t0, t1, t2⟩ := HS.out.2.c3
 rw [← HPP.out.1] at t0
 rw [← HPP.out.2.1] at t1
 rw [← HPP.out.2.2] at t2
 go_wp2_with fail
 refine (HI.out _).mono ?_
 rintro e w1 ⟨rfl, hb1⟩
 have M1 := hQd (HM.out.below hb1)
 have S1 := hQd (aN (HS.out.1.below hb1) (HS.out.2.below hb1))
 clear hb1 y0 t0 t1 t2 HM HS HI
 go_wp2_with fail
 refine (Ac1 ia M1.out.p (by omega) HIA.out.1 HIA.out.2 M1.out.e.hi n0 n1).mono ?_
 rintro e w2 ⟨rfl, G2, e2, P2⟩
 have M2 := hQd (M1.out.world hk e2 P2)
 have S2 := hQd (aN (S1.out.1.ext e2 (by unfold SR; omega)) (S1.out.2.ext e2 (by unfold SR; omega)))
 clear e2 P2 M1 S1
 obtain ⟨-, x1, x2⟩ := M2.out.t.c3
 obtain ⟨b1, b2, b3⟩ := Abu way (i + 1) dd HPK.out.2.2.2.1
 have u1 := S2.out.1.c _ _ b1
 have u2 := S2.out.1.c _ _ b2
 have u3 := S2.out.1.c _ _ b3
 rw [← Nat.add_assoc] at u2 u3
 have hXl : X < w2.heap.size := M2.out.t.lt
 have hAl : A2 < w2.heap.size := S2.out.1.lt.1
 obtain ⟨j, hje⟩ := exq (i + 1)
 have hje2 : (i : Int) + 1 = (j : Int) := by omega
 have hwj : IntKind.i64.wrap (j : Int) = (j : Int) := by simp [IntKind.wrap, IntKind.bits, IntKind.signed]; omega
 have hj1 : (j : Int) < way.length := by have := (List.getElem?_eq_some_iff.1 HPK.out.2.2.2.1).1; omega
 have hj0 : (0 : Int) ≤ (j : Int) := by omega
 rw [← hje] at u1 u2 u3
 obtain ⟨qb, hqb⟩ := exq dd.b
 obtain ⟨qq, hqq⟩ := exq dd.q
 obtain ⟨qs, hqs⟩ := exq dd.s
 rw [← hqb] at u1
 rw [← hqq] at u2
 rw [← hqs] at u3
 have HQQ := hQd (aN hqb (aN hqq hqs))
 clear b1 b2 b3 hqb hqq hqs hje
 go_upto_region 8 with fail
 go_region
 have hb1 := bal w2 (.cells #[.int .i64 qb, .int .i64 qq, .int .i64 qs] 95)
 have hb2 := Aaa (w2.alloc (.cells #[.int .i64 qb, .int .i64 qq, .int .i64 qs] 95))
 have hb := hb1.trans (hb2.mono (by simp <;> omega))
 obtain ⟨-, t1⟩ := Aau (S := fun _ => False) M2.out.e.hi #[.int .i64 qb, .int .i64 qq, .int .i64 qs] 95 w2.heap.size rfl
 have t2 := t1.below hb2
 have hti : Ob (w2.alloc (.cells #[.int .i64 qb, .int .i64 qq, .int .i64 qs] 95)).drew G2 0 w2.heap.size (spl dd) := by rw [HQQ.out.1, HQQ.out.2.1, HQQ.out.2.2] at t2 ⊢; exact t2
 have M3 := hQd (M2.out.below hb)
 have S3 := hQd (aN (S2.out.1.below hb) (aN (S2.out.2.below hb) hti))
 obtain ⟨w3, hw3⟩ := exq ((w2.alloc (.cells #[.int .i64 qb, .int .i64 qq, .int .i64 qs] 95)).drew)
 rw [← hw3] at M3 S3 ⊢
 obtain ⟨T2, hT2⟩ := exq w2.heap.size
 rw [← hT2] at S3 ⊢
 clear hw3 hT2 hb1 hb2 hb t1 t2 hti M2 S2 u1 u2 u3 x1 x2 hXl hAl hje2 hwj hj1 hj0
 obtain ⟨t0, t1⟩ := S3.out.2.1.c2
 obtain ⟨v0, v1⟩ := S3.out.2.2.c2
 obtain ⟨e4, a4⟩ := Aau (S := SD k (k + 7)) M3.out.e.hi #[.int .i64 p.b, .int .i64 p.q, .int .i64 dd.b, .int .i64 dd.q] 93 w3.heap.size rfl
 have hb4 := bal w3 (.cells #[.int .i64 p.b, .int .i64 p.q, .int .i64 dd.b, .int .i64 dd.q] 93)
 have M4 := hQd (M3.out.below hb4)
 have S4 := hQd (aN (S3.out.1.below hb4) (aN (S3.out.2.1.below hb4) (aN (S3.out.2.2.below hb4) a4)))
 go_upto_region 10 with fail
 obtain ⟨w4, hw4⟩ := exq (w3.alloc (.cells #[.int .i64 p.b, .int .i64 p.q, .int .i64 dd.b, .int .i64 dd.q] 93))
 rw [← hw4] at M4 S4 ⊢
 obtain ⟨N, hN⟩ := exq w3.heap.size
 rw [← hN] at S4 ⊢
 clear hw4 hN e4 a4 hb4 M3 S3 t0 t1 v0 v1
 go_region_held3 (fun _ => True) (trivial)
  ((go_at_call 119
    refine (Aec (w := w4.drew) p dd HPK.out.1 HPK.out.2.1 (k + 2) (by omega) (by rw [S4.out.2.2.2.o]; omega) ⟨Nat.le_refl _, by unfold maxLen; decide⟩ (S4.out.2.2.2.below (Aaa w4)).lt ((S4.out.2.2.2.below (Aaa w4)).c 0 _ rfl) ((S4.out.2.2.2.below (Aaa w4)).c 1 _ rfl) ((S4.out.2.2.2.below (Aaa w4)).c 2 _ rfl) ((S4.out.2.2.2.below (Aaa w4)).c 3 _ rfl) M4.out.drew.e.hi).mono ?_
    rintro e w5 ⟨Y1, rfl, G5, e5, r5⟩
    have M5 := hQd (M4.out.drew.oth hk e5 (by omega))
    have S5 := hQd (aN ((S4.out.1.below (Aaa w4)).ext e5) (aN ((S4.out.2.1.below (Aaa w4)).ext e5) (aN ((S4.out.2.2.1.below (Aaa w4)).ext e5) (aN ((S4.out.2.2.2.below (Aaa w4)).ext e5) r5))))
    have x4 := M5.out.t.c 4 _ rfl
    have f4 := M5.out.t.f 4
    clear e5 r5))
 all_goals
  have E6 := Aaf (j := 4) (v := .pointer (some ⟨Y1, 0, none⟩)) M5.out.e.hi M5.out.t hk
  have M6 := hQd (M5.out.set hk (Nat.le_refl _) (by omega) 4 (.pointer (some ⟨Y1, 0, none⟩)) (by simp [Ahn]))
  have S6 := hQd (aN (S5.out.1.ext E6) (aN (S5.out.2.1.ext E6) (aN (S5.out.2.2.1.ext E6) (aN (S5.out.2.2.2.1.ext E6) (S5.out.2.2.2.2.ext E6)))))
  obtain ⟨w6, hw6⟩ := exq (w5.setCell ⟨X, 4, none⟩ (.pointer (some ⟨Y1, 0, none⟩)))
  clear E6
  go_upto_region 11 with fail
  rw [← hw6] at M6 S6 ⊢
  clear hw6 x4 f4 M5 S5 M4 S4
  go_region_held3 (fun _ => True) (trivial)
   ((go_at_call 119
     refine (Aec (w := w6.drew) p dd HPK.out.1 HPK.out.2.1 (k + 4) (by omega) (by rw [S6.out.2.2.2.1.o]; omega) ⟨Nat.le_refl _, by unfold maxLen; decide⟩ (S6.out.2.2.2.1.below (Aaa w6)).lt ((S6.out.2.2.2.1.below (Aaa w6)).c 0 _ rfl) ((S6.out.2.2.2.1.below (Aaa w6)).c 1 _ rfl) ((S6.out.2.2.2.1.below (Aaa w6)).c 2 _ rfl) ((S6.out.2.2.2.1.below (Aaa w6)).c 3 _ rfl) M6.out.drew.e.hi).mono ?_
     rintro e w7 ⟨Y2, rfl, G7, e7, r7⟩
     have M7 := hQd (M6.out.drew.oth hk e7 (by omega))
     have S7 := hQd (aN ((S6.out.1.below (Aaa w6)).ext e7) (aN ((S6.out.2.1.below (Aaa w6)).ext e7) (aN ((S6.out.2.2.1.below (Aaa w6)).ext e7) (aN ((S6.out.2.2.2.2.below (Aaa w6)).ext e7) r7))))
     have x5 := M7.out.t.c 5 _ rfl
     have f5 := M7.out.t.f 5
     clear e7 r7))
  all_goals
   have E8 := Aaf (j := 5) (v := .pointer (some ⟨Y2, 0, none⟩)) M7.out.e.hi M7.out.t hk
   have M8 := hQd (M7.out.set hk (Nat.le_refl _) (by omega) 5 (.pointer (some ⟨Y2, 0, none⟩)) (by simp [Ahn]))
   have S8 := hQd (aN (S7.out.1.ext E8) (aN (S7.out.2.1.ext E8) (aN (S7.out.2.2.1.ext E8) (aN (S7.out.2.2.2.1.ext E8) (S7.out.2.2.2.2.ext E8)))))
   obtain ⟨w8, hw8⟩ := exq (w7.setCell ⟨X, 5, none⟩ (.pointer (some ⟨Y2, 0, none⟩)))
   obtain ⟨t0, t1, t2⟩ := (S7.out.2.1.ext E8).c3
   clear E8
   go_wp2_with fail
   rw [← hw8] at M8 S8 t0 t1 t2 ⊢
   clear hw8 x5 f5 M7 S7 M6 S6
   refine (Ain (k := k + 6) HPK.out.1 (by omega) M8.out.e.hi).mono ?_
   rintro e w9 ⟨U, rfl, G9, e9, r9⟩
   have M9 := hQd (M8.out.oth hk e9 (by omega))
   have S9 := hQd (aN (S8.out.1.ext e9) (aN (S8.out.2.2.1.ext e9) (aN (S8.out.2.2.2.1.ext e9) (aN (S8.out.2.2.2.2.ext e9) r9))))
   clear e9 r9 t0 t1 t2 M8 S8
   have x6 := M9.out.t.c 6 _ rfl
   have f6 := M9.out.t.f 6
   have E10 := Aaf (j := 6) (v := .pointer (some ⟨U, 0, none⟩)) M9.out.e.hi M9.out.t hk
   have M10 := hQd (M9.out.set hk (Nat.le_refl _) (by omega) 6 (.pointer (some ⟨U, 0, none⟩)) (by simp [Ahn]))
   have S10 := hQd (aN (S9.out.1.ext E10) (aN (S9.out.2.1.ext E10) (aN (S9.out.2.2.1.ext E10) (aN (S9.out.2.2.2.1.ext E10) (S9.out.2.2.2.2.ext E10)))))
   obtain ⟨w10, hw10⟩ := exq (w9.setCell ⟨X, 6, none⟩ (.pointer (some ⟨U, 0, none⟩)))
   clear E10
   go_upto_region 13 with fail
   rw [← hw10] at M10 S10 ⊢
   clear hw10 x6 f6 M9 S9
   have hTX : ¬ T2 = X := S10.out.2.1.ne M10.out.t (by omega)
   have hTX2 : ¬ X = T2 := fun e => hTX e.symm
   obtain ⟨v0, v1, v2⟩ := S10.out.2.1.c3
   have x3 := M10.out.t.c 3 _ rfl
   go_region_held3 (fun w' => w'.cell? ⟨T2, 0, none⟩ = some (.int .i64 dd.b) ∧ w'.cell? ⟨T2, 1, none⟩ = some (.int .i64 dd.q) ∧ w'.cell? ⟨T2, 2, none⟩ = some (.int .i64 dd.s) ∧ w'.cell? ⟨X, 3, none⟩ = some (.int .i64 tag)) (go_keep)
    ((go_at_call 121
      refine (Ame (w := w10.drew) (k := k + 7) (tg := tag) (rf := rf) HPK.out.2.1 (by omega) M10.out.drew.e.hi).mono ?_
      rintro e w11 ⟨V, rfl, G11, e11, r11⟩
      have M11 := hQd (M10.out.drew.oth hk e11 (by omega))
      have S11 := hQd (aN ((S10.out.1.below (Aaa w10)).ext e11) (aN ((S10.out.2.2.1.below (Aaa w10)).ext e11) (aN ((S10.out.2.2.2.1.below (Aaa w10)).ext e11) (aN ((S10.out.2.2.2.2.below (Aaa w10)).ext e11) r11))))
      obtain ⟨v01, v11, v21⟩ := ((S10.out.2.1.below (Aaa w10)).ext e11).c3
      have x31 := M11.out.t.c 3 _ rfl
      have x32 : (w11.setCell ⟨X, 7, none⟩ (.pointer (some ⟨V, 0, none⟩))).cell? ⟨X, 3, none⟩ = some (.int .i64 tag) := (World.cell?_setCell_other _ _ _ _ (by simp)).trans x31
      have x7 := M11.out.t.c 7 _ rfl
      have f7 := M11.out.t.f 7
      clear e11 r11))
   all_goals
    clear v0 v1 v2 x3 v01 v11 v21 x31 x32 M10 S10
    have x0 := M11.out.t.c 0 _ rfl
    have f0 := M11.out.t.f 0
    obtain ⟨E12, X12⟩ := Aal M11.out.t hk M11.out.e.hi 7 (.pointer (some ⟨V, 0, none⟩)) (by simp [Ahn])
    obtain ⟨E13, X13⟩ := Aal X12 hk E12.hi 0 (.int .i64 3) (by simp [Ahn])
    have E14 := E12.trans E13
    have hmk := Ag0 HPK.out.1 HPK.out.2.1
    have TL := hQd (Af7 (z := ⟨3, i, way, tag, rf, mk2 p dd, ⟨0, 0⟩, Abe tag rf, mk2 p dd⟩) (z2 := ⟨3, i, way, tag, rf, mk2 p dd, ⟨0, 0⟩, Abe tag rf, mk2 p dd⟩) X13 (S11.out.1.ext E14) (S11.out.2.1.ext E14) (S11.out.2.2.1.ext E14) (by rw [show Hom.s ⟨3, i, way, tag, rf, mk2 p dd, ⟨0, 0⟩, Abe tag rf, mk2 p dd⟩ = p from HPK.out.2.2.2.2.2.symm]; exact S11.out.2.2.2.1.ext E14) (by rw [show Hom.t ⟨3, i, way, tag, rf, mk2 p dd, ⟨0, 0⟩, Abe tag rf, mk2 p dd⟩ = dd from HPK.out.2.2.2.2.1.symm]; exact S11.out.2.2.2.2.ext E14) (by dsimp only; omega) (by dsimp only; omega) (by dsimp only; omega) (by have := HIL.out; have := HT0.out.2; dsimp only; omega) (fun _ => by dsimp only; omega) (fun _ => hmk.1) (by unfold Aen; dsimp only; rw [if_neg hmk.1]; simp) rfl (fun _ => rfl) hk E14.hi)
    have H13 := hQd (aN (M11.out.e.trans (E14.mono (T := SD k (k + 7)) fun t _ h => .inr (by omega))) (M11.out.p.ext E14))
    obtain ⟨w13, hw13⟩ := exq ((w11.setCell ⟨X, 7, none⟩ (.pointer (some ⟨V, 0, none⟩))).setCell ⟨X, 0, none⟩ (.int .i64 3))
    clear E12 X12 E13 X13 E14 hmk
    go_wp2_with fail
    rw [← hw13] at TL H13 ⊢
    clear hw13 x7 f7 x0 f0 M11 S11
    refine TL.out.mono ?_
    rintro e w14 ⟨rfl, G14, e14, d14⟩
    have H14 := hQd (aN (H13.out.1.trans (e14.mono (T := SD k (k + 7)) fun t _ h => .inr (by omega))) (aN (H13.out.2.ext e14) d14))
    clear e14 d14 TL H13
    go_wp2_with fail
    go_end0
    exact ⟨rfl, G14, H14.out⟩
theorem Avu {z : Hom} (hz : Ahh z) (hP : RW w O C f s m) (hM : Ahu w O k X z) (hl : z.ln ≠ 0) (hk : 10 ≤ k) (hm : m ≤ 900000) (hhi : Hh O w) (n0 : 0 ≤ s.n) (n1 : s.n ≤ 4611686018427387904) :
 C2 118 X C.p w (RP (SD k (k + 7)) w O (.tuple #[]) fun W G => RW W G C f (Aas (s, z)).1 (m + 1) ∧ Ahu W G k X (Aas (s, z)).2) := by
 have h0 := hz.l0
 have h6 := hz.l6
 have hc : z.ln = 1 ∨ z.ln = 2 ∨ z.ln = 3 ∨ z.ln = 4 ∨ z.ln = 5 ∨ z.ln = 6 := by omega
 rcases hc with e | e | e | e | e | e
 · exact Atm hz hP hM e hk hm hhi n0 n1
 · exact Atl hz hP hM e hk hm hhi n0 n1
 · exact Atk hz hP hM e hk hm hhi n0 n1
 · exact Atj hz hP hM e hk hm hhi n0 n1
 · exact Ati hz hP hM e hk hm hhi n0 n1
 exact Ath hz hP hM e hk hm hhi n0 n1
end
end
section
open Go.RowKit Go.Shelf
section
variable {X : Nat} {w : World} {O : Om} {C : Wb} {f : Cf} {s : AW} {m k : Nat}
theorem As5 {ln b a c : Int} {hv : Value} {p0 : Spt} {is : Bool} {Y : Nat} {wy : Wym} {ho : Hom} (h : RW w O C f s m) (hx : Ob w O k X (Ago ln b a c (.pointer (some ⟨Y, 0, none⟩)) hv p0 is)) (hY : Apz w O (k + 1) Y wy) (hwl : wy.way.length ≤ 8192) (hk : 10 ≤ k) (hhi : Hh O w) :
 C2 117 X C.p w (RP (SD k (k + 12)) w O (.tuple #[]) fun W G => RW W G C f (if wy.way = [] then Abr 3 0 0 0 0 0 s else s) m ∧ Ai7 W G k X (Acv ⟨ln, b, a, c, wy, ho, p0, is⟩)) := by
 have HG := hQd (Ayq (t := k + 4) hY hwl (by omega) hhi)
 have x4 := hx.c 4 _ rfl
 have HX := hQd (aN h (aN hx hhi))
 have HWL := hQd hwl
 clear h hx hY hhi hwl
 obtain ⟨POST, hPOST⟩ := exq (RP (SD k (k + 12)) w O (.tuple #[]) fun W G => RW W G C f (if wy.way = [] then Abr 3 0 0 0 0 0 s else s) m ∧ Ai7 W G k X (Acv ⟨ln, b, a, c, wy, ho, p0, is⟩))
 rw [← hPOST]
 have HPO := hQd hPOST
 clear hPOST
 go_enter Tryz.func117, Tryz.ntmps117
 go_wp2_with fail
 refine HG.out.mono ?_
 rintro e w1 ⟨v, G1, rfl, e1, s1⟩
 have X1 := HX.out.2.1.ext e1
 have P1 := HX.out.1.ext e1
 obtain ⟨e2, X2⟩ := Aal X1 hk e1.hi 0 (.int .i64 0) (by simp [Ago])
 have E12 := (e1.mono (T := SD k (k + 12)) fun t _ h => .inr (by omega)).trans (e2.mono (T := SD k (k + 12)) fun t _ h => .inr (by omega))
 have H2 := hQd (aN E12 (aN (P1.ext e2) (aN X2 (s1.ext e2))))
 have x0 := X1.c 0 _ rfl
 have f0 := X1.f 0
 obtain ⟨ao, cc, rfl, -⟩ := s1.shape
 clear e1 s1 X1 P1 e2 X2 E12 x4 HG HX
 obtain ⟨w2, hw2⟩ := exq (w1.setCell ⟨X, 0, none⟩ (.int .i64 0))
 rw [← hw2] at H2
 cases hway : wy.way with
 | nil =>
   rw [hway] at H2 HPO
   have HNT := hQd (Aho 3 0 0 0 0 0 H2.out.2.1 H2.out.1.hi (by decide) (by decide))
   have hf : Acv ⟨ln, b, a, c, wy, ho, p0, is⟩ = ⟨0, b, a, c, wy, ho, p0, is⟩ := by unfold Acv; dsimp only; rw [hway]
   rw [hf, if_pos rfl] at HPO
   clear hf hway
   go_upto_region 3 with fail
   rw [← hw2]
   clear hw2 x0 f0
   go_wp2_with fail
   refine HNT.out.mono ?_
   rintro e w3 ⟨rfl, G3, e3, P3⟩
   have X3 := H2.out.2.2.1.ext e3 (by unfold SR; omega)
   have H3 := hQd (aN (H2.out.1.trans (e3.mono (T := SD k (k + 12)) fun t _ h => .inl h)) (aN P3 X3))
   clear e3 P3 X3 HNT H2
   go_wp2_with fail
   refine bodyPost_ret (v := .tuple #[]) (results_none (by rfl) _ _ _) rfl ?_
   rw [HPO.out]
   exact ⟨rfl, G3, H3.out.1, H3.out.2.1, _, _, H3.out.2.2, fun g => absurd g (by show ¬ (0 : Int) = 3; decide), fun g => absurd g (by show ¬ (0 : Int) = 4; decide)⟩
 | cons p l =>
   rw [hway] at H2 HPO HWL
   obtain ⟨A, o, c', hao, -⟩ := H2.out.2.2.2.open (by simp)
   injection hao with q1 q2 q3
   subst q1 q3
   obtain ⟨a1, a2, a3⟩ := Abu (p :: l) 0 p rfl
   have u1 := H2.out.2.2.2.c _ _ a1
   have u2 := H2.out.2.2.2.c _ _ a2
   have u3 := H2.out.2.2.2.c _ _ a3
   simp only [Nat.zero_mul, Nat.zero_add, Nat.add_zero] at u1 u2 u3
   have hll : ((p :: l).length : Int) = (l.length : Int) + 1 := by simp
   have hl1 : ((l.length : Int) + 1 == 0) = false := by simp; omega
   have hl2 : (0 : Int) < (l.length : Int) + 1 := by omega
   obtain ⟨pb, hpb⟩ := exq p.b
   obtain ⟨pq, hpq⟩ := exq p.q
   obtain ⟨ps, hps⟩ := exq p.s
   rw [← hpb] at u1
   rw [← hpq] at u2
   rw [← hps] at u3
   have HPP := hQd (aN hpb (aN hpq hps))
   have hf : Acv ⟨ln, b, a, c, wy, ho, p0, is⟩ = ⟨if 2 ≤ (p :: l).length then 4 else 0, b, a, c, wy, Acx (p :: l), p, if 2 ≤ (p :: l).length then is else true⟩ := by unfold Acv; dsimp only; rw [hway]
   rw [hf, if_neg (by simp)] at HPO
   clear a1 a2 a3 q2 hf hpb hpq hps hway
   go_upto_region 4 with fail
   rw [← hw2]
   clear hw2 x0 f0
   obtain ⟨-, -, -, -, -, -, x6, x7, x8⟩ := H2.out.2.2.1.c9
   have f6 := H2.out.2.2.1.f 6
   have f7 := H2.out.2.2.1.f 7
   have f8 := H2.out.2.2.1.f 8
   obtain ⟨e3, X3⟩ := Aal H2.out.2.2.1 hk H2.out.1.hi 6 (.int .i64 pb) (by simp [Ago])
   obtain ⟨e4, X4⟩ := Aal X3 hk e3.hi 7 (.int .i64 pq) (by simp [Ago])
   obtain ⟨e5, X5⟩ := Aal X4 hk e4.hi 8 (.int .i64 ps) (by simp [Ago])
   have E35 := (e3.trans e4).trans e5
   obtain ⟨w5, hw5⟩ := exq (((w2.setCell ⟨X, 6, none⟩ (.int .i64 pb)).setCell ⟨X, 7, none⟩ (.int .i64 pq)).setCell ⟨X, 8, none⟩ (.int .i64 ps))
   rw [← hw5] at X5 E35
   have X5' : Ob w5 G1 k X (Ago 0 b a c (.pointer (some ⟨Y, 0, none⟩)) hv p is) := by
    have := X5
    rw [HPP.out.1, HPP.out.2.1, HPP.out.2.2] at this
    exact this
   have H5 := hQd (aN (H2.out.1.trans (E35.mono (T := SD k (k + 12)) fun t _ h => .inr (by omega))) (aN (H2.out.2.1.ext E35) (aN X5' (H2.out.2.2.2.ext E35))))
   clear e3 X3 e4 X4 e5 X5 E35 X5'
   go_wp2_with fail
   rw [← hw5]
   clear hw5 x6 x7 x8 f6 f7 f8 u1 u2 u3 H2
   refine (Ay0 (k := k + 5) (p :: l) H5.out.2.2.2 HWL.out (by omega) H5.out.1.hi).mono ?_
   rintro e w6 ⟨H, rfl, G6, e6, d6⟩
   have X6 := H5.out.2.2.1.ext e6
   obtain ⟨e7, X7⟩ := Aal X6 hk e6.hi 5 (.pointer (some ⟨H, 0, none⟩)) (by simp [Ago])
   have x5 := X6.c 5 _ rfl
   have f5 := X6.f 5
   have H7 := hQd (aN ((H5.out.1.trans (e6.mono (T := SD k (k + 12)) fun t _ h => .inr (by omega))).trans (e7.mono (T := SD k (k + 12)) fun t _ h => .inr (by omega))) (aN ((H5.out.2.1.ext e6).ext e7) (aN X7 (d6.ext e7 (fun t q1 q2 => by omega)))))
   obtain ⟨w7, hw7⟩ := exq (w6.setCell ⟨X, 5, none⟩ (.pointer (some ⟨H, 0, none⟩)))
   rw [← hw7] at H7
   clear e6 d6 X6 e7 X7 H5 hll hl1 hl2
   go_upto_region 6 with fail
   rw [← hw7]
   clear hw7 x5 f5
   obtain ⟨wv, q0, q1, qo, qp, hH, -⟩ := H7.out.2.2.2.ex
   have h0 := hH.c 0 _ rfl
   have x5 := H7.out.2.2.1.c 5 _ rfl
   have x0 := H7.out.2.2.1.c 0 _ rfl
   have f0 := H7.out.2.2.1.f 0
   have x9 := H7.out.2.2.1.c 9 _ rfl
   have f9 := H7.out.2.2.1.f 9
   clear hH
   by_cases c2 : 2 ≤ (p :: l).length
   · have hln : (Acx (p :: l)).ln = 1 := by unfold Acx; dsimp only; rw [if_pos c2]
     rw [hln] at h0
     rw [if_pos c2, if_pos c2] at HPO
     clear c2 hln
     go_wp2_with fail
     refine bodyPost_ret (v := .tuple #[]) (results_none (by rfl) _ _ _) rfl ?_
     rw [HPO.out]
     obtain ⟨e8, X8⟩ := Aal H7.out.2.2.1 hk H7.out.1.hi 0 (.int .i64 4) (by simp [Ago])
     exact ⟨rfl, G6, H7.out.1.trans (e8.mono fun t _ h => .inr (by omega)), H7.out.2.1.ext e8, _, _, X8, fun g => absurd g (by show ¬ (4 : Int) = 3; decide), fun _ => ⟨H, rfl, H7.out.2.2.2.ext e8 (fun t q1 q2 => by omega)⟩⟩
   have hln : (Acx (p :: l)).ln = 0 := by unfold Acx; dsimp only; rw [if_neg c2]
   rw [hln] at h0
   rw [if_neg c2, if_neg c2] at HPO
   clear c2 hln
   go_wp2_with fail
   go_end0
   rw [HPO.out]
   obtain ⟨e8, X8⟩ := Aal H7.out.2.2.1 hk H7.out.1.hi 9 (.bool true) (by simp [Ago])
   exact ⟨rfl, G6, H7.out.1.trans (e8.mono fun t _ h => .inr (by omega)), H7.out.2.1.ext e8, _, _, X8, fun g => absurd g (by show ¬ (0 : Int) = 3; decide), fun g => absurd g (by show ¬ (0 : Int) = 4; decide)⟩
end
end
section
open Go.RowKit Go.Shelf
def Adj (mo : Int) (k X : Nat) (C : Wb) (f : Cf) (s : AW) (m : Nat) (z : Rmm) (w : World) (O : Om) (e : Ending) (w' : World) : Prop :=
 RP (SD k (k + 12)) w O (.tuple #[]) (fun W G => RW W G C f (Aaq mo (s, z)).1 (m + 1) ∧ Ai7 W G k X (Aaq mo (s, z)).2) e w'
section
variable {X : Nat} {w : World} {O : Om} {C : Wb} {f : Cf} {s : AW} {m k : Nat}
theorem RW.m1 {W : World} {G : Om} {s1 : AW} (h : RW W G C f s1 m) : RW W G C f s1 (m + 1) := h.up (Nat.le_succ m)
theorem Aik {z : Rmm} {W : World} {G : Om} {Y : Nat} {hv : Value} (x : Ob W G k X (Ago 3 z.b z.a z.c (.pointer (some ⟨Y, 0, none⟩)) hv z.p z.is)) (y : Apz W G (k + 1) Y (Ag9 z.b z.a z.c f.y)) : Ai7 W G k X (Ab8 f.y z) :=
 ⟨_, _, x, fun _ => ⟨Y, rfl, y⟩, fun g => absurd g (by unfold Ab8; dsimp only; omega)⟩
theorem As4 {z : Rmm} (hz : Am5 z) (h : RW w O C f s m) (hR : Ai7 w O k X z) (hl : z.ln = 1) (hk : 10 ≤ k) (hm : m ≤ 900000) (hhi : Hh O w) (n0 : 0 ≤ s.n) (n1 : s.n ≤ 4611686018427387904) :
 C2 80 X C.p w (Adj f.y k X C f s m z w O) := by
 have hl0 : z.ln ≠ 0 := by omega
 obtain ⟨wv, hv, hx, -, -⟩ := hR.ex
 have HFR := hQd (Apj z.a h hx (hz.b hl0) (hz.a hl0) hk hm hhi n0 n1)
 obtain ⟨x0, -, x2⟩ := hx.c3
 rw [hl] at x0
 have HZ := hQd (aN hz (aN hl hl0))
 obtain ⟨fr, hfr⟩ := exq (Aa5 (s.M (Aai z.b z.a)))
 rw [← hfr] at HFR
 have HST : Hid (Aaq f.y (s, z) = (Aan (Aai z.b z.a) s, if 0 ≤ fr then Am2 z ⟨z.b, z.a, fr⟩ else if z.c = z.a then Ab8 f.y z else ⟨2, z.b, z.a, z.c, z.wy, z.ho, z.p, z.is⟩)) := hQd (by rw [Aj9 f.y s z hl, hfr])
 obtain ⟨ta, hta⟩ := exq (Aai z.b z.a)
 rw [← hta] at HFR HST
 clear hz h hR hx hl hl0 hhi hfr hta
 go_enter Tryz.func80, Tryz.ntmps80
 go_wp2_with fail
 refine HFR.out.mono ?_
 rintro e w1 ⟨rfl, G1, e1, P1, X1⟩
 by_cases hf : 0 ≤ fr
 · rw [if_pos hf] at X1
   have d : decide (0 ≤ fr) = true := by simp; omega
   rw [d]
   have HS2 := hQd (HST.out.trans (by rw [if_pos hf]))
   have H1 := hQd (aN (e1.mono (T := SD k (k + 12)) fun t _ h => SD.mono (by omega) (by omega) h) (aN P1 X1))
   clear hf d e1 P1 X1 x0 x2 HFR HST
   go_wp2_with fail
   go_end0
   unfold Adj
   rw [HS2.out]
   exact ⟨rfl, G1, H1.out.1, H1.out.2.1, _, _, H1.out.2.2, fun g => absurd g (by show ¬ (0 : Int) = 3; decide), fun g => absurd g (by show ¬ (0 : Int) = 4; decide)⟩
 rw [if_neg hf] at X1
 have d : decide (0 ≤ fr) = false := by simp; omega
 rw [d]
 have HS2 := hQd (HST.out.trans (by rw [if_neg hf]))
 have y0 := X1.c 0 _ rfl
 have yf := X1.f 0
 obtain ⟨e2, X2⟩ := Aal X1 hk e1.hi 0 (.int .i64 2) (by simp [Ago])
 have H2 := hQd (aN ((e1.mono (T := SD k (k + 12)) fun t _ h => SD.mono (by omega) (by omega) h).trans (e2.mono (T := SD k (k + 12)) fun t _ h => .inr (by omega))) (aN (P1.ext e2) X2))
 obtain ⟨w2, hw2⟩ := exq (w1.setCell ⟨X, 0, none⟩ (.int .i64 2))
 rw [← hw2] at H2
 clear hf d e1 P1 X1 e2 X2 x0 x2 HFR HST
 go_upto_region 4 with fail
 rw [← hw2]
 clear hw2 y0 yf
 obtain ⟨-, -, y2, y3⟩ := H2.out.2.2.c4
 obtain ⟨zc, hzc⟩ := exq z.c
 obtain ⟨za, hza⟩ := exq z.a
 rw [← hza] at y2
 rw [← hzc] at y3
 have HZC := hQd (aN hzc hza)
 clear hzc hza
 go_quiet (fail)
 have bd : Below w2.heap.size w2 (w2.drewN nq) := ⟨rfl, rfl, rfl, Nat.le_refl _, fun _ _ => rfl⟩
 have H3 := hQd (aN (H2.out.1.below bd) (aN (H2.out.2.1.below H2.out.1.hi bd) (H2.out.2.2.below bd)))
 obtain ⟨w3, hw3⟩ := exq (w2.drewN nq)
 rw [← hw3] at H3 ⊢
 clear bd hw3 y2 y3 H2
 obtain ⟨bv, hbv⟩ : ∃ x : Bool, x = (zc == za) := ⟨_, rfl⟩
 rw [← hbv]
 have HCA : Hid (bv = decide (z.c = z.a)) := hQd (by rw [hbv, HZC.out.1, HZC.out.2]; rw [Bool.eq_iff_iff]; simp)
 clear hbv
 cases bv with
 | true =>
   have hca : z.c = z.a := by have := HCA.out; simpa using this.symm
   have HS3 := hQd (HS2.out.trans (by rw [if_pos hca]))
   have HSE := hQd (Ajy H3.out.2.1 H3.out.2.2 (HZ.out.1.b HZ.out.2.2) (HZ.out.1.a HZ.out.2.2) (HZ.out.1.c HZ.out.2.2) hk H3.out.1.hi)
   clear hca HCA HS2
   go_wp2_with fail
   refine HSE.out.mono ?_
   rintro e w4 ⟨rfl, G4, e4, P4, Y, x4, d4⟩
   have H4 := hQd (aN (H3.out.1.trans (e4.mono (T := SD k (k + 12)) fun t _ h => .inr (by omega))) (aN P4 (aN x4 d4)))
   clear e4 P4 x4 d4 HSE H3
   go_wp2_with fail
   go_end0
   unfold Adj
   rw [HS3.out]
   exact ⟨rfl, G4, H4.out.1, H4.out.2.1, Aik H4.out.2.2.1 H4.out.2.2.2⟩
 | false =>
   have hca : ¬ z.c = z.a := by have := HCA.out; simpa using this.symm
   have HS3 := hQd (HS2.out.trans (by rw [if_neg hca]))
   clear hca HCA HS2
   go_wp2_with fail
   go_end0
   unfold Adj
   rw [HS3.out]
   exact ⟨rfl, G1, H3.out.1, H3.out.2.1, _, _, H3.out.2.2, fun g => absurd g (by show ¬ (2 : Int) = 3; decide), fun g => absurd g (by show ¬ (2 : Int) = 4; decide)⟩
theorem As3 {z : Rmm} (hz : Am5 z) (h : RW w O C f s m) (hR : Ai7 w O k X z) (hl : z.ln = 2) (hk : 10 ≤ k) (hm : m ≤ 900000) (hhi : Hh O w) (n0 : 0 ≤ s.n) (n1 : s.n ≤ 4611686018427387904) :
 C2 80 X C.p w (Adj f.y k X C f s m z w O) := by
 have hl0 : z.ln ≠ 0 := by omega
 obtain ⟨wv, hv, hx, -, -⟩ := hR.ex
 have HFR := hQd (Apj z.c h hx (hz.b hl0) (hz.c hl0) hk hm hhi n0 n1)
 obtain ⟨x0, -, -, x3⟩ := hx.c4
 rw [hl] at x0
 have HZ := hQd (aN hz (aN hl hl0))
 obtain ⟨fr, hfr⟩ := exq (Aa5 (s.M (Aai z.b z.c)))
 rw [← hfr] at HFR
 have HST : Hid (Aaq f.y (s, z) = (Aan (Aai z.b z.c) s, if 0 ≤ fr then Am2 z ⟨z.b, z.c, fr⟩ else Ab8 f.y z)) := hQd (by rw [Aj8 f.y s z hl, hfr])
 obtain ⟨ta, hta⟩ := exq (Aai z.b z.c)
 rw [← hta] at HFR HST
 clear hz h hR hx hl hl0 hhi hfr hta
 go_enter Tryz.func80, Tryz.ntmps80
 go_wp2_with fail
 refine HFR.out.mono ?_
 rintro e w1 ⟨rfl, G1, e1, P1, X1⟩
 by_cases hf : 0 ≤ fr
 · rw [if_pos hf] at X1
   have d : decide (0 ≤ fr) = true := by simp; omega
   rw [d]
   have HS2 := hQd (HST.out.trans (by rw [if_pos hf]))
   have H1 := hQd (aN (e1.mono (T := SD k (k + 12)) fun t _ h => SD.mono (by omega) (by omega) h) (aN P1 X1))
   clear hf d e1 P1 X1 x0 x3 HFR HST
   go_wp2_with fail
   go_end0
   unfold Adj
   rw [HS2.out]
   exact ⟨rfl, G1, H1.out.1, H1.out.2.1, _, _, H1.out.2.2, fun g => absurd g (by show ¬ (0 : Int) = 3; decide), fun g => absurd g (by show ¬ (0 : Int) = 4; decide)⟩
 rw [if_neg hf] at X1
 have d : decide (0 ≤ fr) = false := by simp; omega
 rw [d]
 have HS2 := hQd (HST.out.trans (by rw [if_neg hf]))
 have H3 := hQd (aN (e1.mono (T := SD k (k + 12)) fun t _ h => SD.mono (by omega) (by omega) h) (aN P1 X1))
 have HSE := hQd (Ajy H3.out.2.1 H3.out.2.2 (HZ.out.1.b HZ.out.2.2) (HZ.out.1.a HZ.out.2.2) (HZ.out.1.c HZ.out.2.2) hk H3.out.1.hi)
 clear hf d e1 P1 X1 x0 x3 HFR HST
 go_wp2_with fail
 refine HSE.out.mono ?_
 rintro e w4 ⟨rfl, G4, e4, P4, Y, x4, d4⟩
 have H4 := hQd (aN (H3.out.1.trans (e4.mono (T := SD k (k + 12)) fun t _ h => .inr (by omega))) (aN P4 (aN x4 d4)))
 clear e4 P4 x4 d4 HSE H3
 go_wp2_with fail
 go_end0
 unfold Adj
 rw [HS2.out]
 exact ⟨rfl, G4, H4.out.1, H4.out.2.1, Aik H4.out.2.2.1 H4.out.2.2.2⟩
theorem As2 {z : Rmm} (hz : Am5 z) (h : RW w O C f s m) (hR : Ai7 w O k X z) (hl : z.ln = 3) (hk : 10 ≤ k) (hm : m ≤ 900000) (hhi : Hh O w) (n0 : 0 ≤ s.n) (n1 : s.n ≤ 4611686018427387904) :
 C2 80 X C.p w (Adj f.y k X C f s m z w O) := by
 obtain ⟨wv, hv, hx, h3, -⟩ := hR.ex
 obtain ⟨Y, rfl, hY⟩ := h3 hl
 have hg := hz.y hl
 have hg2 := hg.step (s := s)
 have HST := hQd (Aop f.y s z hl)
 obtain ⟨s1, z1, hsz⟩ : ∃ s1 z1, Aaw (s, z.wy) = (s1, z1) := ⟨_, _, rfl⟩
 have HWY : Hid (C2 116 Y C.p w (RP (SD (k + 1) (k + 4)) w O (.tuple #[]) fun W G => RW W G C f s1 (m + 1) ∧ Apz W G (k + 1) Y z1)) := hQd (by
  obtain ⟨y0, hy0⟩ := exq z.wy
  rw [← hy0] at hg hY hsz
  obtain ⟨ln, l, i, b, mo, way⟩ := y0
  obtain ⟨g1, g2, g3, b0, b1, hL, hi⟩ := hg
  dsimp only at g1 g2 g3 hL hi
  subst g1 g2
  rw [← g3] at b0 b1 hL
  obtain ⟨lv, wv, q1, q2, q3⟩ := hY.ex
  have := Asz (k := k + 1) (X := Y) i (l[i]'hi) (b := _) (mo := mo) ⟨Ext.refl hhi, h, q1, q2 rfl, q3⟩ hL (List.getElem?_eq_getElem hi) b0 b1 (by omega) hm n0 n1
  rw [hsz] at this
  exact this)
 rw [hsz] at hg2 HST
 dsimp only at hg2 HST
 obtain ⟨x0, -, -, -, x4⟩ := hx.c5
 rw [hl] at x0
 have HX := hQd hx
 have HG := hQd hg2
 clear hz h hR hx hhi h3 hY hg hg2 hsz
 go_enter Tryz.func80, Tryz.ntmps80
 go_wp2_with fail
 refine HWY.out.mono ?_
 rintro e w1 ⟨rfl, G1, e1, P1, Y1⟩
 have X1 := HX.out.ext e1 (by unfold SD SR; omega)
 have H1 := hQd (aN (e1.mono (T := SD k (k + 12)) fun t _ h => SD.mono (by omega) (by omega) h) (aN P1 (aN X1 Y1)))
 obtain ⟨lv, wv, q1, -⟩ := Y1.ex
 have y4 := X1.c 4 _ rfl
 have q0 := q1.c 0 _ rfl
 have HL := hQd hl
 clear e1 P1 X1 Y1 q1 HWY HX x0 x4 hl
 by_cases hz1 : z1.ln = 0
 · rw [hz1] at q0
   have HS2 := hQd (HST.out.trans (if_pos hz1))
   have hwl : z1.way.length ≤ 8192 := by
    rcases HG.out with g | g
    · have := g.2.2; omega
    have := g.1; omega
   have HFO := hQd (As5 (ho := z.ho) H1.out.2.1 H1.out.2.2.1 H1.out.2.2.2 hwl hk H1.out.1.hi)
   rw [HL.out] at HFO
   clear hz1 hwl HST
   go_wp2_with fail
   refine HFO.out.mono ?_
   rintro e w2 ⟨rfl, G2, e2, P2, d2⟩
   have H2 := hQd (aN (H1.out.1.trans e2) (aN P2 d2))
   clear e2 P2 d2 H1 HFO y4 q0
   go_wp2_with fail
   go_end0
   unfold Adj
   rw [HS2.out]
   exact ⟨rfl, G2, H2.out⟩
 have HS2 := hQd (HST.out.trans (if_neg hz1))
 have d : (z1.ln == 0) = false := by simp [hz1]
 clear hz1 HST
 go_wp2_with fail
 go_end0
 unfold Adj
 rw [HS2.out]
 have X1 := H1.out.2.2.1
 rw [HL.out] at X1
 exact ⟨rfl, G1, H1.out.1, H1.out.2.1, _, _, X1, fun _ => ⟨Y, rfl, H1.out.2.2.2⟩, fun g => absurd g (by show ¬ (3 : Int) = 4; decide)⟩
theorem As1 {z : Rmm} (hz : Am5 z) (h : RW w O C f s m) (hR : Ai7 w O k X z) (hl : z.ln = 4) (hk : 10 ≤ k) (hm : m ≤ 900000) (hhi : Hh O w) (n0 : 0 ≤ s.n) (n1 : s.n ≤ 4611686018427387904) :
 C2 80 X C.p w (Adj f.y k X C f s m z w O) := by
 obtain ⟨wv, hv, hx, -, h4⟩ := hR.ex
 obtain ⟨Y, rfl, hY⟩ := h4 hl
 have hg := hz.h hl
 have HST := hQd (Aoo f.y s z hl)
 have HHO := hQd (Avu (k := k + 5) hg.1 h hY hg.2 (by omega) hm hhi n0 n1)
 obtain ⟨s1, z1, hsz⟩ : ∃ s1 z1, Aas (s, z.ho) = (s1, z1) := ⟨_, _, rfl⟩
 rw [hsz] at HHO HST
 dsimp only at HHO HST
 obtain ⟨x0, -, -, -, -, x5⟩ := hx.c6
 rw [hl] at x0
 have HX := hQd hx
 have HL := hQd hl
 clear hz h hR hx hhi h4 hY hg hsz hl
 go_enter Tryz.func80, Tryz.ntmps80
 go_wp2_with fail
 refine HHO.out.mono ?_
 rintro e w1 ⟨rfl, G1, e1, P1, Y1⟩
 have X1 := HX.out.ext e1 (by unfold SD SR; omega)
 have H1 := hQd (aN (e1.mono (T := SD k (k + 12)) fun t _ h => SD.mono (by omega) (by omega) h) (aN P1 (aN X1 Y1)))
 obtain ⟨v1, v2, v3, v4, v5, q1, -⟩ := Y1.ex
 have y5 := X1.c 5 _ rfl
 have q0 := q1.c 0 _ rfl
 have y0 := X1.c 0 _ rfl
 have f0 := X1.f 0
 have y9 := X1.c 9 _ rfl
 have f9 := X1.f 9
 clear e1 P1 X1 Y1 q1 HHO HX x0 x5
 by_cases hz1 : z1.ln = 0
 · rw [hz1] at q0
   have HS2 := hQd HST.out
   rw [if_pos hz1, if_pos hz1] at HS2
   clear hz1 HST
   go_wp2_with fail
   go_end0
   unfold Adj
   rw [HS2.out]
   obtain ⟨e2, X2⟩ := Aal H1.out.2.2.1 hk H1.out.1.hi 9 (.bool true) (by simp [Ago])
   obtain ⟨e3, X3⟩ := Aal X2 hk e2.hi 0 (.int .i64 0) (by simp [Ago])
   have E := e2.trans e3
   exact ⟨rfl, G1, H1.out.1.trans (E.mono fun t _ h => .inr (by omega)), H1.out.2.1.ext E, _, _, X3, fun g => absurd g (by show ¬ (0 : Int) = 3; decide), fun g => absurd g (by show ¬ (0 : Int) = 4; decide)⟩
 have HS2 := hQd HST.out
 rw [if_neg hz1, if_neg hz1] at HS2
 have d : (z1.ln == 0) = false := by simp [hz1]
 clear hz1 HST
 go_wp2_with fail
 go_end0
 unfold Adj
 rw [HS2.out]
 have X1 := H1.out.2.2.1
 rw [HL.out] at X1
 exact ⟨rfl, G1, H1.out.1, H1.out.2.1, _, _, X1, fun g => absurd g (by show ¬ (4 : Int) = 3; decide), fun _ => ⟨Y, rfl, H1.out.2.2.2⟩⟩
theorem Avq {z : Rmm} (hz : Am5 z) (h : RW w O C f s m) (hR : Ai7 w O k X z) (hl : z.ln ≠ 0) (hk : 10 ≤ k) (hm : m ≤ 900000) (hhi : Hh O w) (n0 : 0 ≤ s.n) (n1 : s.n ≤ 4611686018427387904) :
 C2 80 X C.p w (Adj f.y k X C f s m z w O) := by
 have h0 := hz.l0
 have h4 := hz.l4
 have hc : z.ln = 1 ∨ z.ln = 2 ∨ z.ln = 3 ∨ z.ln = 4 := by omega
 rcases hc with e | e | e | e
 · exact As4 hz h hR e hk hm hhi n0 n1
 · exact As3 hz h hR e hk hm hhi n0 n1
 · exact As2 hz h hR e hk hm hhi n0 n1
 exact As1 hz h hR e hk hm hhi n0 n1
end
end
section
open Go.RowKit Go.Shelf
def Ach (ln lost now : Int) (p : Spt) (tag ref : Int) (rv : Value) (d : Spt) (mv ov uv : Value) : List Value := [.int .i64 ln, .int .i64 lost, .int .i64 now, .int .i64 p.b, .int .i64 p.q, .int .i64 p.s, .int .i64 tag, .int .i64 ref, rv, .int .i64 d.b, .int .i64 d.q, .int .i64 d.s, mv, ov, uv]
structure Ac2 (W : World) (G : Om) (k X : Nat) (z : Mvm) : Prop where
 ex : ∃ (ln now : Int) (p d : Spt) (tag ref : Int) (rv mv ov uv : Value), Ob W G k X (Ach ln z.lost now p tag ref rv d mv ov uv) ∧ ln = z.ln ∧ (z.ln ≠ 0 → now = z.now ∧ p = z.p ∧ tag = z.tag ∧ ref = z.ref) ∧ (4 ≤ z.ln → d = z.d) ∧
  (z.ln = 3 → ∃ R, rv = .pointer (some ⟨R, 0, none⟩) ∧ Ai7 W G (k + 1) R z.rm) ∧
  (z.ln = 4 ∨ z.ln = 7 ∨ z.ln = 8 ∨ z.ln = 10 → ∃ m, mv = .pointer (some ⟨m, 0, none⟩) ∧ Ajd W G (k + 14) m z.m) ∧
  (z.ln = 5 ∨ z.ln = 9 → ∃ u, ov = .pointer (some ⟨u, 0, none⟩) ∧ Ajc W G (k + 16) u z.p z.o) ∧
  (z.ln = 6 → ∃ u, uv = .pointer (some ⟨u, 0, none⟩) ∧ Ai5 W G (k + 17) u z.d z.tag z.ref z.u)
theorem Ac2.ext {S : Nat → Prop} {O O' : Om} {w w' : World} {k X : Nat} {z : Mvm} (h : Ac2 w O k X z) (e : Ext S O w O' w') (hs : ∀ t, k ≤ t → t < k + 18 → ¬ S t) : Ac2 w' O' k X z := by
 obtain ⟨ln, now, p, d, tag, ref, rv, mv, ov, uv, h1, h2, h3, h4, h5, h6, h7, h8⟩ := h.ex
 refine ⟨ln, now, p, d, tag, ref, rv, mv, ov, uv, h1.ext e (hs _ (by omega) (by omega)), h2, h3, h4, fun g => ?_, fun g => ?_, fun g => ?_, fun g => ?_⟩
 · obtain ⟨R, q1, q2⟩ := h5 g; exact ⟨R, q1, q2.ext e fun t a b => hs t (by omega) (by omega)⟩
 · obtain ⟨R, q1, q2⟩ := h6 g; exact ⟨R, q1, q2.ext e (hs _ (by omega) (by omega)) (hs _ (by omega) (by omega))⟩
 · obtain ⟨R, q1, q2⟩ := h7 g; exact ⟨R, q1, q2.ext e (hs _ (by omega) (by omega))⟩
 obtain ⟨R, q1, q2⟩ := h8 g; exact ⟨R, q1, q2.ext e (hs _ (by omega) (by omega))⟩
theorem Ac2.below {O : Om} {w w' : World} {k X : Nat} {z : Mvm} (h : Ac2 w O k X z) (hhi : Hh O w) (e : Below w.heap.size w w') : Ac2 w' O k X z := h.ext (S := fun _ => False) (Ext.of_below hhi e) fun _ _ _ => id
theorem Ac2.c0 {O : Om} {w : World} {k X : Nat} {z : Mvm} (h : Ac2 w O k X z) : w.cell? ⟨X, 0, none⟩ = some (.int .i64 z.ln) := by
 obtain ⟨ln, now, p, d, tag, ref, rv, mv, ov, uv, h1, h2, -⟩ := h.ex
 rw [← h2]; exact h1.c 0 _ rfl
theorem Ac2.c1 {O : Om} {w : World} {k X : Nat} {z : Mvm} (h : Ac2 w O k X z) : w.cell? ⟨X, 1, none⟩ = some (.int .i64 z.lost) := by
 obtain ⟨ln, now, p, d, tag, ref, rv, mv, ov, uv, h1, h2, -⟩ := h.ex
 exact h1.c 1 _ rfl
section
variable {X : Nat} {w : World} {O : Om} {C : Wb} {f : Cf} {s : AW} {m k : Nat}
theorem Ayz (t q : Int) (t0 : 0 ≤ t) (t1 : t < 18446744073709551616) (q0 : -9223372036854775808 ≤ q) (q1 : q ≤ 9223372036854775807) (hk : 10 ≤ k) (hhi : Hh O w) :
 Calls Tryz.prog 31 #[.int .u64 t, .int .i64 q] w fun e w' => ∃ R, RP (fun t => t = k) w O (.pointer (some ⟨R, 0, none⟩)) (fun W G => Ac2 W G k R (Af1 t q)) e w' := by
 obtain ⟨z, hz⟩ := exq (Af1 t q)
 rw [← hz]
 unfold Af1 at hz
 have HA := hQd (fun W => Aqp t W t0 t1)
 have ho := Ae2 t
 have hn := Akc t
 have HS := hQd (fun W => Ab6 (Aaz t) W (by omega) (by omega))
 have hsz := Aah (Aaz t)
 obtain ⟨old, hold⟩ := exq (Aaz t)
 obtain ⟨now, hnow⟩ := exq (Aav t)
 rw [← hold] at HA HS hz hsz ho
 rw [← hnow] at HA hz hn
 obtain ⟨sz, hsz2⟩ := exq (Aac old)
 rw [← hsz2] at HS hz hsz
 have HH := hQd hhi
 clear hold hnow hsz2 hhi
 by_cases c : now = 0 ∨ q < 0 ∨ sz ≤ q
 · rw [if_pos c] at hz
   obtain ⟨G1, e1, x1, -⟩ := Aar HH.out k #[.int .i64 0, .int .i64 0, .int .i64 0, .int .i64 0, .int .i64 0, .int .i64 0, .int .i64 0, .int .i64 0, .pointer none, .int .i64 0, .int .i64 0, .int .i64 0, .pointer none, .pointer none, .pointer none] 100 w.heap.size rfl
   have fin : ∃ R, RP (fun t => t = k) w O (.pointer (some ⟨R, 0, none⟩)) (fun W G => Ac2 W G k R z) (.returned (.pointer (some ⟨w.heap.size, 0, none⟩))) (w.alloc (.cells #[.int .i64 0, .int .i64 0, .int .i64 0, .int .i64 0, .int .i64 0, .int .i64 0, .int .i64 0, .int .i64 0, .pointer none, .int .i64 0, .int .i64 0, .int .i64 0, .pointer none, .pointer none, .pointer none] 100)) := by
    rw [hz]
    exact ⟨_, rfl, G1, e1, 0, 0, ⟨0, 0, 0⟩, ⟨0, 0, 0⟩, 0, 0, _, _, _, _, x1, rfl, fun g => absurd rfl g, nnn, nnn, nnn, nnn, nnn⟩
   have FIN := hQd fin
   clear fin hz e1 x1
   by_cases c1 : now = 0
   · subst c1
     clear c
     go_enter Tryz.func31, Tryz.ntmps31
     go_wp2_with fail
     refine (HA.out _).mono ?_
     rintro e w' ⟨rfl, rfl⟩
     go_wp2_with fail
     go_ret
     exact FIN.out
   have d1 : (now == 0) = false := by simp [c1]
   by_cases c2 : q < 0
   · have d2 : decide (q < 0) = true := by simp; omega
     clear c c1
     go_enter Tryz.func31, Tryz.ntmps31
     go_wp2_with fail
     refine (HA.out _).mono ?_
     rintro e w' ⟨rfl, rfl⟩
     go_wp2_with fail
     go_ret
     exact FIN.out
   have d2 : decide (q < 0) = false := by simp; omega
   have d3 : decide (sz ≤ q) = true := by simp; omega
   clear c c1
   go_enter Tryz.func31, Tryz.ntmps31
   go_wp2_with fail
   refine (HA.out _).mono ?_
   rintro e w' ⟨rfl, rfl⟩
   go_wp2_with fail
   refine (HS.out _).mono ?_
   rintro e w' ⟨rfl, rfl⟩
   go_wp2_with fail
   go_ret
   exact FIN.out
 rw [if_neg c] at hz
 obtain ⟨G1, e1, x1, -⟩ := Aar HH.out k #[.int .i64 1, .int .i64 0, .int .i64 now, .int .i64 old, .int .i64 q, .int .i64 0, .int .i64 0, .int .i64 0, .pointer none, .int .i64 0, .int .i64 0, .int .i64 0, .pointer none, .pointer none, .pointer none] 100 w.heap.size rfl
 have fin : ∃ R, RP (fun t => t = k) w O (.pointer (some ⟨R, 0, none⟩)) (fun W G => Ac2 W G k R z) (.returned (.pointer (some ⟨w.heap.size, 0, none⟩))) (w.alloc (.cells #[.int .i64 1, .int .i64 0, .int .i64 now, .int .i64 old, .int .i64 q, .int .i64 0, .int .i64 0, .int .i64 0, .pointer none, .int .i64 0, .int .i64 0, .int .i64 0, .pointer none, .pointer none, .pointer none] 100)) := by
  rw [hz]
  exact ⟨_, rfl, G1, e1, 1, now, ⟨old, q, 0⟩, ⟨0, 0, 0⟩, 0, 0, _, _, _, _, x1, rfl, fun _ => ⟨rfl, rfl, rfl, rfl⟩, nnn, nnn, nnn, nnn, nnn⟩
 have FIN := hQd fin
 have d1 : (now == 0) = false := by simp; omega
 have d2 : decide (q < 0) = false := by simp; omega
 have d3 : decide (sz ≤ q) = false := by simp; omega
 clear fin hz e1 x1 c
 go_enter Tryz.func31, Tryz.ntmps31
 go_wp2_with fail
 refine (HA.out _).mono ?_
 rintro e w' ⟨rfl, rfl⟩
 go_wp2_with fail
 refine (HS.out _).mono ?_
 rintro e w' ⟨rfl, rfl⟩
 go_wp2_with fail
 go_ret
 exact FIN.out
end
end
end Go.Proofs.YthbodknlhkapdaaGreat
