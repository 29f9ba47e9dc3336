/- Layer 25, plain: no Store makes a record's value great. Layer 27: a world of a few keys: adds and touches, as calls. Layer 27: FlushesDie's touch, as a call. Layer 27: what FlushesDie has at hand. -/
import Derived.Test.YtifkfhnbkjkakaaGreatDoorZrSeY
import Derived.Test.YtifkfhnbkjkakaaGreatDoorZrSO
import Derived.Test.YtifkfhnbkjkakaaGreatDoorZrCrL
import Derived.Test.YtifkfhnbkjkakaaGreatDoorZrSE
import Derived.Test.YtifkfhnbkjkakaaGreatDoorZrSK
namespace Go.Proofs.YtifkfhnbkjkakaaGreatDoor
set_option linter.unusedSimpArgs false
set_option linter.unusedVariables false
set_option maxRecDepth 100000
section
def It1 (s t : AW) : Prop := t.it = s.it
theorem It1.refl (s : AW) : It1 s s := rfl
theorem It1.note {s t : AW} (a b c d e g : Int) (h : It1 s t) : It1 s (awNote a b c d e g t) := h
theorem It1.out (p : Spt) (s : AW) (o : Otm) : It1 s (outStep p s o).1 := by
 unfold outStep
 split
 · exact rfl
 · split
   · exact rfl
   · split
     · exact rfl
     · exact It1.refl _
theorem It1.put (p : Spt) (tg rf : Int) (s : AW) (o : Otm) : It1 s (putStep p tg rf s o).1 := by
 unfold putStep
 split
 · exact rfl
 · split
   · exact rfl
   · split
     · exact rfl
     · exact It1.refl _
theorem It1.wy (x : AW × Wym) : It1 x.1 (wyStep x).1 := by
 unfold wyStep
 split
 · exact It1.refl _
 · split
   · exact rfl
   · exact rfl
theorem It1.ho (x : AW × Hom) : It1 x.1 (hoStep x).1 := by
 unfold hoStep
 split
 · exact rfl
 · split
   · exact rfl
   · split
     · exact rfl
     · split
       · exact It1.out _ _ _
       · split
         · exact It1.put _ _ _ _ _
         · split
           · exact rfl
           · exact It1.refl _
theorem It1.rm (mo : Int) (x : AW × Rmm) : It1 x.1 (rmStep mo x).1 := by
 unfold rmStep
 split
 · exact rfl
 · split
   · exact rfl
   · split
     · split
       · dsimp only
         split
         · exact (It1.wy (x.1, x.2.wy)).note _ _ _ _ _ _
         · exact It1.wy (x.1, x.2.wy)
       · exact It1.wy (x.1, x.2.wy)
     · split
       · exact It1.ho (x.1, x.2.ho)
       · exact It1.refl _
theorem It1.tk (t : Nat) (s : AW) (x : Tkm) : It1 s (tkStep t s x).1 := by
 unfold tkStep
 split
 · exact rfl
 · split
   · split
     · exact rfl
     · exact rfl
   · exact rfl
theorem It1.fd (key : ByteArray) (x : AW × Fdm) : It1 x.1 (fdStep key x).1 := by
 unfold fdStep
 split
 · exact It1.refl _
 · exact rfl
 · exact rfl
 · exact rfl
def ItV (s : AW) : Prop := ∀ y ∈ s.it, y.val.size ≤ maxLen
theorem ItV.of {s t : AW} (h : ItV s) (e : It1 s t) : ItV t := fun y hy => h y (e ▸ hy)
theorem ItV.step (t : Nat) (c : Clm) (mo : Int) (hv : c.val.size ≤ maxLen) (x : AW × Stm) (h : ItV x.1) : ItV (stStep t c mo x).1 := by
 obtain ⟨s, z⟩ := x
 obtain ⟨ln, tk, fd, ml, rm, pu, p, ref, id, an, nu, ep, pt⟩ := z
 unfold stStep
 dsimp only
 split
 · exact h.of (It1.tk _ _ _)
 · exact h
 · exact h.of (It1.fd _ (s, fd))
 all_goals first
  | exact h
  | exact h.of (It1.rm mo (s, rm))
  | exact h.of (It1.put _ _ _ _ _)
  | (intro y hy
     have hy : y ∈ s.it ++ [_] := hy
     rw [List.mem_append, List.mem_singleton] at hy
     rcases hy with hy | rfl
     · exact h y hy
     · exact hv)
theorem ItV.run (t : Nat) (c : Clm) (mo : Int) (hv : c.val.size ≤ maxLen) : ∀ (m : Nat) (x : AW × Stm), ItV x.1 → ItV (runN stOver (stStep t c mo) m x).2.1
 | 0, x, h => h
 | m + 1, x, h => by
   cases ho : stOver x.2 with
   | true => rw [runN_over (m + 1) x ho]; exact h
   | false => rw [runN_on m x ho]; exact ItV.run t c mo hv m _ (h.step t c mo hv x)
end
section
open Go.RowKit
section
variable {w : World} {O : Om} {B : Wb} {s s' : AW} {T : Tab} {L : List ByteArray} {G : ByteArray → Int} {q : Nat} {c : Clm} {t : Nat}
theorem c_DoesJ {b : Int} {m : Nat} {z' : Stm} {f : Cf} (hS : StJ c f.g b s stNew) (hr : runN stOver (stStep t c 16) 200000 (s, stNew) = (m, s', z')) (ho : stOver z' = true) (hP : PW w O B f s) (ht : t < 64) (hm : mayB c = true) (hex : c.exp = 0) (hkz : c.key.size ≤ maxLen) (hvz : c.val.size ≤ maxLen) (g0 : 1 ≤ f.g) (g1 : f.g ≤ 65536) (hhi : ∀ j, O j ≠ 0 → j < w.heap.size) (n0 : 0 ≤ s.n) (n1 : s.n + 200000 ≤ 4611686018427387904) :
 Calls Tryz.prog 18 #[.pointer (some ⟨B.p, 0, none⟩), .int .i64 t, clV c] w (RP (SX 10 41) w O (ansV z'.an z'.nu) fun W G => PW W G B f s') := by
 have hg := hS.goodR hr ho
 have e : stRun t c s = (m, s', z') := hr
 have hv : z'.ln = 0 := by
  unfold stOver at ho
  exact of_decide_eq_true (by simpa using ho)
 have h := c_Does t 200000 c hP hg (by rw [e]; exact hv) ht hm (by rw [hex]; decide) hkz hvz g0 g1 hhi n0 n1
 rw [e] at h
 exact h
theorem c_DiNew (H : DiS s T L G q) (hP : PW w O B ⟨3, 8, 3, 1, 16⟩ s) (hhi : ∀ j, O j ≠ 0 → j < w.heap.size) (ht : t < 64) (hv : c.verb = 4) (hm : mayB c = true) (hx : c.exp = 0) (hkz : c.key.size ≤ maxLen) (hvz : c.val.size ≤ maxLen) (hk : c.key ∉ L) (hl : L.length ≤ 3) (hq : q ≤ 100000) (hvl : ItV s) :
 ∃ (s' : AW) (T' : Tab) (nu : Int), DiS s' T' (L ++ [c.key]) (updG G c.key (epGen (s.M 8))) (q + 1) ∧ s'.M 8 = s.M 8 ∧ ItV s' ∧ Calls Tryz.prog 18 #[.pointer (some ⟨B.p, 0, none⟩), .int .i64 t, clV c] w (RP (SX 10 41) w O (ansV 1 nu) fun W G => PW W G B ⟨3, 8, 3, 1, 16⟩ s') := by
 obtain ⟨m, s', z', T', h1, h2, h3, h4, h5⟩ := di_new H t c hv hx hk hl (hP.bd 7).1
 have a0 := H.n0
 have a1 := H.n1
 have h := c_DoesJ (f := ⟨3, 8, 3, 1, 16⟩) (H.sti hP.bd (by omega) hl c (g := 8) (by decide)) h1 h2 hP ht hm hx hkz hvz (by show (1 : Int) ≤ 8; decide) (by show (8 : Int) ≤ 65536; decide) hhi a0 (by omega)
 rw [h3] at h
 have hv2 := ItV.run t c 16 hvz 200000 (s, stNew) hvl
 rw [h1] at hv2
 exact ⟨s', T', z'.nu, h4, h5, hv2, h⟩
theorem c_DiNot (H : DiS s T L G q) (hP : PW w O B ⟨3, 8, 3, 1, 16⟩ s) (hhi : ∀ j, O j ≠ 0 → j < w.heap.size) (ht : t < 64) (hv : c.verb = 4) (hm : mayB c = true) (hx : c.exp = 0) (hkz : c.key.size ≤ maxLen) (hvz : c.val.size ≤ maxLen) (hk : c.key ∈ L) (hg : G c.key = epGen (s.M 8)) (hq : q ≤ 100000) (hvl : ItV s) :
 ∃ (s' : AW) (nu : Int), DiS s' T L G (q + 1) ∧ s'.M 8 = s.M 8 ∧ ItV s' ∧ Calls Tryz.prog 18 #[.pointer (some ⟨B.p, 0, none⟩), .int .i64 t, clV c] w (RP (SX 10 41) w O (ansV 2 nu) fun W G => PW W G B ⟨3, 8, 3, 1, 16⟩ s') := by
 obtain ⟨m, s', z', h1, h2, h3, h4, h5⟩ := di_not H t c hv hk hg
 have a0 := H.n0
 have a1 := H.n1
 have h := c_DoesJ (f := ⟨3, 8, 3, 1, 16⟩) (H.stj hP.bd (by omega) c hk (g := 8)) h1 h2 hP ht hm hx hkz hvz (by show (1 : Int) ≤ 8; decide) (by show (8 : Int) ≤ 65536; decide) hhi a0 (by omega)
 rw [h3] at h
 have hv2 := ItV.run t c 16 hvz 200000 (s, stNew) hvl
 rw [h1] at hv2
 exact ⟨s', z'.nu, h4, h5, hv2, h⟩
theorem c_DiRepl (H : DiS s T L G q) (hP : PW w O B ⟨3, 8, 3, 1, 16⟩ s) (hhi : ∀ j, O j ≠ 0 → j < w.heap.size) (ht : t < 64) (hv : c.verb = 4) (hm : mayB c = true) (hx : c.exp = 0) (hkz : c.key.size ≤ maxLen) (hvz : c.val.size ≤ maxLen) (hk : c.key ∈ L) (hg : G c.key ≠ epGen (s.M 8)) (hq : q ≤ 100000) (hvl : ItV s) :
 ∃ (s' : AW) (T' : Tab) (nu : Int), DiS s' T' L (updG G c.key (epGen (s.M 8))) (q + 1) ∧ s'.M 8 = s.M 8 ∧ ItV s' ∧ Calls Tryz.prog 18 #[.pointer (some ⟨B.p, 0, none⟩), .int .i64 t, clV c] w (RP (SX 10 41) w O (ansV 1 nu) fun W G => PW W G B ⟨3, 8, 3, 1, 16⟩ s') := by
 obtain ⟨m, s', z', T', h1, h2, h3, h4, h5⟩ := di_repl H t c hv hx hk hg
 have a0 := H.n0
 have a1 := H.n1
 have h := c_DoesJ (f := ⟨3, 8, 3, 1, 16⟩) (H.stj hP.bd (by omega) c hk (g := 8)) h1 h2 hP ht hm hx hkz hvz (by show (1 : Int) ≤ 8; decide) (by show (8 : Int) ≤ 65536; decide) hhi a0 (by omega)
 rw [h3] at h
 have hv2 := ItV.run t c 16 hvz 200000 (s, stNew) hvl
 rw [h1] at hv2
 exact ⟨s', T', z'.nu, h4, h5, hv2, h⟩
theorem c_DiTouch (H : DiS s T L G q) (hP : PW w O B ⟨3, 8, 3, 1, 16⟩ s) (hV : Va w O) (hhi : ∀ j, O j ≠ 0 → j < w.heap.size) (ht : t < 64) (hv : c.verb = 8) (hok : kyOk c.key = true) (hx : c.exp = 0) (hb : c.by_ = 0) (hkz : c.key.size ≤ maxLen) (hvl : ∀ y ∈ s.it, y.val.size ≤ maxLen) (hk : c.key ∈ L) (hg : G c.key = epGen (s.M 8)) (hq : q ≤ 100000) :
 ∃ (s' : AW) (T' : Tab), DiS s' T' L G (q + 1) ∧ s'.M 8 = s.M 8 ∧ (∀ y ∈ s'.it, y.val.size ≤ maxLen) ∧ Calls Tryz.prog 10 #[.pointer (some ⟨B.p, 0, none⟩), .int .i64 t, clV c] w (RP (SX 10 41) w O (ansV 7 0) fun W G => PW W G B ⟨3, 8, 3, 1, 16⟩ s') := by
 obtain ⟨m, s', z', T', h1, h2, h3, h4, h5, h6⟩ := di_touch H t c hv hx hk hg
 have a0 := H.n0
 have a1 := H.n1
 have hI := H.chi hP.bd (by omega) c
 have hcv := chV_run (t := t) (c := c) 200000 (s, chNew) ⟨hvl, fun e => by cases e⟩ ⟨200000, hI.goodR h1 h2⟩
 rw [h1] at hcv
 have hm : chMay c = true := by unfold chMay vbIs; rw [hok, decide_eq_true (by omega)]; rfl
 have h := c_DoesC hI h1 h2 hP hV ht hm (by rw [hx]; decide) (by rw [hb]; decide) hkz hvl hhi a0 (by omega)
 rw [h3, h4] at h
 exact ⟨s', T', h5, h6, hcv.1, h⟩
theorem c_DiDead (H : DiS s T L G q) (hP : PW w O B ⟨3, 8, 3, 1, 16⟩ s) (hV : Va w O) (hhi : ∀ j, O j ≠ 0 → j < w.heap.size) (ht : t < 64) (hv : c.verb = 8) (hok : kyOk c.key = true) (hx : c.exp = 0) (hb : c.by_ = 0) (hkz : c.key.size ≤ maxLen) (hvl : ∀ y ∈ s.it, y.val.size ≤ maxLen) (hk : c.key ∈ L) (hg : G c.key ≠ epGen (s.M 8)) (hq : q ≤ 100000) :
 ∃ (s' : AW), DiS s' T L G (q + 1) ∧ s'.M 8 = s.M 8 ∧ (∀ y ∈ s'.it, y.val.size ≤ maxLen) ∧ Calls Tryz.prog 10 #[.pointer (some ⟨B.p, 0, none⟩), .int .i64 t, clV c] w (RP (SX 10 41) w O (ansV 4 0) fun W G => PW W G B ⟨3, 8, 3, 1, 16⟩ s') := by
 obtain ⟨m, s', z', h1, h2, h3, h4, h5, h6⟩ := di_dead H t c hk hg
 have a0 := H.n0
 have a1 := H.n1
 have hI := H.chi hP.bd (by omega) c
 have hcv := chV_run (t := t) (c := c) 200000 (s, chNew) ⟨hvl, fun e => by cases e⟩ ⟨200000, hI.goodR h1 h2⟩
 rw [h1] at hcv
 have hm : chMay c = true := by unfold chMay vbIs; rw [hok, decide_eq_true (by omega)]; rfl
 have h := c_DoesC hI h1 h2 hP hV ht hm (by rw [hx]; decide) (by rw [hb]; decide) hkz hvl hhi a0 (by omega)
 rw [h3, h4] at h
 exact ⟨s', h5, h6, hcv.1, h⟩
end
end
section
open Go.RowKit
theorem ansKind (an nu : Int) (W : World) : (Instr.field 36 (.agg #[.int .u8 an, .int .u64 nu, .string ⟨#[]⟩, .string ⟨#[]⟩, .int .u32 0, .int .u64 0, .int .i64 0, .int .i64 0]) 0).run Tryz.prog W = .ok (.int .u8 an) W := by kernel_rfl
section
variable {w : World} {O : Om} {B : Wb} {s s' : AW} {c : Clm}
theorem c_FdTouch {bx : Nat} {an : Int} (HD : ∀ W G, PW W G B ⟨3, 8, 3, 1, 16⟩ s → Va W G → (∀ j, G j ≠ 0 → j < W.heap.size) → Calls Tryz.prog 10 #[.pointer (some ⟨B.p, 0, none⟩), .int .i64 3, clV ⟨8, c.key, ⟨#[]⟩, 0, 0, 0, 0⟩] W (RP (SX 10 41) W G (ansV an 0) fun W1 G1 => PW W1 G1 B ⟨3, 8, 3, 1, 16⟩ s'))
 (hP : PW w O B ⟨3, 8, 3, 1, 16⟩ s) (hV : Va w O) (hx : Bx w O bx [PTR B.p]) (hhi : ∀ j, O j ≠ 0 → j < w.heap.size) :
 Calls Tryz.prog 20 #[clV c, .pointer (some ⟨bx, 0, none⟩)] w (RP (SX 10 41) w O (.int .u8 an) fun W G => PW W G B ⟨3, 8, 3, 1, 16⟩ s') := by
 have b1 := alloc_below w (.cells (clCs c).toArray 26)
 have HC := Lib.hid (HD _ O (hP.below hhi b1) (hV.below b1) (hi_below hhi b1))
 have y0 := (hx.below b1).c 0 _ rfl
 have k1 := (Bx.new hhi (clCs c).toArray 26 w.heap.size rfl).c 1 _ rfl
 unfold PTR at y0
 have HE := Lib.hid (Ext.of_below (S := SX 10 41) hhi b1)
 clear HD hP hV hx hhi b1
 unfold clCs at HC y0 k1 HE
 unfold clV ansV at HC
 unfold clV
 dsimp only at HC
 go_enter Tryz.func20, Tryz.ntmps20
 go_wp2_with fail
 refine HC.out.mono ?_
 rintro e w2 ⟨rfl, G2, e2, p2⟩
 have HR := Lib.hid (And.intro (HE.out.trans e2) p2)
 clear e2 p2 HC HE
 have hf := ansKind an 0 w2
 go_wp2_with fail
 go_ret
 exact ⟨rfl, G2, HR.out⟩
end
end
section
open Go.RowKit
structure FdS (w0 W : World) (G : Om) (B : Wb) (s : AW) (bx : Nat) (v : Value) (L : List Clm) : Prop where
 e : Env w0 G W
 p : PW W G B ⟨3, 8, 3, 1, 16⟩ s
 x : Bx W G bx [PTR B.p]
 m : Row W G 44 26 7 v L.length (rowOf clCs L)
section
variable {w0 W W' : World} {G G' : Om} {B : Wb} {s s' : AW} {bx : Nat} {v : Value} {L : List Clm} {S : Nat → Prop}
theorem FdS.below (h : FdS w0 W G B s bx v L) (hb : Below W.heap.size W W') : FdS w0 W' G B s bx v L := ⟨h.e.ext (Ext.of_below (S := SW) h.e.hi hb), h.p.below h.e.hi hb, h.x.below hb, h.m.below hb⟩
theorem FdS.to (h : FdS w0 W G B s bx v L) (e : Ext S G W G' W') (p : PW W' G' B ⟨3, 8, 3, 1, 16⟩ s') (hs : ¬ S 44) : FdS w0 W' G' B s' bx v L := ⟨h.e.ext e, p, h.x.ext e, h.m.ext e hs⟩
theorem FdS.at (h : FdS w0 W G B s bx v L) {k : Nat} (hk : k < L.length) : ∃ b c, v = .slice (some ⟨b, 0, none⟩) L.length c ∧ ∀ j u, (clCs L[k])[j]? = some u → W.cell? ⟨b, k * 7 + j, none⟩ = some u := by
 have har := Arr.of_own h.m.own
 obtain ⟨h1, ⟨-, h0⟩ | ⟨b, c, cur, rfl, -⟩⟩ := h.m.own
 · omega
 · refine ⟨b, c, rfl, fun j u hu => ?_⟩
   have hj : j < 7 := (List.getElem?_eq_some_iff.1 hu).1
   obtain ⟨-, ao, c2, hv, -, -, hx⟩ := har
   injection hv with hao
   subst hao
   obtain ⟨b', o', e, -, hc⟩ := hx (k * 7 + j) u (by rw [rowOf_get (k := 7) (fun _ => rfl) L k j hk hj]; exact hu)
   injection e with e
   injection e with e1 e2
   subst e1
   subst e2
   simpa using hc
end
end
end Go.Proofs.YtifkfhnbkjkakaaGreatDoor
