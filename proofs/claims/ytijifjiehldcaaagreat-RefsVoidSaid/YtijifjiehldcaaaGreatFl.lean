/- Layer 27: contracts of a Flush. -/
import Derived.Test.YtijifjiehldcaaaGreatTk
import Derived.Test.YtijifjiehldcaaaGreatWtk
namespace Go.Proofs.YtijifjiehldcaaaGreat
set_option linter.unusedSimpArgs false
open Go.RowKit
set_option linter.unusedVariables false

/-- A Flush: 1: it takes the lock, 2: it flushes, 3: it gives, 0: it is over. -/
structure Flm where
  ln : Nat
  tk : Tkm
  an : Int
  ep : Int
  pt : Int
structure FB where
  X : Nat
  T : Nat
  G : Nat
  bx : Nat
  bd : Nat
  bt : Nat
  bg : Nat
  be : Nat
def ENDSV (b : FB) : Value := .func (.func 68) #[] #[.pointer (some ⟨b.bg, 0, none⟩), .pointer (some ⟨b.bx, 0, none⟩)]
def TAKESV (b : FB) : Value := .func (.func 70) #[] #[.pointer (some ⟨b.bt, 0, none⟩), .pointer (some ⟨b.bx, 0, none⟩), .pointer (some ⟨b.bd, 0, none⟩), .pointer (some ⟨b.be, 0, none⟩)]
def FLUSHV (b : FB) : Value := .func (.func 72) #[] #[.pointer (some ⟨b.bx, 0, none⟩), .pointer (some ⟨b.bd, 0, none⟩), .pointer (some ⟨b.be, 0, none⟩)]
def flV (b : FB) (ln : Nat) : Value := if ln = 1 then TAKESV b else if ln = 2 then FLUSHV b else if ln = 3 then ENDSV b else .nilFunc
def flCs (dv : Value) (an ep pt : Int) : List Value := [dv, .int .u8 an, .int .u64 0, .string ⟨#[]⟩, .string ⟨#[]⟩, .int .u32 0, .int .u64 0, .int .i64 0, .int .i64 0, .int .u64 ep, .int .i64 pt]
/-- What a Flush holds besides its struct. -/
structure FR (w : World) (O : Om) (k : Nat) (b : FB) (t : Nat) (d : Int) (x : Tkm) (g : Int) : Prop where
  tk : Ob w O (k + 1) b.T (tkCs b.T t x)
  gv : Ob w O (k + 2) b.G [.int .i64 g]
  kx : Ob w O (k + 3) b.bx [.pointer (some ⟨b.X, 0, none⟩)]
  kd : Ob w O (k + 3) b.bd [.int .i64 d]
  kt : Ob w O (k + 3) b.bt [.pointer (some ⟨b.T, 0, none⟩)]
  kg : Ob w O (k + 3) b.bg [.pointer (some ⟨b.G, 0, none⟩)]
  ke : Ob w O (k + 3) b.be [ENDSV b]
theorem FR.ext {S : Nat → Prop} {O O' : Om} {w w' : World} {k : Nat} {b : FB} {t : Nat} {d : Int} {x : Tkm} {g : Int} (h : FR w O k b t d x g) (e : Ext S O w O' w') (h1 : ¬ S (k + 1)) (h2 : ¬ S (k + 2)) (h3 : ¬ S (k + 3)) : FR w' O' k b t d x g :=
  ⟨h.tk.ext e h1, h.gv.ext e h2, h.kx.ext e h3, h.kd.ext e h3, h.kt.ext e h3, h.kg.ext e h3, h.ke.ext e h3⟩
theorem FR.below {O : Om} {w w' : World} {k : Nat} {b : FB} {t : Nat} {d : Int} {x : Tkm} {g : Int} (h : FR w O k b t d x g) (e : Below w.heap.size w w') : FR w' O k b t d x g :=
  ⟨h.tk.below e, h.gv.below e, h.kx.below e, h.kd.below e, h.kt.below e, h.kg.below e, h.ke.below e⟩
theorem c_FOver (X : Nat) (dv : Value) (w : World) (hc : w.cell? ⟨X, 0, none⟩ = some dv) (b : Bool) (hb : (dv = .nilFunc ∧ b = true) ∨ (∃ f a c, dv = .func f a c ∧ b = false)) :
    Calls Tryz.prog 31 #[.pointer (some ⟨X, 0, none⟩)] w fun e w' => e = .returned (.bool b) ∧ w = w' := by
  rcases hb with ⟨rfl, rfl⟩ | ⟨f, a, c, rfl, rfl⟩
  · go_enter Tryz.func31, Tryz.ntmps31
    go_wp2
    go_ret
    exact ⟨rfl, rfl⟩
  · go_enter Tryz.func31, Tryz.ntmps31
    go_wp2
    go_ret
    exact ⟨rfl, rfl⟩
/-- A flush of the epoch: the world, the answer. -/
def awFlush (d : Int) (s : AW) : AW := if epFlushOk (s.M 8) then ⟨upd s.M 8 (epFlush (s.M 8) d), s.n + 1, ⟨3, 8, s.M 8, epFlush (s.M 8) d⟩, s.tk, s.ho, s.it, s.nt⟩ else awLoad 8 s
def anFlush (e : Int) : Int := if epFlushOk e then 10 else 5
theorem awFlush_n (d : Int) (s : AW) : (awFlush d s).n = s.n + 1 := by unfold awFlush; split <;> rfl
section
variable {a b k T : Nat} {cs : List Value} {O O0 : Om} {w w0 w1 : World} {B : Wb} {f : Cf} {s : AW}
theorem ext_set {c : Nat} {j : Nat} {v : Value} (hhi : ∀ j, O j ≠ 0 → j < w.heap.size) (hT : Ob w O k c cs) (hk : 10 ≤ k) : Ext (fun t => t = k) O w O (w.setCell ⟨c, j, none⟩ v) := Ext.of_set hhi hT.o (by omega) rfl
end
set_option maxHeartbeats 2000000 in
set_option maxRecDepth 100000 in
theorem c_flush (w : World) (O : Om) (B : Wb) (f : Cf) (s : AW) (k X : Nat) (d : Int) (dv : Value) (an ep pt : Int) (hP : PW w O B f s) (hX : Ob w O k X (flCs dv an ep pt)) (hk : 10 ≤ k) (hhi : ∀ j, O j ≠ 0 → j < w.heap.size) (n0 : 0 ≤ s.n) (n1 : s.n ≤ 4611686018427387904) (d0 : -9223372036854775808 ≤ d) (d1 : d ≤ 9223372036854775807) :
    Calls Tryz.prog 73 #[.pointer (some ⟨X, 0, none⟩), .pointer (some ⟨B.p, 0, none⟩), .int .i64 d] w (RP (SX k k) w O (.tuple #[]) fun W G => PW W G B f (awFlush d s) ∧ Ob W G k X (flCs dv (anFlush (s.M 8)) (s.M 8) (s.n + 1))) := by
  have HM : Hid (Me k k w O w O B f s k X (flCs dv an ep pt)) := Lib.hid (Me.start hhi hP hX)
  have p0 := hP.wo.c0
  have hb := hP.bd 8
  have hfb := epFlush_bd d hb.1 (by omega : s.M 8 ≤ 18446744073709551615)
  have q9 := hX.c 9 _ rfl
  have f9 := hX.f 9
  have HK := Lib.hid (c_Peek 8 hP.ce (by decide) (by decide))
  clear hP hX hhi
  by_cases hok : epFlushOk (s.M 8) = true
  · have hst : awFlush d s = ⟨upd s.M 8 (epFlush (s.M 8) d), s.n + 1, ⟨3, 8, s.M 8, epFlush (s.M 8) d⟩, s.tk, s.ho, s.it, s.nt⟩ := by unfold awFlush; rw [if_pos hok]
    have han : anFlush (s.M 8) = 10 := by unfold anFlush; rw [if_pos hok]
    rw [hst, han]
    have HOK := Lib.hid hok
    clear hst han hok
    go_enter Tryz.func73, Tryz.ntmps73
    go_wp2_with fail
    refine (HK.out).mono ?_
    rintro e w' ⟨rfl, rfl⟩
    have M1 := HM.out.set hk (Nat.le_refl _) (Nat.le_refl _) 9 (.int .u64 (s.M 8)) (by simp [flCs])
    have HM1 := Lib.hid M1
    have r9 := M1.t.c 9 _ rfl
    obtain ⟨w1, hw1⟩ : ∃ w1, w1 = w.setCell ⟨X, 9, none⟩ (.int .u64 (s.M 8)) := ⟨_, rfl⟩
    have HW1 := Lib.hid hw1
    clear M1 HK hw1
    go_wp2_with fail
    refine (c_Flush (s.M 8) d _ hb.1 (by omega) d0 d1).mono ?_
    rintro e w2 ⟨rfl, hb2⟩
    rw [← HW1.out] at HM1 hb2
    have HM2 := Lib.hid (HM1.out.below hb2)
    clear p0 q9 f9 r9 hb2
    have p0 := HM2.out.p.wo.c0
    have q9 := HM2.out.t.c 9 _ rfl
    have q1 := HM2.out.t.c 1 _ rfl
    have f1 := HM2.out.t.f 1
    have q10 := HM2.out.t.c 10 _ rfl
    have f10 := HM2.out.t.f 10
    have hpl := HM2.out.p.wo.lt
    have hxl := HM2.out.t.lt
    rw [HOK.out]
    have HA := Lib.hid (c_CAS_hit (w := w2.drew) 8 (s.M 8) (epFlush (s.M 8) d) (HM2.out.drew.p.ce) (by decide) (by decide) hfb.1 (by omega) n0 n1 rfl)
    go_wp2_with fail
    go_region_held3 (fun w' => w'.cell? ⟨B.p, 0, none⟩ = some (.pointer (some ⟨B.c, 0, none⟩)) ∧ w'.cell? ⟨X, 9, none⟩ = some (.int .u64 (s.M 8))) (go_keep)
      ((go_at_call 111; refine (HA.out).mono ?_; intro e w3 hp
        obtain ⟨rfl, O3, E3, P3⟩ := PW.rp_cells HM2.out.drew.p HM2.out.drew.e.hi hp
        have M3 := HM2.out.drew.world hk E3 P3
        have r0 := M3.p.wo.c0
        have r9 := M3.t.c 9 _ rfl
        have HM3 := Lib.hid M3
        clear hp E3 P3 M3))
    all_goals
      clear p0 q9 q1 f1 q10 f10
      have q1 := HM3.out.t.c 1 _ rfl
      have f1 := HM3.out.t.f 1
      have M4 := HM3.out.set hk (Nat.le_refl _) (Nat.le_refl _) 1 (.int .u8 10) (by simp [flCs])
      have HM4 := Lib.hid M4
      have HK := Lib.hid (c_WSteps _ _ _ _ _ M4.p)
      have q10 := M4.t.c 10 _ rfl
      have f10 := M4.t.f 10
      clear M4
      go_wp2_with fail
      refine (HK.out).mono ?_
      rintro e w' ⟨rfl, rfl⟩
      go_wp2
      go_end0
      exact (HM4.out.set hk (Nat.le_refl _) (Nat.le_refl _) 10 (.int .i64 (s.n + 1)) (by simp [flCs])).rp
  · have hok : epFlushOk (s.M 8) = false := by simpa using hok
    have hst : awFlush d s = awLoad 8 s := by unfold awFlush; rw [if_neg (by simp [hok])]
    have han : anFlush (s.M 8) = 5 := by unfold anFlush; rw [if_neg (by simp [hok])]
    rw [hst, han]
    have HOK := Lib.hid hok
    clear hst han hok
    go_enter Tryz.func73, Tryz.ntmps73
    go_wp2_with fail
    refine (HK.out).mono ?_
    rintro e w' ⟨rfl, rfl⟩
    have M1 := HM.out.set hk (Nat.le_refl _) (Nat.le_refl _) 9 (.int .u64 (s.M 8)) (by simp [flCs])
    have HM1 := Lib.hid M1
    have r9 := M1.t.c 9 _ rfl
    obtain ⟨w1, hw1⟩ : ∃ w1, w1 = w.setCell ⟨X, 9, none⟩ (.int .u64 (s.M 8)) := ⟨_, rfl⟩
    have HW1 := Lib.hid hw1
    clear M1 HK hw1
    go_wp2_with fail
    refine (c_Flush (s.M 8) d _ hb.1 (by omega) d0 d1).mono ?_
    rintro e w2 ⟨rfl, hb2⟩
    rw [← HW1.out] at HM1 hb2
    have HM2 := Lib.hid (HM1.out.below hb2)
    clear p0 q9 f9 r9 hb2
    have p0 := HM2.out.p.wo.c0
    have q9 := HM2.out.t.c 9 _ rfl
    have q1 := HM2.out.t.c 1 _ rfl
    have f1 := HM2.out.t.f 1
    have q10 := HM2.out.t.c 10 _ rfl
    have f10 := HM2.out.t.f 10
    have hpl := HM2.out.p.wo.lt
    have hxl := HM2.out.t.lt
    rw [HOK.out]
    have HA := Lib.hid (c_Load (w := w2) 8 (HM2.out.p.ce) (by decide) (by decide) n0 n1)
    go_wp2_with fail
    refine (HA.out).mono ?_
    intro e w3 hp
    obtain ⟨rfl, O3, E3, P3⟩ := PW.rp_cells HM2.out.p HM2.out.e.hi hp
    have M3 := HM2.out.world hk E3 P3
    have HM3 := Lib.hid M3
    clear hp E3 P3 M3 p0 q9 q1 f1 q10 f10
    have q1 := HM3.out.t.c 1 _ rfl
    have f1 := HM3.out.t.f 1
    have M4 := HM3.out.set hk (Nat.le_refl _) (Nat.le_refl _) 1 (.int .u8 5) (by simp [flCs])
    have HM4 := Lib.hid M4
    have HK := Lib.hid (c_WSteps _ _ _ _ _ M4.p)
    have q10 := M4.t.c 10 _ rfl
    have f10 := M4.t.f 10
    clear M4
    go_wp2_with fail
    refine (HK.out).mono ?_
    rintro e w' ⟨rfl, rfl⟩
    go_wp2
    go_end0
    exact (HM4.out.set hk (Nat.le_refl _) (Nat.le_refl _) 10 (.int .i64 (s.n + 1)) (by simp [flCs])).rp
/-- A Flush as it stands. -/
structure FAt (w : World) (O : Om) (k : Nat) (b : FB) (t : Nat) (d : Int) (y : Flm) : Prop where
  x : Ob w O k b.X (flCs (flV b y.ln) y.an y.ep y.pt)
  r : FR w O k b t d y.tk (if y.ln = 0 then 0 else 1)
def flStep (t : Nat) (d : Int) (s : AW) (y : Flm) : AW × Flm :=
  if y.ln = 1 then ((tkStep t s y.tk).1, ⟨if (tkStep t s y.tk).2.ln = 0 then 2 else 1, (tkStep t s y.tk).2, y.an, y.ep, y.pt⟩)
  else if y.ln = 2 then (awFlush d s, ⟨3, y.tk, anFlush (s.M 8), s.M 8, s.n + 1⟩)
  else if y.ln = 3 then (awGive s, ⟨0, y.tk, y.an, y.ep, y.pt⟩)
  else (s, y)
def FPost (w : World) (O : Om) (B : Wb) (f : Cf) (k : Nat) (b : FB) (t : Nat) (d : Int) (z : AW × Flm) (v : Value) (e : Ending) (w' : World) : Prop :=
  RP (SX k (k + 3)) w O v (fun W G => PW W G B f z.1 ∧ FAt W G k b t d z.2) e w'
section
variable {w : World} {O : Om} {B : Wb} {f : Cf} {s : AW} {k t : Nat} {b : FB} {d : Int}
set_option maxHeartbeats 1000000 in
set_option maxRecDepth 100000 in
theorem c_takes (tk : Tkm) (an ep pt : Int) (hP : PW w O B f s) (hX : FAt w O k b t d ⟨1, tk, an, ep, pt⟩) (hx : tk.ln = 1 ∨ tk.ln = 2) (hk : 10 ≤ k) (ht : t < 64) (hhi : ∀ j, O j ≠ 0 → j < w.heap.size) (n0 : 0 ≤ s.n) (n1 : s.n ≤ 4611686018427387904) :
    Calls Tryz.prog 70 #[.pointer (some ⟨B.p, 0, none⟩), .pointer (some ⟨b.bt, 0, none⟩), .pointer (some ⟨b.bx, 0, none⟩), .pointer (some ⟨b.bd, 0, none⟩), .pointer (some ⟨b.be, 0, none⟩)] w
      (FPost w O B f k b t d (flStep t d s ⟨1, tk, an, ep, pt⟩) (.tuple #[])) := by
  have HC := Lib.hid (c_TakeStep w O B f s (k + 1) b.T t tk hP hX.r.tk hx (by omega) ht hhi n0 n1)
  have HX := Lib.hid hX
  have HH := Lib.hid hhi
  have qt := hX.r.kt.c 0 _ rfl
  have hst : flStep t d s ⟨1, tk, an, ep, pt⟩ = ((tkStep t s tk).1, ⟨if (tkStep t s tk).2.ln = 0 then 2 else 1, (tkStep t s tk).2, an, ep, pt⟩) := by unfold flStep; rw [if_pos rfl]
  rw [hst]
  obtain ⟨z, hz⟩ : ∃ z, z = tkStep t s tk := ⟨_, rfl⟩
  rw [← hz] at HC ⊢
  clear hP hX hhi hst hz
  obtain ⟨s1, x1⟩ := z
  by_cases h0 : x1.ln = 0
  · dsimp only at HC ⊢
    rw [if_pos h0]
    have hd : decide (x1.ln = 0) = true := by simp [h0]
    rw [hd] at HC
    have H0 := Lib.hid h0
    clear hd h0
    go_enter Tryz.func70, Tryz.ntmps70
    go_wp2_with fail
    refine (HC.out).mono ?_
    rintro e w1 ⟨rfl, O1, E1, P1, T1⟩
    have X1 := HX.out.x.ext E1 (SX.not (by omega) (by omega))
    have M1 : Me k (k + 3) w O w1 O1 B f s1 k b.X _ := ⟨E1.mono fun t _ h => SX.mono (by omega) (by omega) h, P1, X1⟩
    have R1 : FR w1 O1 k b t d x1 1 := ⟨T1, HX.out.r.gv.ext E1 (SX.not (by omega) (by omega)), HX.out.r.kx.ext E1 (SX.not (by omega) (by omega)), HX.out.r.kd.ext E1 (SX.not (by omega) (by omega)), HX.out.r.kt.ext E1 (SX.not (by omega) (by omega)), HX.out.r.kg.ext E1 (SX.not (by omega) (by omega)), HX.out.r.ke.ext E1 (SX.not (by omega) (by omega))⟩
    have qx := R1.kx.c 0 _ rfl
    have q0 := M1.t.c 0 _ rfl
    have f0 := M1.t.f 0
    have HM := Lib.hid M1
    have HR := Lib.hid R1
    clear E1 P1 T1 X1 M1 R1 qt
    go_wp2
    go_end0
    have M2 := HM.out.set hk (Nat.le_refl _) (by omega) 0 (FLUSHV b) (by simp [flCs])
    exact ⟨rfl, O1, M2.e, M2.p, M2.t, HR.out.ext (ext_set HM.out.e.hi HM.out.t hk) (by omega) (by omega) (by omega)⟩
  · dsimp only at HC ⊢
    rw [if_neg h0]
    have hd : decide (x1.ln = 0) = false := by simp [h0]
    rw [hd] at HC
    clear hd h0
    go_enter Tryz.func70, Tryz.ntmps70
    go_wp2_with fail
    refine (HC.out).mono ?_
    rintro e w1 ⟨rfl, O1, E1, P1, T1⟩
    have X1 := HX.out.x.ext E1 (SX.not (by omega) (by omega))
    have M1 : Me k (k + 3) w O w1 O1 B f s1 k b.X _ := ⟨E1.mono fun t _ h => SX.mono (by omega) (by omega) h, P1, X1⟩
    have R1 : FR w1 O1 k b t d x1 1 := ⟨T1, HX.out.r.gv.ext E1 (SX.not (by omega) (by omega)), HX.out.r.kx.ext E1 (SX.not (by omega) (by omega)), HX.out.r.kd.ext E1 (SX.not (by omega) (by omega)), HX.out.r.kt.ext E1 (SX.not (by omega) (by omega)), HX.out.r.kg.ext E1 (SX.not (by omega) (by omega)), HX.out.r.ke.ext E1 (SX.not (by omega) (by omega))⟩
    have HM := Lib.hid M1
    have HR := Lib.hid R1
    clear E1 P1 T1 X1 M1 R1 qt
    go_wp2
    go_end0
    exact ⟨rfl, O1, HM.out.e, HM.out.p, HM.out.t, HR.out⟩
set_option maxHeartbeats 1000000 in
set_option maxRecDepth 100000 in
theorem c_flushes (tk : Tkm) (an ep pt : Int) (hP : PW w O B f s) (hX : FAt w O k b t d ⟨2, tk, an, ep, pt⟩) (hk : 10 ≤ k) (hhi : ∀ j, O j ≠ 0 → j < w.heap.size) (n0 : 0 ≤ s.n) (n1 : s.n ≤ 4611686018427387904) (d0 : -9223372036854775808 ≤ d) (d1 : d ≤ 9223372036854775807) :
    Calls Tryz.prog 72 #[.pointer (some ⟨B.p, 0, none⟩), .pointer (some ⟨b.bx, 0, none⟩), .pointer (some ⟨b.bd, 0, none⟩), .pointer (some ⟨b.be, 0, none⟩)] w
      (FPost w O B f k b t d (flStep t d s ⟨2, tk, an, ep, pt⟩) (.tuple #[])) := by
  have HC := Lib.hid (c_flush w O B f s k b.X d _ an ep pt hP hX.x hk hhi n0 n1 d0 d1)
  have HX := Lib.hid hX
  have qx := hX.r.kx.c 0 _ rfl
  have qd := hX.r.kd.c 0 _ rfl
  have hst : flStep t d s ⟨2, tk, an, ep, pt⟩ = (awFlush d s, ⟨3, tk, anFlush (s.M 8), s.M 8, s.n + 1⟩) := by unfold flStep; rw [if_neg (by simp), if_pos rfl]
  rw [hst]
  clear hP hX hhi hst
  go_enter Tryz.func72, Tryz.ntmps72
  go_wp2_with fail
  refine (HC.out).mono ?_
  rintro e w1 ⟨rfl, O1, E1, P1, X1⟩
  have M1 : Me k (k + 3) w O w1 O1 B f _ k b.X _ := ⟨E1.mono fun t _ h => SX.mono (by omega) (by omega) h, P1, X1⟩
  have R1 := HX.out.r.ext E1 (SX.not (by omega) (by omega)) (SX.not (by omega) (by omega)) (SX.not (by omega) (by omega))
  clear qx qd
  have qx := R1.kx.c 0 _ rfl
  have qe := R1.ke.c 0 _ rfl
  have q0 := M1.t.c 0 _ rfl
  have f0 := M1.t.f 0
  unfold ENDSV at qe
  have HM := Lib.hid M1
  have HR := Lib.hid R1
  clear E1 P1 X1 M1 R1 HC
  go_wp2
  go_end0
  have M2 := HM.out.set hk (Nat.le_refl _) (by omega) 0 (ENDSV b) (by simp [flCs])
  exact ⟨rfl, O1, M2.e, M2.p, M2.t, HR.out.ext (ext_set HM.out.e.hi HM.out.t hk) (by omega) (by omega) (by omega)⟩
set_option maxHeartbeats 1000000 in
set_option maxRecDepth 100000 in
theorem c_ends (tk : Tkm) (an ep pt : Int) (hP : PW w O B f s) (hX : FAt w O k b t d ⟨3, tk, an, ep, pt⟩) (hk : 10 ≤ k) (hhi : ∀ j, O j ≠ 0 → j < w.heap.size) (n0 : 0 ≤ s.n) (n1 : s.n ≤ 4611686018427387904) :
    Calls Tryz.prog 68 #[.pointer (some ⟨B.p, 0, none⟩), .pointer (some ⟨b.bg, 0, none⟩), .pointer (some ⟨b.bx, 0, none⟩)] w
      (FPost w O B f k b t d (flStep t d s ⟨3, tk, an, ep, pt⟩) (.tuple #[])) := by
  have HC := Lib.hid (c_GiveStep w O B f s (k + 2) b.G hP hX.r.gv (by omega) hhi n0 n1)
  have HX := Lib.hid hX
  have qg := hX.r.kg.c 0 _ rfl
  have hst : flStep t d s ⟨3, tk, an, ep, pt⟩ = (awGive s, ⟨0, tk, an, ep, pt⟩) := by unfold flStep; rw [if_neg (by simp), if_neg (by simp), if_pos rfl]
  rw [hst]
  clear hP hX hhi hst
  go_enter Tryz.func68, Tryz.ntmps68
  go_wp2_with fail
  refine (HC.out).mono ?_
  rintro e w1 ⟨rfl, O1, E1, P1, G1⟩
  have X1 := HX.out.x.ext E1 (SX.not (by omega) (by omega))
  have M1 : Me k (k + 3) w O w1 O1 B f _ k b.X _ := ⟨E1.mono fun t _ h => SX.mono (by omega) (by omega) h, P1, X1⟩
  have R1 : FR w1 O1 k b t d tk 0 := ⟨HX.out.r.tk.ext E1 (SX.not (by omega) (by omega)), G1, HX.out.r.kx.ext E1 (SX.not (by omega) (by omega)), HX.out.r.kd.ext E1 (SX.not (by omega) (by omega)), HX.out.r.kt.ext E1 (SX.not (by omega) (by omega)), HX.out.r.kg.ext E1 (SX.not (by omega) (by omega)), HX.out.r.ke.ext E1 (SX.not (by omega) (by omega))⟩
  clear qg
  have qx := R1.kx.c 0 _ rfl
  have q0 := M1.t.c 0 _ rfl
  have f0 := M1.t.f 0
  have HM := Lib.hid M1
  have HR := Lib.hid R1
  clear E1 P1 X1 G1 M1 R1 HC
  go_wp2
  go_end0
  have M2 := HM.out.set hk (Nat.le_refl _) (by omega) 0 .nilFunc (by simp [flCs])
  exact ⟨rfl, O1, M2.e, M2.p, M2.t, HR.out.ext (ext_set HM.out.e.hi HM.out.t hk) (by omega) (by omega) (by omega)⟩
theorem flV_some {b : FB} {ln : Nat} (h : ln = 1 ∨ ln = 2 ∨ ln = 3) : ∃ f a c, flV b ln = .func f a c := by
  rcases h with rfl | rfl | rfl
  · exact ⟨_, _, _, rfl⟩
  · exact ⟨_, _, _, rfl⟩
  · exact ⟨_, _, _, rfl⟩
theorem flOver (b : FB) {ln : Nat} (h : ln ≤ 3) : (flV b ln = .nilFunc ∧ decide (ln = 0) = true) ∨ (∃ f a c, flV b ln = .func f a c ∧ decide (ln = 0) = false) := by
  by_cases h0 : ln = 0
  · subst h0; exact .inl ⟨rfl, rfl⟩
  · obtain ⟨f, a, c, h1⟩ := flV_some (b := b) (show ln = 1 ∨ ln = 2 ∨ ln = 3 by omega)
    exact .inr ⟨f, a, c, h1, by simp [h0]⟩
/-- May a Flush stand so? -/
def Flm.ok (y : Flm) : Prop := y.ln ≤ 3 ∧ (y.ln = 1 → y.tk.ln = 1 ∨ y.tk.ln = 2)
theorem tkStep_ln {t : Nat} {s : AW} {x : Tkm} (h : x.ln = 1 ∨ x.ln = 2) : (tkStep t s x).2.ln = 0 ∨ (tkStep t s x).2.ln = 2 := by
  unfold tkStep
  rcases h with h | h
  · rw [if_pos h]; exact .inr rfl
  · rw [if_neg (by omega), if_pos h]
    split
    · exact .inl rfl
    · exact .inr h
theorem flStep_ok {y : Flm} (h : y.ok) : (flStep t d s y).2.ok := by
  obtain ⟨h1, h2⟩ := h
  unfold flStep
  split
  · rename_i h3
    refine ⟨?_, ?_⟩
    · dsimp only; split <;> omega
    · dsimp only
      intro h4
      rcases tkStep_ln (t := t) (s := s) (h2 h3) with h5 | h5
      · rw [if_pos h5] at h4; omega
      · exact .inr h5
  · split
    · exact ⟨by show 3 ≤ 3; omega, fun h => by have h4 : (3 : Nat) = 1 := h; omega⟩
    · split
      · exact ⟨by show 0 ≤ 3; omega, fun h => by have h4 : (0 : Nat) = 1 := h; omega⟩
      · exact ⟨h1, h2⟩
set_option maxHeartbeats 1000000 in
set_option maxRecDepth 100000 in
theorem c_FStep (y : Flm) (hP : PW w O B f s) (hX : FAt w O k b t d y) (hy : y.ok) (hk : 10 ≤ k) (ht : t < 64) (hhi : ∀ j, O j ≠ 0 → j < w.heap.size) (n0 : 0 ≤ s.n) (n1 : s.n ≤ 4611686018427387904) (d0 : -9223372036854775808 ≤ d) (d1 : d ≤ 9223372036854775807) :
    Calls Tryz.prog 29 #[.pointer (some ⟨b.X, 0, none⟩), .pointer (some ⟨B.p, 0, none⟩)] w
      (FPost w O B f k b t d (flStep t d s y) (.bool (decide ((flStep t d s y).2.ln = 0)))) := by
  obtain ⟨ln, tk, an, ep, pt⟩ := y
  have h0 : w.cell? ⟨b.X, 0, none⟩ = some (flV b ln) := hX.x.c 0 _ rfl
  have hok2 := (flStep_ok (s := s) (t := t) (d := d) hy).1
  have h3 : ln ≤ 3 := hy.1
  by_cases hz : ln = 0
  · subst hz
    have hst : flStep t d s ⟨0, tk, an, ep, pt⟩ = (s, ⟨0, tk, an, ep, pt⟩) := rfl
    rw [hst]
    have h0 : w.cell? ⟨b.X, 0, none⟩ = some .nilFunc := h0
    have HP := Lib.hid hP
    have HX := Lib.hid hX
    have HH := Lib.hid hhi
    clear hP hX hhi hst hok2 hy
    go_enter Tryz.func29, Tryz.ntmps29
    go_wp2_with fail
    refine (c_FOver b.X _ _ h0 true (.inl ⟨rfl, rfl⟩)).mono ?_
    rintro e w' ⟨rfl, rfl⟩
    go_wp2_with fail
    refine (c_FOver b.X _ _ h0 true (.inl ⟨rfl, rfl⟩)).mono ?_
    rintro e w' ⟨rfl, rfl⟩
    go_wp2
    go_ret
    exact ⟨rfl, O, Ext.refl HH.out, HP.out, HX.out⟩
  · obtain ⟨z, hzz⟩ : ∃ z, z = flStep t d s ⟨ln, tk, an, ep, pt⟩ := ⟨_, rfl⟩
    have hcall : ∃ K caps, flV b ln = .func (.func K) #[] caps ∧ (∀ args W, (callFunc K args).run Tryz.prog W = .ok (.enter K args) W) ∧ Calls Tryz.prog K (#[.pointer (some ⟨B.p, 0, none⟩)] ++ caps) w (FPost w O B f k b t d z (.tuple #[])) := by
      rw [hzz]
      rcases (show ln = 1 ∨ ln = 2 ∨ ln = 3 by omega) with h | h | h
      · subst h
        exact ⟨_, _, rfl, run_enter Tryz.func70 (by kernel_rfl) (by kernel_rfl), c_takes tk an ep pt hP hX (hy.2 rfl) hk ht hhi n0 n1⟩
      · subst h
        exact ⟨_, _, rfl, run_enter Tryz.func72 (by kernel_rfl) (by kernel_rfl), c_flushes tk an ep pt hP hX hk hhi n0 n1 d0 d1⟩
      · subst h
        exact ⟨_, _, rfl, run_enter Tryz.func68 (by kernel_rfl) (by kernel_rfl), c_ends tk an ep pt hP hX hk hhi n0 n1⟩
    rw [← hzz] at hok2 ⊢
    obtain ⟨K, caps, hv, hK, HC⟩ := hcall
    rw [hv] at h0
    have HCC := Lib.hid HC
    have Hok := Lib.hid hok2
    clear hP hX hhi hy hzz HC hv hok2
    go_enter Tryz.func29, Tryz.ntmps29
    go_wp2_with fail
    refine (c_FOver b.X _ _ h0 false (.inr ⟨_, _, _, rfl, rfl⟩)).mono ?_
    rintro e w' ⟨rfl, rfl⟩
    go_wp2_with fail
    refine (HCC.out).mono ?_
    rintro e w1 ⟨rfl, O1, E1, P1, X1⟩
    have r0 : w1.cell? ⟨b.X, 0, none⟩ = some (flV b z.2.ln) := X1.x.c 0 _ rfl
    have HE := Lib.hid (And.intro E1 (And.intro P1 X1))
    clear E1 P1 X1 h0 HCC
    go_wp2_with fail
    refine (c_FOver b.X _ _ r0 _ (flOver b Hok.out)).mono ?_
    rintro e w' ⟨rfl, rfl⟩
    go_wp2
    go_ret
    exact ⟨rfl, O1, HE.out⟩
end
end Go.Proofs.YtijifjiehldcaaaGreat
