/- Layer 28: the program's Get: what follows each of its parts. -/
import Derived.Test.YthpedifjclofoaaGreatGt1
import Derived.Test.YthpedifjclofoaaGreatSeP
import Derived.Test.YthpedifjclofoaaGreatSeR
namespace Go.Proofs.YthpedifjclofoaaGreat
set_option linter.unusedSimpArgs false
open Go.RowKit
set_option linter.unusedVariables false
section
variable (v : Value) (w : World)
@[go_sem] theorem ta_ll : (Instr.typeAssert (.iface 114 v) 109 114 true).run Tryz.prog w = .ok (.tuple #[v, .bool true]) w := by kernel_rfl
@[go_sem] theorem ta_tl : (Instr.typeAssert (.iface 136 v) 109 114 true).run Tryz.prog w = .ok (.tuple #[.pointer none, .bool false]) w := by kernel_rfl
@[go_sem] theorem ta_tt : (Instr.typeAssert (.iface 136 v) 109 136 true).run Tryz.prog w = .ok (.tuple #[v, .bool true]) w := by kernel_rfl
@[go_sem] theorem ta_fl : (Instr.typeAssert (.iface 242 v) 109 114 true).run Tryz.prog w = .ok (.tuple #[.pointer none, .bool false]) w := by kernel_rfl
@[go_sem] theorem ta_ft : (Instr.typeAssert (.iface 242 v) 109 136 true).run Tryz.prog w = .ok (.tuple #[.pointer none, .bool false]) w := by kernel_rfl
@[go_sem] theorem ta_ff : (Instr.typeAssert (.iface 242 v) 109 242 true).run Tryz.prog w = .ok (.tuple #[v, .bool true]) w := by kernel_rfl
@[go_sem] theorem ta_pl : (Instr.typeAssert (.iface 256 v) 109 114 true).run Tryz.prog w = .ok (.tuple #[.pointer none, .bool false]) w := by kernel_rfl
@[go_sem] theorem ta_pt : (Instr.typeAssert (.iface 256 v) 109 136 true).run Tryz.prog w = .ok (.tuple #[.pointer none, .bool false]) w := by kernel_rfl
@[go_sem] theorem ta_pf : (Instr.typeAssert (.iface 256 v) 109 242 true).run Tryz.prog w = .ok (.tuple #[.pointer none, .bool false]) w := by kernel_rfl
@[go_sem] theorem ta_pp : (Instr.typeAssert (.iface 256 v) 109 256 true).run Tryz.prog w = .ok (.tuple #[v, .bool true]) w := by kernel_rfl
@[go_sem] theorem ta_gl : (Instr.typeAssert (.iface 257 v) 109 114 true).run Tryz.prog w = .ok (.tuple #[.pointer none, .bool false]) w := by kernel_rfl
@[go_sem] theorem ta_gt : (Instr.typeAssert (.iface 257 v) 109 136 true).run Tryz.prog w = .ok (.tuple #[.pointer none, .bool false]) w := by kernel_rfl
@[go_sem] theorem ta_gf : (Instr.typeAssert (.iface 257 v) 109 242 true).run Tryz.prog w = .ok (.tuple #[.pointer none, .bool false]) w := by kernel_rfl
@[go_sem] theorem ta_gp : (Instr.typeAssert (.iface 257 v) 109 256 true).run Tryz.prog w = .ok (.tuple #[.agg #[.pointer none], .bool false]) w := by kernel_rfl
@[go_sem] theorem ta_gg : (Instr.typeAssert (.iface 257 v) 109 257 true).run Tryz.prog w = .ok (.tuple #[v, .bool true]) w := by kernel_rfl
@[go_sem] theorem ta_ul : (Instr.typeAssert (.iface 291 v) 109 114 true).run Tryz.prog w = .ok (.tuple #[.pointer none, .bool false]) w := by kernel_rfl
@[go_sem] theorem ta_ut : (Instr.typeAssert (.iface 291 v) 109 136 true).run Tryz.prog w = .ok (.tuple #[.pointer none, .bool false]) w := by kernel_rfl
@[go_sem] theorem ta_uf : (Instr.typeAssert (.iface 291 v) 109 242 true).run Tryz.prog w = .ok (.tuple #[.pointer none, .bool false]) w := by kernel_rfl
@[go_sem] theorem ta_up : (Instr.typeAssert (.iface 291 v) 109 256 true).run Tryz.prog w = .ok (.tuple #[.agg #[.pointer none], .bool false]) w := by kernel_rfl
@[go_sem] theorem ta_ug : (Instr.typeAssert (.iface 291 v) 109 257 true).run Tryz.prog w = .ok (.tuple #[.pointer none, .bool false]) w := by kernel_rfl
end
/-- What a Get holds at its line. -/
def GtL (w : World) (O : Om) (k X t : Nat) (key : ByteArray) (z : Gtm) (pv : Value) : Nat → Prop
  | 0 => pv = .nilIface
  | 1 => pv = .nilIface
  | 2 => ∃ L, pv = .iface 114 (PTR L) ∧ LkAt w O (k + 1) L key z.lk
  | 3 => ∃ T, pv = .iface 136 (PTR T) ∧ Ob w O (k + 5) T (tkCs T t z.tk)
  | 4 => ∃ F, pv = .iface 242 (PTR F) ∧ FdAt w O (k + 6) F key z.fd
  | 5 => pv = .iface 256 (.agg #[PTR X])
  | 6 => ∃ V, pv = .iface 257 (PTR V) ∧ Ob w O (k + 9) V [.int .i64 1]
  | 7 => ∃ x, pv = .iface 291 (PTR x) ∧ TAt w x z.tc ∧ O x = k + 10
  | _ => False
/-- A Get in block X. -/
structure GtAt (w : World) (O : Om) (k X t : Nat) (key : ByteArray) (z : Gtm) : Prop where
  ex : ∃ pv, Ob w O k X (gtCs t key (z.ln == 1) pv z) ∧ GtL w O k X t key z pv z.ln
theorem GtAt.idle {w : World} {O : Om} {k X t : Nat} {key : ByteArray} {z : Gtm} (h : GtAt w O k X t key z) : GIdle w X (z.ln == 0) := by
  obtain ⟨pv, ho, hl⟩ := h.ex
  have q2 : w.cell? ⟨X, 2, none⟩ = some (.bool (z.ln == 1)) := ho.c 2 _ rfl
  have q3 : w.cell? ⟨X, 3, none⟩ = some pv := ho.c 3 _ rfl
  obtain ⟨ln, lk, tk, fd, tc, ref, ep, pt, an, im⟩ := z
  dsimp only at hl q2 ⊢
  match ln, hl with
  | 0, hl => rw [show pv = .nilIface from hl] at q3; exact .inl ⟨rfl, q2, q3⟩
  | 1, hl => exact .inr ⟨rfl, .inl q2⟩
  | 2, hl => obtain ⟨T, rfl, -⟩ := hl; exact .inr ⟨rfl, .inr ⟨q2, _, _, q3⟩⟩
  | 3, hl => obtain ⟨T, rfl, -⟩ := hl; exact .inr ⟨rfl, .inr ⟨q2, _, _, q3⟩⟩
  | 4, hl => obtain ⟨T, rfl, -⟩ := hl; exact .inr ⟨rfl, .inr ⟨q2, _, _, q3⟩⟩
  | 5, hl => rw [show pv = _ from hl] at q3; exact .inr ⟨rfl, .inr ⟨q2, _, _, q3⟩⟩
  | 6, hl => obtain ⟨T, rfl, -⟩ := hl; exact .inr ⟨rfl, .inr ⟨q2, _, _, q3⟩⟩
  | 7, hl => obtain ⟨T, rfl, -⟩ := hl; exact .inr ⟨rfl, .inr ⟨q2, _, _, q3⟩⟩
/-- What a step comes to. -/
def GtR (k : Nat) (w : World) (O : Om) (B : Wb) (f : Cf) (X t : Nat) (key : ByteArray) (y : AW × Gtm) (w' : World) : Prop := ∃ G, Ext (SX k (k + 12)) O w G w' ∧ PW w' G B f y.1 ∧ GtAt w' G k X t key y.2
section
variable {w w0 : World} {O O0 : Om} {B : Wb} {f : Cf} {s : AW} {k X t : Nat} {key : ByteArray} {pv : Value} {z : Gtm}
set_option maxRecDepth 100000 in
theorem c_LkFails {k L : Nat} {l : Lkm} (h : LkAt w O k L key l) : Calls Tryz.prog 139 #[.pointer (some ⟨L, 0, none⟩)] w fun e w' => e = .returned (.bool l.fl) ∧ w = w' := by
  obtain ⟨av, vv, sv, ho, -⟩ := h.ex
  have q12 := ho.c 12 _ rfl
  go_enter Tryz.func139, Tryz.ntmps139
  go_wp2
  go_ret
  exact ⟨rfl, rfl⟩
set_option maxHeartbeats 4000000 in
set_option maxRecDepth 100000 in
theorem c_GtNext2f {L : Nat} {l : Lkm} (M : Me k (k + 12) w0 O0 w O B f s k X (gtCs t key false (.iface 114 (PTR L)) z)) (hL : LkAt w O (k + 1) L key l) (hf : l.fl = true) (ht : t < 64) (hk : 10 ≤ k) :
    Calls Tryz.prog 89 #[.pointer (some ⟨X, 0, none⟩), .pointer (some ⟨B.p, 0, none⟩)] w fun e w' => e = .returned (.tuple #[]) ∧ GtR k w0 O0 B f X t key (s, { z with lk := l, ln := 3, tk := tk0 }) w' := by
  have HF := Lib.hid (c_LkFails hL)
  rw [hf] at HF
  have HNT := Lib.hid (c_NewTakeE t w O (k + 5) (by omega) (by omega) (by omega) M.e.hi)
  have q0 := M.t.c 0 _ rfl
  have q3 := M.t.c 3 _ rfl
  unfold PTR at q3
  have HM := Lib.hid M
  clear M hL hf
  go_enter Tryz.func89, Tryz.ntmps89
  go_wp2_with fail
  refine HF.out.mono ?_
  rintro e w' ⟨rfl, rfl⟩
  go_wp2_with fail
  refine HNT.out.mono ?_
  rintro e w1 ⟨T, rfl, G1, e1, t1⟩
  have m1 := HM.out.oth hk e1 (by intro t ht; omega)
  have f3 := m1.t.f 3
  have q3 := m1.t.c 3 _ rfl
  have m2 := m1.set hk (by omega) (by omega) 3 (.iface 136 (PTR T)) (by simp [gtCs])
  have t2 := t1.ext (Ext.of_set (j := 3) (v := .iface 136 (PTR T)) (S := fun t => t = k) m1.e.hi m1.t.o (by omega) rfl) (by omega)
  have HQ := Lib.hid (And.intro m2 t2)
  unfold PTR at HQ
  clear m1 m2 t2 e1 t1 HM
  go_wp2_with fail
  refine bodyPost_ret (v := .tuple #[]) (by simp [results, Tryz.results89, go_sem]) rfl ?_
  exact ⟨rfl, G1, HQ.out.1.e, HQ.out.1.p, _, HQ.out.1.t, T, rfl, HQ.out.2⟩
theorem gt_of_tells {w' : World} {z' : Gtm} (h : ∃ G pv', Me k (k + 12) w0 O0 w' G B f s k X (gtCs t key false pv' z') ∧ ((z'.ln = 0 ∧ pv' = .nilIface) ∨ (z'.ln = 7 ∧ ∃ x, pv' = .iface 291 (.pointer (some ⟨x, 0, none⟩)) ∧ TAt w' x z'.tc ∧ G x = k + 10))) : GtR k w0 O0 B f X t key (s, z') w' := by
  obtain ⟨G, pv', m, h⟩ := h
  rcases h with ⟨e, rfl⟩ | ⟨e, x, rfl, h1, h2⟩
  · exact ⟨G, m.e, m.p, _, by dsimp only; rw [e]; exact m.t, by dsimp only; rw [e]; rfl⟩
  · exact ⟨G, m.e, m.p, _, by dsimp only; rw [e]; exact m.t, by dsimp only; rw [e]; exact ⟨x, rfl, h1, h2⟩⟩
set_option maxHeartbeats 4000000 in
set_option maxRecDepth 100000 in
theorem c_GtNext2 {L : Nat} {l : Lkm} (M : Me k (k + 12) w0 O0 w O B f s k X (gtCs t key false (.iface 114 (PTR L)) z)) (hL : LkAt w O (k + 1) L key l) (hn : l.ln = 0) (hf : l.fl = false) (hil : s.it.length ≤ 1000000) (hr : -9223372036854775808 ≤ l.ref ∧ l.ref ≤ 9223372036854775807) (hep : 0 ≤ l.ep ∧ l.ep ≤ 18446744073709551615) (hk : 10 ≤ k) :
    Calls Tryz.prog 89 #[.pointer (some ⟨X, 0, none⟩), .pointer (some ⟨B.p, 0, none⟩)] w fun e w' => e = .returned (.tuple #[]) ∧ GtR k w0 O0 B f X t key (s, gtTells s.it { z with lk := l, ref := l.ref, ep := l.ep, pt := l.pt }) w' := by
  have HF := Lib.hid (c_LkFails hL)
  rw [hf] at HF
  have HG := Lib.hid (c_LkGot0 hL hn hf)
  have q3 := M.t.c 3 _ rfl
  unfold PTR at q3
  have HM := Lib.hid M
  have HTE := Lib.hid (fun (W : World) (m : Me k (k + 12) w0 O0 W O B f s k X (gtCs t key false (.iface 114 (PTR L)) { z with lk := l, ref := l.ref, ep := l.ep, pt := l.pt })) => c_GtTells m hil hr hep hk)
  obtain ⟨rf, hrf⟩ : ∃ r, r = l.ref := ⟨_, rfl⟩
  obtain ⟨ep, hep'⟩ : ∃ r, r = l.ep := ⟨_, rfl⟩
  obtain ⟨pt, hpt⟩ : ∃ r, r = l.pt := ⟨_, rfl⟩
  rw [← hrf, ← hep', ← hpt] at HG HTE
  rw [← hrf, ← hep', ← hpt]
  clear M hL hn hf hil hr hep hrf hep' hpt
  go_enter Tryz.func89, Tryz.ntmps89
  go_wp2_with fail
  refine HF.out.mono ?_
  rintro e w' ⟨rfl, rfl⟩
  go_wp2_with fail
  refine HG.out.mono ?_
  rintro e w1 ⟨rfl, hb1⟩
  have m1 := HM.out.below hb1
  have f4 := m1.t.f 4
  have f5 := m1.t.f 5
  have f6 := m1.t.f 6
  have q4 := m1.t.c 4 _ rfl
  have q5 := m1.t.c 5 _ rfl
  have q6 := m1.t.c 6 _ rfl
  have m2 := ((m1.set hk (by omega) (by omega) 4 (.int .i64 rf) (by simp [gtCs, gtTl])).set hk (by omega) (by omega) 5 (.int .u64 ep) (by simp [gtCs, gtTl])).set hk (by omega) (by omega) 6 (.int .i64 pt) (by simp [gtCs, gtTl])
  have HT2 := Lib.hid (HTE.out _ m2)
  clear m1 m2 hb1 HM HTE q3
  go_wp2_with fail
  refine HT2.out.mono ?_
  rintro e w2 ⟨rfl, h⟩
  have HQ := Lib.hid (gt_of_tells h)
  clear h
  go_wp2_with fail
  go_end0
  exact ⟨rfl, HQ.out⟩
set_option maxHeartbeats 4000000 in
set_option maxRecDepth 100000 in
theorem c_GtNext3 {T : Nat} (M : Me k (k + 12) w0 O0 w O B f s k X (gtCs t key false (.iface 136 (PTR T)) z)) (hk : 10 ≤ k) :
    Calls Tryz.prog 89 #[.pointer (some ⟨X, 0, none⟩), .pointer (some ⟨B.p, 0, none⟩)] w fun e w' => e = .returned (.tuple #[]) ∧ GtR k w0 O0 B f X t key (awNote 7 0 0 0 0 0 s, { z with ln := 4, fd := fdNew }) w' := by
  have HN := Lib.hid (c_WNote 7 0 0 0 0 0 M.p M.e.hi (by decide) (by decide))
  have q3 := M.t.c 3 _ rfl
  unfold PTR at q3
  have HM := Lib.hid M
  clear M
  go_enter Tryz.func89, Tryz.ntmps89
  go_wp2_with fail
  refine HN.out.mono ?_
  rintro e w1 ⟨rfl, G1, e1, p1⟩
  have m1 := HM.out.world hk e1 p1
  have q1 := m1.t.c 1 _ rfl
  have HNF := Lib.hid (c_NewFind (w := w1) (O := G1) (k := k + 6) (key := key) (by omega) m1.e.hi)
  have HM1 := Lib.hid m1
  clear e1 p1 m1 HM
  go_wp2_with fail
  refine HNF.out.mono ?_
  rintro e w2 ⟨F, rfl, G2, e2, t2⟩
  have m2 := HM1.out.oth hk e2 (by intro t ht; omega)
  have f3 := m2.t.f 3
  have q3 := m2.t.c 3 _ rfl
  have m3 := m2.set hk (by omega) (by omega) 3 (.iface 242 (PTR F)) (by simp [gtCs])
  have t3 := t2.ext (Ext.of_set (j := 3) (v := .iface 242 (PTR F)) (S := fun t => t = k) m2.e.hi m2.t.o (by omega) rfl) (by omega) (by omega)
  have HQ := Lib.hid (And.intro m3 t3)
  unfold PTR at HQ
  clear m2 m3 t3 e2 t2 HM1
  go_wp2_with fail
  go_end0
  exact ⟨rfl, G2, HQ.out.1.e, HQ.out.1.p, _, HQ.out.1.t, F, rfl, HQ.out.2⟩
set_option maxHeartbeats 4000000 in
set_option maxRecDepth 100000 in
theorem c_GtNext4 {F : Nat} {y : Fdm} (M : Me k (k + 12) w0 O0 w O B f s k X (gtCs t key false (.iface 242 (PTR F)) z)) (hF : FdAt w O (k + 6) F key y) (hk : 10 ≤ k) :
    Calls Tryz.prog 89 #[.pointer (some ⟨X, 0, none⟩), .pointer (some ⟨B.p, 0, none⟩)] w fun e w' => e = .returned (.tuple #[]) ∧ GtR k w0 O0 B f X t key (s, { z with fd := y, ref := y.ref, ln := 5 }) w' := by
  have HG := Lib.hid (c_FdGot hF)
  have q3 := M.t.c 3 _ rfl
  unfold PTR at q3
  have HM := Lib.hid M
  obtain ⟨rf, hrf⟩ : ∃ r, r = y.ref := ⟨_, rfl⟩
  rw [← hrf] at HG
  rw [← hrf]
  clear M hF hrf
  go_enter Tryz.func89, Tryz.ntmps89
  go_wp2_with fail
  refine HG.out.mono ?_
  rintro e w1 ⟨rfl, hb1⟩
  have m1 := HM.out.below hb1
  have f4 := m1.t.f 4
  have f3 := m1.t.f 3
  have q4 := m1.t.c 4 _ rfl
  have q3 := m1.t.c 3 _ rfl
  have m2 := (m1.set hk (by omega) (by omega) 4 (.int .i64 rf) (by simp [gtCs, gtTl])).set hk (by omega) (by omega) 3 (.iface 256 (.agg #[.pointer (some ⟨X, 0, none⟩)])) (by simp [gtCs, gtTl])
  have HQ := Lib.hid m2
  clear m1 m2 hb1 HM
  go_wp2_with fail
  go_end0
  exact ⟨rfl, O, HQ.out.e, HQ.out.p, _, HQ.out.t, rfl⟩
set_option maxHeartbeats 4000000 in
set_option maxRecDepth 100000 in
theorem c_GtNext5 {v : Value} (M : Me k (k + 12) w0 O0 w O B f s k X (gtCs t key false (.iface 256 (.agg #[.pointer (some ⟨X, 0, none⟩)])) z)) (hk : 10 ≤ k) :
    Calls Tryz.prog 89 #[.pointer (some ⟨X, 0, none⟩), .pointer (some ⟨B.p, 0, none⟩)] w fun e w' => e = .returned (.tuple #[]) ∧ GtR k w0 O0 B f X t key (s, { z with ln := 6 }) w' := by
  have q3 := M.t.c 3 _ rfl
  have HM := Lib.hid M
  have b1 := alloc_below w (.cells #[.pointer (some ⟨X, 0, none⟩)] 256)
  have HM1 := Lib.hid (M.below b1)
  have HN := Lib.hid (c_NewGiveE _ O (k + 9) (by omega) (M.below b1).e.hi)
  clear M b1 HM
  go_enter Tryz.func89, Tryz.ntmps89
  go_wp2_with fail
  refine HN.out.mono ?_
  rintro e w2 ⟨V, rfl, G2, e2, t2⟩
  have m2 := HM1.out.oth hk e2 (by intro t ht; omega)
  have f3 := m2.t.f 3
  have q3 := m2.t.c 3 _ rfl
  have m3 := m2.set hk (by omega) (by omega) 3 (.iface 257 (PTR V)) (by simp [gtCs])
  have t3 := t2.ext (Ext.of_set (j := 3) (v := .iface 257 (PTR V)) (S := fun t => t = k) m2.e.hi m2.t.o (by omega) rfl) (by omega)
  have HQ := Lib.hid (And.intro m3 t3)
  unfold PTR at HQ
  clear m2 m3 t3 e2 t2 HM1
  go_wp2_with fail
  go_end0
  exact ⟨rfl, G2, HQ.out.1.e, HQ.out.1.p, _, HQ.out.1.t, V, rfl, HQ.out.2⟩
set_option maxHeartbeats 4000000 in
set_option maxRecDepth 100000 in
theorem c_GtNext6 {V : Nat} (M : Me k (k + 12) w0 O0 w O B f s k X (gtCs t key false (.iface 257 (PTR V)) z)) (hil : s.it.length ≤ 1000000) (hr : -9223372036854775808 ≤ z.ref ∧ z.ref ≤ 9223372036854775807) (hep : 0 ≤ z.ep ∧ z.ep ≤ 18446744073709551615) (hk : 10 ≤ k) :
    Calls Tryz.prog 89 #[.pointer (some ⟨X, 0, none⟩), .pointer (some ⟨B.p, 0, none⟩)] w fun e w' => e = .returned (.tuple #[]) ∧ GtR k w0 O0 B f X t key (s, gtTells s.it z) w' := by
  have HTE := Lib.hid (c_GtTells M hil hr hep hk)
  have q3 := M.t.c 3 _ rfl
  unfold PTR at q3
  clear M hil hr hep
  go_enter Tryz.func89, Tryz.ntmps89
  go_wp2_with fail
  refine HTE.out.mono ?_
  rintro e w2 ⟨rfl, h⟩
  have HQ := Lib.hid (gt_of_tells h)
  clear h
  go_wp2_with fail
  go_end0
  exact ⟨rfl, HQ.out⟩
set_option maxHeartbeats 4000000 in
set_option maxRecDepth 100000 in
theorem c_GtNext7 {x : Nat} (M : Me k (k + 12) w0 O0 w O B f s k X (gtCs t key false (.iface 291 (PTR x)) z)) (hk : 10 ≤ k) :
    Calls Tryz.prog 89 #[.pointer (some ⟨X, 0, none⟩), .pointer (some ⟨B.p, 0, none⟩)] w fun e w' => e = .returned (.tuple #[]) ∧ GtR k w0 O0 B f X t key (s, { z with ln := 0 }) w' := by
  have q3 := M.t.c 3 _ rfl
  have f3 := M.t.f 3
  unfold PTR at q3
  have HQ := Lib.hid (M.set hk (by omega) (by omega) 3 .nilIface (by simp [gtCs]))
  clear M
  go_enter Tryz.func89, Tryz.ntmps89
  go_wp2_with fail
  go_end0
  exact ⟨rfl, O, HQ.out.e, HQ.out.p, _, HQ.out.t, rfl⟩
end
end Go.Proofs.YthpedifjclofoaaGreat
