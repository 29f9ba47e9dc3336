/- Layer 5: contracts of cells' access, Load, Store, CAS, Add, Peek, Count, Last. -/
import Derived.Test.YtijifjiehldcaaaGreatClWalks
namespace Go.Proofs.YtijifjiehldcaaaGreat
set_option linter.unusedSimpArgs false
open Go.RowKit
set_option linter.unusedVariables false

theorem Grow.trans {w w1 w2 : World} {F G H : Nat → Prop} (h : Grow w F w1 G) (k : Grow w1 G w2 H) (hs : w.heap.size ≤ w1.heap.size) : Grow w F w2 H :=
  ⟨k.lts, fun j hj => k.old j (h.old j hj), fun j hj => (k.new j hj).elim (fun h1 => h.new j h1) fun h1 => .inr (by omega)⟩
theorem Grow.size {w w1 w2 : World} {F G : Nat → Prop} (h : Grow w F w1 G) (hs : w1.heap.size ≤ w2.heap.size) : Grow w F w2 G := ⟨fun j hj => Nat.lt_of_lt_of_le (h.lts j hj) hs, h.old, h.new⟩
/-- What an access comes to. -/
def AcPost (w : World) (F D : Nat → Prop) (R : World → Prop) (c : Nat) (L : List Wde) (n kd x v' : Int) (e : Ending) (w' : World) : Prop :=
  e = .returned (.int .u64 (cval L x)) ∧ R w' ∧ ∃ L' F', Cl w' F' c L' (n + 1) kd x (cval L x) v' ∧ (∀ y, cval L' y = if y = x then v' else cval L y) ∧ Grow w F w' F' ∧ Wrote (fun j => F j ∨ D j) w w'
/-- The struct's five numbers, stored one behind the other. -/
theorem Cl.stored {w : World} {F : Nat → Prop} {c : Nat} {L : List Wde} {n k a s i n' k' a' s' i' : Int} (h : Cl w F c L n k a s i) :
    Cl (((((w.setCell ⟨c, 1, none⟩ (.int .i64 n')).setCell ⟨c, 2, none⟩ (.int .u8 k')).setCell ⟨c, 3, none⟩ (.int .u64 a')).setCell ⟨c, 4, none⟩ (.int .u64 s')).setCell ⟨c, 5, none⟩ (.int .u64 i')) F c L n' k' a' s' i' ∧
    Wrote (fun j => j = c) w (((((w.setCell ⟨c, 1, none⟩ (.int .i64 n')).setCell ⟨c, 2, none⟩ (.int .u8 k')).setCell ⟨c, 3, none⟩ (.int .u64 a')).setCell ⟨c, 4, none⟩ (.int .u64 s')).setCell ⟨c, 5, none⟩ (.int .u64 i')) := by
  have hw : Wrote (fun j => j = c) w (((((w.setCell ⟨c, 1, none⟩ (.int .i64 n')).setCell ⟨c, 2, none⟩ (.int .u8 k')).setCell ⟨c, 3, none⟩ (.int .u64 a')).setCell ⟨c, 4, none⟩ (.int .u64 s')).setCell ⟨c, 5, none⟩ (.int .u64 i')) := by
    repeat (first | exact Wrote.refl _ _ | refine Wrote.setCell (S := fun j => j = c) ?_ (p := ⟨c, _, none⟩) (fun _ => rfl) _)
  have h1 := h.c1
  have h2 := h.c2
  have h3 := h.c3
  have h4 := h.c4
  have h5 := h.c5
  refine ⟨h.head hw ?_ ?_ ?_ ?_ ?_ ?_ ?_, hw⟩
  all_goals (first | (intro j; simp [World.frozen?_setCell]) | simp [World.cell?_setCell_other, World.cell?_setCell_same, h1, h2, h3, h4, h5] | skip)
theorem run_enter {f : FuncId} {fn : Func} (hf : Tryz.prog.funcs[f]? = some fn) (hname : (fn.name == "runtime.NumGoroutine") = false) (hb : fn.body.isNone = false) (args : Array Value) (w : World) : (callFunc f args).run Tryz.prog w = .ok (.enter f args) w := by
  have h1 : fn.name ≠ "runtime.NumGoroutine" := by simpa using hname
  have h2 : ¬ fn.body = none := by intro e; rw [e] at hb; cases hb
  simp [callFunc, hf, h1, h2, Sem.run]
/-- What 'does' does with an atomic: it tells what stood, and leaves v' there; it writes D besides. -/
def DoesOf (w : World) (F D : Nat → Prop) (R : World → Prop) (K : FuncId) (caps : Array Value) (v v' : Int) : Prop :=
  ∀ W b, Wrote F w W → (F b ∨ w.heap.size ≤ b) → b < W.heap.size → W.cell? ⟨b, 0, none⟩ = some (.int .u64 v) → W.frozen? ⟨b, 0, none⟩ = false →
    Calls Tryz.prog K (#[.pointer (some ⟨b, 0, none⟩)] ++ caps) W fun e W' => e = .returned (.int .u64 v) ∧ W'.cell? ⟨b, 0, none⟩ = some (.int .u64 v') ∧ W'.frozen? ⟨b, 0, none⟩ = false ∧ Wrote (fun j => j = b ∨ D j) W W' ∧ R W'
set_option maxHeartbeats 1000000 in
set_option maxRecDepth 100000 in
theorem c_access (w : World) (F D : Nat → Prop) (R : World → Prop) (c : Nat) (L : List Wde) (n k a s i kd x v' : Int) (K : FuncId) (caps : Array Value) (h : Cl w F c L n k a s i) (hF : ∀ j, F j → j < w.heap.size) (x0 : 0 ≤ x) (x1 : x < 18446744073709551616)
    (hn0 : 0 ≤ n) (hn : n ≤ 4611686018427387904) (v0 : 0 ≤ v') (v1 : v' < 18446744073709551616) (hD : ∀ j, D j → ¬ F j ∧ j < w.heap.size) (hR : ∀ A B, R A → Wrote (fun j => j = c) A B → R B) (hd : DoesOf w F D R K caps (cval L x) v') (hK : ∀ args W, (callFunc K args).run Tryz.prog W = .ok (.enter K args) W) :
    Calls Tryz.prog 82 #[.pointer (some ⟨c, 0, none⟩), .int .u8 kd, .int .u64 x, .func (.func K) #[] caps] w (AcPost w F D R c L n kd x v') := by
  have H := Lib.hid h
  have HF := Lib.hid hF
  have HD := Lib.hid hD
  have HR := Lib.hid hR
  have Hd := Lib.hid hd
  obtain ⟨cv, hcv⟩ : ∃ cv, cv = cval L x := ⟨_, rfl⟩
  have HC := Lib.hid hcv
  clear h hF hD hR hd hcv
  go_enter Tryz.func82, Tryz.ntmps82
  go_wp2_with fail
  refine (c_at w F c L n k a s i x H.out HF.out x0 x1).mono ?_
  rintro e w1 ⟨L1, F1, d, rfl, h1, hd1, rfl, hv1, hg1, hw1⟩
  have hcell := (h1.wd d hd1).cell
  have hfree := (h1.wd d hd1).free
  have hdv : d.v = cval L d.a := by rw [← hv1, cval_mem h1.na hd1]
  have hdl := (h1.wd d hd1).lt
  have hdn := hg1.new _ (h1.wd d hd1).mem
  have hc0 : (F c) := H.out.mem
  have Hc := Lib.hid (Hd.out w1 d.b hw1 hdn hdl (by rw [← hdv]; exact hcell) hfree)
  clear hcell hfree hdl hdn
  go_wp2_with fail
  refine Hc.out.mono ?_
  rintro e w2 ⟨rfl, hb2, hf2, hw2, hr2⟩
  have hdm := (h1.wd d hd1).mem
  have hdc := (h1.wd d hd1).ne
  have hDn : ∀ j, F1 j → D j → False := fun j hj hd => by
    obtain ⟨g1, g2⟩ := HD.out j hd
    rcases hg1.new j hj with h | h
    · exact g1 h
    · omega
  have h2 : Cl w2 F1 c (L1.map (wput d.a v')) n k a s i := Cl.put h1 hd1 v0 v1 hw2 (fun j hj hs => hs.elim id fun hd => (hDn j hj hd).elim) hb2 hf2
  have hval : ∀ y, cval (L1.map (wput d.a v')) y = if y = d.a then v' else cval L y := fun y => by rw [cval_put hd1, hv1]
  have hnc : ∀ j, D j → j ≠ c := fun j hj e => by subst e; exact (HD.out j hj).1 hc0
  have HE : Hid (∀ w3, Cl w3 F1 c (L1.map (wput d.a v')) (n + 1) kd d.a (cval L d.a) v' → Wrote (fun j => j = c) w2 w3 → AcPost w F D R c L n kd d.a v' (.returned (.int .u64 (cval L d.a))) w3) := by
    refine Lib.hid fun w3 h3 hw3 => ⟨rfl, HR.out _ _ hr2 hw3, _, F1, h3, hval, hg1.size (Nat.le_trans hw2.size hw3.size), ?_⟩
    have hs1 := hw1.size
    refine ((hw1.mono (fun j _ h => .inl h)).trans hw2 ?_).trans hw3 ?_
    · rintro j hj (rfl | hd)
      · rcases hg1.new _ hdm with h | h
        · exact .inl h
        · omega
      · exact .inr hd
    · rintro j _ rfl
      exact .inl hc0
  have HS := Lib.hid (fun (n' k' a' s' i' : Int) => Cl.stored (n' := n') (k' := k') (a' := a') (s' := s') (i' := i') h2)
  have c1 := h2.c1
  have c2 := h2.c2
  have c3 := h2.c3
  have c4 := h2.c4
  have c5 := h2.c5
  have fr := h2.fr
  have hn1 : n + 1 ≤ 9223372036854775807 := by omega
  have hb3 : (w2.setCell ⟨c, 1, none⟩ (.int .i64 (n + 1))).cell? ⟨d.b, 0, none⟩ = some (.int .u64 v') := (World.cell?_setCell_other _ _ _ _ (fun e => hdc (congrArg Addr.block e).symm)).trans hb2
  have Hb3 := Lib.hid hb3
  clear h1 h2 hval hv1 hdv hDn hnc hw2 hr2 Hc Hd HR HD hg1 hw1 hb3 hb2
  go_wp2_with (go_at_call 81; refine (c_aLoad Hb3.out).mono ?_; rintro e w' ⟨rfl, rfl⟩)
  go_ret
  exact HE.out _ (HS.out _ _ _ _ _).1 (HS.out _ _ _ _ _).2
end Go.Proofs.YtijifjiehldcaaaGreat
