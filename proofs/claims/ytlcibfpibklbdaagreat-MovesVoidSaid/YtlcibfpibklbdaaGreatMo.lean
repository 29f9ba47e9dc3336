/- Layer 20: the program's Move: its object, a new one, is it over, on to what is not over. -/
import Derived.Test.YtlcibfpibklbdaaGreatRl
namespace Go.Proofs.YtlcibfpibklbdaaGreat
set_option linter.unusedSimpArgs false
open Go.RowKit Go.Shelf
set_option linter.unusedVariables false

def mvCs (now : Int) (p : Spt) (lv : Value) (tag ref lost : Int) : List Value := [.int .i64 now, .int .i64 p.b, .int .i64 p.q, .int .i64 p.s, lv, .int .i64 tag, .int .i64 ref, .int .i64 lost]
def IAct (d : Nat) : Value := .iface 217 (.pointer (some ⟨d, 0, none⟩))
def ISearch (d : Nat) : Value := .iface 318 (.pointer (some ⟨d, 0, none⟩))
def IDrop (u : Nat) (ref : Int) (p : Spt) : Value := .iface 417 (.agg #[.pointer (some ⟨u, 0, none⟩), .int .i64 ref, .int .i64 p.b, .int .i64 p.q, .int .i64 p.s])
def TAGSM (X : Nat) : Value := .func (.func 107) #[.pointer (some ⟨X, 0, none⟩)] #[]
def ITEMM (X : Nat) : Value := .func (.func 181) #[.pointer (some ⟨X, 0, none⟩)] #[]
def FAILM (X : Nat) : Value := .func (.func 333) #[.pointer (some ⟨X, 0, none⟩)] #[]
/-- What a Move's left list holds: a list of parts, told by its line. -/
def MvParts (W : World) (G : Om) (k X : Nat) (z : Mvm) (lv : Value) : Prop :=
  (z.ln = 0 → Sls W G (k + 1) 1 lv 0 []) ∧
  (z.ln = 1 → ∃ d, Sls W G (k + 1) 1 lv 1 [IAct d] ∧ Ob W G (k + 2) d [TAGSM X, .bool false]) ∧
  (z.ln = 2 → ∃ d, Sls W G (k + 1) 1 lv 1 [IAct d] ∧ Ob W G (k + 2) d [ITEMM X, .bool false]) ∧
  (z.ln = 3 → ∃ d R, Sls W G (k + 1) 1 lv 1 [ISearch d] ∧ Ob W G (k + 3) d [.pointer (some ⟨X, 0, none⟩), .pointer (some ⟨R, 0, none⟩)] ∧ RoomAt W G (k + 4) R z.rm) ∧
  (4 ≤ z.ln ∧ z.ln ≤ 7 → ∃ m1 u p m2, Sls W G (k + 1) 1 lv (8 - z.ln).toNat ([IMark m1, IOut u, IPut p, IMark m2].drop (z.ln - 4).toNat) ∧ (z.ln = 4 → MkAt W G (k + 19) m1 z.m) ∧ (z.ln ≤ 5 → OutAt W G (k + 21) u z.p z.o) ∧ (z.ln ≤ 6 → PvAt W G (k + 22) p z.d z.tag z.ref z.u) ∧ MkAt W G (k + 23) m2 (if z.ln = 7 then z.m else mk2 z.p z.d)) ∧
  (8 ≤ z.ln → ∃ m1 u m2 d, Sls W G (k + 1) 1 lv (12 - z.ln).toNat ([IMark m1, IDrop u z.ref z.p, IMark m2, IAct d].drop (z.ln - 8).toNat) ∧ (z.ln = 8 → MkAt W G (k + 19) m1 [z.p.ver]) ∧ (z.ln ≤ 9 → OutAt W G (k + 21) u z.p z.o) ∧ (z.ln ≤ 10 → MkAt W G (k + 23) m2 [z.p.ver]) ∧ Ob W G (k + 2) d [FAILM X, .bool false])
theorem MvParts.ext {S : Nat → Prop} {O O' : Om} {w w' : World} {k X : Nat} {z : Mvm} {lv : Value} (h : MvParts w O k X z lv) (e : Ext S O w O' w') (hs : ∀ t, k < t → t < k + 25 → ¬ S t) : MvParts w' O' k X z lv := by
  obtain ⟨h0, h1, h2, h3, h4, h5⟩ := h
  refine ⟨fun g => (h0 g).ext e (hs _ (by omega) (by omega)), fun g => ?_, fun g => ?_, fun g => ?_, fun g => ?_, fun g => ?_⟩
  · obtain ⟨d, a, b⟩ := h1 g; exact ⟨d, a.ext e (hs _ (by omega) (by omega)), b.ext e (hs _ (by omega) (by omega))⟩
  · obtain ⟨d, a, b⟩ := h2 g; exact ⟨d, a.ext e (hs _ (by omega) (by omega)), b.ext e (hs _ (by omega) (by omega))⟩
  · obtain ⟨d, R, a, b, c⟩ := h3 g; exact ⟨d, R, a.ext e (hs _ (by omega) (by omega)), b.ext e (hs _ (by omega) (by omega)), c.ext e fun t q1 q2 => hs t (by omega) (by omega)⟩
  · obtain ⟨m1, u, p, m2, a, b, c, d, q⟩ := h4 g
    exact ⟨m1, u, p, m2, a.ext e (hs _ (by omega) (by omega)), fun g => (b g).ext e (hs _ (by omega) (by omega)) (hs _ (by omega) (by omega)), fun g => (c g).ext e (hs _ (by omega) (by omega)), fun g => (d g).ext e (hs _ (by omega) (by omega)), q.ext e (hs _ (by omega) (by omega)) (hs _ (by omega) (by omega))⟩
  · obtain ⟨m1, u, m2, d, a, b, c, q, r⟩ := h5 g
    exact ⟨m1, u, m2, d, a.ext e (hs _ (by omega) (by omega)), fun g => (b g).ext e (hs _ (by omega) (by omega)) (hs _ (by omega) (by omega)), fun g => (c g).ext e (hs _ (by omega) (by omega)), fun g => (q g).ext e (hs _ (by omega) (by omega)) (hs _ (by omega) (by omega)), r.ext e (hs _ (by omega) (by omega))⟩
/-- The program's Move in block X. -/
structure MvAt (W : World) (G : Om) (k X : Nat) (z : Mvm) : Prop where
  ex : ∃ p lv, Ob W G k X (mvCs z.now p lv z.tag z.ref z.lost) ∧ (z.ln ≠ 0 → p = z.p) ∧ MvParts W G k X z lv
theorem MvAt.ext {S : Nat → Prop} {O O' : Om} {w w' : World} {k X : Nat} {z : Mvm} (h : MvAt w O k X z) (e : Ext S O w O' w') (hs : ∀ t, k ≤ t → t < k + 25 → ¬ S t) : MvAt w' O' k X z := by
  obtain ⟨p, lv, h1, h2, h3⟩ := h.ex
  exact ⟨p, lv, h1.ext e (hs _ (by omega) (by omega)), h2, h3.ext e fun t q1 q2 => hs t (by omega) q2⟩
theorem MvAt.below {O : Om} {w w' : World} {k X : Nat} {z : Mvm} (h : MvAt w O k X z) (hhi : ∀ j, O j ≠ 0 → j < w.heap.size) (hb : Below w.heap.size w w') : MvAt w' O k X z := h.ext (S := fun _ => False) (Ext.of_below hhi hb) fun _ _ _ => id
section
variable {X : Nat} {w : World} {O : Om} {B : Wb} {f : Cf} {s : AW} {k : Nat}
theorem c_MvOver0 {ao : Option Addr} {n c : Nat} (h : w.cell? ⟨X, 4, none⟩ = some (.slice ao n c)) : Calls Tryz.prog 52 #[.pointer (some ⟨X, 0, none⟩)] w fun e w' => e = .returned (.bool (n == 0)) ∧ w = w' := by
  go_enter Tryz.func52, Tryz.ntmps52
  go_wp2
  go_ret
  exact ⟨ret_bool (by rw [Bool.eq_iff_iff]; simp), rfl⟩
/-- How many parts are left. -/
theorem MvParts.shape {z : Mvm} {lv : Value} (h : MvParts w O k X z lv) (h0 : 0 ≤ z.ln) (h1 : z.ln ≤ 11) : ∃ ao n c, lv = .slice ao n c ∧ (n == 0) = (z.ln == 0) := by
  obtain ⟨q0, q1, q2, q3, q4, q5⟩ := h
  have key : ∀ (n : Nat) xs, Sls w O (k + 1) 1 lv n xs → (n == 0) = (z.ln == 0) → ∃ ao n c, lv = .slice ao n c ∧ (n == 0) = (z.ln == 0) := by
    intro n xs hs hn
    obtain ⟨ao, c, e, -⟩ := hs.shape
    exact ⟨ao, n, c, e, hn⟩
  have hc : z.ln = 0 ∨ z.ln = 1 ∨ z.ln = 2 ∨ z.ln = 3 ∨ (4 ≤ z.ln ∧ z.ln ≤ 7) ∨ 8 ≤ z.ln := by omega
  rcases hc with g | g | g | g | g | g
  · exact key _ _ (q0 g) (by simp [g])
  · obtain ⟨d, a, -⟩ := q1 g; exact key _ _ a (by simp [g])
  · obtain ⟨d, a, -⟩ := q2 g; exact key _ _ a (by simp [g])
  · obtain ⟨d, R, a, -⟩ := q3 g; exact key _ _ a (by simp [g])
  · obtain ⟨m1, u, p, m2, a, -⟩ := q4 g; exact key _ _ a (by rw [Bool.eq_iff_iff]; simp; omega)
  · obtain ⟨m1, u, m2, d, a, -⟩ := q5 g; exact key _ _ a (by rw [Bool.eq_iff_iff]; simp; omega)
theorem c_MvOver {z : Mvm} (h : MvAt w O k X z) (h0 : 0 ≤ z.ln) (h1 : z.ln ≤ 11) : Calls Tryz.prog 52 #[.pointer (some ⟨X, 0, none⟩)] w fun e w' => e = .returned (.bool (mvOver z)) ∧ w = w' := by
  obtain ⟨p, lv, q1, q2, q3⟩ := h.ex
  obtain ⟨ao, n, c, rfl, hn⟩ := q3.shape h0 h1
  have := c_MvOver0 (q1.c 4 _ rfl)
  rw [hn] at this
  exact this
theorem c_MvLost {z : Mvm} (h : MvAt w O k X z) : Calls Tryz.prog 54 #[.pointer (some ⟨X, 0, none⟩)] w fun e w' => e = .returned (.int .i64 z.lost) ∧ w = w' := by
  obtain ⟨p, lv, q1, q2, q3⟩ := h.ex
  have x7 := q1.c 7 _ rfl
  obtain ⟨l, hl⟩ : ∃ l, l = z.lost := ⟨_, rfl⟩
  rw [← hl] at x7 ⊢
  clear q1 q2 q3 h hl
  go_enter Tryz.func54, Tryz.ntmps54
  go_wp2
  go_ret
  exact ⟨rfl, rfl⟩
set_option maxHeartbeats 4000000 in
set_option maxRecDepth 100000 in
theorem c_NewMove (t q : Int) (t0 : 0 ≤ t) (t1 : t < 18446744073709551616) (q0 : -9223372036854775808 ≤ q) (q1 : q ≤ 9223372036854775807) (hk : 10 ≤ k) (hhi : ∀ j, O j ≠ 0 → j < w.heap.size) :
    Calls Tryz.prog 50 #[.int .u64 t, .int .i64 q] w fun e w' => ∃ R, RP (fun t => t = k ∨ t = k + 1 ∨ t = k + 2) w O (.pointer (some ⟨R, 0, none⟩)) (fun W G => MvAt W G k R (mvNew t q)) e w' := by
  obtain ⟨z, hz⟩ : ∃ z, z = mvNew t q := ⟨_, rfl⟩
  rw [← hz]
  unfold mvNew at hz
  have HA := Lib.hid (fun W => c_As t W t0 t1)
  have ho := plOld_bd t
  have hn := plNow_bd t
  have HS := Lib.hid (fun W => c_Size (plOld t) W (by omega) (by omega))
  have hsz := fnvSize_bd (plOld t)
  obtain ⟨old, hold⟩ : ∃ x, x = plOld t := ⟨_, rfl⟩
  obtain ⟨now, hnow⟩ : ∃ x, x = plNow t := ⟨_, rfl⟩
  rw [← hold] at HA HS hz hsz ho
  rw [← hnow] at HA hz hn
  obtain ⟨sz, hsz2⟩ : ∃ x, x = fnvSize old := ⟨_, rfl⟩
  rw [← hsz2] at HS hz hsz
  have HH := Lib.hid hhi
  obtain ⟨G1, e1, x1, k1⟩ := alloc_ob HH.out k #[.int .i64 now, .int .i64 old, .int .i64 q, .int .i64 0, .slice none 0 0, .int .i64 0, .int .i64 0, .int .i64 0] 103 w.heap.size rfl
  have H1 := Lib.hid (And.intro e1 x1)
  clear hold hnow hsz2 hhi e1 x1 k1
  by_cases c : now = 0 ∨ q < 0 ∨ sz ≤ q
  · rw [if_pos c] at hz
    have HZ := Lib.hid hz
    clear hz
    have fin : ∃ R, RP (fun t => t = k ∨ t = k + 1 ∨ t = k + 2) w O (.pointer (some ⟨R, 0, none⟩)) (fun W G => MvAt W G k R z) (.returned (.pointer (some ⟨w.heap.size, 0, none⟩))) (w.alloc (.cells #[.int .i64 now, .int .i64 old, .int .i64 q, .int .i64 0, .slice none 0 0, .int .i64 0, .int .i64 0, .int .i64 0] 103)) := by
      rw [HZ.out]
      exact ⟨_, rfl, G1, H1.out.1.mono fun t _ h => .inl h, ⟨old, q, 0⟩, _, H1.out.2, fun g => absurd rfl g, ⟨fun _ => Sls.nil _ _ _ _, fun g => absurd g (by dsimp only; omega), fun g => absurd g (by dsimp only; omega), fun g => absurd g (by dsimp only; omega), fun g => absurd g (by dsimp only; omega), fun g => absurd g (by dsimp only; omega)⟩⟩
    have FIN := Lib.hid fin
    clear fin
    by_cases c1 : now = 0
    · subst c1
      clear c
      go_enter Tryz.func50, Tryz.ntmps50
      go_wp2_with fail
      refine (HA.out _).mono ?_
      rintro e w' ⟨rfl, rfl⟩
      go_wp2_with fail
      go_ret
      exact FIN.out
    · have d1 : (now != 0) = true := by simp [c1]
      by_cases c2 : q < 0
      · have d2 : decide (0 ≤ q) = false := by simp; omega
        clear c c1
        go_enter Tryz.func50, Tryz.ntmps50
        go_wp2_with fail
        refine (HA.out _).mono ?_
        rintro e w' ⟨rfl, rfl⟩
        go_wp2_with fail
        go_ret
        exact FIN.out
      · have d2 : decide (0 ≤ q) = true := by simp; omega
        have d3 : decide (q < sz) = false := by simp; omega
        clear c c1
        go_enter Tryz.func50, Tryz.ntmps50
        go_wp2_with fail
        refine (HA.out _).mono ?_
        rintro e w' ⟨rfl, rfl⟩
        go_wp2_with fail
        refine (HS.out _).mono ?_
        rintro e w' ⟨rfl, rfl⟩
        go_wp2_with fail
        go_ret
        exact FIN.out
  · rw [if_neg c] at hz
    have HZ := Lib.hid hz
    have d1 : (now != 0) = true := by simp; omega
    have d2 : decide (0 ≤ q) = true := by simp; omega
    have d3 : decide (q < sz) = true := by simp; omega
    obtain ⟨G1, e1, x1, k1⟩ := alloc_ob HH.out k #[.int .i64 now, .int .i64 old, .int .i64 q, .int .i64 0, .slice (some ⟨w.heap.size + 1 + 1, 0, none⟩) 1 1, .int .i64 0, .int .i64 0, .int .i64 0] 103 w.heap.size rfl
    obtain ⟨G2, e2, a2, k2⟩ := alloc_ob e1.hi (k + 2) #[TAGSM w.heap.size, .bool false] 219 (w.heap.size + 1) (by simp)
    obtain ⟨G3, e3, a3, k3⟩ := alloc_ob e2.hi (k + 1) #[IAct (w.heap.size + 1)] 220 (w.heap.size + 1 + 1) (by simp)
    have H4 := Lib.hid (And.intro ((e1.mono (T := fun t => t = k ∨ t = k + 1 ∨ t = k + 2) fun t _ h => .inl h).trans ((e2.mono fun t _ h => .inr (.inr h)).trans (e3.mono fun t _ h => .inr (.inl h)))) (And.intro (k3 _ _ _ (k2 _ _ _ x1)) (And.intro a3 (k3 _ _ _ a2))))
    clear c hz e1 x1 k1 e2 a2 k2 e3 a3 k3
    go_enter Tryz.func50, Tryz.ntmps50
    go_wp2_with fail
    refine (HA.out _).mono ?_
    rintro e w' ⟨rfl, rfl⟩
    go_wp2_with fail
    refine (HS.out _).mono ?_
    rintro e w' ⟨rfl, rfl⟩
    go_wp2_with fail
    go_ret
    rw [HZ.out]
    refine ⟨w.heap.size, rfl, G3, H4.out.1, ⟨old, q, 0⟩, _, H4.out.2.1, fun _ => rfl, ⟨fun g => absurd g (by dsimp only; omega), fun _ => ⟨_, Sls.of_ob H4.out.2.2.1 rfl (by unfold maxLen; decide), H4.out.2.2.2⟩, fun g => absurd g (by dsimp only; omega), fun g => absurd g (by dsimp only; omega), fun g => absurd g (by dsimp only; omega), fun g => absurd g (by dsimp only; omega)⟩⟩
end
end Go.Proofs.YtlcibfpibklbdaaGreat
