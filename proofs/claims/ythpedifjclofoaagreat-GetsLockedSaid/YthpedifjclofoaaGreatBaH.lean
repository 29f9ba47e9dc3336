/- Run of an operation by itself, whatever the operation: its Over and Step by their contracts. Layer 9: all notes of a list (taken by sub.py of the Notes seats' texts). Layer 13: contracts of the program's Put. Run of an operation whose Over may make memory of its own. Helpers of the chapters' examples: a Put run to its end. -/
import Derived.Test.YthpedifjclofoaaGreatBaC
import Derived.Test.YthpedifjclofoaaGreatBaE
import Derived.Test.YthpedifjclofoaaGreatBaG
import Derived.BigQuiet
import Derived.Deep.QuietTactic
namespace Go.Proofs.YthpedifjclofoaaGreat
set_option linter.unusedSimpArgs false
section
open Go.RowKit
set_option linter.unusedVariables false

def runN {Y : Type} (over : Y → Bool) (step : AW × Y → AW × Y) : Nat → AW × Y → Nat × (AW × Y)
  | 0, z => (0, z)
  | m + 1, z => if over z.2 then (0, z) else ((runN over step m (step z)).1 + 1, (runN over step m (step z)).2)
section
variable {Y : Type} {over : Y → Bool} {step : AW × Y → AW × Y}
theorem runN_le (k : Nat) : ∀ z, (runN over step k z).1 ≤ k := by
  induction k with
  | zero => intro z; exact Nat.le_refl _
  | succ k ih =>
    intro z
    unfold runN
    split
    · exact Nat.zero_le _
    · have := ih (step z); dsimp only; omega
theorem runN_over (k : Nat) (z : AW × Y) (h : over z.2 = true) : runN over step k z = (0, z) := by
  cases k with
  | zero => rfl
  | succ k => unfold runN; rw [if_pos h]
theorem runN_on (k : Nat) (z : AW × Y) (h : over z.2 = false) : runN over step (k + 1) z = ((runN over step k (step z)).1 + 1, (runN over step k (step z)).2) := by
  conv => lhs; unfold runN
  rw [if_neg (by simp [h])]
end
set_option maxHeartbeats 1000000 in
set_option maxRecDepth 100000 in
theorem c_RunG {Y : Type} (over : Y → Bool) (step : AW × Y → AW × Y) (S : Nat → Prop) (I : World → Om → AW × Y → Prop) (p X : Nat) (ty : TypeId) (fO fS : FuncId)
    (hmo : ∀ W, (method 543 ty (.pointer (some ⟨X, 0, none⟩)) "Over").run Tryz.prog W = .ok (fO, .pointer (some ⟨X, 0, none⟩)) W)
    (hms : ∀ W, (method 543 ty (.pointer (some ⟨X, 0, none⟩)) "Step").run Tryz.prog W = .ok (fS, .pointer (some ⟨X, 0, none⟩)) W)
    (hKO : ∀ args W, (callFunc fO args).run Tryz.prog W = .ok (.enter fO args) W) (hKS : ∀ args W, (callFunc fS args).run Tryz.prog W = .ok (.enter fS args) W)
    (cO : ∀ W G z, I W G z → Calls Tryz.prog fO #[.pointer (some ⟨X, 0, none⟩)] W fun e w' => e = .returned (.bool (over z.2)) ∧ W = w')
    (cS : ∀ W G z, I W G z → over z.2 = false → (∀ j, G j ≠ 0 → j < W.heap.size) → 0 ≤ z.1.n → z.1.n ≤ 4611686018427387904 → Calls Tryz.prog fS #[.pointer (some ⟨X, 0, none⟩), .pointer (some ⟨p, 0, none⟩)] W fun e w' => ∃ v, RP S W G v (fun W1 G1 => I W1 G1 (step z)) e w')
    (hst : ∀ z, (step z).1.n ≤ z.1.n + 1 ∧ z.1.n ≤ (step z).1.n)
    (w : World) (O : Om) (m : Nat) (z : AW × Y) (h : I w O z) (hhi : ∀ j, O j ≠ 0 → j < w.heap.size) (n0 : 0 ≤ z.1.n) (n1 : z.1.n + m ≤ 4611686018427387904) :
    Calls Tryz.prog 22 #[.pointer (some ⟨p, 0, none⟩), .iface ty (.pointer (some ⟨X, 0, none⟩)), .int .i64 m] w (RP S w O (.int .i64 (runN over step m z).1) fun W G => I W G (runN over step m z).2) := by
  have H := Lib.hid h
  have HH := Lib.hid hhi
  have HCO := Lib.hid cO
  have HCS := Lib.hid cS
  have HST := Lib.hid hst
  have hm1 : (m : Int) ≤ 4611686018427387904 := by omega
  clear h hhi cO cS hst
  go_enter Tryz.func22, Tryz.ntmps22
  go_wp2_with fail
  go_loopw [7] (fun i wr => ∃ (k : Nat) (y : AW × Y) (G : Om), k ≤ m ∧ i = .int .i64 k ∧ I wr G y ∧ z.1.n ≤ y.1.n ∧ y.1.n ≤ z.1.n + k ∧ runN over step m z = ((runN over step (m - k) y).1 + k, (runN over step (m - k) y).2) ∧ Ext S O w G wr) (fun i _ => m - (intOf i).toNat)
  case atStart => exact ⟨0, z, O, Nat.zero_le _, rfl, H.out, Int.le_refl _, by omega, rfl, Ext.refl HH.out⟩
  case round =>
    obtain ⟨k, y, G, hk, rfl, hI, hn, hn2, hr, he⟩ := hrel
    have HI := Lib.hid hI
    have HR := Lib.hid hr
    have HE := Lib.hid he
    clear hI hr he
    by_cases hk2 : k < m
    · obtain ⟨q, hq⟩ : ∃ q, m - k = q + 1 := ⟨m - k - 1, by omega⟩
      have hq2 : m - (k + 1) = q := by omega
      have HQ := Lib.hid hq
      have HQ2 := Lib.hid hq2
      clear hq hq2
      cases ho : over y.2
      · have HOv := Lib.hid ho
        have hy1 : y.1.n ≤ 4611686018427387904 := by omega
        have hy0 : 0 ≤ y.1.n := by omega
        clear ho
        go_wp2_with fail
        refine (HCO.out _ _ _ HI.out).mono ?_
        rintro e w' ⟨rfl, rfl⟩
        rw [HOv.out]
        go_wp2_with fail
        refine (HCS.out _ _ _ HI.out HOv.out HE.out.hi hy0 hy1).mono ?_
        rintro e w1 ⟨v, rfl, G1, e1, i1⟩
        have hn3 := HST.out y
        have HI1 := Lib.hid i1
        have HE1 := Lib.hid (HE.out.trans e1)
        have HR1 : Hid (runN over step m z = ((runN over step (m - (k + 1)) (step y)).1 + (k + 1), (runN over step (m - (k + 1)) (step y)).2)) := by
          refine Lib.hid ?_
          rw [HR.out, HQ.out, HQ2.out, runN_on _ _ HOv.out]
          dsimp only
          rw [Nat.add_assoc, Nat.add_comm 1 k]
        clear i1 e1
        go_wp2
        go_roundw
        case rel => exact ⟨k + 1, step y, G1, by omega, by go_num, HI1.out, by omega, by omega, HR1.out, HE1.out⟩
        case measure => simp [intOf]; omega
      · have HOv := Lib.hid ho
        have HF : Hid (runN over step m z = (k, y)) := by
          refine Lib.hid ?_
          rw [HR.out, runN_over _ _ ho]; simp
        clear ho
        go_wp2_with fail
        refine (HCO.out _ _ _ HI.out).mono ?_
        rintro e w' ⟨rfl, rfl⟩
        rw [HOv.out]
        go_wp2
        go_ret
        rw [HF.out]
        exact ⟨rfl, G, HE.out, HI.out⟩
    · have hkm : k = m := by omega
      have HF : Hid (runN over step m z = (k, y)) := by
        refine Lib.hid ?_
        rw [HR.out, hkm, Nat.sub_self]; unfold runN; simp
      clear hkm
      go_wp2
      go_ret
      rw [HF.out]
      exact ⟨rfl, G, HE.out, HI.out⟩
end
section
open Go.RowKit
set_option linter.unusedVariables false
theorem c_NtClip (ao : Option Addr) (n c : Nat) (w : World) (hn : n ≤ c) (hc : c ≤ maxLen) (ha : ao = none → c = 0) :
    Calls Tryz.prog 154 #[.slice ao n c] w fun e w' => e = .returned (.slice ao n n) ∧ w = w' := by
  unfold maxLen at hc
  cases ao with
  | none =>
    obtain rfl := ha rfl
    obtain rfl : n = 0 := by omega
    go_enter Tryz.func154, Tryz.ntmps154
    go_wp2
    go_ret
    exact ⟨rfl, rfl⟩
  | some a =>
    go_enter Tryz.func154, Tryz.ntmps154
    go_wp2
    go_ret
    exact ⟨rfl, rfl⟩
/-- A note's cells, from an address on. -/
def NtAt (w : World) (b o : Nat) (n : Nt) : Prop := ∀ j u, (ntc n)[j]? = some u → w.cell? ⟨b, o + j, none⟩ = some u
theorem NtAt.all {w : World} {b o : Nat} {n : Nt} (h : NtAt w b o n) : w.cell? ⟨b, o, none⟩ = some (.int .i64 n.step) ∧ w.cell? ⟨b, o + 1, none⟩ = some (.int .i64 n.thread) ∧ w.cell? ⟨b, o + 2, none⟩ = some (.int .u8 n.kind) ∧ w.cell? ⟨b, o + 3, none⟩ = some (.int .i64 n.ref) ∧ w.cell? ⟨b, o + 4, none⟩ = some (.int .i64 n.bits) ∧ w.cell? ⟨b, o + 5, none⟩ = some (.int .i64 n.bucket) ∧ w.cell? ⟨b, o + 6, none⟩ = some (.int .i64 n.slot) ∧ w.cell? ⟨b, o + 7, none⟩ = some (.int .i64 n.value) :=
  ⟨h 0 _ rfl, h 1 _ rfl, h 2 _ rfl, h 3 _ rfl, h 4 _ rfl, h 5 _ rfl, h 6 _ rfl, h 7 _ rfl⟩
theorem NtAt.below {w w' : World} {b o B : Nat} {n : Nt} (h : NtAt w b o n) (hb : Below B w w') (hlt : b < B) : NtAt w' b o n := fun j u hu => (hb.cell (p := ⟨b, o + j, none⟩) hlt).trans (h j u hu)
theorem NtAt.new (w : World) (n : Nt) (e : TypeId) (N : Nat) (hN : N = w.heap.size) : NtAt (w.alloc (.cells #[.int .i64 n.step, .int .i64 n.thread, .int .u8 n.kind, .int .i64 n.ref, .int .i64 n.bits, .int .i64 n.bucket, .int .i64 n.slot, .int .i64 n.value] e)) N 0 n := by
  subst hN
  intro j u hu
  rw [Nat.zero_add]
  unfold World.cell?
  rw [heap_alloc_new]
  simpa [ntc] using hu
theorem ntAt_row {w : World} {l : List Nt} {b o : Nat} (h : ∀ j u, (rowOf ntc l)[j]? = some u → w.cell? ⟨b, o + j, none⟩ = some u) (i : Nat) (hi : i < l.length) : NtAt w b (o + i * 8) l[i] := by
  intro j u hu
  have hj : j < 8 := (List.getElem?_eq_some_iff.1 hu).1
  have := nt_cells ntc_len h i hi j hj hu
  rwa [Nat.add_assoc]

/-- What is picked, by what is asked of each and its place. -/
def ntPick (f : Nat → Nt → Bool) : List Nt → Nat → List Nt
  | [], _ => []
  | n :: l, i => if f i n then n :: ntPick f l (i + 1) else ntPick f l (i + 1)
theorem ntPick_append (f : Nat → Nt → Bool) (l m : List Nt) : ∀ i, ntPick f (l ++ m) i = ntPick f l i ++ ntPick f m (i + l.length) := by
  induction l with
  | nil => intro i; simp [ntPick]
  | cons a l ih =>
    intro i
    simp only [List.cons_append, ntPick, ih, List.length_cons, show i + 1 + l.length = i + (l.length + 1) by omega]
    split <;> simp
theorem ntPick_take (f : Nat → Nt → Bool) (l : List Nt) (k : Nat) (hk : k < l.length) : ntPick f (l.take (k + 1)) 0 = ntPick f (l.take k) 0 ++ (if f k l[k] then [l[k]] else []) := by
  rw [List.take_succ_eq_append_getElem hk, ntPick_append, List.length_take, Nat.zero_add, Nat.min_eq_left (by omega)]
  simp [ntPick]
theorem ntPick_len (f : Nat → Nt → Bool) (l : List Nt) : ∀ i, (ntPick f l i).length ≤ l.length := by
  induction l with
  | nil => intro i; simp [ntPick]
  | cons a l ih =>
    intro i
    have := ih (i + 1)
    simp only [ntPick]
    split <;> simp <;> omega
theorem ntPick_since (a : Int) (l : List Nt) : ∀ i : Nat, ntPick (fun j _ => decide (a ≤ (j : Int))) l i = l.drop (a.toNat - i) := by
  induction l with
  | nil => intro i; simp [ntPick]
  | cons n l ih =>
    intro i
    simp only [ntPick, ih]
    by_cases h : a ≤ (i : Int)
    · rw [if_pos (by simpa using h), show a.toNat - i = 0 by omega, show a.toNat - (i + 1) = 0 by omega]; rfl
    · rw [if_neg (by simpa using h), show a.toNat - i = (a.toNat - (i + 1)) + 1 by omega]; rfl
/-- Own memory: the slice lies in blocks from B on, of which nothing is frozen. -/
def NtFresh (w : World) (B : Nat) (v : Value) : Prop := ∀ a n c, v = .slice (some a) n c → B ≤ a.block ∧ ∃ o, a = ⟨a.block, o, none⟩ ∧ ∀ j, w.frozen? ⟨a.block, j, none⟩ = false
/-- New memory that reads as a list of notes. -/
structure NtNew (w w' : World) (v : Value) (L : List Nt) : Prop where
  arr : Arr w' v L.length 8 (rowOf ntc L)
  fresh : NtFresh w' w.heap.size v
  shape : ∃ ao, v = .slice ao L.length L.length

theorem c_Sinceask (i : Int) (n : Nt) (a : Int) (c : Nat) (w : World) (hc : w.cell? ⟨c, 0, none⟩ = some (.int .i64 a)) (hlt : c < w.heap.size) :
    Calls Tryz.prog 109 #[.int .i64 i, .agg #[.int .i64 n.step, .int .i64 n.thread, .int .u8 n.kind, .int .i64 n.ref, .int .i64 n.bits, .int .i64 n.bucket, .int .i64 n.slot, .int .i64 n.value], .pointer (some ⟨c, 0, none⟩)] w fun e w' => e = .returned (.bool (decide (a ≤ i))) ∧ Below w.heap.size w w' := by
  have hcW := (((Below.refl w.heap.size w).alloc (Nat.le_refl _) (ntObj n)).cell (p := ⟨c, 0, none⟩) hlt).trans hc
  unfold ntObj at hcW
  go_enter Tryz.func109, Tryz.ntmps109
  go_wp2
  go_ret
  exact ⟨rfl, (Below.refl _ _).alloc (Nat.le_refl _) _⟩
theorem c_Sinceask' (t : Bool) (i : Int) (n : Nt) (a : Int) (c : Nat) (w : World) (ht : Hid (t = decide (a ≤ i))) (hc : w.cell? ⟨c, 0, none⟩ = some (.int .i64 a)) (hlt : c < w.heap.size) :
    Calls Tryz.prog 109 #[.int .i64 i, .agg #[.int .i64 n.step, .int .i64 n.thread, .int .u8 n.kind, .int .i64 n.ref, .int .i64 n.bits, .int .i64 n.bucket, .int .i64 n.slot, .int .i64 n.value], .pointer (some ⟨c, 0, none⟩)] w fun e w' => e = .returned (.bool t) ∧ Below w.heap.size w w' := by
  rw [ht.out]
  exact c_Sinceask i n a c w hc hlt
set_option maxRecDepth 100000 in
set_option maxHeartbeats 1000000 in
theorem c_NtSincepicked (h : Nat) (v : Value) (l : List Nt) (a : Int) (c : Nat) (w : World) (hh : w.cell? ⟨h, 0, none⟩ = some v) (hv : Arr w v l.length 8 (rowOf ntc l)) (hl : l.length ≤ 1048576) (hc : w.cell? ⟨c, 0, none⟩ = some (.int .i64 a)) (hlt : c < w.heap.size) :
    Calls Tryz.prog 108 #[.pointer (some ⟨h, 0, none⟩), .func (.func 109) #[] #[.pointer (some ⟨c, 0, none⟩)]] w fun e w' => (∃ v', e = .returned v' ∧ NtNew w w' v' (ntPick (fun i n => decide (a ≤ (i : Int))) l 0)) ∧ Below w.heap.size w w' := by
  obtain ⟨i0, hi, hz0, hz1, hz2⟩ := info_parts infoNt
  obtain ⟨ao, cp, rfl, hcp, hm⟩ := hv.shape
  have HL := Lib.hid hl
  have hl2 : l.length ≤ 9223372036854775807 := by omega
  clear hl
  go_enter Tryz.func108, Tryz.ntmps108
  go_wp2_with (go_at_call 51; refine (c_Ntnotes h _ _ hh).mono ?_; rintro e w' ⟨rfl, rfl⟩)
  go_loopw [5, 11] (fun vo i wr => ∃ k : Nat, k ≤ l.length ∧ i = .int .i64 k ∧ wr.ownsRow w.heap.size 84 8 vo (ntPick (fun i n => decide (a ≤ (i : Int))) (l.take k) 0).length (rowOf ntc (ntPick (fun i n => decide (a ≤ (i : Int))) (l.take k) 0)) ∧ Below w.heap.size w wr)
      (fun _ i _ => l.length - (intOf i).toNat)
  case atStart => exact ⟨0, Nat.zero_le _, rfl, World.ownsRow_nil _ _ _ _, Below.refl _ _⟩
  case round =>
    obtain ⟨k, hk, rfl, hown, hbel⟩ := hrel
    by_cases hk2 : k < l.length
    · obtain ⟨b, o, c', he, hcp, hm, hb, hx⟩ := hv.open (by omega) (by omega)
      cases he
      have hat0 := ntAt_row hx k hk2
      obtain ⟨q, hq⟩ : ∃ q, q = l[k] := ⟨_, rfl⟩
      rw [← hq] at hat0
      obtain ⟨q0, q1, q2, q3, q4, q5, q6, q7⟩ := (hat0.below hbel hb).all
      have HD := Lib.hid (ntPick_take (fun i n => decide (a ≤ (i : Int))) l k hk2)
      have hlen := ntPick_len (fun i n => decide (a ≤ (i : Int))) (l.take k) 0
      rw [List.length_take] at hlen
      obtain ⟨D, hD⟩ : ∃ D, D = ntPick (fun i n => decide (a ≤ (i : Int))) (l.take k) 0 := ⟨_, rfl⟩
      rw [← hD] at hown hlen
      have hlen2 : D.length ≤ l.length := by omega
      have HD2 := Lib.hid hD
      have Hq := Lib.hid hq
      have hcr := (hbel.cell (p := ⟨c, 0, none⟩) hlt).trans hc
      have hsz : w.heap.size ≤ wr.heap.size := hbel.size
      have hcl : c < wr.heap.size := by omega
      clear hx hv hq hlen hD hat0
      obtain ⟨t, ht⟩ : ∃ t, t = decide (a ≤ (k : Int)) := ⟨_, rfl⟩
      have HT : Hid (t = decide (a ≤ (k : Int))) := Lib.hid ht
      clear ht
      cases t
      · have E : ntPick (fun i n => decide (a ≤ (i : Int))) (l.take (k + 1)) 0 = D := by
          rw [HD.out, ← HD2.out, ← Hq.out, if_neg (by rw [← HT.out]; simp), List.append_nil]
        have HE := Lib.hid E
        clear E
        go_wp2_with (first | (go_at_call 109; refine (c_Sinceask' false (k : Int) q a c _ HT ((((Below.refl _ _).alloc (Nat.le_refl _) _).cell (p := ⟨c, 0, none⟩) hcl).trans hcr) (by simp; omega)).mono ?_; rintro e w1 ⟨rfl, hb1⟩; have hnew : NtAt w1 wr.heap.size 0 q := (NtAt.new wr q _ _ rfl).below hb1 (by simp); obtain ⟨d0, d1, d2, d3, d4, d5, d6, d7⟩ := hnew.all; clear hnew; have hown1 := ownsRow_below (hown.alloc _) hb1; have hbel1 : Below w.heap.size w w1 := (hbel.alloc hbel.size _).trans (hb1.mono (by simp; omega)); clear hb1) | (at_builtin; refine append_one _ rfl _ _ 78 rfl w.heap.size 84 i0 _ 8 64 Tryz.underlying78 hi hz0 hz1 hz2 rfl (by decide) (by decide) _ _ _ rfl hown1 (ntc q) _ rfl rfl (by simp [Value.oneCell', ntc]) (by have := HL.out; omega) hbel1.size ?_; intro g cap w2 hown2 hgr2; have hbel2 := below_grown hbel1 hbel1.size hown1 hgr2; clear hgr2))
        go_roundw
        case rel => exact ⟨k + 1, by omega, by go_num, by rw [HE.out]; exact hown1, hbel1⟩
        case measure => simp [intOf]; omega
      · have E : ntPick (fun i n => decide (a ≤ (i : Int))) (l.take (k + 1)) 0 = D ++ [q] := by
          rw [HD.out, ← HD2.out, ← Hq.out, if_pos (by rw [← HT.out])]
        have HE := Lib.hid E
        clear E
        go_wp2_with (first | (go_at_call 109; refine (c_Sinceask' true (k : Int) q a c _ HT ((((Below.refl _ _).alloc (Nat.le_refl _) _).cell (p := ⟨c, 0, none⟩) hcl).trans hcr) (by simp; omega)).mono ?_; rintro e w1 ⟨rfl, hb1⟩; have hnew : NtAt w1 wr.heap.size 0 q := (NtAt.new wr q _ _ rfl).below hb1 (by simp); obtain ⟨d0, d1, d2, d3, d4, d5, d6, d7⟩ := hnew.all; clear hnew; have hown1 := ownsRow_below (hown.alloc _) hb1; have hbel1 : Below w.heap.size w w1 := (hbel.alloc hbel.size _).trans (hb1.mono (by simp; omega)); clear hb1) | (at_builtin; refine append_one _ rfl _ _ 78 rfl w.heap.size 84 i0 _ 8 64 Tryz.underlying78 hi hz0 hz1 hz2 rfl (by decide) (by decide) _ _ _ rfl hown1 (ntc q) _ rfl rfl (by simp [Value.oneCell', ntc]) (by have := HL.out; omega) hbel1.size ?_; intro g cap w2 hown2 hgr2; have hbel2 := below_grown hbel1 hbel1.size hown1 hgr2; clear hgr2))
        go_roundw
        case rel => exact ⟨k + 1, by omega, by go_num, by rw [HE.out, rowOf_snoc, List.length_append]; exact hown2, hbel2⟩
        case measure => simp [intOf]; omega
    · obtain rfl : k = l.length := by omega
      rw [List.take_length] at hown
      clear hv
      have hA := Arr.of_own hown
      rcases hown.2 with ⟨rfl, h0⟩ | ⟨g, cap, cur, rfl, hbg, hgg, hnc, hcm, _⟩
      · clear hown
        go_wp2_with (go_at_call 154; refine (c_NtClip none 0 0 _ (Nat.le_refl _) (by unfold maxLen; omega) (fun _ => rfl)).mono ?_; rintro e w1 ⟨rfl, rfl⟩)
        go_ret
        exact ⟨⟨.slice none 0 0, rfl, hA, (fun a n c h => by cases h), none, by rw [h0]⟩, hbel⟩
      · have hfz := hown.frozenAt
        have hA2 := hA.clip
        clear hown hgg hA
        go_wp2_with (go_at_call 154; refine (c_NtClip _ _ _ _ hnc hcm (fun h => by cases h)).mono ?_; rintro e w1 ⟨rfl, rfl⟩)
        go_ret
        exact ⟨⟨_, rfl, hA2, fun a n c h => (by cases h; exact ⟨hbg, 0, rfl, hfz⟩), _, rfl⟩, hbel⟩

theorem NtNew.mono {w w0 w' : World} {v : Value} {L : List Nt} (h : NtNew w w' v L) (hs : w0.heap.size ≤ w.heap.size) : NtNew w0 w' v L := ⟨h.arr, fun a n c he => ⟨Nat.le_trans hs (h.fresh a n c he).1, (h.fresh a n c he).2⟩, h.shape⟩
theorem c_NtSince (h : Nat) (v : Value) (l : List Nt) (a : Int) (w : World) (hh : w.cell? ⟨h, 0, none⟩ = some v) (hlt : h < w.heap.size) (hv : Arr w v l.length 8 (rowOf ntc l)) (hl : l.length ≤ 1048576) :
    Calls Tryz.prog 68 #[.pointer (some ⟨h, 0, none⟩), .int .i64 a] w fun e w' => (∃ v', e = .returned v' ∧ NtNew w w' v' (l.drop a.toNat)) ∧ Below w.heap.size w w' := by
  have hp := fun (o : Obj) (hc : (w.alloc o).cell? ⟨w.heap.size, 0, none⟩ = some (.int .i64 a)) => c_NtSincepicked h v l a w.heap.size (w.alloc o) ((((Below.refl _ _).alloc (Nat.le_refl _) _).cell (p := ⟨h, 0, none⟩) hlt).trans hh) (hv.below ((Below.refl _ _).alloc (Nat.le_refl _) _)) hl hc (by simp)
  have Hp := Lib.hid hp
  clear hp hl
  go_enter Tryz.func68, Tryz.ntmps68
  go_wp2_with (go_at_call 108; refine (Hp.out _ (by simp)).mono ?_; rintro e w' ⟨⟨v', rfl, hn⟩, hb⟩)
  go_ret
  exact ⟨⟨_, rfl, by rw [ntPick_since, Nat.sub_zero] at hn; exact hn.mono (by simp)⟩, ((Below.refl _ _).alloc (Nat.le_refl _) _).trans (hb.mono (by simp))⟩
theorem c_NtAll (h : Nat) (v : Value) (l : List Nt) (w : World) (hh : w.cell? ⟨h, 0, none⟩ = some v) (hlt : h < w.heap.size) (hv : Arr w v l.length 8 (rowOf ntc l)) (hl : l.length ≤ 1048576) :
    Calls Tryz.prog 31 #[.pointer (some ⟨h, 0, none⟩)] w fun e w' => (∃ v', e = .returned v' ∧ NtNew w w' v' l) ∧ Below w.heap.size w w' := by
  have Hp := Lib.hid (c_NtSince h v l 0 w hh hlt hv hl)
  clear hl
  go_enter Tryz.func31, Tryz.ntmps31
  go_wp2_with (go_at_call 68; refine (Hp.out).mono ?_; rintro e w' ⟨⟨v', rfl, hn⟩, hb⟩)
  go_ret
  exact ⟨⟨_, rfl, by simpa using hn⟩, hb⟩
/-- A note of the document's: its cells, from an address on. -/
def NrAt (w : World) (b o : Nat) (n : Nt) : Prop := ∀ j u, (ntr n)[j]? = some u → w.cell? ⟨b, o + j, none⟩ = some u
theorem NrAt.all {w : World} {b o : Nat} {n : Nt} (h : NrAt w b o n) : w.cell? ⟨b, o, none⟩ = some (.int .i64 n.step) ∧ w.cell? ⟨b, o + 1, none⟩ = some (.int .i64 n.thread) ∧ w.cell? ⟨b, o + 2, none⟩ = some (.int .i64 n.kind) ∧ w.cell? ⟨b, o + 3, none⟩ = some (.int .i64 n.ref) ∧ w.cell? ⟨b, o + 4, none⟩ = some (.int .i64 n.bits) ∧ w.cell? ⟨b, o + 5, none⟩ = some (.int .i64 n.bucket) ∧ w.cell? ⟨b, o + 6, none⟩ = some (.int .i64 n.slot) ∧ w.cell? ⟨b, o + 7, none⟩ = some (.int .i64 n.value) :=
  ⟨h 0 _ rfl, h 1 _ rfl, h 2 _ rfl, h 3 _ rfl, h 4 _ rfl, h 5 _ rfl, h 6 _ rfl, h 7 _ rfl⟩
theorem NrAt.below {w w' : World} {b o B : Nat} {n : Nt} (h : NrAt w b o n) (hb : Below B w w') (hlt : b < B) : NrAt w' b o n := fun j u hu => (hb.cell (p := ⟨b, o + j, none⟩) hlt).trans (h j u hu)
theorem nrAt_row {w : World} {l : List Nt} {b o : Nat} (h : ∀ j u, (rowOf ntr l)[j]? = some u → w.cell? ⟨b, o + j, none⟩ = some u) (i : Nat) (hi : i < l.length) : NrAt w b (o + i * 8) l[i] := by
  intro j u hu
  have hj : j < 8 := (List.getElem?_eq_some_iff.1 hu).1
  have := nt_cells ntr_len h i hi j hj hu
  rwa [Nat.add_assoc]
end
section
open Go.RowKit Go.Shelf
set_option linter.unusedVariables false

def puCs (p : Spt) (tg rf : Int) (o : Otm) : List Value := [.int .u64 p.tags, .int .u64 p.item, .int .i64 p.s, .int .u64 o.w, .int .i64 o.ln, .int .i64 tg, .int .i64 rf]
def PUTSV : Value := .agg #[.func (.func 371) #[] #[], .func (.func 372) #[] #[], .func (.func 373) #[] #[]]
theorem c_puts (w : World) : Calls Tryz.prog 370 #[] w fun e w' => e = .returned PUTSV ∧ Below w.heap.size w w' := by
  go_enter Tryz.func370, Tryz.ntmps370
  go_wp2
  exact bodyPost_ret (v := PUTSV) (by simp [results, Tryz.results370, go_sem, PUTSV]) rfl ⟨rfl, (Below.refl _ _).alloc (Nat.le_refl _) _⟩
set_option maxHeartbeats 1000000 in
set_option maxRecDepth 100000 in
theorem c_PutOver {U : Nat} {w : World} (a : Int) (n : Nat) (h0 : w.cell? ⟨U, 0, none⟩ = some (.int .u64 a)) (h4 : w.cell? ⟨U, 4, none⟩ = some (.int .i64 n)) (ha : a ≠ 0) (hn : n ≤ 3) :
    Calls Tryz.prog 368 #[.pointer (some ⟨U, 0, none⟩)] w fun e w' => e = .returned (.bool (n == 3)) ∧ Below w.heap.size w w' := by
  have hU := blk_lt h0
  dsimp only at hU
  have d0 : (a == 0) = false := by simp [ha]
  have d3 : ((n : Int) == 3) = (n == 3) := by rw [Bool.eq_iff_iff]; simp; omega
  clear ha
  go_enter Tryz.func368, Tryz.ntmps368
  go_wp2_with fail
  refine wp_region_via (by kernel_rfl) (by kernel_rfl) ?_
  repeat (go_big_quiet_step ((first
    | (go_at_call 370; exact viaB (c_puts _)))))
  refine wpQuiet_nil ?_
  rintro _ ⟨e, rfl⟩
  go_wp2_with fail
  go_ret
  exact ⟨ret_bool (by first | exact d3 | rfl), via_below _ _⟩
/-- A Put in block U. -/
structure PutAt (W : World) (G : Om) (k U : Nat) (p : Spt) (tg rf : Int) (o : Otm) : Prop where
  ob : Ob W G k U (puCs p tg rf o)
theorem PutAt.ext {S : Nat → Prop} {O O' : Om} {w w' : World} {k U : Nat} {p : Spt} {tg rf : Int} {o : Otm} (h : PutAt w O k U p tg rf o) (e : Ext S O w O' w') (h1 : ¬ S k) : PutAt w' O' k U p tg rf o := ⟨h.ob.ext e h1⟩
theorem PutAt.below {O : Om} {w w' : World} {k U : Nat} {p : Spt} {tg rf : Int} {o : Otm} (h : PutAt w O k U p tg rf o) (hb : Below w.heap.size w w') : PutAt w' O k U p tg rf o := ⟨h.ob.below hb⟩
section
variable {U : Nat} {w : World} {O : Om} {B : Wb} {f : Cf} {s : AW} {k : Nat} {p : Spt} {tg rf : Int}
theorem ixPuts : (∀ W, (Instr.index 437 PUTSV (.int .i64 0)).run Tryz.prog W = .ok (.func (.func 371) #[] #[]) W) ∧ (∀ W, (Instr.index 437 PUTSV (.int .i64 1)).run Tryz.prog W = .ok (.func (.func 372) #[] #[]) W) ∧ (∀ W, (Instr.index 437 PUTSV (.int .i64 2)).run Tryz.prog W = .ok (.func (.func 373) #[] #[]) W) := ⟨fun W => by kernel_rfl, fun W => by kernel_rfl, fun W => by kernel_rfl⟩
set_option maxHeartbeats 1000000 in
theorem c_Putfirst (o : Otm) (hP : PW w O B f s) (hU : PutAt w O k U p tg rf o) (hp : p.ok) (hk : 10 ≤ k) (hhi : ∀ j, O j ≠ 0 → j < w.heap.size) (n0 : 0 ≤ s.n) (n1 : s.n ≤ 4611686018427387904) (r0 : 0 ≤ rf) (r1 : rf ≤ 9223372036854775807) :
    Calls Tryz.prog 371 #[.pointer (some ⟨U, 0, none⟩), .pointer (some ⟨B.p, 0, none⟩)] w (RP (SX k k) w O (.tuple #[]) fun W G => PW W G B f (awStore p.item rf s) ∧ PutAt W G k U p tg rf o) := by
  have ht := hp.item
  have HM : Hid (Me k k w O w O B f s k U (puCs p tg rf o)) := Lib.hid (Me.start hhi hP hU.ob)
  have p0 := hP.wo.c0
  have x1 := hU.ob.c 1 _ rfl
  have x6 := hU.ob.c 6 _ rfl
  have hr1 : IntKind.u64.wrap rf = rf := by rw [IntKind.wrap_u64]; omega
  obtain ⟨it, hit⟩ : ∃ it, it = p.item := ⟨_, rfl⟩
  rw [← hit] at ht x1 ⊢
  have HIT := Lib.hid hit
  have hb : 0 ≤ it ∧ it < 18446744073709551616 := by omega
  clear hP hU hhi hp ht hit
  go_enter Tryz.func371, Tryz.ntmps371
  go_wp2_with fail
  go_region_held3 (fun w' => w'.cell? ⟨B.p, 0, none⟩ = some (.pointer (some ⟨B.c, 0, none⟩)) ∧ w'.cell? ⟨U, 1, none⟩ = some (.int .u64 it) ∧ w'.cell? ⟨U, 6, none⟩ = some (.int .i64 rf)) (go_keep)
    ((go_at_call 111
      refine (c_StoreP it rf (w := w.drew) HM.out.drew.p HM.out.drew.e.hi hb.1 hb.2 r0 (by omega) n0 n1).mono ?_
      rintro e w2 ⟨rfl, G2, e2, P2⟩
      have M2 := Lib.hid (HM.out.drew.world hk e2 P2)
      have p02 := M2.out.p.wo.c0
      have x12 := M2.out.t.c 1 _ rfl
      have x62 := M2.out.t.c 6 _ rfl
      rw [← HIT.out] at x12
      clear e2 P2))
  all_goals
    go_wp2_with fail
    go_end0
    obtain ⟨e0, G, e1, P1, t1⟩ := M2.out.rp (v := .tuple #[])
    exact ⟨rfl, G, e1, P1, ⟨t1⟩⟩
theorem c_Putsecond (o : Otm) (hP : PW w O B f s) (hU : PutAt w O k U p tg rf o) (hp : p.ok) (hk : 10 ≤ k) (hhi : ∀ j, O j ≠ 0 → j < w.heap.size) (n0 : 0 ≤ s.n) (n1 : s.n ≤ 4611686018427387904) :
    Calls Tryz.prog 372 #[.pointer (some ⟨U, 0, none⟩), .pointer (some ⟨B.p, 0, none⟩)] w (RP (SX k k) w O (.tuple #[]) fun W G => PW W G B f (awLoad p.tags s) ∧ PutAt W G k U p tg rf ⟨o.ln, s.M p.tags⟩) := by
  have ht := hp.tags
  have HL := Lib.hid (c_slLoad _ p.tags hP hU.ob rfl ⟨_, rfl⟩ hk hhi (by omega) (by omega) n0 n1)
  clear hP hU hhi hp ht
  go_enter Tryz.func372, Tryz.ntmps372
  go_wp2_with fail
  refine HL.out.mono ?_
  rintro e w1 ⟨rfl, G1, e1, P1, U1⟩
  have HE := Lib.hid (And.intro e1 (And.intro P1 (PutAt.mk (p := p) (tg := tg) (rf := rf) (o := ⟨o.ln, s.M p.tags⟩) U1)))
  clear e1 P1 U1 HL
  go_wp2
  go_end0
  exact ⟨rfl, G1, HE.out⟩
set_option maxHeartbeats 1000000 in
set_option maxRecDepth 100000 in
theorem c_Putthird (o : Otm) (hP : PW w O B f s) (hU : PutAt w O k U p tg rf o) (hp : p.ok) (hk : 10 ≤ k) (hhi : ∀ j, O j ≠ 0 → j < w.heap.size) (w0 : 0 ≤ o.w) (w1 : o.w < 18446744073709551616) (n0 : 0 ≤ s.n) (n1 : s.n ≤ 4611686018427387904) (t0 : 0 ≤ tg) (t1 : tg ≤ 255) :
    Calls Tryz.prog 373 #[.pointer (some ⟨U, 0, none⟩), .pointer (some ⟨B.p, 0, none⟩)] w (RP (SX k k) w O (.tuple #[]) fun W G => PW W G B f (awStore p.tags (twWith o.w p.s tg) s) ∧ PutAt W G k U p tg rf o) := by
  have ht := hp.tags
  have x5 := hU.ob.c 5 _ rfl
  have HL := Lib.hid (c_slStore (w := w.drew) _ p.tags o.w p.s tg (hP.below hhi (drew_below w)) (hU.ob.below (drew_below w)) rfl rfl rfl hk (fun j hj => hhi j hj) (by omega) (by omega) w0 w1 hp.s0 hp.s1 t0 t1 n0 n1)
  have HE0 : Hid (Ext (SX k k) O w O w.drew) := Lib.hid (Ext.of_below hhi (drew_below w))
  clear hP hU hhi hp ht
  go_enter Tryz.func373, Tryz.ntmps373
  go_wp2_with fail
  go_region_held3 (fun w' => w'.cell? ⟨U, 5, none⟩ = some (.int .i64 tg)) (go_keep)
    ((go_at_call 306
      refine HL.out.mono ?_
      rintro e w1 ⟨rfl, G1, e1, P1, U1⟩
      have HE := Lib.hid (And.intro (HE0.out.trans e1) (And.intro P1 (PutAt.mk (p := p) (o := o) U1)))
      have x51 := U1.c 5 _ rfl
      clear e1 P1 U1))
  all_goals
    go_wp2_with fail
    go_end0
    exact ⟨rfl, G1, HE.out⟩
theorem putStep_ln (p : Spt) (tg rf : Int) (s : AW) (o : Otm) (h : o.ln < 3) : (putStep p tg rf s o).2.ln = o.ln + 1 := by
  unfold putStep
  split
  · rename_i e; rw [e]
  · split
    · rename_i e; rw [e]
    · split
      · rename_i e; rw [e]
      · omega
set_option maxHeartbeats 2000000 in
set_option maxRecDepth 100000 in
theorem c_PutStep (o : Otm) (hP : PW w O B f s) (hU : PutAt w O k U p tg rf o) (hp : p.ok) (ho : o.ln < 3) (w0 : 0 ≤ o.w) (w1 : o.w < 18446744073709551616) (hk : 10 ≤ k) (hhi : ∀ j, O j ≠ 0 → j < w.heap.size) (n0 : 0 ≤ s.n) (n1 : s.n ≤ 4611686018427387904) (t0 : 0 ≤ tg) (t1 : tg ≤ 255) (r0 : 0 ≤ rf) (r1 : rf ≤ 9223372036854775807) :
    Calls Tryz.prog 369 #[.pointer (some ⟨U, 0, none⟩), .pointer (some ⟨B.p, 0, none⟩)] w (RP (SX k k) w O (.bool (o.ln == 2)) fun W G => PW W G B f (putStep p tg rf s o).1 ∧ PutAt W G k U p tg rf (putStep p tg rf s o).2) := by
  obtain ⟨ln, wd⟩ := o
  dsimp only at ho w0 w1
  have x0 := hU.ob.c 0 _ rfl
  have x4 := hU.ob.c 4 _ rfl
  have ht := hp.tags
  have ht0 : p.tags ≠ 0 := by omega
  obtain ⟨ix0, ix1, ix2⟩ := ixPuts
  have hk0 : ∀ args W, (callFunc 371 args).run Tryz.prog W = .ok (.enter 371 args) W := enters_of Tryz.func371 (by kernel_rfl) rfl
  have hk1 : ∀ args W, (callFunc 372 args).run Tryz.prog W = .ok (.enter 372 args) W := enters_of Tryz.func372 (by kernel_rfl) rfl
  have hk2 : ∀ args W, (callFunc 373 args).run Tryz.prog W = .ok (.enter 373 args) W := enters_of Tryz.func373 (by kernel_rfl) rfl
  have HU := Lib.hid hU
  have HP := Lib.hid hP
  have HH := Lib.hid hhi
  have HB := Lib.hid hp
  have hln : ln = 0 ∨ ln = 1 ∨ ln = 2 := by omega
  obtain ⟨ta, hta⟩ : ∃ ta, ta = p.tags := ⟨_, rfl⟩
  rw [← hta] at x0 ht0
  have HT := Lib.hid hta
  clear hU hP hhi hp ht ho hta
  rcases hln with rfl | rfl | rfl
  · clear hk1 hk2 ix1 ix2
    go_enter Tryz.func369, Tryz.ntmps369
    go_wp2_with fail
    refine (c_PutOver ta 0 x0 x4 ht0 (by decide)).mono ?_
    rintro e wa ⟨rfl, hba⟩
    have P1 := Lib.hid (HP.out.below HH.out hba)
    have U1 := Lib.hid (HU.out.below hba)
    have E1 := Lib.hid (Ext.of_below (S := SX k k) HH.out hba)
    have y4 := U1.out.ob.c 4 _ rfl
    have yl := U1.out.ob.lt
    clear hba x0 x4
    go_wp2_with fail
    go_region_held3 (fun w' => w'.cell? ⟨U, 4, none⟩ = some (.int .i64 0)) (go_keep)
      ((first
        | (go_at_call 370
           refine (c_puts _).mono ?_
           rintro e wb ⟨rfl, hbb⟩
           have P2 := Lib.hid ((P1.out.below E1.out.hi (drew_below wa)).below E1.out.drew.hi hbb)
           have U2 := Lib.hid ((U1.out.below (drew_below wa)).below hbb)
           have E2 := Lib.hid (E1.out.drew.below hbb)
           have y42 := U2.out.ob.c 4 _ rfl
           clear hbb)
        | (go_at_call 371
           refine (c_Putfirst ⟨0, wd⟩ P2.out U2.out HB.out hk E2.out.hi n0 n1 r0 r1).mono ?_
           rintro e wc ⟨rfl, G3, e3, P3, U3⟩
           have M3 : Hid (Me k k w O wc G3 B f (awStore p.item rf s) k U _) := Lib.hid ⟨E2.out.trans e3, P3, U3.ob⟩
           have y43 := M3.out.t.c 4 _ rfl
           clear e3 P3 U3)))
    all_goals
      have z4 := M3.out.t.c 4 _ rfl
      have zf := M3.out.t.f 4
      have M4 := Lib.hid (M3.out.set hk (Nat.le_refl _) (Nat.le_refl _) 4 (.int .i64 ((1 : Nat) : Int)) (by simp [puCs]))
      have q0 := M4.out.t.c 0 _ rfl
      have q4 := M4.out.t.c 4 _ rfl
      go_wp2_with fail
      refine (c_PutOver p.tags 1 q0 q4 (by rw [← HT.out]; exact ht0) (by decide)).mono ?_
      rintro e wd ⟨rfl, hbd⟩
      have M5 := Lib.hid (M4.out.below hbd)
      clear hbd q0 q4
      go_wp2_with fail
      go_ret
      exact ⟨rfl, _, M5.out.e, M5.out.p, ⟨M5.out.t⟩⟩
  · clear hk0 hk2 ix0 ix2
    go_enter Tryz.func369, Tryz.ntmps369
    go_wp2_with fail
    refine (c_PutOver ta 1 x0 x4 ht0 (by decide)).mono ?_
    rintro e wa ⟨rfl, hba⟩
    have P1 := Lib.hid (HP.out.below HH.out hba)
    have U1 := Lib.hid (HU.out.below hba)
    have E1 := Lib.hid (Ext.of_below (S := SX k k) HH.out hba)
    have y4 := U1.out.ob.c 4 _ rfl
    have yl := U1.out.ob.lt
    clear hba x0 x4
    go_wp2_with fail
    go_region_held3 (fun w' => w'.cell? ⟨U, 4, none⟩ = some (.int .i64 1)) (go_keep)
      ((first
        | (go_at_call 370
           refine (c_puts _).mono ?_
           rintro e wb ⟨rfl, hbb⟩
           have P2 := Lib.hid ((P1.out.below E1.out.hi (drew_below wa)).below E1.out.drew.hi hbb)
           have U2 := Lib.hid ((U1.out.below (drew_below wa)).below hbb)
           have E2 := Lib.hid (E1.out.drew.below hbb)
           have y42 := U2.out.ob.c 4 _ rfl
           clear hbb)
        | (go_at_call 372
           refine (c_Putsecond ⟨1, wd⟩ P2.out U2.out HB.out hk E2.out.hi n0 n1).mono ?_
           rintro e wc ⟨rfl, G3, e3, P3, U3⟩
           have M3 : Hid (Me k k w O wc G3 B f (awLoad p.tags s) k U _) := Lib.hid ⟨E2.out.trans e3, P3, U3.ob⟩
           have y43 := M3.out.t.c 4 _ rfl
           clear e3 P3 U3)))
    all_goals
      have z4 := M3.out.t.c 4 _ rfl
      have zf := M3.out.t.f 4
      have M4 := Lib.hid (M3.out.set hk (Nat.le_refl _) (Nat.le_refl _) 4 (.int .i64 ((2 : Nat) : Int)) (by simp [puCs]))
      have q0 := M4.out.t.c 0 _ rfl
      have q4 := M4.out.t.c 4 _ rfl
      go_wp2_with fail
      refine (c_PutOver p.tags 2 q0 q4 (by rw [← HT.out]; exact ht0) (by decide)).mono ?_
      rintro e wd ⟨rfl, hbd⟩
      have M5 := Lib.hid (M4.out.below hbd)
      clear hbd q0 q4
      go_wp2_with fail
      go_ret
      exact ⟨rfl, _, M5.out.e, M5.out.p, ⟨M5.out.t⟩⟩
  · clear hk0 hk1 ix0 ix1
    go_enter Tryz.func369, Tryz.ntmps369
    go_wp2_with fail
    refine (c_PutOver ta 2 x0 x4 ht0 (by decide)).mono ?_
    rintro e wa ⟨rfl, hba⟩
    have P1 := Lib.hid (HP.out.below HH.out hba)
    have U1 := Lib.hid (HU.out.below hba)
    have E1 := Lib.hid (Ext.of_below (S := SX k k) HH.out hba)
    have y4 := U1.out.ob.c 4 _ rfl
    have yl := U1.out.ob.lt
    clear hba x0 x4
    go_wp2_with fail
    go_region_held3 (fun w' => w'.cell? ⟨U, 4, none⟩ = some (.int .i64 2)) (go_keep)
      ((first
        | (go_at_call 370
           refine (c_puts _).mono ?_
           rintro e wb ⟨rfl, hbb⟩
           have P2 := Lib.hid ((P1.out.below E1.out.hi (drew_below wa)).below E1.out.drew.hi hbb)
           have U2 := Lib.hid ((U1.out.below (drew_below wa)).below hbb)
           have E2 := Lib.hid (E1.out.drew.below hbb)
           have y42 := U2.out.ob.c 4 _ rfl
           clear hbb)
        | (go_at_call 373
           refine (c_Putthird ⟨2, wd⟩ P2.out U2.out HB.out hk E2.out.hi w0 w1 n0 n1 t0 t1).mono ?_
           rintro e wc ⟨rfl, G3, e3, P3, U3⟩
           have M3 : Hid (Me k k w O wc G3 B f (awStore p.tags (twWith wd p.s tg) s) k U _) := Lib.hid ⟨E2.out.trans e3, P3, U3.ob⟩
           have y43 := M3.out.t.c 4 _ rfl
           clear e3 P3 U3)))
    all_goals
      have z4 := M3.out.t.c 4 _ rfl
      have zf := M3.out.t.f 4
      have M4 := Lib.hid (M3.out.set hk (Nat.le_refl _) (Nat.le_refl _) 4 (.int .i64 ((3 : Nat) : Int)) (by simp [puCs]))
      have q0 := M4.out.t.c 0 _ rfl
      have q4 := M4.out.t.c 4 _ rfl
      go_wp2_with fail
      refine (c_PutOver p.tags 3 q0 q4 (by rw [← HT.out]; exact ht0) (by decide)).mono ?_
      rintro e wd ⟨rfl, hbd⟩
      have M5 := Lib.hid (M4.out.below hbd)
      clear hbd q0 q4
      go_wp2_with fail
      go_ret
      exact ⟨rfl, _, M5.out.e, M5.out.p, ⟨M5.out.t⟩⟩
set_option maxHeartbeats 1000000 in
set_option maxRecDepth 100000 in
theorem c_NewPut (hp : p.ok) (hhi : ∀ j, O j ≠ 0 → j < w.heap.size) (t0 : 1 ≤ tg) (t1 : tg ≤ 255) (r0 : 1 ≤ rf) (r1 : rf ≤ 9223372036854775807) : Calls Tryz.prog 255 #[.agg #[.int .i64 p.b, .int .i64 p.q, .int .i64 p.s], .int .i64 tg, .int .i64 rf] w fun e w' => ∃ U, RP (fun t => t = k) w O (.pointer (some ⟨U, 0, none⟩)) (fun W G => PutAt W G k U p tg rf ⟨0, 0⟩) e w' := by
  have HO := Lib.hid (fun (W : World) => c_of (w := W) hp)
  have HH := Lib.hid hhi
  have d1 : decide (tg < 1) = false := by simp; omega
  have d2 : decide ((255 : Int) < tg) = false := by simp; omega
  have d3 : decide (rf < 1) = false := by simp; omega
  clear hp hhi
  go_enter Tryz.func255, Tryz.ntmps255
  go_wp2_with fail
  refine (HO.out _).mono ?_
  rintro e w1 ⟨rfl, hb⟩
  have HB : Hid (Below w.heap.size w w1) := Lib.hid (((Below.refl _ _).alloc (Nat.le_refl _) _).trans (hb.mono (by simp)))
  obtain ⟨G2, e2, x2, -⟩ := alloc_ob (Ext.of_below (S := fun t => t = k) HH.out HB.out).hi k (puCs p tg rf ⟨0, 0⟩).toArray 372 w1.heap.size rfl
  have HE := Lib.hid (And.intro ((Ext.of_below HH.out HB.out).trans e2) x2)
  clear hb e2 x2
  go_wp2_with fail
  go_ret
  exact ⟨_, rfl, G2, HE.out.1, ⟨HE.out.2⟩⟩
end
end
section
open Go.RowKit
set_option linter.unusedVariables false

set_option maxHeartbeats 1000000 in
set_option maxRecDepth 100000 in
theorem c_RunB {Y : Type} (over : Y → Bool) (step : AW × Y → AW × Y) (S : Nat → Prop) (I : World → Om → AW × Y → Prop) (p X : Nat) (ty : TypeId) (fO fS : FuncId)
    (hmo : ∀ W, (method 543 ty (.pointer (some ⟨X, 0, none⟩)) "Over").run Tryz.prog W = .ok (fO, .pointer (some ⟨X, 0, none⟩)) W)
    (hms : ∀ W, (method 543 ty (.pointer (some ⟨X, 0, none⟩)) "Step").run Tryz.prog W = .ok (fS, .pointer (some ⟨X, 0, none⟩)) W)
    (hKO : ∀ args W, (callFunc fO args).run Tryz.prog W = .ok (.enter fO args) W) (hKS : ∀ args W, (callFunc fS args).run Tryz.prog W = .ok (.enter fS args) W)
    (cO : ∀ W G z, I W G z → Calls Tryz.prog fO #[.pointer (some ⟨X, 0, none⟩)] W fun e w' => e = .returned (.bool (over z.2)) ∧ Below W.heap.size W w')
    (hbI : ∀ W W' G z, I W G z → (∀ j, G j ≠ 0 → j < W.heap.size) → Below W.heap.size W W' → I W' G z)
    (cS : ∀ W G z, I W G z → over z.2 = false → (∀ j, G j ≠ 0 → j < W.heap.size) → 0 ≤ z.1.n → z.1.n ≤ 4611686018427387904 → Calls Tryz.prog fS #[.pointer (some ⟨X, 0, none⟩), .pointer (some ⟨p, 0, none⟩)] W fun e w' => ∃ v, RP S W G v (fun W1 G1 => I W1 G1 (step z)) e w')
    (hst : ∀ z, (step z).1.n ≤ z.1.n + 1 ∧ z.1.n ≤ (step z).1.n)
    (w : World) (O : Om) (m : Nat) (z : AW × Y) (h : I w O z) (hhi : ∀ j, O j ≠ 0 → j < w.heap.size) (n0 : 0 ≤ z.1.n) (n1 : z.1.n + m ≤ 4611686018427387904) :
    Calls Tryz.prog 22 #[.pointer (some ⟨p, 0, none⟩), .iface ty (.pointer (some ⟨X, 0, none⟩)), .int .i64 m] w (RP S w O (.int .i64 (runN over step m z).1) fun W G => I W G (runN over step m z).2) := by
  have H := Lib.hid h
  have HH := Lib.hid hhi
  have HCO := Lib.hid cO
  have HCS := Lib.hid cS
  have HST := Lib.hid hst
  have HBI := Lib.hid hbI
  have hm1 : (m : Int) ≤ 4611686018427387904 := by omega
  clear h hhi cO cS hst hbI
  go_enter Tryz.func22, Tryz.ntmps22
  go_wp2_with fail
  go_loopw [7] (fun i wr => ∃ (k : Nat) (y : AW × Y) (G : Om), k ≤ m ∧ i = .int .i64 k ∧ I wr G y ∧ z.1.n ≤ y.1.n ∧ y.1.n ≤ z.1.n + k ∧ runN over step m z = ((runN over step (m - k) y).1 + k, (runN over step (m - k) y).2) ∧ Ext S O w G wr) (fun i _ => m - (intOf i).toNat)
  case atStart => exact ⟨0, z, O, Nat.zero_le _, rfl, H.out, Int.le_refl _, by omega, rfl, Ext.refl HH.out⟩
  case round =>
    obtain ⟨k, y, G, hk, rfl, hI, hn, hn2, hr, he⟩ := hrel
    have HI := Lib.hid hI
    have HR := Lib.hid hr
    have HE := Lib.hid he
    clear hI hr he
    by_cases hk2 : k < m
    · obtain ⟨q, hq⟩ : ∃ q, m - k = q + 1 := ⟨m - k - 1, by omega⟩
      have hq2 : m - (k + 1) = q := by omega
      have HQ := Lib.hid hq
      have HQ2 := Lib.hid hq2
      clear hq hq2
      cases ho : over y.2
      · have HOv := Lib.hid ho
        have hy1 : y.1.n ≤ 4611686018427387904 := by omega
        have hy0 : 0 ≤ y.1.n := by omega
        clear ho
        go_wp2_with fail
        refine (HCO.out _ _ _ HI.out).mono ?_
        rintro e w' ⟨rfl, hbw⟩
        have HIb := Lib.hid (HBI.out _ _ _ _ HI.out HE.out.hi hbw)
        have HEb := Lib.hid (HE.out.below hbw)
        clear hbw
        rw [HOv.out]
        go_wp2_with fail
        refine (HCS.out _ _ _ HIb.out HOv.out HEb.out.hi hy0 hy1).mono ?_
        rintro e w1 ⟨v, rfl, G1, e1, i1⟩
        have hn3 := HST.out y
        have HI1 := Lib.hid i1
        have HE1 := Lib.hid (HEb.out.trans e1)
        have HR1 : Hid (runN over step m z = ((runN over step (m - (k + 1)) (step y)).1 + (k + 1), (runN over step (m - (k + 1)) (step y)).2)) := by
          refine Lib.hid ?_
          rw [HR.out, HQ.out, HQ2.out, runN_on _ _ HOv.out]
          dsimp only
          rw [Nat.add_assoc, Nat.add_comm 1 k]
        clear i1 e1
        go_wp2
        go_roundw
        case rel => exact ⟨k + 1, step y, G1, by omega, by go_num, HI1.out, by omega, by omega, HR1.out, HE1.out⟩
        case measure => simp [intOf]; omega
      · have HOv := Lib.hid ho
        have HF : Hid (runN over step m z = (k, y)) := by
          refine Lib.hid ?_
          rw [HR.out, runN_over _ _ ho]; simp
        clear ho
        go_wp2_with fail
        refine (HCO.out _ _ _ HI.out).mono ?_
        rintro e w' ⟨rfl, hbw⟩
        have HIb := Lib.hid (HBI.out _ _ _ _ HI.out HE.out.hi hbw)
        have HEb := Lib.hid (HE.out.below hbw)
        clear hbw
        rw [HOv.out]
        go_wp2
        go_ret
        rw [HF.out]
        exact ⟨rfl, G, HEb.out, HIb.out⟩
    · have hkm : k = m := by omega
      have HF : Hid (runN over step m z = (k, y)) := by
        refine Lib.hid ?_
        rw [HR.out, hkm, Nat.sub_self]; unfold runN; simp
      clear hkm
      go_wp2
      go_ret
      rw [HF.out]
      exact ⟨rfl, G, HE.out, HI.out⟩
end
section
open Go.RowKit Go.Shelf
set_option linter.unusedVariables false

def ptOver (o : Otm) : Bool := o.ln == 3
theorem sw0 : ¬ SW 0 := fun h => absurd h.1 (by decide)
theorem sx0 {a b : Nat} (h : 10 ≤ a) : ¬ SX a b 0 := fun k => by unfold SX at k; omega
theorem m_PuOver (a : Addr) (w : World) : (method 543 349 (.pointer (some a)) "Over").run Tryz.prog w = .ok (368, .pointer (some a)) w := by kernel_rfl
theorem m_PuStep (a : Addr) (w : World) : (method 543 349 (.pointer (some a)) "Step").run Tryz.prog w = .ok (369, .pointer (some a)) w := by kernel_rfl
theorem putStep_w {p : Spt} {tg rf : Int} {s : AW} {o : Otm} (hb : Bd s.M) (w0 : 0 ≤ o.w) (w1 : o.w < 18446744073709551616) : 0 ≤ (putStep p tg rf s o).2.w ∧ (putStep p tg rf s o).2.w < 18446744073709551616 := by
  unfold putStep
  split
  · exact ⟨w0, w1⟩
  · split
    · exact hb _
    · split
      · exact ⟨w0, w1⟩
      · exact ⟨w0, w1⟩
theorem putStep_n (p : Spt) (tg rf : Int) (s : AW) (o : Otm) : (putStep p tg rf s o).1.n ≤ s.n + 1 ∧ s.n ≤ (putStep p tg rf s o).1.n := by
  unfold putStep
  split
  · exact ⟨Int.le_refl _, by show s.n ≤ s.n + 1; omega⟩
  · split
    · exact ⟨Int.le_refl _, by show s.n ≤ s.n + 1; omega⟩
    · split
      · exact ⟨Int.le_refl _, by show s.n ≤ s.n + 1; omega⟩
      · exact ⟨by dsimp only; omega, Int.le_refl _⟩
/-- A new block that nobody is told to own. -/
theorem alloc_nbH {O : Om} {w : World} {S : Nat → Prop} (hhi : ∀ j, O j ≠ 0 → j < w.heap.size) (cs : Array Value) (ty : TypeId) (n : Nat) (hn : n = w.heap.size) :
    Ext S O w O (w.alloc (.cells cs ty)) ∧ Ob (w.alloc (.cells cs ty)) O 0 n cs.toList := by
  subst hn
  refine ⟨Ext.of_below hhi ((Below.refl _ _).alloc (Nat.le_refl _) _), ⟨?_, by simp, fun j u hu => cell_newA w cs ty _ rfl j u (by simpa using hu), fun j => frozen_newA w cs ty _ rfl j⟩⟩
  by_cases h : O w.heap.size = 0
  · exact h
  · exact absurd (hhi _ h) (by omega)
section
variable {w : World} {O : Om} {B : Wb} {f : Cf} {s : AW} {k : Nat}
theorem c_PuRun (U : Nat) (p : Spt) (tg rf : Int) (m : Nat) (hP : PW w O B f s) (hU : PutAt w O k U p tg rf ⟨0, 0⟩) (hp : p.ok) (hk : 10 ≤ k) (hhi : ∀ j, O j ≠ 0 → j < w.heap.size) (n0 : 0 ≤ s.n) (n1 : s.n + m ≤ 4611686018427387904) (t0 : 1 ≤ tg) (t1 : tg ≤ 255) (r0 : 1 ≤ rf) (r1 : rf ≤ 9223372036854775807) :
    Calls Tryz.prog 22 #[.pointer (some ⟨B.p, 0, none⟩), .iface 349 (.pointer (some ⟨U, 0, none⟩)), .int .i64 m] w (RP (SX k k) w O (.int .i64 (runN ptOver (fun z => putStep p tg rf z.1 z.2) m (s, ⟨0, 0⟩)).1) fun W G => PW W G B f (runN ptOver (fun z => putStep p tg rf z.1 z.2) m (s, ⟨0, 0⟩)).2.1) := by
  refine (c_RunB ptOver (fun z => putStep p tg rf z.1 z.2) (SX k k) (fun W G z => PW W G B f z.1 ∧ PutAt W G k U p tg rf z.2 ∧ z.2.ln ≤ 3 ∧ 0 ≤ z.2.w ∧ z.2.w < 18446744073709551616) B.p U 349 368 369 (m_PuOver _) (m_PuStep _)
    (run_enter Tryz.func368 (by kernel_rfl) (by kernel_rfl)) (run_enter Tryz.func369 (by kernel_rfl) (by kernel_rfl)) ?_ (fun W W' G z h hh hb => ⟨h.1.below hh hb, h.2.1.below hb, h.2.2⟩) ?_ (fun z => putStep_n p tg rf z.1 z.2) w O m (s, ⟨0, 0⟩) ⟨hP, hU, Nat.zero_le _, Int.le_refl _, by show (0 : Int) < 18446744073709551616; decide⟩ hhi n0 n1).mono ?_
  · rintro W G ⟨s1, y⟩ ⟨h1, h2, h3, -, -⟩
    have ht := hp.tags
    exact c_PutOver p.tags y.ln (h2.ob.c 0 _ rfl) (h2.ob.c 4 _ rfl) (by omega) h3
  · rintro W G ⟨s1, y⟩ ⟨h1, h2, h3, h4, h5⟩ ho hh q0 q1
    have hy : y.ln < 3 := by
      have h3 : y.ln ≤ 3 := h3
      have : y.ln ≠ 3 := by intro e; unfold ptOver at ho; simp [e] at ho
      omega
    refine (c_PutStep y h1 h2 hp hy h4 h5 hk hh q0 q1 (by omega) t1 (by omega) r1).mono ?_
    intro e w' hp2
    have hw := putStep_w (p := p) (tg := tg) (rf := rf) (o := y) h1.bd h4 h5
    have hl := putStep_ln p tg rf s1 y hy
    exact ⟨_, hp2.mono (fun _ _ h => h) fun W1 G1 h => ⟨h.1, h.2, by show (putStep p tg rf s1 y).2.ln ≤ 3; omega, hw.1, hw.2⟩⟩
  · intro e w' hp2
    exact hp2.mono (fun _ _ h => h) fun W1 G1 h => h.1
end
end
end Go.Proofs.YthpedifjclofoaaGreat
