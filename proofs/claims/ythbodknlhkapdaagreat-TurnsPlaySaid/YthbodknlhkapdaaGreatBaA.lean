/- What layer 1 computes, in plain Lean. -/
import Derived.BigQuiet
import Derived.Deep.QuietTactic
import Derived.Laws.BitsAllLaws
import Derived.Laws.BitsLemmas
import Derived.Lib.Hide
import Derived.Test.YthbodknlhkapdaaGreatProg
import Derived.WalkKit
import Derived.WalkLawsBesides
import Derived.WalkSpells
namespace Go.Proofs.YthbodknlhkapdaaGreat
set_option linter.unusedSimpArgs false
set_option linter.unusedVariables false
theorem hQd {p : Prop} (h : p) : RowKit.Hid p := h
theorem aN {a b : Prop} (x : a) (y : b) : a ∧ b := ⟨x, y⟩
theorem exq {α : Type} (a : α) : ∃ z, z = a := ⟨a, rfl⟩
theorem bal (w : World) (x : Obj) : RowKit.Below w.heap.size w (w.alloc x) := (RowKit.Below.refl _ _).alloc (Nat.le_refl _) _
theorem nnn {a b : Prop} (h : ¬ a := by dsimp only; omega) : a → b := fun g => absurd g h
abbrev Hh (O : Nat → Nat) (w : World) : Prop := ∀ j, O j ≠ 0 → j < w.heap.size
abbrev C1 (f X : Nat) (w : World) (q : Ending → World → Prop) : Prop := Calls Tryz.prog f #[.pointer (some ⟨X, 0, none⟩)] w q
abbrev C2 (f X Y : Nat) (w : World) (q : Ending → World → Prop) : Prop := Calls Tryz.prog f #[.pointer (some ⟨X, 0, none⟩), .pointer (some ⟨Y, 0, none⟩)] w q
theorem zz : (∀ (a : Act) d v, a.put (some d) v = {a with tmps := a.tmps.setIfInBounds d v}) ∧ (∀ (a : Act) v, a.put none v = a) ∧ (∀ {α : Type} (l : List α) i a, (l.toArray).setIfInBounds i a = (l.set i a).toArray) ∧ (∀ {α : Type} (x a : α) (l : List α), (x :: l).set 0 a = a :: l) ∧ ∀ {α : Type} (x a : α) (l : List α) n, (x :: l).set (n + 1) a = x :: l.set n a := ⟨fun _ _ _ => rfl, fun _ _ => rfl, fun _ _ _ => by simp, fun _ _ _ => rfl, fun _ _ _ _ => rfl⟩
section
def Acz (h c : Int) : Int := ((h.toNat ^^^ c.toNat) * 1099511628211 % 18446744073709551616 : Nat)
def Acb (h : Int) (l : List UInt8) : Int := l.foldl (fun h c => Acz h (c.toNat : Int)) h
def Acn (l : List UInt8) : Int := Acb 14695981039346656037 l
def Ab3 (h : Int) : Int := if h / 72057594037927936 < 1 then 1 else h / 72057594037927936
def Aac (b : Int) : Int := if 1 ≤ b ∧ b ≤ 12 then 2 ^ b.toNat else 0
def Aat (h b : Int) : Int := if 1 ≤ b ∧ b ≤ 12 then h % Aac b else -1
def Aa8 (k t b : Int) : Int := if 0 ≤ k ∧ k < Aac b ∧ 1 ≤ t ∧ t ≤ 255 then ((k.toNat ^^^ (t.toNat * 1540483477 % (Aac b).toNat) : Nat) : Int) else -1
def Aba (b k : Int) : Int := if 0 ≤ k ∧ k < Aac b then (k + 31 * b) % 64 else -1
theorem Ajt (h c : Int) : 0 ≤ Acz h c ∧ Acz h c < 18446744073709551616 := by
 unfold Acz
 have := Nat.mod_lt ((h.toNat ^^^ c.toNat) * 1099511628211) (show 0 < 18446744073709551616 by decide)
 omega
theorem Ag3 (h : Int) (l : List UInt8) (c : UInt8) : Acb h (l ++ [c]) = Acz (Acb h l) (c.toNat : Int) := by
 simp [Acb]
theorem Aig (h : Int) : Acb h [] = h := rfl
theorem Agm (h : Int) (l : List UInt8) (h0 : 0 ≤ h) (h1 : h < 18446744073709551616) : 0 ≤ Acb h l ∧ Acb h l < 18446744073709551616 := by
 induction l generalizing h with
 | nil => exact ⟨h0, h1⟩
 | cons c l ih => exact ih (Acz h c.toNat) (Ajt _ _).1 (Ajt _ _).2
theorem Ae8 (l : List UInt8) : 0 ≤ Acn l ∧ Acn l < 18446744073709551616 := Agm _ l (by decide) (by decide)
theorem Ad0 (h : Int) (h0 : 0 ≤ h) (h1 : h < 18446744073709551616) : 1 ≤ Ab3 h ∧ Ab3 h ≤ 255 := by
 unfold Ab3; split <;> omega
theorem Agg {n : Nat} (h1 : 1 ≤ n) (h2 : n ≤ 12) : (2 : Int) ≤ 2 ^ n ∧ (2 : Int) ^ n ≤ 4096 := by
 have : ∀ n, n ≤ 12 → 1 ≤ n → (2 : Int) ≤ 2 ^ n ∧ (2 : Int) ^ n ≤ 4096 := by decide
 exact this n h2 h1
theorem Ad1 {b : Int} (h1 : 1 ≤ b) (h2 : b ≤ 12) : Aac b = 2 ^ b.toNat := by unfold Aac; rw [if_pos ⟨h1, h2⟩]
theorem Acm {b : Int} (h : b < 1 ∨ 12 < b) : Aac b = 0 := by unfold Aac; rw [if_neg (by omega)]
theorem Aah (b : Int) : 0 ≤ Aac b ∧ Aac b ≤ 4096 := by
 by_cases h : 1 ≤ b ∧ b ≤ 12
 · rw [Ad1 h.1 h.2]; have := Agg (n := b.toNat) (by omega) (by omega); omega
 rw [Acm (by omega)]; omega
theorem Abf {b : Int} (h1 : 1 ≤ b) (h2 : b ≤ 12) : 2 ≤ Aac b := by
 rw [Ad1 h1 h2]; have := Agg (n := b.toNat) (by omega) (by omega); omega
theorem Ac0 (b : Int) : 1 ≤ Aac b ↔ 1 ≤ b ∧ b ≤ 12 := by
 constructor
 · intro h; by_cases hb : 1 ≤ b ∧ b ≤ 12
   · exact hb
   rw [Acm (by omega)] at h; omega
 intro ⟨h1, h2⟩; have := Abf h1 h2; omega
theorem Afl {b : Int} (h1 : 1 ≤ b) (h2 : b ≤ 12) : (Aac b).toNat = 2 ^ b.toNat := by
 rw [Ad1 h1 h2, show (2 : Int) ^ b.toNat = ((2 ^ b.toNat : Nat) : Int) from (Int.natCast_pow 2 _).symm, Int.toNat_natCast]
theorem Apv {b : Int} (h1 : 1 ≤ b) (h2 : b ≤ 12) (x : Nat) : x &&& (Aac b - 1).toNat = x % (Aac b).toNat := by
 have e : (Aac b - 1).toNat = 2 ^ b.toNat - 1 := by rw [← Afl h1 h2]; have := Abf h1 h2; omega
 rw [e, Nat.and_two_pow_sub_one_eq_mod, Afl h1 h2]
theorem Aer {h b : Int} (h1 : 1 ≤ b) (h2 : b ≤ 12) : Aat h b = h % Aac b := by unfold Aat; rw [if_pos ⟨h1, h2⟩]
theorem Af6 {h b : Int} (h1 : b < 1 ∨ 12 < b) : Aat h b = -1 := by unfold Aat; rw [if_neg (by omega)]
theorem Aby {h b : Int} (h1 : 1 ≤ b) (h2 : b ≤ 12) : 0 ≤ Aat h b ∧ Aat h b < Aac b := by
 rw [Aer h1 h2]; have := Abf h1 h2
 exact ⟨Int.emod_nonneg _ (by omega), Int.emod_lt_of_pos _ (by omega)⟩
theorem Am6 {b : Int} (h1 : 1 ≤ b) (h2 : b ≤ 12) {k m : Nat} (hk : (k : Int) < Aac b) (hm : (m : Int) < Aac b) : ((k ^^^ m : Nat) : Int) < Aac b := by
 have e := Afl h1 h2
 have := Nat.xor_lt_two_pow (x := k) (y := m) (n := b.toNat) (by omega) (by omega)
 have := Abf h1 h2
 omega
theorem Afm {k t b : Int} (h : 0 ≤ k ∧ k < Aac b ∧ 1 ≤ t ∧ t ≤ 255) : Aa8 k t b = ((k.toNat ^^^ (t.toNat * 1540483477 % (Aac b).toNat) : Nat) : Int) := by unfold Aa8; rw [if_pos h]
theorem Ag2 {k t b : Int} (h : ¬ (0 ≤ k ∧ k < Aac b ∧ 1 ≤ t ∧ t ≤ 255)) : Aa8 k t b = -1 := by unfold Aa8; rw [if_neg h]
theorem Aeb {k t b : Int} (h : 0 ≤ k ∧ k < Aac b ∧ 1 ≤ t ∧ t ≤ 255) : 0 ≤ Aa8 k t b ∧ Aa8 k t b < Aac b := by
 have hb := (Ac0 b).1 (by omega)
 rw [Afm h]
 refine ⟨by omega, Am6 hb.1 hb.2 (by omega) ?_⟩
 have := Abf hb.1 hb.2
 have := Nat.mod_lt (t.toNat * 1540483477) (show 0 < (Aac b).toNat by omega)
 omega
theorem Ak6 {h b : Int} (h0 : 0 ≤ h) (h1 : h < 18446744073709551616) (b1 : 1 ≤ b) (b2 : b ≤ 12) : bits .and .u64 h (Aac b - 1) = h % Aac b := by
 have hp := Abf b1 b2
 have hq := Aah b
 rw [u64_and h (Aac b - 1) h0 h1 (by omega) (by omega), Apv b1 b2, Int.natCast_emod, Int.toNat_of_nonneg h0, Int.toNat_of_nonneg hq.1]
theorem Afz (a : Nat) (ha : a < 9223372036854775808) : (BitVec.ofInt 64 (a : Int)).toNat = a := ofInt_u64 a (by omega)
theorem Anr (a b : Nat) (ha : a < 9223372036854775808) (hb : b < 9223372036854775808) : bits .and .i64 (a : Int) (b : Int) = ((a &&& b : Nat) : Int) := by
 have hx : a &&& b < 2 ^ 63 := Nat.and_lt_two_pow a (by omega)
 show IntKind.i64.wrap ((BitVec.ofInt 64 (a : Int) &&& BitVec.ofInt 64 (b : Int)).toNat : Int) = _
 rw [BitVec.toNat_and, Afz a ha, Afz b hb]
 rw [IntKind.wrap_i64]
 omega
theorem Aie (a b : Nat) (ha : a < 9223372036854775808) (hb : b < 9223372036854775808) : bits .xor .i64 (a : Int) (b : Int) = ((a ^^^ b : Nat) : Int) := by
 have hx : a ^^^ b < 2 ^ 63 := Nat.xor_lt_two_pow (by omega) (by omega)
 show IntKind.i64.wrap ((BitVec.ofInt 64 (a : Int) ^^^ BitVec.ofInt 64 (b : Int)).toNat : Int) = _
 rw [BitVec.toNat_xor, Afz a ha, Afz b hb]
 rw [IntKind.wrap_i64]
 omega
theorem Ara {k t b : Int} (h : 0 ≤ k ∧ k < Aac b ∧ 1 ≤ t ∧ t ≤ 255) : bits .xor .i64 k (bits .and .i64 (t * 1540483477) (Aac b - 1)) = Aa8 k t b := by
 have hb := (Ac0 b).1 (by omega)
 have hp := Abf hb.1 hb.2
 have hq := Aah b
 rw [Afm h, show t * 1540483477 = ((t.toNat * 1540483477 : Nat) : Int) by omega, show Aac b - 1 = (((Aac b - 1).toNat : Nat) : Int) by omega,
  Anr _ _ (by omega) (by omega), Apv hb.1 hb.2]
 have hm := Nat.mod_lt (t.toNat * 1540483477) (show 0 < (Aac b).toNat by omega)
 rw [show k = ((k.toNat : Nat) : Int) by omega, Aie _ _ (by omega) (by omega), Int.toNat_natCast]
theorem Arg {k t b : Int} (h : 0 ≤ k ∧ k < Aac b ∧ 1 ≤ t ∧ t ≤ 255) : bits .xor .i64 k (t * 1540483477 % Aac b) = Aa8 k t b := by
 have hb := (Ac0 b).1 (by omega)
 have hp := Abf hb.1 hb.2
 have hq := Aah b
 have hm := Nat.mod_lt (t.toNat * 1540483477) (show 0 < (Aac b).toNat by omega)
 have e : t * 1540483477 % Aac b = ((t.toNat * 1540483477 % (Aac b).toNat : Nat) : Int) := by
  rw [Int.natCast_emod, Int.toNat_of_nonneg hq.1, show t * 1540483477 = ((t.toNat * 1540483477 : Nat) : Int) by omega]
 rw [e, Afm h]
 conv => lhs; rw [show k = ((k.toNat : Nat) : Int) by omega]
 rw [Aie _ _ (by omega) (by omega)]
theorem Anq {b x : Int} (h : 1 ≤ Aac b) : 0 ≤ x % Aac b ∧ x % Aac b < Aac b := ⟨Int.emod_nonneg _ (by omega), Int.emod_lt_of_pos _ (by omega)⟩
end
section
def Aaz (w : Int) : Int := if 1 ≤ w % 256 ∧ w % 256 ≤ 12 then w % 256 else 1
def Aav (w : Int) : Int := if w / 256 % 256 = Aaz w + 1 ∧ w / 256 % 256 ≤ 12 then w / 256 % 256 else 0
def Ab1 (o n : Int) : Int := o % 256 + 256 * (n % 256)
def Aai (b k : Int) : Int := if 0 ≤ k ∧ k < Aac b then 4096 + 8 * (Aac b + k) else 0
def Aca (b k s : Int) : Int := if 0 ≤ k ∧ k < Aac b ∧ 0 ≤ s ∧ s ≤ 3 then 4096 + 8 * (Aac b + k) + 1 + s else 0
def Abm (b k : Int) : Int := if 0 ≤ k ∧ k < Aac b then 64 + (k + 31 * b) % 64 else 0
theorem Ae2 (w : Int) : 1 ≤ Aaz w ∧ Aaz w ≤ 12 := by unfold Aaz; split <;> omega
theorem Ah6 (w : Int) : Aav w = 0 ∨ Aav w = Aaz w + 1 ∧ Aav w ≤ 12 := by unfold Aav; split <;> omega
theorem Akc (w : Int) : 0 ≤ Aav w ∧ Aav w ≤ 12 := by have := Ah6 w; have := Ae2 w; omega
theorem Ary (o n : Int) : 0 ≤ Ab1 o n ∧ Ab1 o n ≤ 65535 := by unfold Ab1; omega
theorem Ab2 {b k : Int} (h : 0 ≤ k ∧ k < Aac b) : Aai b k = 4096 + 8 * (Aac b + k) := by unfold Aai; rw [if_pos h]
theorem Ajl {b k : Int} (h : ¬ (0 ≤ k ∧ k < Aac b)) : Aai b k = 0 := by unfold Aai; rw [if_neg h]
theorem Agy {b k : Int} (h : 0 ≤ k ∧ k < Aac b) : Abm b k = 64 + Aba b k := by unfold Abm Aba; rw [if_pos h, if_pos h]
theorem Afx {b k : Int} (h : ¬ (0 ≤ k ∧ k < Aac b)) : Abm b k = 0 := by unfold Abm; rw [if_neg h]
theorem Afy {b k s : Int} (h : 0 ≤ k ∧ k < Aac b) (h2 : 0 ≤ s ∧ s ≤ 3) : Aca b k s = Aai b k + 1 + s := by unfold Aca; rw [if_pos (by omega), Ab2 h]
theorem Ae3 {b k s : Int} (h : ¬ ((0 ≤ k ∧ k < Aac b) ∧ 0 ≤ s ∧ s ≤ 3)) : Aca b k s = 0 := by unfold Aca; rw [if_neg (by omega)]
end
section
open Go.RowKit
structure Adv (w : World) where
 to : World
 below : Below w.heap.size w to
instance (w : World) : Nonempty (Adv w) := ⟨⟨w, Below.refl _ _⟩⟩
def via (w : World) (e : Adv w) : World := e.to
theorem Abv (w : World) (e : Adv w) : Below w.heap.size w (via w e) := e.below
theorem Aj4 (w : World) (e : Adv w) : w.heap.size ≤ (via w e).heap.size := e.below.size
@[simp, go_sem] theorem cell?_via (w : World) (e : Adv w) (b o : Nat) (h : b < w.heap.size) : (via w e).cell? ⟨b, o, none⟩ = w.cell? ⟨b, o, none⟩ := e.below.cell (p := ⟨b, o, none⟩) h
@[simp, go_sem] theorem frozen?_via (w : World) (e : Adv w) (b o : Nat) (h : b < w.heap.size) : (via w e).frozen? ⟨b, o, none⟩ = w.frozen? ⟨b, o, none⟩ := e.below.frozen (p := ⟨b, o, none⟩) h
@[simp, go_sem] theorem Awo (w : World) (e : Adv w) (n : Nat) (h : n < w.heap.size) : n < (via w e).heap.size := Nat.lt_of_lt_of_le h e.below.size
@[simp, go_sem] theorem le_via (w : World) (e : Adv w) (n : Nat) (h : n ≤ w.heap.size) : n ≤ (via w e).heap.size := Nat.le_trans h e.below.size
theorem Acl {a w : World} (h : Below a.heap.size a w) (e : Adv w) : Below a.heap.size a (via w e) := h.trans (e.below.mono h.size)
def Adv.andThen {w : World} (e : Adv w) (e2 : Adv (via w e)) : Adv w := ⟨e2.to, e.below.trans (e2.below.mono e.below.size)⟩
theorem Abz {a w : World} (h : Below a.heap.size a w) (o : Obj) : Below a.heap.size a (w.alloc o) := h.alloc h.size o
theorem Aue {P : Program} {f : FuncId} {args : Array Value} {w : World} {v : Value}
 (h : Calls P f args w fun x w' => x = .returned v ∧ Below w.heap.size w w') : Calls P f args w fun x w' => x = .returned v ∧ ∃ m, w' = via w m :=
 h.mono fun _ w' ⟨he, hm⟩ => ⟨he, ⟨w', hm⟩, rfl⟩
theorem Abh {P : Program} {id : Nat} {Q : Exit → Act → World → Prop} {a : Act} {w : World} {l : List Oper} (hm : P.follows .mixedOrders = true) (hB : Region.lexB .any l.toArray = true)
 (h : wpQuiet P l.toArray (fun w' => ∃ e, w' = via w e) (fun a' => ∀ w', (∃ e, w' = via w e) → Q .normal a' w') l a) : (Code.region id l.toArray true).wp P Q a w :=
 wp_region_quiet (C := fun w' => ∃ e, w' = via w e) hm hB ⟨⟨w.drew, (Below.refl _ _).drew⟩, rfl⟩ (by simpa using h)
theorem Auj {P : Program} {f : FuncId} {args : Array Value} {w : World} {e : Adv w} {v : Value}
 (h : Calls P f args (via w e) fun x w' => x = .returned v ∧ Below (via w e).heap.size (via w e) w') : Calls P f args (via w e) fun x w'' => x = .returned v ∧ ∃ m, w'' = via w m :=
 h.mono fun _ w' ⟨he, hm⟩ => ⟨he, ⟨w', e.below.trans (hm.mono e.below.size)⟩, rfl⟩
theorem Axc {P : Program} {f : FuncId} {args : Array Value} {w : World} {e : Adv w} {v : Value}
 (h : Calls P f args (via w e) fun x w' => x = .returned v ∧ via w e = w') : Calls P f args (via w e) fun x w'' => x = .returned v ∧ ∃ m, w'' = via w m :=
 h.mono fun _ _ ⟨he, hm⟩ => ⟨he, e, hm.symm⟩
theorem Ack {P : Program} {f : FuncId} {args : Array Value} {w : World} {n : Nat} {v : Value}
 (h : Calls P f args (w.drewN n) fun e w' => e = .returned v ∧ w.drewN n = w') : Calls P f args (w.drewN n) fun e w'' => e = .returned v ∧ ∃ m, w'' = w.drewN m :=
 h.mono fun _ _ ⟨he, hm⟩ => ⟨he, n, hm.symm⟩
theorem Aa6 {k : IntKind} {a b : Int} (h : a = b) : Ending.returned (.int k a) = .returned (.int k b) := by rw [h]
theorem Adp {a b : Bool} (h : a = b) : Ending.returned (.bool a) = .returned (.bool b) := by rw [h]
theorem Alh (s : ByteArray) (k : Nat) (h : k < s.size) : s.data.toList.take (k + 1) = s.data.toList.take k ++ [s[k]] := by
 rw [List.take_succ_eq_append_getElem (by simpa using h)]; rfl
end
section
open Go.RowKit
theorem Atp (o n : Int) (w : World) :
 Calls Tryz.prog 18 #[.int .i64 o, .int .i64 n] w fun e w' => e = .returned (.int .u64 (Ab1 o n)) ∧ w = w' := by
 have h1 : 0 ≤ o % 256 ∧ o % 256 < 256 := by omega
 have h2 : 0 ≤ n % 256 ∧ n % 256 < 256 := by omega
 unfold Ab1
 go_enter Tryz.func18, Tryz.ntmps18
 go_wp2
 go_ret
 exact ⟨rfl, rfl⟩
end
section
open Go.RowKit
theorem Arn {b : Int} : (Aac b == 0) = decide (b < 1 ∨ 12 < b) := by
 rw [Bool.eq_iff_iff]
 simp only [beq_iff_eq, decide_eq_true_eq]
 have := Ac0 b
 have := Aah b
 omega
theorem Acc (b : Int) (w : World) (b0 : -9223372036854775808 ≤ b) (b1 : b ≤ 9223372036854775807) :
 Calls Tryz.prog 38 #[.int .i64 b] w fun e w' => e = .returned (.int .i64 (Aac b)) ∧ w = w' := by
 by_cases c : 1 ≤ b ∧ b ≤ 12
 · obtain ⟨c1, c2⟩ := c
   have hp := Agg (n := b.toNat) (by omega) (by omega)
   rw [Ad1 c1 c2]
   go_enter Tryz.func38, Tryz.ntmps38
   go_wp2
   go_ret
   exact ⟨rfl, rfl⟩
 rw [Acm (by omega)]
 by_cases c2 : b < 1
 · go_enter Tryz.func38, Tryz.ntmps38
   go_wp2
   go_ret
   exact ⟨rfl, rfl⟩
 have c3 : 12 < b := by omega
 go_enter Tryz.func38, Tryz.ntmps38
 go_wp2
 go_ret
 exact ⟨rfl, rfl⟩
theorem Awx (x : Int) (w : World) (x0 : 0 ≤ x) (x1 : x < 18446744073709551616) :
 Calls Tryz.prog 36 #[.int .u64 x] w fun e w' => e = .returned (.tuple #[.int .i64 (Aaz x), .int .i64 (Aav x)]) ∧ w = w' := by
 by_cases c1 : 1 ≤ x % 256 ∧ x % 256 ≤ 12
 · have Ho := hQd (show Aaz x = x % 256 from by unfold Aaz; rw [if_pos c1])
   have s1 : (Aac (x % 256) == 0) = false := by rw [Arn]; simp; omega
   by_cases c2 : x / 256 % 256 = x % 256 + 1
   · by_cases c3 : x / 256 % 256 ≤ 12
     · have Hn := hQd (show Aav x = x / 256 % 256 from by unfold Aav; rw [if_pos ⟨by rw [Ho.out]; exact c2, c3⟩])
       have s2 : (Aac (x / 256 % 256) == 0) = false := by rw [Arn]; simp; omega
       have d2 : (x / 256 % 256 != x % 256 + 1) = false := by rw [c2]; simp
       rw [Ho.out, Hn.out]
       clear c2
       go_enter Tryz.func36, Tryz.ntmps36
       go_wp2_with (go_at_call 38; refine (Acc _ _ (by omega) (by omega)).mono ?_; rintro e w' ⟨rfl, rfl⟩)
       go_ret2
       exact ⟨rfl, rfl⟩
     have Hn := hQd (show Aav x = 0 from by unfold Aav; rw [if_neg (by omega)])
     have s2 : (Aac (x / 256 % 256) == 0) = true := by rw [Arn]; simp; omega
     have d2 : (x / 256 % 256 != x % 256 + 1) = false := by rw [c2]; simp
     rw [Ho.out, Hn.out]
     clear c2
     go_enter Tryz.func36, Tryz.ntmps36
     go_wp2_with (go_at_call 38; refine (Acc _ _ (by omega) (by omega)).mono ?_; rintro e w' ⟨rfl, rfl⟩)
     go_ret2
     exact ⟨rfl, rfl⟩
   have Hn := hQd (show Aav x = 0 from by unfold Aav; rw [if_neg (by rw [Ho.out]; omega)])
   have d2 : (x / 256 % 256 != x % 256 + 1) = true := by rw [bne_iff_ne]; exact c2
   rw [Ho.out, Hn.out]
   clear c2
   go_enter Tryz.func36, Tryz.ntmps36
   go_wp2_with (go_at_call 38; refine (Acc _ _ (by omega) (by omega)).mono ?_; rintro e w' ⟨rfl, rfl⟩)
   go_ret2
   exact ⟨rfl, rfl⟩
 have Ho := hQd (show Aaz x = 1 from by unfold Aaz; rw [if_neg c1])
 have s1 : (Aac (x % 256) == 0) = true := by rw [Arn]; simp; omega
 by_cases c2 : x / 256 % 256 = 2
 · have Hn := hQd (show Aav x = x / 256 % 256 from by unfold Aav; rw [if_pos ⟨by rw [Ho.out]; exact c2, by omega⟩])
   have s2 : (Aac (x / 256 % 256) == 0) = false := by rw [Arn]; simp; omega
   have d2 : (x / 256 % 256 != 2) = false := by rw [c2]; rfl
   rw [Ho.out, Hn.out]
   clear c2 c1
   go_enter Tryz.func36, Tryz.ntmps36
   go_wp2_with (go_at_call 38; refine (Acc _ _ (by omega) (by omega)).mono ?_; rintro e w' ⟨rfl, rfl⟩)
   go_ret2
   exact ⟨rfl, rfl⟩
 have Hn := hQd (show Aav x = 0 from by unfold Aav; rw [if_neg (by rw [Ho.out]; omega)])
 have d2 : (x / 256 % 256 != 2) = true := by rw [bne_iff_ne]; exact c2
 rw [Ho.out, Hn.out]
 clear c2 c1
 go_enter Tryz.func36, Tryz.ntmps36
 go_wp2_with (go_at_call 38; refine (Acc _ _ (by omega) (by omega)).mono ?_; rintro e w' ⟨rfl, rfl⟩)
 go_ret2
 exact ⟨rfl, rfl⟩
theorem Aev (b k : Int) (w : World) (b0 : -9223372036854775808 ≤ b) (b1 : b ≤ 9223372036854775807) (k0 : -9223372036854775808 ≤ k) (k1 : k ≤ 9223372036854775807) :
 Calls Tryz.prog 154 #[.agg #[.int .i64 b, .int .i64 k]] w fun e w' => e = .returned (.bool (decide (0 ≤ k ∧ k < Aac b))) ∧ Below w.heap.size w w' := by
 have hs := Aah b
 by_cases c1 : 0 ≤ k
 · have d1 : decide (0 ≤ k) = true := by simpa using c1
   by_cases c2 : k < Aac b
   · have d2 : decide (k < Aac b) = true := by simpa using c2
     rw [decide_eq_true (⟨c1, c2⟩ : 0 ≤ k ∧ k < Aac b)]
     go_enter Tryz.func154, Tryz.ntmps154
     go_wp2
     go_quiet ((go_at_call 38; exact Ack (Acc _ _ b0 b1)))
     go_wp2
     go_ret
     exact ⟨rfl, below_drewN (bal _ _) _⟩
   have d2 : decide (k < Aac b) = false := by simpa using c2
   rw [decide_eq_false (show ¬ (0 ≤ k ∧ k < Aac b) by omega)]
   go_enter Tryz.func154, Tryz.ntmps154
   go_wp2
   go_quiet ((go_at_call 38; exact Ack (Acc _ _ b0 b1)))
   go_wp2
   go_ret
   exact ⟨rfl, below_drewN (bal _ _) _⟩
 have d1 : decide (0 ≤ k) = false := by simpa using c1
 rw [decide_eq_false (show ¬ (0 ≤ k ∧ k < Aac b) by omega)]
 go_enter Tryz.func154, Tryz.ntmps154
 go_wp2
 go_quiet ((go_at_call 38; exact Ack (Acc _ _ b0 b1)))
 go_wp2
 go_ret
 exact ⟨rfl, below_drewN (bal _ _) _⟩
theorem Aiu (b k : Int) (w : World) (b0 : -9223372036854775808 ≤ b) (b1 : b ≤ 9223372036854775807) (k0 : -9223372036854775808 ≤ k) (k1 : k ≤ 9223372036854775807) :
 Calls Tryz.prog 124 #[.agg #[.int .i64 b, .int .i64 k]] w fun e w' => e = .returned (.int .u64 (Aai b k)) ∧ Below w.heap.size w w' := by
 have hs := Aah b
 by_cases c : 0 ≤ k ∧ k < Aac b
 · have Ht := hQd (Ab2 c)
   have d := decide_eq_true c
   rw [Ht.out]
   obtain ⟨ca, cb⟩ := c
   go_enter Tryz.func124, Tryz.ntmps124
   go_wp2_with fail
   refine (Aev _ _ _ b0 b1 k0 k1).mono ?_
   rintro e w' ⟨rfl, hb⟩
   have q0 : w'.cell? ⟨w.heap.size, 0, none⟩ = some (.int .i64 b) := by rw [hb.cell (p := ⟨w.heap.size, 0, none⟩) (by simp)]; simp
   have q1 : w'.cell? ⟨w.heap.size, 1, none⟩ = some (.int .i64 k) := by rw [hb.cell (p := ⟨w.heap.size, 1, none⟩) (by simp)]; simp
   go_wp2_with fail
   go_quiet ((go_at_call 38; exact Ack (Acc _ _ b0 b1)))
   go_wp2
   go_ret
   exact ⟨by simp, below_drewN ((bal _ _).trans (hb.mono (by simp))) _⟩
 have d := decide_eq_false c
 rw [Ajl c]
 clear c
 go_enter Tryz.func124, Tryz.ntmps124
 go_wp2_with (go_at_call 154; refine (Aev _ _ _ b0 b1 k0 k1).mono ?_; rintro e w' ⟨rfl, hb⟩)
 go_ret
 exact ⟨rfl, (bal _ _).trans (hb.mono (by simp))⟩
end
end Go.Proofs.YthbodknlhkapdaaGreat
