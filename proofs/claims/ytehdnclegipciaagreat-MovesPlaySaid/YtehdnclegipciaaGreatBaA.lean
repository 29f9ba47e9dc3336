/- What layer 1 computes, in plain Lean. -/
import Derived.BigQuiet
import Derived.Deep.QuietTactic
import Derived.Laws.BitsAllLaws
import Derived.Laws.BitsLemmas
import Derived.Lib.Hide
import Derived.Test.YtehdnclegipciaaGreatProg
import Derived.WalkKit
import Derived.WalkLawsBesides
import Derived.WalkSpells
namespace Go.Proofs.YtehdnclegipciaaGreat
set_option linter.unusedSimpArgs false
set_option linter.unusedVariables false
theorem hQd {p : Prop} (h : p) : RowKit.Hid p := h
theorem aN {a b : Prop} (x : a) (y : b) : a ∧ b := ⟨x, y⟩
theorem exq {α : Type} (a : α) : ∃ z, z = a := ⟨a, rfl⟩
theorem bal (w : World) (x : Obj) : RowKit.Below w.heap.size w (w.alloc x) := (RowKit.Below.refl _ _).alloc (Nat.le_refl _) _
theorem nnn {a b : Prop} (h : ¬ a := by dsimp only; omega) : a → b := fun g => absurd g h
abbrev Hh (O : Nat → Nat) (w : World) : Prop := ∀ j, O j ≠ 0 → j < w.heap.size
abbrev C1 (f X : Nat) (w : World) (q : Ending → World → Prop) : Prop := Calls Tryz.prog f #[.pointer (some ⟨X, 0, none⟩)] w q
abbrev C2 (f X Y : Nat) (w : World) (q : Ending → World → Prop) : Prop := Calls Tryz.prog f #[.pointer (some ⟨X, 0, none⟩), .pointer (some ⟨Y, 0, none⟩)] w q
theorem zz : (∀ (a : Act) d v, a.put (some d) v = {a with tmps := a.tmps.setIfInBounds d v}) ∧ (∀ (a : Act) v, a.put none v = a) ∧ (∀ {α : Type} (l : List α) i a, (l.toArray).setIfInBounds i a = (l.set i a).toArray) ∧ (∀ {α : Type} (x a : α) (l : List α), (x :: l).set 0 a = a :: l) ∧ ∀ {α : Type} (x a : α) (l : List α) n, (x :: l).set (n + 1) a = x :: l.set n a := ⟨fun _ _ _ => rfl, fun _ _ => rfl, fun _ _ _ => by simp, fun _ _ _ => rfl, fun _ _ _ _ => rfl⟩
section
def Acv (h c : Int) : Int := ((h.toNat ^^^ c.toNat) * 1099511628211 % 18446744073709551616 : Nat)
def Ab7 (h : Int) (l : List UInt8) : Int := l.foldl (fun h c => Acv h (c.toNat : Int)) h
def Ab6 (l : List UInt8) : Int := Ab7 14695981039346656037 l
def Abu (h : Int) : Int := if h / 72057594037927936 < 1 then 1 else h / 72057594037927936
def Aac (b : Int) : Int := if 1 ≤ b ∧ b ≤ 12 then 2 ^ b.toNat else 0
def Aar (h b : Int) : Int := if 1 ≤ b ∧ b ≤ 12 then h % Aac b else -1
def Aa6 (k t b : Int) : Int := if 0 ≤ k ∧ k < Aac b ∧ 1 ≤ t ∧ t ≤ 255 then ((k.toNat ^^^ (t.toNat * 1540483477 % (Aac b).toNat) : Nat) : Int) else -1
def Aa8 (b k : Int) : Int := if 0 ≤ k ∧ k < Aac b then (k + 31 * b) % 64 else -1
theorem Ajh (h c : Int) : 0 ≤ Acv h c ∧ Acv h c < 18446744073709551616 := by
 unfold Acv
 have := Nat.mod_lt ((h.toNat ^^^ c.toNat) * 1099511628211) (show 0 < 18446744073709551616 by decide)
 omega
theorem Agx (h : Int) (l : List UInt8) (c : UInt8) : Ab7 h (l ++ [c]) = Acv (Ab7 h l) (c.toNat : Int) := by
 simp [Ab7]
theorem Ah7 (h : Int) : Ab7 h [] = h := rfl
theorem Agh (h : Int) (l : List UInt8) (h0 : 0 ≤ h) (h1 : h < 18446744073709551616) : 0 ≤ Ab7 h l ∧ Ab7 h l < 18446744073709551616 := by
 induction l generalizing h with
 | nil => exact ⟨h0, h1⟩
 | cons c l ih => exact ih (Acv h c.toNat) (Ajh _ _).1 (Ajh _ _).2
theorem Ae5 (l : List UInt8) : 0 ≤ Ab6 l ∧ Ab6 l < 18446744073709551616 := Agh _ l (by decide) (by decide)
theorem Adu (h : Int) (h0 : 0 ≤ h) (h1 : h < 18446744073709551616) : 1 ≤ Abu h ∧ Abu h ≤ 255 := by
 unfold Abu; split <;> omega
theorem Agc {n : Nat} (h1 : 1 ≤ n) (h2 : n ≤ 12) : (2 : Int) ≤ 2 ^ n ∧ (2 : Int) ^ n ≤ 4096 := by
 have : ∀ n, n ≤ 12 → 1 ≤ n → (2 : Int) ≤ 2 ^ n ∧ (2 : Int) ^ n ≤ 4096 := by decide
 exact this n h2 h1
theorem Adv {b : Int} (h1 : 1 ≤ b) (h2 : b ≤ 12) : Aac b = 2 ^ b.toNat := by unfold Aac; rw [if_pos ⟨h1, h2⟩]
theorem Ach {b : Int} (h : b < 1 ∨ 12 < b) : Aac b = 0 := by unfold Aac; rw [if_neg (by omega)]
theorem Aai (b : Int) : 0 ≤ Aac b ∧ Aac b ≤ 4096 := by
 by_cases h : 1 ≤ b ∧ b ≤ 12
 · rw [Adv h.1 h.2]; have := Agc (n := b.toNat) (by omega) (by omega); omega
 · rw [Ach (by omega)]; omega
theorem Abe {b : Int} (h1 : 1 ≤ b) (h2 : b ≤ 12) : 2 ≤ Aac b := by
 rw [Adv h1 h2]; have := Agc (n := b.toNat) (by omega) (by omega); omega
theorem Acw (b : Int) : 1 ≤ Aac b ↔ 1 ≤ b ∧ b ≤ 12 := by
 constructor
 · intro h; by_cases hb : 1 ≤ b ∧ b ≤ 12
   · exact hb
   · rw [Ach (by omega)] at h; omega
 · intro ⟨h1, h2⟩; have := Abe h1 h2; omega
theorem Afi {b : Int} (h1 : 1 ≤ b) (h2 : b ≤ 12) : (Aac b).toNat = 2 ^ b.toNat := by
 rw [Adv h1 h2, show (2 : Int) ^ b.toNat = ((2 ^ b.toNat : Nat) : Int) from (Int.natCast_pow 2 _).symm, Int.toNat_natCast]
theorem Apc {b : Int} (h1 : 1 ≤ b) (h2 : b ≤ 12) (x : Nat) : x &&& (Aac b - 1).toNat = x % (Aac b).toNat := by
 have e : (Aac b - 1).toNat = 2 ^ b.toNat - 1 := by rw [← Afi h1 h2]; have := Abe h1 h2; omega
 rw [e, Nat.and_two_pow_sub_one_eq_mod, Afi h1 h2]
theorem Aeo {h b : Int} (h1 : 1 ≤ b) (h2 : b ≤ 12) : Aar h b = h % Aac b := by unfold Aar; rw [if_pos ⟨h1, h2⟩]
theorem Af1 {h b : Int} (h1 : b < 1 ∨ 12 < b) : Aar h b = -1 := by unfold Aar; rw [if_neg (by omega)]
theorem Abv {h b : Int} (h1 : 1 ≤ b) (h2 : b ≤ 12) : 0 ≤ Aar h b ∧ Aar h b < Aac b := by
 rw [Aeo h1 h2]; have := Abe h1 h2
 exact ⟨Int.emod_nonneg _ (by omega), Int.emod_lt_of_pos _ (by omega)⟩
theorem Amq {b : Int} (h1 : 1 ≤ b) (h2 : b ≤ 12) {k m : Nat} (hk : (k : Int) < Aac b) (hm : (m : Int) < Aac b) : ((k ^^^ m : Nat) : Int) < Aac b := by
 have e := Afi h1 h2
 have := Nat.xor_lt_two_pow (x := k) (y := m) (n := b.toNat) (by omega) (by omega)
 have := Abe h1 h2
 omega
theorem Afj {k t b : Int} (h : 0 ≤ k ∧ k < Aac b ∧ 1 ≤ t ∧ t ≤ 255) : Aa6 k t b = ((k.toNat ^^^ (t.toNat * 1540483477 % (Aac b).toNat) : Nat) : Int) := by unfold Aa6; rw [if_pos h]
theorem Agw {k t b : Int} (h : ¬ (0 ≤ k ∧ k < Aac b ∧ 1 ≤ t ∧ t ≤ 255)) : Aa6 k t b = -1 := by unfold Aa6; rw [if_neg h]
theorem Ad5 {k t b : Int} (h : 0 ≤ k ∧ k < Aac b ∧ 1 ≤ t ∧ t ≤ 255) : 0 ≤ Aa6 k t b ∧ Aa6 k t b < Aac b := by
 have hb := (Acw b).1 (by omega)
 rw [Afj h]
 refine ⟨by omega, Amq hb.1 hb.2 (by omega) ?_⟩
 have := Abe hb.1 hb.2
 have := Nat.mod_lt (t.toNat * 1540483477) (show 0 < (Aac b).toNat by omega)
 omega
theorem Akv {h b : Int} (h0 : 0 ≤ h) (h1 : h < 18446744073709551616) (b1 : 1 ≤ b) (b2 : b ≤ 12) : bits .and .u64 h (Aac b - 1) = h % Aac b := by
 have hp := Abe b1 b2
 have hq := Aai b
 rw [u64_and h (Aac b - 1) h0 h1 (by omega) (by omega), Apc b1 b2, Int.natCast_emod, Int.toNat_of_nonneg h0, Int.toNat_of_nonneg hq.1]
theorem Afv (a : Nat) (ha : a < 9223372036854775808) : (BitVec.ofInt 64 (a : Int)).toNat = a := ofInt_u64 a (by omega)
theorem Am7 (a b : Nat) (ha : a < 9223372036854775808) (hb : b < 9223372036854775808) : bits .and .i64 (a : Int) (b : Int) = ((a &&& b : Nat) : Int) := by
 have hx : a &&& b < 2 ^ 63 := Nat.and_lt_two_pow a (by omega)
 show IntKind.i64.wrap ((BitVec.ofInt 64 (a : Int) &&& BitVec.ofInt 64 (b : Int)).toNat : Int) = _
 rw [BitVec.toNat_and, Afv a ha, Afv b hb]
 rw [IntKind.wrap_i64]
 omega
theorem Ah5 (a b : Nat) (ha : a < 9223372036854775808) (hb : b < 9223372036854775808) : bits .xor .i64 (a : Int) (b : Int) = ((a ^^^ b : Nat) : Int) := by
 have hx : a ^^^ b < 2 ^ 63 := Nat.xor_lt_two_pow (by omega) (by omega)
 show IntKind.i64.wrap ((BitVec.ofInt 64 (a : Int) ^^^ BitVec.ofInt 64 (b : Int)).toNat : Int) = _
 rw [BitVec.toNat_xor, Afv a ha, Afv b hb]
 rw [IntKind.wrap_i64]
 omega
theorem Aqn {k t b : Int} (h : 0 ≤ k ∧ k < Aac b ∧ 1 ≤ t ∧ t ≤ 255) : bits .xor .i64 k (bits .and .i64 (t * 1540483477) (Aac b - 1)) = Aa6 k t b := by
 have hb := (Acw b).1 (by omega)
 have hp := Abe hb.1 hb.2
 have hq := Aai b
 rw [Afj h, show t * 1540483477 = ((t.toNat * 1540483477 : Nat) : Int) by omega, show Aac b - 1 = (((Aac b - 1).toNat : Nat) : Int) by omega,
  Am7 _ _ (by omega) (by omega), Apc hb.1 hb.2]
 have hm := Nat.mod_lt (t.toNat * 1540483477) (show 0 < (Aac b).toNat by omega)
 rw [show k = ((k.toNat : Nat) : Int) by omega, Ah5 _ _ (by omega) (by omega), Int.toNat_natCast]
theorem Aqu {k t b : Int} (h : 0 ≤ k ∧ k < Aac b ∧ 1 ≤ t ∧ t ≤ 255) : bits .xor .i64 k (t * 1540483477 % Aac b) = Aa6 k t b := by
 have hb := (Acw b).1 (by omega)
 have hp := Abe hb.1 hb.2
 have hq := Aai b
 have hm := Nat.mod_lt (t.toNat * 1540483477) (show 0 < (Aac b).toNat by omega)
 have e : t * 1540483477 % Aac b = ((t.toNat * 1540483477 % (Aac b).toNat : Nat) : Int) := by
  rw [Int.natCast_emod, Int.toNat_of_nonneg hq.1, show t * 1540483477 = ((t.toNat * 1540483477 : Nat) : Int) by omega]
 rw [e, Afj h]
 conv => lhs; rw [show k = ((k.toNat : Nat) : Int) by omega]
 rw [Ah5 _ _ (by omega) (by omega)]
theorem Am6 {b x : Int} (h : 1 ≤ Aac b) : 0 ≤ x % Aac b ∧ x % Aac b < Aac b := ⟨Int.emod_nonneg _ (by omega), Int.emod_lt_of_pos _ (by omega)⟩
end
section
def Aa7 (w : Int) : Int := if 1 ≤ w % 256 ∧ w % 256 ≤ 12 then w % 256 else 1
def Abw (w : Int) : Int := if w / 256 % 256 = Aa7 w + 1 ∧ w / 256 % 256 ≤ 12 then w / 256 % 256 else 0
def Ael (o n : Int) : Int := o % 256 + 256 * (n % 256)
def Aah (b k : Int) : Int := if 0 ≤ k ∧ k < Aac b then 4096 + 8 * (Aac b + k) else 0
def Ab4 (b k s : Int) : Int := if 0 ≤ k ∧ k < Aac b ∧ 0 ≤ s ∧ s ≤ 3 then 4096 + 8 * (Aac b + k) + 1 + s else 0
def Abj (b k : Int) : Int := if 0 ≤ k ∧ k < Aac b then 64 + (k + 31 * b) % 64 else 0
theorem Aez (w : Int) : 1 ≤ Aa7 w ∧ Aa7 w ≤ 12 := by unfold Aa7; split <;> omega
theorem Ahx (w : Int) : Abw w = 0 ∨ Abw w = Aa7 w + 1 ∧ Abw w ≤ 12 := by unfold Abw; split <;> omega
theorem Ajz (w : Int) : 0 ≤ Abw w ∧ Abw w ≤ 12 := by have := Ahx w; have := Aez w; omega
theorem Arc (o n : Int) : 0 ≤ Ael o n ∧ Ael o n ≤ 65535 := by unfold Ael; omega
theorem Abz {b k : Int} (h : 0 ≤ k ∧ k < Aac b) : Aah b k = 4096 + 8 * (Aac b + k) := by unfold Aah; rw [if_pos h]
theorem Ai9 {b k : Int} (h : ¬ (0 ≤ k ∧ k < Aac b)) : Aah b k = 0 := by unfold Aah; rw [if_neg h]
theorem Ags {b k : Int} (h : 0 ≤ k ∧ k < Aac b) : Abj b k = 64 + Aa8 b k := by unfold Abj Aa8; rw [if_pos h, if_pos h]
theorem Aft {b k : Int} (h : ¬ (0 ≤ k ∧ k < Aac b)) : Abj b k = 0 := by unfold Abj; rw [if_neg h]
theorem Afu {b k s : Int} (h : 0 ≤ k ∧ k < Aac b) (h2 : 0 ≤ s ∧ s ≤ 3) : Ab4 b k s = Aah b k + 1 + s := by unfold Ab4; rw [if_pos (by omega), Abz h]
theorem Ae0 {b k s : Int} (h : ¬ ((0 ≤ k ∧ k < Aac b) ∧ 0 ≤ s ∧ s ≤ 3)) : Ab4 b k s = 0 := by unfold Ab4; rw [if_neg (by omega)]
end
section
open Go.RowKit
structure Ade (w : World) where
 to : World
 below : Below w.heap.size w to
instance (w : World) : Nonempty (Ade w) := ⟨⟨w, Below.refl _ _⟩⟩
def via (w : World) (e : Ade w) : World := e.to
theorem Abf (w : World) (e : Ade w) : Below w.heap.size w (via w e) := e.below
theorem Ajr (w : World) (e : Ade w) : w.heap.size ≤ (via w e).heap.size := e.below.size
@[simp, go_sem] theorem cell?_via (w : World) (e : Ade w) (b o : Nat) (h : b < w.heap.size) : (via w e).cell? ⟨b, o, none⟩ = w.cell? ⟨b, o, none⟩ := e.below.cell (p := ⟨b, o, none⟩) h
@[simp, go_sem] theorem frozen?_via (w : World) (e : Ade w) (b o : Nat) (h : b < w.heap.size) : (via w e).frozen? ⟨b, o, none⟩ = w.frozen? ⟨b, o, none⟩ := e.below.frozen (p := ⟨b, o, none⟩) h
@[simp, go_sem] theorem Avu (w : World) (e : Ade w) (n : Nat) (h : n < w.heap.size) : n < (via w e).heap.size := Nat.lt_of_lt_of_le h e.below.size
@[simp, go_sem] theorem le_via (w : World) (e : Ade w) (n : Nat) (h : n ≤ w.heap.size) : n ≤ (via w e).heap.size := Nat.le_trans h e.below.size
theorem Acf {a w : World} (h : Below a.heap.size a w) (e : Ade w) : Below a.heap.size a (via w e) := h.trans (e.below.mono h.size)
def Ade.andThen {w : World} (e : Ade w) (e2 : Ade (via w e)) : Ade w := ⟨e2.to, e.below.trans (e2.below.mono e.below.size)⟩
theorem Abx {a w : World} (h : Below a.heap.size a w) (o : Obj) : Below a.heap.size a (w.alloc o) := h.alloc h.size o
theorem Atq {P : Program} {f : FuncId} {args : Array Value} {w : World} {v : Value}
 (h : Calls P f args w fun x w' => x = .returned v ∧ Below w.heap.size w w') : Calls P f args w fun x w' => x = .returned v ∧ ∃ m, w' = via w m :=
 h.mono fun _ w' ⟨he, hm⟩ => ⟨he, ⟨w', hm⟩, rfl⟩
theorem Aba {P : Program} {id : Nat} {Q : Exit → Act → World → Prop} {a : Act} {w : World} {l : List Oper} (hm : P.follows .mixedOrders = true) (hB : Region.lexB .any l.toArray = true)
 (h : wpQuiet P l.toArray (fun w' => ∃ e, w' = via w e) (fun a' => ∀ w', (∃ e, w' = via w e) → Q .normal a' w') l a) : (Code.region id l.toArray true).wp P Q a w :=
 wp_region_quiet (C := fun w' => ∃ e, w' = via w e) hm hB ⟨⟨w.drew, (Below.refl _ _).drew⟩, rfl⟩ (by simpa using h)
theorem Aqs {P : Program} {f : FuncId} {args : Array Value} {w : World} {e : Ade w} {v : Value}
 (h : Calls P f args (via w e) fun x w' => x = .returned v ∧ Below (via w e).heap.size (via w e) w') : Calls P f args (via w e) fun x w'' => x = .returned v ∧ ∃ m, w'' = via w m :=
 h.mono fun _ w' ⟨he, hm⟩ => ⟨he, ⟨w', e.below.trans (hm.mono e.below.size)⟩, rfl⟩
theorem Avm {P : Program} {f : FuncId} {args : Array Value} {w : World} {e : Ade w} {v : Value}
 (h : Calls P f args (via w e) fun x w' => x = .returned v ∧ via w e = w') : Calls P f args (via w e) fun x w'' => x = .returned v ∧ ∃ m, w'' = via w m :=
 h.mono fun _ _ ⟨he, hm⟩ => ⟨he, e, hm.symm⟩
theorem Acy {P : Program} {f : FuncId} {args : Array Value} {w : World} {n : Nat} {v : Value}
 (h : Calls P f args (w.drewN n) fun e w' => e = .returned v ∧ w.drewN n = w') : Calls P f args (w.drewN n) fun e w'' => e = .returned v ∧ ∃ m, w'' = w.drewN m :=
 h.mono fun _ _ ⟨he, hm⟩ => ⟨he, n, hm.symm⟩
theorem Aa4 {k : IntKind} {a b : Int} (h : a = b) : Ending.returned (.int k a) = .returned (.int k b) := by rw [h]
theorem Ad2 {a b : Bool} (h : a = b) : Ending.returned (.bool a) = .returned (.bool b) := by rw [h]
theorem Ak5 (s : ByteArray) (k : Nat) (h : k < s.size) : s.data.toList.take (k + 1) = s.data.toList.take k ++ [s[k]] := by
 rw [List.take_succ_eq_append_getElem (by simpa using h)]; rfl
end
section
open Go.RowKit
theorem Av2 (o n : Int) (w : World) :
 Calls Tryz.prog 13 #[.int .i64 o, .int .i64 n] w fun e w' => e = .returned (.int .u64 (Ael o n)) ∧ w = w' := by
 have h1 : 0 ≤ o % 256 ∧ o % 256 < 256 := by omega
 have h2 : 0 ≤ n % 256 ∧ n % 256 < 256 := by omega
 unfold Ael
 go_enter Tryz.func13, Tryz.ntmps13
 go_wp2
 go_ret
 exact ⟨rfl, rfl⟩
end
section
open Go.RowKit
theorem Aq1 {b : Int} : (Aac b == 0) = decide (b < 1 ∨ 12 < b) := by
 rw [Bool.eq_iff_iff]
 simp only [beq_iff_eq, decide_eq_true_eq]
 have := Acw b
 have := Aai b
 omega
theorem Ace (b : Int) (w : World) (b0 : -9223372036854775808 ≤ b) (b1 : b ≤ 9223372036854775807) :
 Calls Tryz.prog 17 #[.int .i64 b] w fun e w' => e = .returned (.int .i64 (Aac b)) ∧ w = w' := by
 by_cases c : 1 ≤ b ∧ b ≤ 12
 · obtain ⟨c1, c2⟩ := c
   have hp := Agc (n := b.toNat) (by omega) (by omega)
   rw [Adv c1 c2]
   go_enter Tryz.func17, Tryz.ntmps17
   go_wp2
   go_ret
   exact ⟨rfl, rfl⟩
 · rw [Ach (by omega)]
   by_cases c2 : b < 1
   · go_enter Tryz.func17, Tryz.ntmps17
     go_wp2
     go_ret
     exact ⟨rfl, rfl⟩
   · have c3 : 12 < b := by omega
     go_enter Tryz.func17, Tryz.ntmps17
     go_wp2
     go_ret
     exact ⟨rfl, rfl⟩
theorem c_As (x : Int) (w : World) (x0 : 0 ≤ x) (x1 : x < 18446744073709551616) :
 Calls Tryz.prog 11 #[.int .u64 x] w fun e w' => e = .returned (.tuple #[.int .i64 (Aa7 x), .int .i64 (Abw x)]) ∧ w = w' := by
 by_cases c1 : 1 ≤ x % 256 ∧ x % 256 ≤ 12
 · have Ho := hQd (show Aa7 x = x % 256 from by unfold Aa7; rw [if_pos c1])
   have s1 : (Aac (x % 256) == 0) = false := by rw [Aq1]; simp; omega
   by_cases c2 : x / 256 % 256 = x % 256 + 1
   · by_cases c3 : x / 256 % 256 ≤ 12
     · have Hn := hQd (show Abw x = x / 256 % 256 from by unfold Abw; rw [if_pos ⟨by rw [Ho.out]; exact c2, c3⟩])
       have s2 : (Aac (x / 256 % 256) == 0) = false := by rw [Aq1]; simp; omega
       have d2 : (x / 256 % 256 != x % 256 + 1) = false := by rw [c2]; simp
       rw [Ho.out, Hn.out]
       clear c2
       go_enter Tryz.func11, Tryz.ntmps11
       go_wp2_with (go_at_call 17; refine (Ace _ _ (by omega) (by omega)).mono ?_; rintro e w' ⟨rfl, rfl⟩)
       go_ret2
       exact ⟨rfl, rfl⟩
     · have Hn := hQd (show Abw x = 0 from by unfold Abw; rw [if_neg (by omega)])
       have s2 : (Aac (x / 256 % 256) == 0) = true := by rw [Aq1]; simp; omega
       have d2 : (x / 256 % 256 != x % 256 + 1) = false := by rw [c2]; simp
       rw [Ho.out, Hn.out]
       clear c2
       go_enter Tryz.func11, Tryz.ntmps11
       go_wp2_with (go_at_call 17; refine (Ace _ _ (by omega) (by omega)).mono ?_; rintro e w' ⟨rfl, rfl⟩)
       go_ret2
       exact ⟨rfl, rfl⟩
   · have Hn := hQd (show Abw x = 0 from by unfold Abw; rw [if_neg (by rw [Ho.out]; omega)])
     have d2 : (x / 256 % 256 != x % 256 + 1) = true := by rw [bne_iff_ne]; exact c2
     rw [Ho.out, Hn.out]
     clear c2
     go_enter Tryz.func11, Tryz.ntmps11
     go_wp2_with (go_at_call 17; refine (Ace _ _ (by omega) (by omega)).mono ?_; rintro e w' ⟨rfl, rfl⟩)
     go_ret2
     exact ⟨rfl, rfl⟩
 · have Ho := hQd (show Aa7 x = 1 from by unfold Aa7; rw [if_neg c1])
   have s1 : (Aac (x % 256) == 0) = true := by rw [Aq1]; simp; omega
   by_cases c2 : x / 256 % 256 = 2
   · have Hn := hQd (show Abw x = x / 256 % 256 from by unfold Abw; rw [if_pos ⟨by rw [Ho.out]; exact c2, by omega⟩])
     have s2 : (Aac (x / 256 % 256) == 0) = false := by rw [Aq1]; simp; omega
     have d2 : (x / 256 % 256 != 2) = false := by rw [c2]; rfl
     rw [Ho.out, Hn.out]
     clear c2 c1
     go_enter Tryz.func11, Tryz.ntmps11
     go_wp2_with (go_at_call 17; refine (Ace _ _ (by omega) (by omega)).mono ?_; rintro e w' ⟨rfl, rfl⟩)
     go_ret2
     exact ⟨rfl, rfl⟩
   · have Hn := hQd (show Abw x = 0 from by unfold Abw; rw [if_neg (by rw [Ho.out]; omega)])
     have d2 : (x / 256 % 256 != 2) = true := by rw [bne_iff_ne]; exact c2
     rw [Ho.out, Hn.out]
     clear c2 c1
     go_enter Tryz.func11, Tryz.ntmps11
     go_wp2_with (go_at_call 17; refine (Ace _ _ (by omega) (by omega)).mono ?_; rintro e w' ⟨rfl, rfl⟩)
     go_ret2
     exact ⟨rfl, rfl⟩
theorem Aer (b k : Int) (w : World) (b0 : -9223372036854775808 ≤ b) (b1 : b ≤ 9223372036854775807) (k0 : -9223372036854775808 ≤ k) (k1 : k ≤ 9223372036854775807) :
 Calls Tryz.prog 67 #[.agg #[.int .i64 b, .int .i64 k]] w fun e w' => e = .returned (.bool (decide (0 ≤ k ∧ k < Aac b))) ∧ Below w.heap.size w w' := by
 have hs := Aai b
 by_cases c1 : 0 ≤ k
 · have d1 : decide (0 ≤ k) = true := by simpa using c1
   by_cases c2 : k < Aac b
   · have d2 : decide (k < Aac b) = true := by simpa using c2
     rw [decide_eq_true (⟨c1, c2⟩ : 0 ≤ k ∧ k < Aac b)]
     go_enter Tryz.func67, Tryz.ntmps67
     go_wp2
     go_quiet ((go_at_call 17; exact Acy (Ace _ _ b0 b1)))
     go_wp2
     go_ret
     exact ⟨rfl, below_drewN (bal _ _) _⟩
   · have d2 : decide (k < Aac b) = false := by simpa using c2
     rw [decide_eq_false (show ¬ (0 ≤ k ∧ k < Aac b) by omega)]
     go_enter Tryz.func67, Tryz.ntmps67
     go_wp2
     go_quiet ((go_at_call 17; exact Acy (Ace _ _ b0 b1)))
     go_wp2
     go_ret
     exact ⟨rfl, below_drewN (bal _ _) _⟩
 · have d1 : decide (0 ≤ k) = false := by simpa using c1
   rw [decide_eq_false (show ¬ (0 ≤ k ∧ k < Aac b) by omega)]
   go_enter Tryz.func67, Tryz.ntmps67
   go_wp2
   go_quiet ((go_at_call 17; exact Acy (Ace _ _ b0 b1)))
   go_wp2
   go_ret
   exact ⟨rfl, below_drewN (bal _ _) _⟩
theorem Ag0 (b k : Int) (w : World) (b0 : -9223372036854775808 ≤ b) (b1 : b ≤ 9223372036854775807) (k0 : -9223372036854775808 ≤ k) (k1 : k ≤ 9223372036854775807) :
 Calls Tryz.prog 27 #[.agg #[.int .i64 b, .int .i64 k]] w fun e w' => e = .returned (.int .u64 (Aah b k)) ∧ Below w.heap.size w w' := by
 have hs := Aai b
 by_cases c : 0 ≤ k ∧ k < Aac b
 · have Ht := hQd (Abz c)
   have d := decide_eq_true c
   rw [Ht.out]
   obtain ⟨ca, cb⟩ := c
   go_enter Tryz.func27, Tryz.ntmps27
   go_wp2_with fail
   refine (Aer _ _ _ b0 b1 k0 k1).mono ?_
   rintro e w' ⟨rfl, hb⟩
   have q0 : w'.cell? ⟨w.heap.size, 0, none⟩ = some (.int .i64 b) := by rw [hb.cell (p := ⟨w.heap.size, 0, none⟩) (by simp)]; simp
   have q1 : w'.cell? ⟨w.heap.size, 1, none⟩ = some (.int .i64 k) := by rw [hb.cell (p := ⟨w.heap.size, 1, none⟩) (by simp)]; simp
   go_wp2_with fail
   go_quiet ((go_at_call 17; exact Acy (Ace _ _ b0 b1)))
   go_wp2
   go_ret
   exact ⟨by simp, below_drewN ((bal _ _).trans (hb.mono (by simp))) _⟩
 · have d := decide_eq_false c
   rw [Ai9 c]
   clear c
   go_enter Tryz.func27, Tryz.ntmps27
   go_wp2_with (go_at_call 67; refine (Aer _ _ _ b0 b1 k0 k1).mono ?_; rintro e w' ⟨rfl, hb⟩)
   go_ret
   exact ⟨rfl, (bal _ _).trans (hb.mono (by simp))⟩
end
end Go.Proofs.YtehdnclegipciaaGreat
