/- Layer 24, plain: what a Victim computes. Layer 24: the program's Victim: its object, its look. Layer 24: what a Victim keeps to; the operation of both sides. Layer 24: the program's Victim's lines 1 and 3. Blocks that are nobody's yet: they may be claimed. Layer 24: the document's Victim. -/
import Derived.Test.YtlcibfpibklbdaaGreatBaD
import Derived.Test.YtlcibfpibklbdaaGreatBaE
import Derived.Test.YtlcibfpibklbdaaGreatBaG
namespace Go.Proofs.YtlcibfpibklbdaaGreat
set_option linter.unusedSimpArgs false
section
open Go.RowKit
set_option linter.unusedVariables false

/-- A Victim: its line, the slot it is at, the bucket behind which it fails. -/
structure Vcm where
  ln : Int
  p : Spt
  last : Int
  ref : Int
  mw : Int
  is : Bool
  o : Otm
def vcNext (z : Vcm) : Vcm :=
  if z.p.s < 3 then ⟨1, ⟨z.p.b, z.p.q, z.p.s + 1⟩, z.last, z.ref, z.mw, z.is, z.o⟩
  else if z.p.q = z.last then ⟨0, ⟨z.p.b, z.last, 0⟩, z.last, z.ref, z.mw, z.is, z.o⟩
  else ⟨1, ⟨z.p.b, z.last, 0⟩, z.last, z.ref, z.mw, z.is, z.o⟩
def vcRef (s : AW) (z : Vcm) : Int := wrap64 (s.M z.p.item)
def vcStep (x : AW × Vcm) : AW × Vcm :=
  if x.2.ln = 1 then (awLoad x.2.p.item x.1, if vcRef x.1 x.2 = 0 then ⟨0, x.2.p, x.2.last, 0, x.2.mw, true, x.2.o⟩ else ⟨2, x.2.p, x.2.last, vcRef x.1 x.2, x.2.mw, x.2.is, x.2.o⟩)
  else if x.2.ln = 2 then (awLoad (plRef x.2.ref) x.1, ⟨if rfMarked (x.1.M (plRef x.2.ref)) then 3 else 4, x.2.p, x.2.last, x.2.ref, x.1.M (plRef x.2.ref), x.2.is, ⟨0, 0⟩⟩)
  else if x.2.ln = 3 then (awStore (plRef x.2.ref) (rfLess x.2.mw) x.1, vcNext x.2)
  else if x.2.ln = 4 then (awAdd x.2.p.ver 1 x.1, ⟨5, x.2.p, x.2.last, x.2.ref, x.2.mw, x.2.is, x.2.o⟩)
  else if x.2.ln = 5 then
    (if x.2.o.ln = 1 then awNote 1 x.2.ref x.2.p.b x.2.p.q x.2.p.s 0 (outStep x.2.p x.1 x.2.o).1 else (outStep x.2.p x.1 x.2.o).1,
      ⟨if x.2.o.ln = 2 then 6 else 5, x.2.p, x.2.last, x.2.ref, x.2.mw, x.2.is, (outStep x.2.p x.1 x.2.o).2⟩)
  else if x.2.ln = 6 then (awAdd x.2.p.ver 1 x.1, ⟨7, x.2.p, x.2.last, x.2.ref, x.2.mw, x.2.is, x.2.o⟩)
  else if x.2.ln = 7 then (awAdd 6 18446744073709551615 x.1, ⟨0, x.2.p, x.2.last, x.2.ref, x.2.mw, true, x.2.o⟩)
  else x
def vcOver (z : Vcm) : Bool := z.ln == 0
def vcGot (z : Vcm) : Spt × Bool := if z.is then (z.p, true) else (⟨0, 0, 0⟩, false)
def vcTab (b : Int) : Prop := 1 ≤ b ∧ b ≤ 12
instance (b : Int) : Decidable (vcTab b) := by unfold vcTab; exact inferInstance
/-- A Victim that begins. -/
def vcNew (b h : Int) : Vcm := if vcTab b then ⟨1, ⟨b, fnvBucket h b, 0⟩, fnvOther (fnvBucket h b) (fnvTag h) b, 0, 0, false, ⟨0, 0⟩⟩ else ⟨0, ⟨0, 0, 0⟩, 0, 0, 0, false, ⟨0, 0⟩⟩
/-- What is left of its slots. -/
def vcSlots (b q : Int) (s : Nat) : List Spt := (List.range (4 - s)).map fun i => ⟨b, q, ((s + i : Nat) : Int)⟩
def vcLeft (z : Vcm) : List Spt := vcSlots z.p.b z.p.q z.p.s.toNat ++ if z.p.q = z.last then [] else vcSlots z.p.b z.last 0
structure VcOk (z : Vcm) : Prop where
  l0 : 0 ≤ z.ln
  l1 : z.ln ≤ 7
  p : z.ln ≠ 0 → z.p.ok
  a0 : z.ln ≠ 0 → 0 ≤ z.last ∧ z.last < fnvSize z.p.b
  i0 : z.ln ≠ 0 → z.is = false
  r0 : -9223372036854775808 ≤ z.ref
  r1 : z.ref ≤ 9223372036854775807
  m0 : 0 ≤ z.mw
  m1 : z.mw < 18446744073709551616
  w0 : 0 ≤ z.o.w
  w1 : z.o.w < 18446744073709551616
  o8 : z.ln = 4 ∨ z.ln = 5 → z.o.ln < 3
  o4 : z.ln = 4 → z.o = ⟨0, 0⟩
theorem vcStep_0 (s : AW) (z : Vcm) (h : z.ln = 0) : vcStep (s, z) = (s, z) := by
  unfold vcStep
  dsimp only
  simp [h]
theorem vcStep_1 (s : AW) (z : Vcm) (h : z.ln = 1) : vcStep (s, z) = (awLoad z.p.item s, if vcRef s z = 0 then ⟨0, z.p, z.last, 0, z.mw, true, z.o⟩ else ⟨2, z.p, z.last, vcRef s z, z.mw, z.is, z.o⟩) := by
  unfold vcStep
  dsimp only
  rw [if_pos h]
theorem vcStep_2 (s : AW) (z : Vcm) (h : z.ln = 2) : vcStep (s, z) = (awLoad (plRef z.ref) s, ⟨if rfMarked (s.M (plRef z.ref)) then 3 else 4, z.p, z.last, z.ref, s.M (plRef z.ref), z.is, ⟨0, 0⟩⟩) := by
  unfold vcStep
  dsimp only
  rw [if_neg (by omega), if_pos h]
theorem vcStep_3 (s : AW) (z : Vcm) (h : z.ln = 3) : vcStep (s, z) = (awStore (plRef z.ref) (rfLess z.mw) s, vcNext z) := by
  unfold vcStep
  dsimp only
  rw [if_neg (by omega), if_neg (by omega), if_pos h]
theorem vcStep_4 (s : AW) (z : Vcm) (h : z.ln = 4) : vcStep (s, z) = (awAdd z.p.ver 1 s, ⟨5, z.p, z.last, z.ref, z.mw, z.is, z.o⟩) := by
  unfold vcStep
  dsimp only
  rw [if_neg (by omega), if_neg (by omega), if_neg (by omega), if_pos h]
theorem vcStep_5 (s : AW) (z : Vcm) (h : z.ln = 5) : vcStep (s, z) = (if z.o.ln = 1 then awNote 1 z.ref z.p.b z.p.q z.p.s 0 (outStep z.p s z.o).1 else (outStep z.p s z.o).1, ⟨if z.o.ln = 2 then 6 else 5, z.p, z.last, z.ref, z.mw, z.is, (outStep z.p s z.o).2⟩) := by
  unfold vcStep
  dsimp only
  rw [if_neg (by omega), if_neg (by omega), if_neg (by omega), if_neg (by omega), if_pos h]
theorem vcStep_6 (s : AW) (z : Vcm) (h : z.ln = 6) : vcStep (s, z) = (awAdd z.p.ver 1 s, ⟨7, z.p, z.last, z.ref, z.mw, z.is, z.o⟩) := by
  unfold vcStep
  dsimp only
  rw [if_neg (by omega), if_neg (by omega), if_neg (by omega), if_neg (by omega), if_neg (by omega), if_pos h]
theorem vcStep_7 (s : AW) (z : Vcm) (h : z.ln = 7) : vcStep (s, z) = (awAdd 6 18446744073709551615 s, ⟨0, z.p, z.last, z.ref, z.mw, true, z.o⟩) := by
  unfold vcStep
  dsimp only
  rw [if_neg (by omega), if_neg (by omega), if_neg (by omega), if_neg (by omega), if_neg (by omega), if_neg (by omega), if_pos h]
theorem vcSlots_len (b q : Int) (s : Nat) : (vcSlots b q s).length = 4 - s := by unfold vcSlots; simp
theorem vcSlots_cons (b q : Int) (s : Nat) (h : s < 4) : vcSlots b q s = ⟨b, q, s⟩ :: vcSlots b q (s + 1) := by
  have h : s = 0 ∨ s = 1 ∨ s = 2 ∨ s = 3 := by omega
  rcases h with rfl | rfl | rfl | rfl <;> rfl
theorem vcSlots_4 (b q : Int) : vcSlots b q 4 = [] := rfl
theorem vcLeft_cons {z : Vcm} (h : z.p.ok) : ∃ l, vcLeft z = z.p :: l ∧ l = vcSlots z.p.b z.p.q (z.p.s.toNat + 1) ++ if z.p.q = z.last then [] else vcSlots z.p.b z.last 0 := by
  have h0 := h.s0
  have h1 := h.s1
  refine ⟨_, ?_, rfl⟩
  unfold vcLeft
  rw [vcSlots_cons _ _ _ (by omega)]
  have e : (z.p.s.toNat : Int) = z.p.s := by omega
  rw [e]
  rfl
theorem vcLeft_len (z : Vcm) : (vcLeft z).length ≤ 8 := by
  unfold vcLeft
  rw [List.length_append, vcSlots_len]
  split
  · rw [List.length_nil]; omega
  · rw [vcSlots_len]; omega
/-- The next slot is what is left behind the first one, or there is none. -/
theorem vcLeft_next {z : Vcm} (h : z.p.ok) : vcLeft z = z.p :: (if (vcNext z).ln = 0 then [] else vcLeft (vcNext z)) ∧ ((vcNext z).ln = 0 ∨ (vcNext z).ln = 1) := by
  obtain ⟨l, h1, h2⟩ := vcLeft_cons h
  have s0 := h.s0
  have s1 := h.s1
  rw [h1, h2]
  unfold vcNext
  by_cases c : z.p.s < 3
  · rw [if_pos c]
    refine ⟨?_, .inr rfl⟩
    rw [if_neg (show ¬ (1 : Int) = 0 by decide)]
    unfold vcLeft
    dsimp only
    have e : (z.p.s + 1).toNat = z.p.s.toNat + 1 := by omega
    rw [e]
  · rw [if_neg c]
    have e : z.p.s.toNat + 1 = 4 := by omega
    rw [e, vcSlots_4, List.nil_append]
    by_cases d : z.p.q = z.last
    · rw [if_pos d, if_pos d]
      exact ⟨by simp, .inl rfl⟩
    · rw [if_neg d, if_neg d]
      refine ⟨?_, .inr rfl⟩
      rw [if_neg (show ¬ (1 : Int) = 0 by decide)]
      unfold vcLeft
      dsimp only
      simp
end
section
open Go.RowKit Go.Shelf
set_option linter.unusedVariables false

def sptc (p : Spt) : List Value := [.int .i64 p.b, .int .i64 p.q, .int .i64 p.s]
def sptV (p : Spt) : Value := .agg #[.int .i64 p.b, .int .i64 p.q, .int .i64 p.s]
/-- The slots that are left: a row in block A. -/
structure VLeft (W : World) (G : Om) (g : Nat) (lv : Value) (l : List Spt) : Prop where
  ex : ∃ (A j cap : Nat) (cs : List Value), lv = .slice (some ⟨A, j, none⟩) l.length cap ∧ l.length ≤ cap ∧ cap ≤ maxLen ∧ Ob W G g A cs ∧ cs.drop j = l.flatMap sptc ++ cs.drop (j + 3 * l.length)
theorem VLeft.ext {S : Nat → Prop} {O O' : Om} {w w' : World} {g : Nat} {lv : Value} {l : List Spt} (h : VLeft w O g lv l) (e : Ext S O w O' w') (hs : ¬ S g) : VLeft w' O' g lv l := by
  obtain ⟨A, j, cap, cs, h1, h2, h3, h4, h5⟩ := h.ex
  exact ⟨A, j, cap, cs, h1, h2, h3, h4.ext e hs, h5⟩
theorem VLeft.below {O : Om} {w w' : World} {g : Nat} {lv : Value} {l : List Spt} (h : VLeft w O g lv l) (hb : Below w.heap.size w w') : VLeft w' O g lv l := by
  obtain ⟨A, j, cap, cs, h1, h2, h3, h4, h5⟩ := h.ex
  exact ⟨A, j, cap, cs, h1, h2, h3, h4.below hb, h5⟩
/-- The first one's cells, and what is left behind it. -/
theorem VLeft.head {O : Om} {w : World} {g : Nat} {lv : Value} {p : Spt} {l : List Spt} (h : VLeft w O g lv (p :: l)) : ∃ (A j cap : Nat) (cs : List Value), lv = .slice (some ⟨A, j, none⟩) (l.length + 1) cap ∧ l.length + 1 ≤ cap ∧ cap ≤ maxLen ∧ Ob w O g A cs ∧
    w.cell? ⟨A, j, none⟩ = some (.int .i64 p.b) ∧ w.cell? ⟨A, j + 1, none⟩ = some (.int .i64 p.q) ∧ w.cell? ⟨A, j + 2, none⟩ = some (.int .i64 p.s) ∧ (∀ (W : World) (G : Om) (cap2 : Nat), Ob W G g A cs → l.length ≤ cap2 → cap2 ≤ maxLen → VLeft W G g (.slice (some ⟨A, j + 3, none⟩) l.length cap2) l) := by
  obtain ⟨A, j, cap, cs, h1, h2, h3, h4, h5⟩ := h.ex
  rw [List.length_cons] at h1 h2
  have e5 : cs.drop j = sptc p ++ (l.flatMap sptc ++ cs.drop (j + 3 * (l.length + 1))) := by rw [h5]; simp
  have gt : ∀ i v, (sptc p)[i]? = some v → cs[j + i]? = some v := by
    intro i v hv
    have : (cs.drop j)[i]? = (sptc p ++ (l.flatMap sptc ++ cs.drop (j + 3 * (l.length + 1))))[i]? := by rw [← e5]
    rw [List.getElem?_drop, List.getElem?_append_left ((List.getElem?_eq_some_iff.1 hv).1)] at this
    rw [this, hv]
  refine ⟨A, j, cap, cs, h1, h2, h3, h4, h4.c _ _ (gt 0 _ rfl), h4.c _ _ (gt 1 _ rfl), h4.c _ _ (gt 2 _ rfl), fun W G cap2 h6 h7 h8 => ⟨A, j + 3, cap2, cs, rfl, h7, h8, h6, ?_⟩⟩
  have e6 : (cs.drop j).drop 3 = (sptc p ++ (l.flatMap sptc ++ cs.drop (j + 3 * (l.length + 1)))).drop 3 := by rw [← e5]
  rw [List.drop_drop] at e6
  rw [show j + 3 = j + 3 from rfl, e6]
  rw [List.drop_append_of_le_length (by simp [sptc])]
  rw [show (sptc p).drop 3 = [] from rfl, List.nil_append]
  rw [show j + 3 + 3 * l.length = j + 3 * (l.length + 1) by omega]
def vcCs (lv dv : Value) (ref : Int) (is : Bool) : List Value := [lv, dv, .int .i64 ref, .bool is]
def LOOKV (bs bx : Nat) : Value := .func (.func 162) #[] #[.pointer (some ⟨bs, 0, none⟩), .pointer (some ⟨bx, 0, none⟩)]
def ASKV (bx bs : Nat) : Value := .func (.func 163) #[] #[.pointer (some ⟨bx, 0, none⟩), .pointer (some ⟨bs, 0, none⟩)]
def CLEARV (bx bv : Nat) : Value := .func (.func 165) #[] #[.pointer (some ⟨bx, 0, none⟩), .pointer (some ⟨bv, 0, none⟩)]
def DROPV (bt bx : Nat) : Value := .func (.func 204) #[] #[.pointer (some ⟨bt, 0, none⟩), .pointer (some ⟨bx, 0, none⟩)]
def MSTEPV (m : Nat) : Value := .func (.func 145) #[.pointer (some ⟨m, 0, none⟩)] #[]
def OSTEPV (bo bx bs : Nat) : Value := .func (.func 202) #[] #[.pointer (some ⟨bo, 0, none⟩), .pointer (some ⟨bx, 0, none⟩), .pointer (some ⟨bs, 0, none⟩)]
def CSTEPV : Value := .func (.func 203) #[] #[]
/-- What lines 4 to 7 hold, n of them behind them. -/
structure VDrop (W : World) (G : Om) (k X : Nat) (z : Vcm) (n bt bx : Nat) : Prop where
  ex : ∃ (T bo bs m1 m2 U : Nat), Ob W G (k + 5) bx [.pointer (some ⟨X, 0, none⟩)] ∧ Ob W G (k + 8) bt [.slice (some ⟨T, n, none⟩) (4 - n) (4 - n)] ∧ Ob W G (k + 9) T [MSTEPV m1, OSTEPV bo bx bs, MSTEPV m2, CSTEPV] ∧
    Ob W G (k + 7) bo [.pointer (some ⟨U, 0, none⟩)] ∧ Ob W G (k + 6) bs (sptc z.p) ∧ (n = 0 → MkAt W G (k + 10) m1 [z.p.ver]) ∧ (n ≤ 1 → OutAt W G (k + 12) U z.p z.o) ∧ (n ≤ 2 → MkAt W G (k + 13) m2 [z.p.ver])
theorem VDrop.ext {S : Nat → Prop} {O O' : Om} {w w' : World} {k X : Nat} {z : Vcm} {n bt bx : Nat} (h : VDrop w O k X z n bt bx) (e : Ext S O w O' w') (hs : ∀ t, k + 5 ≤ t → t < k + 15 → ¬ S t) : VDrop w' O' k X z n bt bx := by
  obtain ⟨T, bo, bs, m1, m2, U, h1, h2, h3, h4, h5, h6, h7, h8⟩ := h.ex
  exact ⟨T, bo, bs, m1, m2, U, h1.ext e (hs _ (by omega) (by omega)), h2.ext e (hs _ (by omega) (by omega)), h3.ext e (hs _ (by omega) (by omega)), h4.ext e (hs _ (by omega) (by omega)), h5.ext e (hs _ (by omega) (by omega)), fun g => (h6 g).ext e (hs _ (by omega) (by omega)) (hs _ (by omega) (by omega)), fun g => (h7 g).ext e (hs _ (by omega) (by omega)), fun g => (h8 g).ext e (hs _ (by omega) (by omega)) (hs _ (by omega) (by omega))⟩
/-- What comes next, and what it holds. -/
def VDo (W : World) (G : Om) (k X : Nat) (z : Vcm) (dv : Value) : Prop :=
  (z.ln = 0 → dv = .nilFunc) ∧
  (z.ln = 1 → ∃ bs bx, dv = LOOKV bs bx ∧ Ob W G (k + 2) bs (sptc z.p) ∧ Ob W G (k + 3) bx [.pointer (some ⟨X, 0, none⟩)]) ∧
  (z.ln = 2 → ∃ bs bx, dv = ASKV bx bs ∧ Ob W G (k + 2) bs (sptc z.p) ∧ Ob W G (k + 3) bx [.pointer (some ⟨X, 0, none⟩)]) ∧
  (z.ln = 3 → ∃ bx bv, dv = CLEARV bx bv ∧ Ob W G (k + 3) bx [.pointer (some ⟨X, 0, none⟩)] ∧ Ob W G (k + 4) bv [.int .u64 z.mw]) ∧
  (4 ≤ z.ln ∧ z.ln ≤ 7 → ∃ bt bx, dv = DROPV bt bx ∧ VDrop W G k X z (z.ln.toNat - 4) bt bx)
theorem VDo.ext {S : Nat → Prop} {O O' : Om} {w w' : World} {k X : Nat} {z : Vcm} {dv : Value} (h : VDo w O k X z dv) (e : Ext S O w O' w') (hs : ∀ t, k + 2 ≤ t → t < k + 15 → ¬ S t) : VDo w' O' k X z dv := by
  obtain ⟨h0, h1, h2, h3, h4⟩ := h
  refine ⟨h0, fun g => ?_, fun g => ?_, fun g => ?_, fun g => ?_⟩
  · obtain ⟨bs, bx, a, b, c⟩ := h1 g; exact ⟨bs, bx, a, b.ext e (hs _ (by omega) (by omega)), c.ext e (hs _ (by omega) (by omega))⟩
  · obtain ⟨bs, bx, a, b, c⟩ := h2 g; exact ⟨bs, bx, a, b.ext e (hs _ (by omega) (by omega)), c.ext e (hs _ (by omega) (by omega))⟩
  · obtain ⟨bs, bx, a, b, c⟩ := h3 g; exact ⟨bs, bx, a, b.ext e (hs _ (by omega) (by omega)), c.ext e (hs _ (by omega) (by omega))⟩
  · obtain ⟨bt, bx, a, b⟩ := h4 g; exact ⟨bt, bx, a, b.ext e (fun t h1 h2 => hs t (by omega) h2)⟩
/-- A Victim in block X. -/
structure VcAt (W : World) (G : Om) (k X : Nat) (z : Vcm) : Prop where
  ex : ∃ lv dv, Ob W G k X (vcCs lv dv z.ref z.is) ∧ (z.ln ≠ 0 → VLeft W G (k + 1) lv (vcLeft z)) ∧ (z.is = true → ∃ l, VLeft W G (k + 1) lv (z.p :: l)) ∧ VDo W G k X z dv
theorem VcAt.ext {S : Nat → Prop} {O O' : Om} {w w' : World} {k X : Nat} {z : Vcm} (h : VcAt w O k X z) (e : Ext S O w O' w') (hs : ∀ t, k ≤ t → t < k + 15 → ¬ S t) : VcAt w' O' k X z := by
  obtain ⟨lv, dv, h1, h2, h3, h4⟩ := h.ex
  exact ⟨lv, dv, h1.ext e (hs _ (by omega) (by omega)), fun g => (h2 g).ext e (hs _ (by omega) (by omega)), fun g => (h3 g).imp fun l h => h.ext e (hs _ (by omega) (by omega)), h4.ext e fun t g1 g2 => hs t (by omega) g2⟩
theorem VcAt.below {O : Om} {w w' : World} {k X : Nat} {z : Vcm} (h : VcAt w O k X z) (hhi : ∀ j, O j ≠ 0 → j < w.heap.size) (hb : Below w.heap.size w w') : VcAt w' O k X z := h.ext (S := fun _ => False) (Ext.of_below hhi hb) fun _ _ _ => id
def VPost (w : World) (O : Om) (B : Wb) (f : Cf) (k X : Nat) (v : Value) (y : AW × Vcm) (e : Ending) (w' : World) : Prop :=
  RP (SX k (k + 14)) w O v (fun W G => PW W G B f y.1 ∧ VcAt W G k X y.2) e w'
theorem c_Marked24 (v : Int) (w : World) (v0 : 0 ≤ v) (v1 : v < 18446744073709551616) : Calls Tryz.prog 45 #[.int .u64 v] w fun e w' => e = .returned (.bool (rfMarked v)) ∧ w = w' := by
  have hm := u64_mark v v0 v1
  go_enter Tryz.func45, Tryz.ntmps45
  go_wp2
  go_ret
  exact ⟨ret_bool (by unfold rfMarked; rw [Bool.eq_iff_iff]; simp; try omega), rfl⟩
theorem c_Less24 (v : Int) (w : World) (v0 : 0 ≤ v) (v1 : v < 18446744073709551616) : Calls Tryz.prog 46 #[.int .u64 v] w fun e w' => e = .returned (.int .u64 (rfLess v)) ∧ w = w' := by
  have hm := u64_mark v v0 v1
  go_enter Tryz.func46, Tryz.ntmps46
  go_wp2
  go_ret
  exact ⟨ret_int (by rw [IntKind.wrap_u64]; rfl), rfl⟩
theorem c_VOver (X : Nat) (dv : Value) (w : World) (hc : w.cell? ⟨X, 1, none⟩ = some dv) (b : Bool) (hb : (dv = .nilFunc ∧ b = true) ∨ (∃ f a c, dv = .func f a c ∧ b = false)) :
    Calls Tryz.prog 47 #[.pointer (some ⟨X, 0, none⟩)] w fun e w' => e = .returned (.bool b) ∧ w = w' := by
  rcases hb with ⟨rfl, rfl⟩ | ⟨f, a, c, rfl, rfl⟩
  · go_enter Tryz.func47, Tryz.ntmps47
    go_wp2
    go_ret
    exact ⟨rfl, rfl⟩
  · go_enter Tryz.func47, Tryz.ntmps47
    go_wp2
    go_ret
    exact ⟨rfl, rfl⟩
section
variable {X : Nat} {w : World} {O : Om} {B : Wb} {f : Cf} {s : AW} {k : Nat}
set_option maxHeartbeats 4000000 in
set_option maxRecDepth 100000 in
theorem c_Vlook (lv dv : Value) (ref : Int) (is : Bool) (p : Spt) (l : List Spt) (hx : Ob w O k X (vcCs lv dv ref is)) (hL : VLeft w O (k + 1) lv (p :: l)) (hk : 10 ≤ k) (hhi : ∀ j, O j ≠ 0 → j < w.heap.size) :
    Calls Tryz.prog 97 #[.pointer (some ⟨X, 0, none⟩)] w fun e w' => ∃ bs bx, RP (fun t => t = k ∨ t = k + 2 ∨ t = k + 3) w O (.tuple #[]) (fun W G => Ob W G k X (vcCs lv (LOOKV bs bx) ref is) ∧ Ob W G (k + 2) bs (sptc p) ∧ Ob W G (k + 3) bx [.pointer (some ⟨X, 0, none⟩)]) e w' := by
  obtain ⟨A, j, cap, cs, rfl, hcap, hmx, hA, a0, a1, a2, -⟩ := hL.head
  have x0 := hx.c 0 _ rfl
  have e0 := ext_set (j := 1) (v := LOOKV (w.heap.size + 1) w.heap.size) hhi hx (by omega)
  have X0 := hx.set 1 (LOOKV (w.heap.size + 1) w.heap.size) (by simp [vcCs])
  obtain ⟨O1, e1, b1, k1⟩ := alloc_ob e0.hi (k + 3) #[.pointer (some ⟨X, 0, none⟩)] 80 w.heap.size (by simp)
  obtain ⟨O2, e2, b2, k2⟩ := alloc_ob e1.hi (k + 2) #[.int .i64 p.b, .int .i64 p.q, .int .i64 p.s] 45 (w.heap.size + 1) (by simp)
  have HE := Lib.hid (And.intro (((e0.mono (T := fun t => t = k ∨ t = k + 2 ∨ t = k + 3) fun t _ h => .inl h).trans (e1.mono fun t _ h => .inr (.inr h))).trans (e2.mono fun t _ h => .inr (.inl h))) (And.intro (k2 _ _ _ (k1 _ _ _ X0)) (And.intro b2 (k2 _ _ _ b1))))
  have hXl := hx.lt
  have hAl := hA.lt
  have f1 := hx.f 1
  have x1 := hx.c 1 _ rfl
  have i0 : (0 : Int) < (l.length : Int) + 1 := by omega
  clear hx hL hA hhi e0 X0 e1 b1 k1 e2 b2 k2
  go_enter Tryz.func97, Tryz.ntmps97
  go_wp2_with fail
  go_end0
  exact ⟨w.heap.size + 1, w.heap.size, rfl, O2, HE.out⟩
end
end
section
open Go.RowKit
set_option linter.unusedVariables false

theorem vcNew_ok (b h : Int) (h0 : 0 ≤ h) (h1 : h < 18446744073709551616) : VcOk (vcNew b h) := by
  unfold vcNew
  by_cases hb : vcTab b
  · rw [if_pos hb]
    have e1 := fnvBucket_bd (h := h) hb.1 hb.2
    have e2 := fnvTag_bd h h0 h1
    have e3 := fnvOther_bd (k := fnvBucket h b) (t := fnvTag h) (b := b) ⟨e1.1, e1.2, e2.1, e2.2⟩
    constructor <;> dsimp only
    · omega
    · omega
    · intro _; exact ⟨hb.1, hb.2, e1.1, e1.2, by dsimp only; omega, by dsimp only; omega⟩
    · intro _; exact e3
    · intro _; rfl
    all_goals (first | omega | (intro _; first | rfl | omega))
  · rw [if_neg hb]
    constructor <;> dsimp only
    · omega
    · omega
    · intro h; omega
    · intro h; omega
    · intro h; omega
    all_goals (first | omega | (intro _; first | rfl | omega))
theorem vcNext_ok {z : Vcm} (hp : z.p.ok) (ha : 0 ≤ z.last ∧ z.last < fnvSize z.p.b) (i0 : z.is = false) (r0 : -9223372036854775808 ≤ z.ref) (r1 : z.ref ≤ 9223372036854775807) (m0 : 0 ≤ z.mw) (m1 : z.mw < 18446744073709551616) (w0 : 0 ≤ z.o.w) (w1 : z.o.w < 18446744073709551616) : VcOk (vcNext z) := by
  obtain ⟨b0, b1, q0, q1, s0, s1⟩ := hp
  unfold vcNext
  by_cases c : z.p.s < 3
  · rw [if_pos c]
    constructor <;> dsimp only
    · omega
    · omega
    · intro _; exact ⟨b0, b1, q0, q1, by dsimp only; omega, by dsimp only; omega⟩
    · intro _; exact ha
    · intro _; exact i0
    all_goals (first | assumption | (intro g; omega))
  · rw [if_neg c]
    by_cases d : z.p.q = z.last
    · rw [if_pos d]
      constructor <;> dsimp only
      · omega
      · omega
      · intro h; omega
      · intro h; omega
      · intro h; omega
      all_goals (first | assumption | (intro g; omega))
    · rw [if_neg d]
      constructor <;> dsimp only
      · omega
      · omega
      · intro _; exact ⟨b0, b1, ha.1, ha.2, by dsimp only; omega, by dsimp only; omega⟩
      · intro _; exact ha
      · intro _; exact i0
      all_goals (first | assumption | (intro g; omega))
theorem vcStep_ok {s : AW} {z : Vcm} (hb : Bd s.M) (hz : VcOk z) : VcOk (vcStep (s, z)).2 := by
  have hzz := hz
  obtain ⟨l0, l1, p, a0, i0, r0, r1, m0, m1, w0, w1, o8, o4⟩ := hz
  have h : z.ln = 0 ∨ z.ln = 1 ∨ z.ln = 2 ∨ z.ln = 3 ∨ z.ln = 4 ∨ z.ln = 5 ∨ z.ln = 6 ∨ z.ln = 7 := by omega
  rcases h with h | h | h | h | h | h | h | h
  · rw [vcStep_0 s z h]; exact hzz
  · rw [vcStep_1 s z h]
    have hw := wrap64_bd (s.M z.p.item)
    have hr : vcRef s z = wrap64 (s.M z.p.item) := rfl
    have p := p (by omega)
    have a0 := a0 (by omega)
    have i0 := i0 (by omega)
    dsimp only
    by_cases e : vcRef s z = 0
    · rw [if_pos e]
      constructor <;> dsimp only
      · omega
      · omega
      · intro h; omega
      · intro h; omega
      · intro h; omega
      all_goals (first | assumption | omega | (intro g; omega))
    · rw [if_neg e]
      constructor <;> dsimp only
      · omega
      · omega
      · intro _; exact p
      · intro _; exact a0
      · intro _; exact i0
      · rw [hr]; omega
      · rw [hr]; omega
      all_goals (first | assumption | (intro g; omega))
  · rw [vcStep_2 s z h]
    have p := p (by omega)
    have a0 := a0 (by omega)
    have i0 := i0 (by omega)
    have hm := hb (plRef z.ref)
    constructor <;> dsimp only
    · split <;> omega
    · split <;> omega
    · intro _; exact p
    · intro _; exact a0
    · intro _; exact i0
    all_goals (first | assumption | omega | (intro g; first | rfl | omega))
  · rw [vcStep_3 s z h]
    exact vcNext_ok (p (by omega)) (a0 (by omega)) (i0 (by omega)) r0 r1 m0 m1 w0 w1
  · rw [vcStep_4 s z h]
    have p := p (by omega)
    have a0 := a0 (by omega)
    have i0 := i0 (by omega)
    have o8 := o8 (.inl h)
    constructor <;> dsimp only
    · omega
    · omega
    · intro _; exact p
    · intro _; exact a0
    · intro _; exact i0
    all_goals (first | assumption | omega | (intro g; first | assumption | omega))
  · rw [vcStep_5 s z h]
    have p := p (by omega)
    have a0 := a0 (by omega)
    have i0 := i0 (by omega)
    have ho := o8 (.inr h)
    obtain ⟨g0, g1⟩ := outStep_w (p := z.p) hb w0 w1
    have g2 := outStep_lnH (p := z.p) (s := s) ho
    obtain ⟨q, hq⟩ : ∃ q, q = (outStep z.p s z.o).2 := ⟨_, rfl⟩
    rw [← hq] at g0 g1 g2 ⊢
    dsimp only
    by_cases e2 : z.o.ln = 2
    · rw [if_pos e2]
      constructor <;> dsimp only
      · omega
      · omega
      · intro _; exact p
      · intro _; exact a0
      · intro _; exact i0
      all_goals (first | assumption | (intro g; omega))
    · rw [if_neg e2]
      constructor <;> dsimp only
      · omega
      · omega
      · intro _; exact p
      · intro _; exact a0
      · intro _; exact i0
      all_goals (first | assumption | (intro g; omega))
  · rw [vcStep_6 s z h]
    have p := p (by omega)
    have a0 := a0 (by omega)
    have i0 := i0 (by omega)
    constructor <;> dsimp only
    · omega
    · omega
    · intro _; exact p
    · intro _; exact a0
    · intro _; exact i0
    all_goals (first | assumption | omega | (intro g; first | assumption | omega))
  · rw [vcStep_7 s z h]
    constructor <;> dsimp only
    · omega
    · omega
    · intro h; omega
    · intro h; omega
    · intro h; omega
    all_goals (first | assumption | (intro g; omega))
theorem vcStep_aw (s : AW) (z : Vcm) (l0 : 0 ≤ z.ln) (l1 : z.ln ≤ 7) : Aw1 s (vcStep (s, z)).1 := by
  have h : z.ln = 0 ∨ z.ln = 1 ∨ z.ln = 2 ∨ z.ln = 3 ∨ z.ln = 4 ∨ z.ln = 5 ∨ z.ln = 6 ∨ z.ln = 7 := by omega
  rcases h with h | h | h | h | h | h | h | h
  · rw [vcStep_0 s z h]; exact Aw1.refl _
  · rw [vcStep_1 s z h]; exact aw1_load _ _
  · rw [vcStep_2 s z h]; exact aw1_load _ _
  · rw [vcStep_3 s z h]; exact aw1_store _ _ _
  · rw [vcStep_4 s z h]; exact aw1_add _ _ _
  · rw [vcStep_5 s z h]
    obtain ⟨a, b⟩ := outStep_aw z.p s z.o
    dsimp only
    by_cases e : z.o.ln = 1
    · rw [if_pos e]; refine Aw1.note a b _ _ _ _ _ _ ?_ ?_ <;> decide
    · rw [if_neg e]; exact a
  · rw [vcStep_6 s z h]; exact aw1_add _ _ _
  · rw [vcStep_7 s z h]; exact aw1_add _ _ _
end
section
open Go.RowKit Go.Shelf
set_option linter.unusedVariables false

theorem vcNext_ri (z : Vcm) : (vcNext z).ref = z.ref ∧ (vcNext z).is = z.is ∧ (vcNext z).mw = z.mw := by
  unfold vcNext
  split
  · exact ⟨rfl, rfl, rfl⟩
  · split
    · exact ⟨rfl, rfl, rfl⟩
    · exact ⟨rfl, rfl, rfl⟩
section
variable {X : Nat} {w : World} {O : Om} {B : Wb} {f : Cf} {s : AW} {k : Nat}
set_option maxHeartbeats 4000000 in
set_option maxRecDepth 100000 in
theorem c_V1 {z : Vcm} {lv dv : Value} {bs bx : Nat} (hP : PW w O B f s) (hx : Ob w O k X (vcCs lv dv z.ref z.is)) (hL : VLeft w O (k + 1) lv (vcLeft z)) (hs : Ob w O (k + 2) bs (sptc z.p)) (hb : Ob w O (k + 3) bx [.pointer (some ⟨X, 0, none⟩)]) (hz : VcOk z) (hl : z.ln = 1) (hk : 10 ≤ k) (hhi : ∀ j, O j ≠ 0 → j < w.heap.size) (n0 : 0 ≤ s.n) (n1 : s.n ≤ 4611686018427387904) :
    Calls Tryz.prog 162 #[.pointer (some ⟨B.p, 0, none⟩), .pointer (some ⟨bs, 0, none⟩), .pointer (some ⟨bx, 0, none⟩)] w (VPost w O B f k X (.tuple #[]) (vcStep (s, z))) := by
  rw [vcStep_1 s z hl]
  obtain ⟨ln, p, last, ref, mw, is, o⟩ := z
  dsimp only at hl
  subst hl
  have hpo := hz.p (by dsimp only; omega)
  dsimp only at hpo
  have HP := Lib.hid hpo
  obtain ⟨l0, l1, -, a0, i0, r0, r1, m0, m1, w0, w1, o8, o4⟩ := hz
  dsimp only at l0 l1 a0 i0 r0 r1 m0 m1 w0 w1 o8 o4
  have i0 := i0 (by omega)
  subst i0
  have HM : Hid (Me k (k + 14) w O w O B f s k X (vcCs lv dv ref false)) := Lib.hid (Me.start hhi hP hx)
  have HV := Lib.hid hL
  have p0 := hP.wo.c0
  unfold VPost
  dsimp only at hs
  have HS := Lib.hid (And.intro hs hb)
  have hit := hpo.item
  have hq2 := hpo.q2
  have HI := Lib.hid (fun W => c_Item p.b p.q p.s W (by have := hpo.b0; omega) (by have := hpo.b1; omega) (by have := hpo.q0; omega) (by omega) (by have := hpo.s0; omega) (by have := hpo.s1; omega))
  obtain ⟨ia, hia⟩ : ∃ ia, ia = p.item := ⟨_, rfl⟩
  have hia2 : plItem p.b p.q p.s = ia := hia.symm
  rw [hia2] at HI
  rw [← hia] at hit ⊢
  have er : vcRef s ⟨1, p, last, ref, mw, false, o⟩ = wrap64 (s.M ia) := by unfold vcRef; rw [hia]
  rw [er]
  obtain ⟨r, hr⟩ : ∃ r, r = wrap64 (s.M ia) := ⟨_, rfl⟩
  rw [← hr]
  have hr1 : wrap64 (s.M ia) = r := hr.symm
  have hr2 : IntKind.i64.wrap (s.M ia) = r := by rw [hr]; unfold wrap64; simp [IntKind.wrap, IntKind.bits, IntKind.signed]; omega
  have hia0 : 0 ≤ ia ∧ ia < 18446744073709551616 := by omega
  have HIA := Lib.hid hia0
  have b0 := hb.c 0 _ rfl
  have s0 := hs.c 0 _ rfl
  have s1 := hs.c 1 _ rfl
  have s2 := hs.c 2 _ rfl
  have g1 := hb.ne hx (by omega)
  have g2 := hs.ne hx (by omega)
  have g3 := hP.ne_obj hx hk
  have g4 := Ne.symm g1
  have g5 := Ne.symm g2
  have g6 := Ne.symm g3
  clear hs hb hr hia hia2 er hit hq2 hia0
  clear hP hx hL hhi hpo l0 l1 a0 r0 r1 m0 m1 w0 w1 o8 o4
  go_enter Tryz.func162, Tryz.ntmps162
  go_wp2_with fail
  go_region_held3 (fun w' => w'.cell? ⟨B.p, 0, none⟩ = some (.pointer (some ⟨B.c, 0, none⟩)) ∧ w'.cell? ⟨bx, 0, none⟩ = some (.pointer (some ⟨X, 0, none⟩)) ∧ w'.cell? ⟨bs, 0, none⟩ = some (.int .i64 p.b) ∧ w'.cell? ⟨bs, 1, none⟩ = some (.int .i64 p.q) ∧ w'.cell? ⟨bs, 2, none⟩ = some (.int .i64 p.s)) (go_keep)
    ((first
      | (go_at_call 76
         refine (HI.out _).mono ?_
         rintro e w1 ⟨rfl, hb1⟩
         have M1 := Lib.hid (HM.out.drew.below hb1)
         have S1 := Lib.hid (And.intro ((HS.out.1.below (drew_below _)).below hb1) ((HS.out.2.below (drew_below _)).below hb1))
         have p01 := M1.out.p.wo.c0
         have b01 := S1.out.2.c 0 _ rfl
         have s01 := S1.out.1.c 0 _ rfl
         have s11 := S1.out.1.c 1 _ rfl
         have s21 := S1.out.1.c 2 _ rfl
         have V1 := Lib.hid ((HV.out.below (drew_below _)).below hb1)
         clear hb1)
      | (go_at_call 81
         refine (c_LoadP ia M1.out.p M1.out.e.hi HIA.out.1 HIA.out.2 n0 n1).mono ?_
         rintro e w3 ⟨rfl, G3, e3, P3⟩
         have M3 := Lib.hid (M1.out.world hk e3 P3)
         have S3 := Lib.hid (And.intro (S1.out.1.ext e3 (by unfold SW; omega)) (S1.out.2.ext e3 (by unfold SW; omega)))
         have V3 := Lib.hid (V1.out.ext e3 (by unfold SW; omega))
         have p03 := M3.out.p.wo.c0
         have b03 := S3.out.2.c 0 _ rfl
         have s03 := S3.out.1.c 0 _ rfl
         have s13 := S3.out.1.c 1 _ rfl
         have s23 := S3.out.1.c 2 _ rfl
         have x23 := M3.out.t.c 2 _ rfl
         have f23 := M3.out.t.f 2
         have HE3 := Lib.hid (ext_set (j := 2) (v := .int .i64 r) M3.out.e.hi M3.out.t hk)
         have M4 := Lib.hid (M3.out.set hk (Nat.le_refl _) (by omega) 2 (.int .i64 r) (by simp [vcCs]))
         clear e3 P3)))
  all_goals
    clear p0 b0 s0 s1 s2 p01 b01 s01 s11 s21 p03 s03 s13 s23
    go_upto_region 1 with fail
    have S4 := Lib.hid (And.intro (S3.out.1.ext HE3.out (by omega)) (S3.out.2.ext HE3.out (by omega)))
    have V4 := Lib.hid (V3.out.ext HE3.out (by omega))
    obtain ⟨w4, hw4⟩ : ∃ w4, w4 = w3.setCell ⟨X, 2, none⟩ (.int .i64 r) := ⟨_, rfl⟩
    rw [← hw4] at M4 S4 V4 ⊢
    clear hw4 x23 f23 b03 HE3 M3 S3 V3 M1 S1 V1
    have x2 := M4.out.t.c 2 _ rfl
    have b0 := S4.out.2.c 0 _ rfl
    by_cases hr0 : r = 0
    · subst hr0
      have x3 := M4.out.t.c 3 _ rfl
      have f3 := M4.out.t.f 3
      have x1 := M4.out.t.c 1 _ rfl
      have f1 := M4.out.t.f 1
      have A1 := M4.out.set hk (Nat.le_refl _) (by omega) 3 (.bool true) (by simp [vcCs])
      have E1 := ext_set (j := 3) (v := .bool true) M4.out.e.hi M4.out.t hk
      have E2 := ext_set (j := 1) (v := .nilFunc) E1.hi A1.t hk
      have A2 := Lib.hid (A1.set hk (Nat.le_refl _) (by omega) 1 (.nilFunc) (by simp [vcCs]))
      have C1 := M4.out.set hk (Nat.le_refl _) (by omega) 1 (.nilFunc) (by simp [vcCs])
      have F1 := ext_set (j := 1) (v := .nilFunc) M4.out.e.hi M4.out.t hk
      have F2 := ext_set (j := 3) (v := .bool true) F1.hi C1.t hk
      have C2 := Lib.hid (C1.set hk (Nat.le_refl _) (by omega) 3 (.bool true) (by simp [vcCs]))
      have VA := Lib.hid (V4.out.ext (E1.trans E2) (by omega))
      have VC := Lib.hid (V4.out.ext (F1.trans F2) (by omega))
      clear A1 E1 E2 C1 F1 F2
      go_wp2_with fail
      go_region
      all_goals
        go_wp2_with fail
        go_end0
        try rw [if_pos rfl]
        obtain ⟨ls, hls, -⟩ := vcLeft_cons (z := ⟨1, p, last, ref, mw, false, o⟩) HP.out
        first
        | exact ⟨rfl, _, A2.out.e.drew, A2.out.p.below A2.out.e.hi (drew_below _), lv, .nilFunc, A2.out.t.below (drew_below _), fun h => absurd rfl h, fun _ => ⟨ls, by have := VA.out.below (drew_below _); rw [hls] at this; exact this⟩, ⟨fun _ => rfl, fun g => absurd g (by dsimp only; omega), fun g => absurd g (by dsimp only; omega), fun g => absurd g (by dsimp only; omega), fun g => absurd g (by dsimp only; omega)⟩⟩
        | exact ⟨rfl, _, C2.out.e.drew, C2.out.p.below C2.out.e.hi (drew_below _), lv, .nilFunc, C2.out.t.below (drew_below _), fun h => absurd rfl h, fun _ => ⟨ls, by have := VC.out.below (drew_below _); rw [hls] at this; exact this⟩, ⟨fun _ => rfl, fun g => absurd g (by dsimp only; omega), fun g => absurd g (by dsimp only; omega), fun g => absurd g (by dsimp only; omega), fun g => absurd g (by dsimp only; omega)⟩⟩
    · have dr : (r == 0) = false := by simp [hr0]
      have HF := Lib.hid hr0
      clear hr0
      have x1 := M4.out.t.c 1 _ rfl
      have f1 := M4.out.t.f 1
      have E1 := ext_set (j := 1) (v := ASKV bx bs) M4.out.e.hi M4.out.t hk
      have A1 := Lib.hid (M4.out.set hk (Nat.le_refl _) (by omega) 1 (ASKV bx bs) (by simp [vcCs]))
      have VA := Lib.hid (And.intro (V4.out.ext E1 (by omega)) (And.intro (S4.out.1.ext E1 (by omega)) (S4.out.2.ext E1 (by omega))))
      clear E1
      go_wp2_with fail
      go_end0
      try rw [if_neg HF.out]
      exact ⟨rfl, _, A1.out.e, A1.out.p, lv, ASKV bx bs, A1.out.t, fun _ => VA.out.1, fun h => absurd h (by dsimp only; decide), ⟨fun g => absurd g (by dsimp only; omega), fun g => absurd g (by dsimp only; omega), fun _ => ⟨bs, bx, rfl, VA.out.2.1, VA.out.2.2⟩, fun g => absurd g (by dsimp only; omega), fun g => absurd g (by dsimp only; omega)⟩⟩
set_option maxHeartbeats 4000000 in
set_option maxRecDepth 100000 in
theorem c_V3 {z : Vcm} {lv dv : Value} {bx bv : Nat} (hP : PW w O B f s) (hx : Ob w O k X (vcCs lv dv z.ref z.is)) (hL : VLeft w O (k + 1) lv (vcLeft z)) (hb : Ob w O (k + 3) bx [.pointer (some ⟨X, 0, none⟩)]) (hv : Ob w O (k + 4) bv [.int .u64 z.mw]) (hz : VcOk z) (hl : z.ln = 3) (hk : 10 ≤ k) (hhi : ∀ j, O j ≠ 0 → j < w.heap.size) (n0 : 0 ≤ s.n) (n1 : s.n ≤ 4611686018427387904) :
    Calls Tryz.prog 165 #[.pointer (some ⟨B.p, 0, none⟩), .pointer (some ⟨bx, 0, none⟩), .pointer (some ⟨bv, 0, none⟩)] w (VPost w O B f k X (.tuple #[]) (vcStep (s, z))) := by
  rw [vcStep_3 s z hl]
  obtain ⟨ln, p, last, ref, mw, is, o⟩ := z
  dsimp only at hl
  subst hl
  have hpo := hz.p (by dsimp only; omega)
  dsimp only at hpo
  have HP := Lib.hid hpo
  obtain ⟨l0, l1, -, a0, i0, r0, r1, m0, m1, w0, w1, o8, o4⟩ := hz
  dsimp only at l0 l1 a0 i0 r0 r1 m0 m1 w0 w1 o8 o4
  have i0 := i0 (by omega)
  subst i0
  have HM : Hid (Me k (k + 14) w O w O B f s k X (vcCs lv dv ref false)) := Lib.hid (Me.start hhi hP hx)
  have HV := Lib.hid hL
  have p0 := hP.wo.c0
  unfold VPost
  dsimp only at hv
  have HS := Lib.hid (And.intro hb hv)
  have hrf : 0 ≤ plRef ref ∧ plRef ref < 18446744073709551616 := by unfold plRef; split <;> omega
  have hmb : 0 ≤ rfLess mw ∧ rfLess mw < 18446744073709551616 := by unfold rfLess; omega
  have HR := Lib.hid (fun W => c_Ref ref W r0 r1)
  have HLs := Lib.hid (fun W => c_Less24 mw W m0 m1)
  obtain ⟨ra, hra⟩ : ∃ ra, ra = plRef ref := ⟨_, rfl⟩
  rw [← hra] at hrf HR ⊢
  obtain ⟨nm, hnm⟩ : ∃ nm, nm = rfLess mw := ⟨_, rfl⟩
  rw [← hnm] at hmb HLs ⊢
  have HT := Lib.hid (And.intro hrf hmb)
  obtain ⟨z2, hz2⟩ : ∃ z2, z2 = vcNext ⟨3, p, last, ref, mw, false, o⟩ := ⟨_, rfl⟩
  obtain ⟨hn1, hn2⟩ := vcLeft_next (z := ⟨3, p, last, ref, mw, false, o⟩) hpo
  obtain ⟨hn3, hn4, hn5⟩ := vcNext_ri ⟨3, p, last, ref, mw, false, o⟩
  rw [← hz2] at hn1 hn2 hn3 hn4 hn5 ⊢
  dsimp only at hn3 hn4 hn5
  rw [hn1] at hL
  obtain ⟨ls, hls⟩ : ∃ ls, ls = if z2.ln = 0 then [] else vcLeft z2 := ⟨_, rfl⟩
  rw [← hls] at hL hn1
  obtain ⟨A, j, cap, cs, rfl, hcap, hmx, hA, -, -, -, hrest⟩ := hL.head
  have HN := Lib.hid (And.intro hls (And.intro hn2 (And.intro hn3 (And.intro hn4 hn5))))
  have HA := Lib.hid (And.intro hA hrest)
  have x0 := hx.c 0 _ rfl
  have x2 := hx.c 2 _ rfl
  have b0 := hb.c 0 _ rfl
  have v0 := hv.c 0 _ rfl
  have hcap1 : (1 : Int) ≤ (ls.length : Int) + 1 := by omega
  have hcap2 : 1 ≤ cap := by omega
  have g1 := hb.ne hx (by omega)
  have g2 := Ne.symm g1
  have HO := Lib.hid (vcNext_ok (z := ⟨3, p, last, ref, mw, false, o⟩) hpo (a0 (by omega)) rfl r0 r1 m0 m1 w0 w1)
  rw [← hz2] at HO
  have HCP := Lib.hid (And.intro hcap hmx)
  clear hb hv hra hnm hrf hmb hz2 hn1 hn2 hn3 hn4 hn5 hls hA hrest HV
  clear hP hx hL hhi hpo l0 l1 a0 r0 r1 m0 m1 w0 w1 o8 o4
  go_enter Tryz.func165, Tryz.ntmps165
  go_wp2_with fail
  go_region_held3 (fun w' => w'.cell? ⟨B.p, 0, none⟩ = some (.pointer (some ⟨B.c, 0, none⟩)) ∧ w'.cell? ⟨bx, 0, none⟩ = some (.pointer (some ⟨X, 0, none⟩)) ∧ w'.cell? ⟨bv, 0, none⟩ = some (.int .u64 mw) ∧ w'.cell? ⟨X, 2, none⟩ = some (.int .i64 ref)) (go_keep)
    ((first
      | (go_at_call 26
         refine (HR.out _).mono ?_
         rintro e w1 ⟨rfl, rfl⟩)
      | (go_at_call 46
         refine (HLs.out _).mono ?_
         rintro e w1 ⟨rfl, rfl⟩)
      | (go_at_call 39
         refine (c_StoreP ra nm (w := w.drew) HM.out.drew.p HM.out.drew.e.hi HT.out.1.1 HT.out.1.2 HT.out.2.1 HT.out.2.2 n0 n1).mono ?_
         rintro e w2 ⟨rfl, G2, e2, P2⟩
         have M2 := Lib.hid (HM.out.drew.world hk e2 P2)
         have S2 := Lib.hid (And.intro ((HS.out.1.below (drew_below _)).ext e2 (by unfold SW; omega)) ((HA.out.1.below (drew_below _)).ext e2 (by unfold SW; omega)))
         have p02 := M2.out.p.wo.c0
         have b02 := S2.out.1.c 0 _ rfl
         have v02 := ((HS.out.2.below (drew_below _)).ext e2 (by unfold SW; omega)).c 0 _ rfl
         have x22 := M2.out.t.c 2 _ rfl
         clear e2 P2)))
  all_goals
    clear p0 x0 x2 b0 v0 p02 v02 x22
    have x0 := M2.out.t.c 0 _ rfl
    have f0 := M2.out.t.f 0
    have x1 := M2.out.t.c 1 _ rfl
    have f1 := M2.out.t.f 1
    go_upto_region 1 with fail
    by_cases hc1 : cap = 1
    · subst hc1
      have hl0 : ls = [] := List.eq_nil_of_length_eq_zero (by have := HCP.out.1; omega)
      subst hl0
      have A1 := M2.out.set hk (Nat.le_refl _) (by omega) 0 (.slice (some ⟨A, j, none⟩) 0 0) (by simp [vcCs])
      have E1 := ext_set (j := 0) (v := .slice (some ⟨A, j, none⟩) 0 0) M2.out.e.hi M2.out.t hk
      have A2 := A1.set hk (Nat.le_refl _) (by omega) 1 .nilFunc (by simp [vcCs])
      have E2 := E1.trans (ext_set (j := 1) (v := .nilFunc) E1.hi A1.t hk)
      have M3 := Lib.hid A2.drew
      have S3 := Lib.hid (And.intro ((S2.out.1.ext E2 (by omega)).below (drew_below _)) ((S2.out.2.ext E2 (by omega)).below (drew_below _)))
      clear A1 E1 A2 E2
      go_region
      all_goals
        obtain ⟨w4, hw4⟩ : ∃ w4, w4 = ((w2.setCell ⟨X, 0, none⟩ (.slice (some ⟨A, j, none⟩) 0 0)).setCell ⟨X, 1, none⟩ .nilFunc).drew := ⟨_, rfl⟩
        have M4 : Hid (Me k (k + 14) w O w4 G2 B f (awStore ra nm s) k X (vcCs (.slice (some ⟨A, j, none⟩) 0 0) .nilFunc ref false)) := by rw [hw4]; exact M3
        have S4 : Hid (Ob w4 G2 (k + 3) bx [.pointer (some ⟨X, 0, none⟩)] ∧ Ob w4 G2 (k + 1) A cs) := by rw [hw4]; exact S3
        rw [← hw4]
        clear hw4 M3 S3 M2 S2 x0 f0 x1 f1 b02
        have x0 := M4.out.t.c 0 _ rfl
        have b0 := S4.out.1.c 0 _ rfl
        go_wp2_with fail
        go_end0
        have hl2 : z2.ln = 0 := by
          rcases HN.out.2.1 with g | g
          · exact g
          · exfalso
            have e := HN.out.1
            rw [if_neg (by omega)] at e
            obtain ⟨l', e2, -⟩ := vcLeft_cons (HO.out.p (by omega))
            rw [e2] at e
            cases e
        have h3 := HN.out.2.2.1
        have h4 := HN.out.2.2.2.1
        exact ⟨rfl, _, M4.out.e, M4.out.p, _, .nilFunc, by rw [h3, h4]; exact M4.out.t, fun h => absurd hl2 h, fun h => absurd (h4.symm.trans h) (by decide), ⟨fun _ => rfl, fun g => absurd g (by omega), fun g => absurd g (by omega), fun g => absurd g (by omega), fun g => absurd g (by omega)⟩⟩
    · have hcp : cap - 1 ≤ maxLen := by have := HCP.out.2; omega
      have hcl : ls.length ≤ cap - 1 := by have := HCP.out.1; omega
      have HCL := Lib.hid (And.intro hcl hcp)
      clear hcl hcp
      have A1 := M2.out.set hk (Nat.le_refl _) (by omega) 0 (.slice (some ⟨A, j + 3, none⟩) ls.length (cap - 1)) (by simp [vcCs])
      have E1 := ext_set (j := 0) (v := .slice (some ⟨A, j + 3, none⟩) ls.length (cap - 1)) M2.out.e.hi M2.out.t hk
      have A2 := A1.set hk (Nat.le_refl _) (by omega) 1 .nilFunc (by simp [vcCs])
      have E2 := E1.trans (ext_set (j := 1) (v := .nilFunc) E1.hi A1.t hk)
      have M3 := Lib.hid A2.drew
      have S3 := Lib.hid (And.intro ((S2.out.1.ext E2 (by omega)).below (drew_below _)) ((S2.out.2.ext E2 (by omega)).below (drew_below _)))
      clear A1 E1 A2 E2
      go_region
      all_goals
        obtain ⟨w4, hw4⟩ : ∃ w4, w4 = ((w2.setCell ⟨X, 0, none⟩ (.slice (some ⟨A, j + 3, none⟩) ls.length (cap - 1))).setCell ⟨X, 1, none⟩ .nilFunc).drew := ⟨_, rfl⟩
        have M4 : Hid (Me k (k + 14) w O w4 G2 B f (awStore ra nm s) k X (vcCs (.slice (some ⟨A, j + 3, none⟩) ls.length (cap - 1)) .nilFunc ref false)) := by rw [hw4]; exact M3
        have S4 : Hid (Ob w4 G2 (k + 3) bx [.pointer (some ⟨X, 0, none⟩)] ∧ Ob w4 G2 (k + 1) A cs) := by rw [hw4]; exact S3
        rw [← hw4]
        clear hw4 M3 S3 M2 S2 x0 f0 x1 f1 b02
        have x0 := M4.out.t.c 0 _ rfl
        have b0 := S4.out.1.c 0 _ rfl

        by_cases hz0 : z2.ln = 0
        · have hl0 : ls.length = 0 := by rw [HN.out.1, if_pos hz0]; rfl
          have d0 : decide (0 < ls.length) = false := by rw [hl0]; rfl
          have HZ := Lib.hid hz0
          clear hl0 hz0
          go_wp2_with fail
          go_end0
          have hl2 : z2.ln = 0 := HZ.out
          have h3 := HN.out.2.2.1
          have h4 := HN.out.2.2.2.1
          exact ⟨rfl, _, M4.out.e, M4.out.p, _, .nilFunc, by rw [h3, h4]; exact M4.out.t, fun h => absurd hl2 h, fun h => absurd (h4.symm.trans h) (by decide), ⟨fun _ => rfl, fun g => absurd g (by omega), fun g => absurd g (by omega), fun g => absurd g (by omega), fun g => absurd g (by omega)⟩⟩
        · obtain ⟨l', e2, -⟩ := vcLeft_cons (HO.out.p hz0)
          have hls : ls = z2.p :: l' := by rw [HN.out.1, if_neg hz0, e2]
          have hl1 : 0 < ls.length := by rw [hls]; simp
          have d0 : decide (0 < ls.length) = true := by simp; omega
          have hVL : VLeft w4 G2 (k + 1) (.slice (some ⟨A, j + 3, none⟩) ls.length (cap - 1)) ls := HA.out.2 w4 G2 (cap - 1) S4.out.2 HCL.out.1 HCL.out.2
          have hVV : VLeft w4 G2 (k + 1) (.slice (some ⟨A, j + 3, none⟩) ls.length (cap - 1)) (z2.p :: l') := by rw [← hls]; exact hVL
          have hVW : VLeft w4 G2 (k + 1) (.slice (some ⟨A, j + 3, none⟩) ls.length (cap - 1)) (vcLeft z2) := by rw [e2]; exact hVV
          have HK := Lib.hid (c_Vlook (k := k) (.slice (some ⟨A, j + 3, none⟩) ls.length (cap - 1)) .nilFunc ref false z2.p l' M4.out.t hVV hk M4.out.e.hi)
          have HW := Lib.hid hVW
          have HZ := Lib.hid hz0
          clear hVL hVV hVW hls hl1 e2 hz0
          go_wp2_with fail
          refine HK.out.mono ?_
          rintro e w5 ⟨bs5, bx5, rfl, G5, e5, x5, s5, y5⟩
          have P5 := M4.out.p.ext e5 (by omega) (by omega) (by omega) (by omega)
          have E5 := M4.out.e.trans (e5.mono (T := SX k (k + 14)) fun t _ ht => .inr (by omega))
          have V5 := HW.out.ext e5 (by omega)
          have H5 := Lib.hid (And.intro P5 (And.intro E5 (And.intro V5 (And.intro x5 (And.intro s5 y5)))))
          clear e5 x5 s5 y5 P5 E5 V5
          go_wp2_with fail
          go_end0
          have h1 : z2.ln = 1 := by rcases HN.out.2.1 with g | g; exact absurd g HZ.out; exact g
          have h3 := HN.out.2.2.1
          have h4 := HN.out.2.2.2.1
          exact ⟨rfl, _, H5.out.2.1, H5.out.1, _, _, by rw [h3, h4]; exact H5.out.2.2.2.1, fun _ => H5.out.2.2.1, fun h => absurd (h4.symm.trans h) (by decide), ⟨fun g => absurd g (by omega), fun _ => ⟨bs5, bx5, rfl, H5.out.2.2.2.2.1, H5.out.2.2.2.2.2⟩, fun g => absurd g (by omega), fun g => absurd g (by omega), fun g => absurd g (by omega)⟩⟩
end
end
section
open Go.RowKit Go.Shelf
set_option linter.unusedVariables false

theorem Ext.claim {S : Nat → Prop} {O O' : Om} {w w' : World} {b g : Nat} (e : Ext S O w O' w') (hb0 : w.heap.size ≤ b) (hb : b < w'.heap.size) (hz : O' b = 0) (hS : S g) : ∃ O2 : Om, Ext S O w O2 w' ∧ O2 b = g ∧ ∀ j, j ≠ b → O2 j = O' j := by
  refine ⟨fun j => if j = b then g else O' j, ⟨fun j hj => ?_, fun j hj => ?_, fun j hj hn => ?_, e.wr⟩, if_pos rfl, fun j hj => if_neg hj⟩
  · rw [if_neg (by omega)]; exact e.lo j hj
  · by_cases h : j = b
    · subst h; exact hb
    · rw [if_neg h] at hj; exact e.hi j hj
  · by_cases h : j = b
    · rw [if_pos h]; exact hS
    · rw [if_neg h] at hn ⊢; exact e.nw j hj hn
/-- A store into a block that is new since w. -/
theorem Ext.setNew {S : Nat → Prop} {O O' : Om} {w w' : World} {b j : Nat} {v : Value} (e : Ext S O w O' w') (hb0 : w.heap.size ≤ b) : Ext S O w O' (w'.setCell ⟨b, j, none⟩ v) :=
  ⟨e.lo, fun i hi => by simpa using e.hi i hi, e.nw, Wrote.setCell e.wr (p := ⟨b, j, none⟩) (fun h => by dsimp only at h; omega) _⟩
theorem Ob.claim {O O2 : Om} {w : World} {g b b2 : Nat} {cs : List Value} (h : Ob w O g b cs) (hz : O b2 = 0) (hg : g ≠ 0) (hO : ∀ j, j ≠ b2 → O2 j = O j) : Ob w O2 g b cs :=
  ⟨(hO b (fun e => hg (by rw [← h.o, e]; exact hz))).trans h.o, h.lt, h.c, h.f⟩
theorem Ob.setNob {O : Om} {w : World} {g b b2 j : Nat} {v : Value} {cs : List Value} (h : Ob w O g b cs) (hz : O b2 = 0) (hg : g ≠ 0) : Ob (w.setCell ⟨b2, j, none⟩ v) O g b cs :=
  h.other (fun e => hg (by rw [← h.o, ← e]; exact hz))
theorem MkAt.claim {O O2 : Om} {w : World} {k X b2 : Nat} {l : List Int} (h : MkAt w O k X l) (hz : O b2 = 0) (hg : k ≠ 0) (hO : ∀ j, j ≠ b2 → O2 j = O j) : MkAt w O2 k X l := by
  obtain ⟨A, off, full, h1, h2, h3⟩ := h.ex
  exact ⟨A, off, full, h1.claim hz hg hO, h2.claim hz (by omega) hO, h3⟩
theorem MkAt.setNob {O : Om} {w : World} {k X b2 j : Nat} {v : Value} {l : List Int} (h : MkAt w O k X l) (hz : O b2 = 0) (hg : k ≠ 0) : MkAt (w.setCell ⟨b2, j, none⟩ v) O k X l := by
  obtain ⟨A, off, full, h1, h2, h3⟩ := h.ex
  exact ⟨A, off, full, h1.setNob hz hg, h2.setNob hz (by omega), h3⟩
/-- What a drop holds while it is being made. -/
structure VD (w : World) (O : Om) (k X N Ns U N3 : Nat) (cs : List Value) (p : Spt) (W : World) (G : Om) : Prop where
  e : Ext (fun t => t = k ∨ (k + 5 ≤ t ∧ t ≤ k + 14)) O w G W
  x : Ob W G k X cs
  bx : Ob W G (k + 5) N [.pointer (some ⟨X, 0, none⟩)]
  bs : Ob W G (k + 6) Ns (sptc p)
  ou : Ob W G (k + 12) U (slCs p ⟨0, 0⟩)
  bo : Ob W G (k + 7) N3 [.pointer (some ⟨U, 0, none⟩)]
section
variable {w : World} {O : Om} {k X N Ns U N3 : Nat} {cs : List Value} {p : Spt} {W W' : World} {G G' : Om}
theorem VD.ext {S : Nat → Prop} (h : VD w O k X N Ns U N3 cs p W G) (e : Ext S G W G' W') (hs : ∀ t, S t → (k + 8 ≤ t ∧ t ≤ k + 11) ∨ t = k + 13 ∨ t = k + 14) : VD w O k X N Ns U N3 cs p W' G' :=
  ⟨h.e.trans (e.mono fun t _ ht => by have := hs t ht; omega), h.x.ext e (fun g => by have := hs _ g; omega), h.bx.ext e (fun g => by have := hs _ g; omega), h.bs.ext e (fun g => by have := hs _ g; omega), h.ou.ext e (fun g => by have := hs _ g; omega), h.bo.ext e (fun g => by have := hs _ g; omega)⟩
theorem VD.below (h : VD w O k X N Ns U N3 cs p W G) (hb : Below W.heap.size W W') : VD w O k X N Ns U N3 cs p W' G := h.ext (S := fun _ => False) (Ext.of_below h.e.hi hb) (fun _ h => h.elim)
theorem VD.setNob {b j : Nat} {v : Value} (h : VD w O k X N Ns U N3 cs p W G) (hk : 10 ≤ k) (hb : w.heap.size ≤ b) (hz : G b = 0) : VD w O k X N Ns U N3 cs p (W.setCell ⟨b, j, none⟩ v) G :=
  ⟨h.e.setNew hb, h.x.setNob hz (by omega), h.bx.setNob hz (by omega), h.bs.setNob hz (by omega), h.ou.setNob hz (by omega), h.bo.setNob hz (by omega)⟩
theorem VD.claim {b g : Nat} {G2 : Om} (h : VD w O k X N Ns U N3 cs p W G) (hk : 10 ≤ k) (e2 : Ext (fun t => t = k ∨ (k + 5 ≤ t ∧ t ≤ k + 14)) O w G2 W) (hz : G b = 0) (hO : ∀ j, j ≠ b → G2 j = G j) : VD w O k X N Ns U N3 cs p W G2 :=
  ⟨e2, h.x.claim hz (by omega) hO, h.bx.claim hz (by omega) hO, h.bs.claim hz (by omega) hO, h.ou.claim hz (by omega) hO, h.bo.claim hz (by omega) hO⟩
theorem nob_of {j : Nat} (hhi : ∀ j, G j ≠ 0 → j < W.heap.size) (h : W.heap.size ≤ j) : G j = 0 := by
  by_cases e : G j = 0
  · exact e
  · have := hhi j e; omega
/-- What there is of a drop: the box of its steps (or not yet), the places for its Marks, its Marks. -/
structure DS (w : World) (O : Om) (k X N Ns U N3 : Nat) (cs : List Value) (p : Spt) (bt : Option Nat) (la : List Nat) (ms : List (Nat × Nat)) (W : World) (G : Om) : Prop where
  d : VD w O k X N Ns U N3 cs p W G
  b : ∀ n, bt = some n → Ob W G (k + 8) n [.slice none 0 0]
  a : ∀ n, n ∈ la → Ob W G (k + 9) n [.int .i64 p.b, .int .i64 p.q]
  m : ∀ x, x ∈ ms → (x.1 = k + 10 ∨ x.1 = k + 13) ∧ MkAt W G x.1 x.2 [p.ver]
def DX (w : World) (O : Om) (k X N Ns U N3 : Nat) (cs : List Value) (p : Spt) (bt : Option Nat) (la : List Nat) (ms : List (Nat × Nat)) (W : World) : Prop := ∃ G, DS w O k X N Ns U N3 cs p bt la ms W G
/-- A drop whose region is behind it. -/
def DropCut (w : World) (O : Om) (k X N Ns U N3 : Nat) (cs : List Value) (p : Spt) (s5 : Value) (wx : World) : Prop :=
  ∃ (bt T m1 m2 : Nat) (G : Om), s5 = .pointer (some ⟨bt, 0, none⟩) ∧ VD w O k X N Ns U N3 cs p wx G ∧ MkAt wx G (k + 10) m1 [p.ver] ∧ MkAt wx G (k + 13) m2 [p.ver] ∧ Ob wx G (k + 8) bt [.slice (some ⟨T, 0, none⟩) 4 4] ∧ Ob wx G (k + 9) T [MSTEPV m1, OSTEPV N3 N Ns, MSTEPV m2, CSTEPV]
variable {bt : Option Nat} {la : List Nat} {ms : List (Nat × Nat)}
theorem DX.s (h : DX w O k X N Ns U N3 cs p bt la ms W) : W.cell? ⟨Ns, 0, none⟩ = some (.int .i64 p.b) ∧ W.cell? ⟨Ns, 1, none⟩ = some (.int .i64 p.q) := by
  obtain ⟨G, h⟩ := h
  exact ⟨h.d.bs.c 0 _ rfl, h.d.bs.c 1 _ rfl⟩
theorem DX.box {n : Nat} (h : DX w O k X N Ns U N3 cs p (some n) la ms W) : W.cell? ⟨n, 0, none⟩ = some (.slice none 0 0) ∧ W.frozen? ⟨n, 0, none⟩ = false ∧ n < W.heap.size := by
  obtain ⟨G, h⟩ := h
  exact ⟨(h.b n rfl).c 0 _ rfl, (h.b n rfl).f 0, (h.b n rfl).lt⟩
theorem DX.below (h : DX w O k X N Ns U N3 cs p bt la ms W) (hb : Below W.heap.size W W') : DX w O k X N Ns U N3 cs p bt la ms W' := by
  obtain ⟨G, h⟩ := h
  exact ⟨G, h.d.below hb, fun n hn => (h.b n hn).below hb, fun n hn => (h.a n hn).below hb, fun x hx => ⟨(h.m x hx).1, (h.m x hx).2.below hb⟩⟩
theorem DX.drew (h : DX w O k X N Ns U N3 cs p bt la ms W) : DX w O k X N Ns U N3 cs p bt la ms W.drew := h.below (drew_below W)
theorem DX.allocA (ty : TypeId) (h : DX w O k X N Ns U N3 cs p bt la ms W) : DX w O k X N Ns U N3 cs p bt (W.heap.size :: la) ms (W.alloc (.cells #[.int .i64 p.b, .int .i64 p.q] ty)) := by
  obtain ⟨G, h⟩ := h
  obtain ⟨G1, e1, b1, k1⟩ := alloc_ob h.d.e.hi (k + 9) #[.int .i64 p.b, .int .i64 p.q] ty W.heap.size rfl
  refine ⟨G1, h.d.ext e1 (fun t ht => by have : t = k + 9 := ht; omega), fun n hn => k1 _ _ _ (h.b n hn), fun n hn => ?_, fun x hx => ⟨(h.m x hx).1, ?_⟩⟩
  · rcases List.mem_cons.1 hn with q | q
    · rw [q]; exact b1
    · exact k1 _ _ _ (h.a n q)
  · have := (h.m x hx).1
    exact (h.m x hx).2.ext e1 (by show ¬ x.1 = k + 9; omega) (by show ¬ x.1 + 1 = k + 9; omega)
theorem DX.allocB (ty : TypeId) (h : DX w O k X N Ns U N3 cs p none la ms W) : DX w O k X N Ns U N3 cs p (some W.heap.size) la ms (W.alloc (.cells #[.slice none 0 0] ty)) := by
  obtain ⟨G, h⟩ := h
  obtain ⟨G1, e1, b1, k1⟩ := alloc_ob h.d.e.hi (k + 8) #[.slice none 0 0] ty W.heap.size rfl
  refine ⟨G1, h.d.ext e1 (fun t ht => by have : t = k + 8 := ht; omega), fun n hn => ?_, fun n hn => k1 _ _ _ (h.a n hn), fun x hx => ⟨(h.m x hx).1, ?_⟩⟩
  · cases hn; exact b1
  · have := (h.m x hx).1
    exact (h.m x hx).2.ext e1 (by show ¬ x.1 = k + 8; omega) (by show ¬ x.1 + 1 = k + 8; omega)
theorem DX.any (o : Obj) (h : DX w O k X N Ns U N3 cs p bt la ms W) : DX w O k X N Ns U N3 cs p bt la ms (W.alloc o) := h.below ((Below.refl _ _).alloc (Nat.le_refl _) o)
theorem DX.sSet {n : Nat} {v : Value} (hk : 10 ≤ k) (h : DX w O k X N Ns U N3 cs p (some n) la ms W) : (W.setCell ⟨n, 0, none⟩ v).cell? ⟨Ns, 0, none⟩ = some (.int .i64 p.b) ∧ (W.setCell ⟨n, 0, none⟩ v).cell? ⟨Ns, 1, none⟩ = some (.int .i64 p.q) := by
  obtain ⟨G, h⟩ := h
  have hn := (h.b n rfl).ne h.d.bs (by omega)
  exact ⟨(World.cell?_setCell_other _ _ _ _ (by first | (simp; done) | (simp; omega) | (simp; intro hh; exact absurd hh hn))).trans (h.d.bs.c 0 _ rfl), (World.cell?_setCell_other _ _ _ _ (by first | (simp; done) | (simp; omega) | (simp; intro hh; exact absurd hh hn))).trans (h.d.bs.c 1 _ rfl)⟩
theorem DX.sSetA {n : Nat} {v : Value} (o : Obj) (hk : 10 ≤ k) (h : DX w O k X N Ns U N3 cs p (some n) la ms W) : ((W.setCell ⟨n, 0, none⟩ v).alloc o).cell? ⟨Ns, 0, none⟩ = some (.int .i64 p.b) ∧ ((W.setCell ⟨n, 0, none⟩ v).alloc o).cell? ⟨Ns, 1, none⟩ = some (.int .i64 p.q) := by
  have c := h.sSet (v := v) hk
  obtain ⟨G, h⟩ := h
  have hl : Ns < (W.setCell ⟨n, 0, none⟩ v).heap.size := by have := h.d.bs.lt; simpa using this
  have hb := (Below.refl _ (W.setCell ⟨n, 0, none⟩ v)).alloc (Nat.le_refl _) o
  exact ⟨(hb.cell (p := ⟨Ns, 0, none⟩) hl).trans c.1, (hb.cell (p := ⟨Ns, 1, none⟩) hl).trans c.2⟩
theorem DX.mark (g : Nat) {b c : Nat} (hp : p.ok) (hk : 10 ≤ k) (hg : (g = k + 10 ∧ ms = []) ∨ (g = k + 13 ∧ ∃ m1, ms = [(k + 10, m1)])) (hc : 1 ≤ c ∧ c ≤ maxLen) (h : DX w O k X N Ns U N3 cs p bt la ms W) (hb : b ∈ la) :
    Calls Tryz.prog 83 #[.slice (some ⟨b, 0, none⟩) 1 c] W fun e w' => ∃ m, e = .returned (.pointer (some ⟨m, 0, none⟩)) ∧ DX w O k X N Ns U N3 cs p bt la ((g, m) :: ms) w' := by
  obtain ⟨G, h⟩ := h
  have ha := h.a b hb
  refine (c_NewMark1 p hp g (by omega) hc ha.lt (ha.c 0 _ rfl) (ha.c 1 _ rfl) h.d.e.hi).mono ?_
  rintro e w' ⟨m, rfl, G', e', a'⟩
  have hgg : g = k + 10 ∨ g = k + 13 := by rcases hg with q | q; exact .inl q.1; exact .inr q.1
  refine ⟨m, rfl, G', h.d.ext e' (fun t ht => by have : t = g ∨ t = g + 1 := ht; omega), fun n hn => (h.b n hn).ext e' (by show ¬ (k + 8 = g ∨ k + 8 = g + 1); omega), fun n hn => (h.a n hn).ext e' (by show ¬ (k + 9 = g ∨ k + 9 = g + 1); omega), fun x hx => ?_⟩
  rcases List.mem_cons.1 hx with q | q
  · subst q; exact ⟨hgg, a'⟩
  · refine ⟨(h.m x q).1, ?_⟩
    rcases hg with ⟨r, r2⟩ | ⟨r, m1, r2⟩
    · rw [r2] at q; cases q
    · rw [r2] at q
      rcases List.mem_cons.1 q with q | q
      · subst q
        exact (h.m _ (by rw [r2]; exact List.mem_cons_self)).2.ext e' (by show ¬ (k + 10 = g ∨ k + 10 = g + 1); omega) (by show ¬ (k + 10 + 1 = g ∨ k + 10 + 1 = g + 1); omega)
      · cases q
theorem DX.old1 {n m1 m2 : Nat} {ty : TypeId} (h : DX w O k X N Ns U N3 cs p (some n) la [(k + 13, m2), (k + 10, m1)] W) (hk : 10 ≤ k) :
    DropCut w O k X N Ns U N3 cs p (.pointer (some ⟨n, 0, none⟩)) ((W.alloc (.cells #[MSTEPV m1, OSTEPV N3 N Ns, MSTEPV m2, CSTEPV] ty)).setCell ⟨n, 0, none⟩ (.slice (some ⟨W.heap.size, 0, none⟩) 4 4)) := by
  obtain ⟨G, h⟩ := h
  obtain ⟨G1, e1, b1, k1⟩ := alloc_ob h.d.e.hi (k + 9) #[MSTEPV m1, OSTEPV N3 N Ns, MSTEPV m2, CSTEPV] ty W.heap.size rfl
  have o := k1 _ _ _ (h.b n rfl)
  have e2 := ext_set (j := 0) (v := .slice (some ⟨W.heap.size, 0, none⟩) 4 4) e1.hi o (by omega)
  have o2 := o.set 0 (.slice (some ⟨W.heap.size, 0, none⟩) 4 4) (by simp)
  have e := (e1.mono (T := fun t => t = k + 9 ∨ t = k + 8) fun t _ q => .inl q).trans (e2.mono fun t _ q => .inr q)
  exact ⟨n, W.heap.size, m1, m2, G1, rfl, h.d.ext e (fun t q => by have : t = k + 9 ∨ t = k + 8 := q; omega), (h.m (k + 10, m1) (by simp)).2.ext e (by show ¬ (k + 10 = k + 9 ∨ k + 10 = k + 8); omega) (by show ¬ (k + 10 + 1 = k + 9 ∨ k + 10 + 1 = k + 8); omega), (h.m (k + 13, m2) (by simp)).2.ext e (by show ¬ (k + 13 = k + 9 ∨ k + 13 = k + 8); omega) (by show ¬ (k + 13 + 1 = k + 9 ∨ k + 13 + 1 = k + 8); omega), o2, b1.ext e2 (by omega)⟩
theorem DX.old2 {n m1 m2 : Nat} {ty : TypeId} (h : DX w O k X N Ns U N3 cs p (some n) la [(k + 13, m2), (k + 10, m1)] W) (hk : 10 ≤ k) :
    DropCut w O k X N Ns U N3 cs p (.pointer (some ⟨n, 0, none⟩)) ((W.setCell ⟨n, 0, none⟩ (.slice (some ⟨W.heap.size, 0, none⟩) 4 4)).alloc (.cells #[MSTEPV m1, OSTEPV N3 N Ns, MSTEPV m2, CSTEPV] ty)) := by
  obtain ⟨G, h⟩ := h
  have o := h.b n rfl
  have e1 := ext_set (j := 0) (v := .slice (some ⟨W.heap.size, 0, none⟩) 4 4) h.d.e.hi o (by omega)
  have o1 := o.set 0 (.slice (some ⟨W.heap.size, 0, none⟩) 4 4) (by simp)
  obtain ⟨G1, e2, b1, k1⟩ := alloc_ob e1.hi (k + 9) #[MSTEPV m1, OSTEPV N3 N Ns, MSTEPV m2, CSTEPV] ty W.heap.size (by simp)
  have e := (e1.mono (T := fun t => t = k + 9 ∨ t = k + 8) fun t _ q => .inr q).trans (e2.mono fun t _ q => .inl q)
  exact ⟨n, W.heap.size, m1, m2, G1, rfl, h.d.ext e (fun t q => by have : t = k + 9 ∨ t = k + 8 := q; omega), (h.m (k + 10, m1) (by simp)).2.ext e (by show ¬ (k + 10 = k + 9 ∨ k + 10 = k + 8); omega) (by show ¬ (k + 10 + 1 = k + 9 ∨ k + 10 + 1 = k + 8); omega), (h.m (k + 13, m2) (by simp)).2.ext e (by show ¬ (k + 13 = k + 9 ∨ k + 13 = k + 8); omega) (by show ¬ (k + 13 + 1 = k + 9 ∨ k + 13 + 1 = k + 8); omega), k1 _ _ _ o1, b1⟩
theorem DX.new1 {m1 m2 : Nat} {ty ty2 : TypeId} (h : DX w O k X N Ns U N3 cs p none la [(k + 13, m2), (k + 10, m1)] W) (hk : 10 ≤ k) :
    DropCut w O k X N Ns U N3 cs p (.pointer (some ⟨W.heap.size, 0, none⟩)) ((W.alloc (.cells #[.slice (some ⟨W.heap.size + 1, 0, none⟩) 4 4] ty2)).alloc (.cells #[MSTEPV m1, OSTEPV N3 N Ns, MSTEPV m2, CSTEPV] ty)) := by
  obtain ⟨G, h⟩ := h
  obtain ⟨G1, e1, b1, k1⟩ := alloc_ob h.d.e.hi (k + 8) #[.slice (some ⟨W.heap.size + 1, 0, none⟩) 4 4] ty2 W.heap.size rfl
  obtain ⟨G2, e2, b2, k2⟩ := alloc_ob e1.hi (k + 9) #[MSTEPV m1, OSTEPV N3 N Ns, MSTEPV m2, CSTEPV] ty (W.heap.size + 1) (by simp)
  have e := (e1.mono (T := fun t => t = k + 9 ∨ t = k + 8) fun t _ q => .inr q).trans (e2.mono fun t _ q => .inl q)
  exact ⟨W.heap.size, W.heap.size + 1, m1, m2, G2, rfl, h.d.ext e (fun t q => by have : t = k + 9 ∨ t = k + 8 := q; omega), (h.m (k + 10, m1) (by simp)).2.ext e (by show ¬ (k + 10 = k + 9 ∨ k + 10 = k + 8); omega) (by show ¬ (k + 10 + 1 = k + 9 ∨ k + 10 + 1 = k + 8); omega), (h.m (k + 13, m2) (by simp)).2.ext e (by show ¬ (k + 13 = k + 9 ∨ k + 13 = k + 8); omega) (by show ¬ (k + 13 + 1 = k + 9 ∨ k + 13 + 1 = k + 8); omega), k2 _ _ _ b1, b2⟩
theorem DX.new2 {m1 m2 : Nat} {ty ty2 : TypeId} (h : DX w O k X N Ns U N3 cs p none la [(k + 13, m2), (k + 10, m1)] W) (hk : 10 ≤ k) :
    DropCut w O k X N Ns U N3 cs p (.pointer (some ⟨W.heap.size + 1, 0, none⟩)) ((W.alloc (.cells #[MSTEPV m1, OSTEPV N3 N Ns, MSTEPV m2, CSTEPV] ty)).alloc (.cells #[.slice (some ⟨W.heap.size, 0, none⟩) 4 4] ty2)) := by
  obtain ⟨G, h⟩ := h
  obtain ⟨G1, e1, b1, k1⟩ := alloc_ob h.d.e.hi (k + 9) #[MSTEPV m1, OSTEPV N3 N Ns, MSTEPV m2, CSTEPV] ty W.heap.size rfl
  obtain ⟨G2, e2, b2, k2⟩ := alloc_ob e1.hi (k + 8) #[.slice (some ⟨W.heap.size, 0, none⟩) 4 4] ty2 (W.heap.size + 1) (by simp)
  have e := (e1.mono (T := fun t => t = k + 9 ∨ t = k + 8) fun t _ q => .inl q).trans (e2.mono fun t _ q => .inr q)
  exact ⟨W.heap.size + 1, W.heap.size, m1, m2, G2, rfl, h.d.ext e (fun t q => by have : t = k + 9 ∨ t = k + 8 := q; omega), (h.m (k + 10, m1) (by simp)).2.ext e (by show ¬ (k + 10 = k + 9 ∨ k + 10 = k + 8); omega) (by show ¬ (k + 10 + 1 = k + 9 ∨ k + 10 + 1 = k + 8); omega), (h.m (k + 13, m2) (by simp)).2.ext e (by show ¬ (k + 13 = k + 9 ∨ k + 13 = k + 8); omega) (by show ¬ (k + 13 + 1 = k + 9 ∨ k + 13 + 1 = k + 8); omega), b2, k2 _ _ _ b1⟩
end
end
section
open Go.RowKit Go.Shelf
set_option linter.unusedVariables false

def rvCs (z : Vcm) (a u : Option Addr) : List Value := [.int .i64 z.ln, .int .i64 z.p.b, .int .i64 z.p.q, .int .i64 z.p.s, .int .i64 z.last, .int .i64 z.ref, .int .u64 z.mw, .bool z.is, .pointer a, .pointer u]
structure RvAt (W : World) (G : Om) (k R : Nat) (z : Vcm) : Prop where
  ex : ∃ (a u : Option Addr), Ob W G k R (rvCs z a u) ∧ (z.ln = 4 ∨ z.ln = 6 → ∃ Y, a = some ⟨Y, 0, none⟩ ∧ RmAt W G (k + 1) Y [z.p.ver]) ∧ (z.ln = 5 → ∃ Y, u = some ⟨Y, 0, none⟩ ∧ RoAt W G (k + 3) Y z.p z.o)
theorem RvAt.ext {S : Nat → Prop} {O O' : Om} {w w' : World} {k R : Nat} {z : Vcm} (h : RvAt w O k R z) (e : Ext S O w O' w') (h0 : ¬ S k) (h1 : ¬ S (k + 1)) (h2 : ¬ S (k + 2)) (h3 : ¬ S (k + 3)) : RvAt w' O' k R z := by
  obtain ⟨a, u, x, c3, c4⟩ := h.ex
  refine ⟨a, u, x.ext e h0, fun g => ?_, fun g => ?_⟩
  · obtain ⟨Y, g1, g2⟩ := c3 g; exact ⟨Y, g1, g2.ext e h1 h2⟩
  · obtain ⟨Y, g1, g2⟩ := c4 g; exact ⟨Y, g1, g2.ext e h3⟩
theorem RvAt.below {O : Om} {w w' : World} {k R : Nat} {z : Vcm} (h : RvAt w O k R z) (hb : Below w.heap.size w w') : RvAt w' O k R z := by
  obtain ⟨a, u, x, c3, c4⟩ := h.ex
  refine ⟨a, u, x.below hb, fun g => ?_, fun g => ?_⟩
  · obtain ⟨Y, g1, g2⟩ := c3 g; exact ⟨Y, g1, g2.below hb⟩
  · obtain ⟨Y, g1, g2⟩ := c4 g; exact ⟨Y, g1, g2.below hb⟩
theorem RvAt.simple {W : World} {G : Om} {k R : Nat} {z : Vcm} (a u : Option Addr) (x : Ob W G k R (rvCs z a u)) (c3 : z.ln ≠ 4 ∧ z.ln ≠ 5 ∧ z.ln ≠ 6) : RvAt W G k R z :=
  ⟨a, u, x, fun g => by omega, fun g => by omega⟩
def RVPost (w : World) (O : Om) (C : Wb) (f : Cf) (k R m : Nat) (r : AW × Vcm) : Ending → World → Prop :=
  RP (SD k (k + 3)) w O (.tuple #[]) fun W G => RW W G C f r.1 (m + 1) ∧ RvAt W G k R r.2
section
variable {R : Nat} {w : World} {O : Om} {C : Wb} {f : Cf} {s : AW} {m k : Nat}
set_option maxHeartbeats 4000000 in
set_option maxRecDepth 100000 in
theorem c_rvNext (z : Vcm) (a u : Option Addr) (hx : Ob w O k R (rvCs z a u)) (s0 : 0 ≤ z.p.s) (s1 : z.p.s ≤ 3) (hk : 10 ≤ k) (hhi : ∀ j, O j ≠ 0 → j < w.heap.size) :
    Calls Tryz.prog 136 #[.pointer (some ⟨R, 0, none⟩)] w (RP (fun t => t = k) w O (.tuple #[]) fun W G => Ob W G k R (rvCs (vcNext z) a u)) := by
  obtain ⟨Z, hZ⟩ : ∃ Z, Z = vcNext z := ⟨_, rfl⟩
  rw [← hZ]
  obtain ⟨ln, ⟨pb, pq, ps⟩, last, ref, mw, is, o⟩ := z
  unfold vcNext at hZ
  dsimp only at s0 s1 hZ
  have x3 := hx.c 3 _ rfl
  have f3 := hx.f 3
  have f0 := hx.f 0
  have x0 := hx.c 0 _ rfl
  dsimp only at x3 x0
  have E1 := ext_set (j := 0) (v := .int .i64 1) hhi hx hk
  have X1 := hx.set 0 (.int .i64 1) (by simp [rvCs])
  have E2 := ext_set (j := 3) (v := .int .i64 (ps + 1)) E1.hi X1 hk
  have X2 := Lib.hid (X1.set 3 (.int .i64 (ps + 1)) (by simp [rvCs]))
  have EE := Lib.hid (E1.trans E2)
  have hw1 : wrap64 (ps + 1) = ps + 1 := by unfold wrap64; omega
  have hw2 : IntKind.i64.wrap (ps + 1) = ps + 1 := by simp [IntKind.wrap, IntKind.bits, IntKind.signed]; omega
  have HZ := Lib.hid hZ
  clear hx hhi E1 X1 E2 hZ
  by_cases c : ps < 3
  · have d : decide (ps + 1 < 4) = true := by simp; omega
    have HC := Lib.hid c
    clear c s0 s1
    go_enter Tryz.func136, Tryz.ntmps136
    go_wp2_with fail
    go_end0
    have hZ := HZ.out
    rw [if_pos HC.out] at hZ
    rw [hZ]
    exact ⟨rfl, _, EE.out, X2.out⟩
  · have d : decide (ps + 1 < 4) = false := by simp; omega
    have HC := Lib.hid c
    clear c s0 s1
    go_enter Tryz.func136, Tryz.ntmps136
    go_upto_region 2 with fail
    obtain ⟨w2, hw⟩ : ∃ w2, w2 = (w.setCell ⟨R, 0, none⟩ (.int .i64 1)).setCell ⟨R, 3, none⟩ (.int .i64 (ps + 1)) := ⟨_, rfl⟩
    rw [← hw] at X2 EE ⊢
    clear hw x3 f3 f0 x0
    have y3 := X2.out.c 3 _ rfl
    have f3 := X2.out.f 3
    have y2 := X2.out.c 2 _ rfl
    have f2 := X2.out.f 2
    have y4 := X2.out.c 4 _ rfl
    have y0 := X2.out.c 0 _ rfl
    have f0 := X2.out.f 0
    have E3 := ext_set (j := 3) (v := .int .i64 0) EE.out.hi X2.out hk
    have X3 := Lib.hid (X2.out.set 3 (.int .i64 0) (by simp [rvCs]))
    have E3 := Lib.hid (EE.out.trans E3)
    go_upto_region 4 with fail
    obtain ⟨w3, hw⟩ : ∃ w3, w3 = w2.setCell ⟨R, 3, none⟩ (.int .i64 0) := ⟨_, rfl⟩
    rw [← hw] at X3 E3 ⊢
    clear hw y3 f3 y2 f2 y4 y0 f0 X2 EE
    have y2 := X3.out.c 2 _ rfl
    have y4 := X3.out.c 4 _ rfl
    by_cases e : pq = last
    · have de : (pq == last) = true := by simp [e]
      have HE := Lib.hid e
      clear e
      go_quiet (fail)
      have X4 := Lib.hid (X3.out.below (w' := w3.drewN nq) ⟨rfl, rfl, rfl, Nat.le_refl _, fun _ _ => rfl⟩)
      have E4 := Lib.hid (E3.out.below (show Below w3.heap.size w3 (w3.drewN nq) from ⟨rfl, rfl, rfl, Nat.le_refl _, fun _ _ => rfl⟩))
      obtain ⟨w4, hw⟩ : ∃ w4, w4 = w3.drewN nq := ⟨_, rfl⟩
      rw [← hw] at X4 E4 ⊢
      clear hw y2 y4
      have y0 := X4.out.c 0 _ rfl
      have f0 := X4.out.f 0
      have y2 := X4.out.c 2 _ rfl
      have f2 := X4.out.f 2
      have y4 := X4.out.c 4 _ rfl
      have E5 := ext_set (j := 0) (v := .int .i64 0) E4.out.hi X4.out hk
      have X5 := X4.out.set 0 (.int .i64 0) (by simp [rvCs])
      have E6 := ext_set (j := 2) (v := .int .i64 last) E5.hi X5 hk
      have X6 := Lib.hid (X5.set 2 (.int .i64 last) (by simp [rvCs]))
      have E7 := Lib.hid ((E4.out.trans E5).trans E6)
      clear E5 X5 E6
      go_wp2_with fail
      go_end0
      have hZ := HZ.out
      rw [if_neg (by have := HC.out; omega), if_pos HE.out] at hZ
      rw [hZ]
      exact ⟨rfl, _, E7.out, X6.out⟩
    · have de : (pq == last) = false := by simp [e]
      have HE := Lib.hid e
      clear e
      go_quiet (fail)
      have X4 := Lib.hid (X3.out.below (w' := w3.drewN nq) ⟨rfl, rfl, rfl, Nat.le_refl _, fun _ _ => rfl⟩)
      have E4 := Lib.hid (E3.out.below (show Below w3.heap.size w3 (w3.drewN nq) from ⟨rfl, rfl, rfl, Nat.le_refl _, fun _ _ => rfl⟩))
      obtain ⟨w4, hw⟩ : ∃ w4, w4 = w3.drewN nq := ⟨_, rfl⟩
      rw [← hw] at X4 E4 ⊢
      clear hw y2 y4
      have y2 := X4.out.c 2 _ rfl
      have f2 := X4.out.f 2
      have y4 := X4.out.c 4 _ rfl
      have E6 := ext_set (j := 2) (v := .int .i64 last) E4.out.hi X4.out hk
      have X6 := Lib.hid (X4.out.set 2 (.int .i64 last) (by simp [rvCs]))
      have E7 := Lib.hid (E4.out.trans E6)
      clear E6
      go_wp2_with fail
      go_end0
      have hZ := HZ.out
      rw [if_neg (by have := HC.out; omega), if_neg HE.out] at hZ
      rw [hZ]
      exact ⟨rfl, _, E7.out, X6.out⟩
set_option maxHeartbeats 4000000 in
set_option maxRecDepth 100000 in
theorem c_rvMarks (L : Int) (z : Vcm) (a u : Option Addr) (hx : Ob w O k R (rvCs z a u)) (hp : z.p.ok) (hk : 10 ≤ k) (hhi : ∀ j, O j ≠ 0 → j < w.heap.size) :
    Calls Tryz.prog 134 #[.pointer (some ⟨R, 0, none⟩), .int .i64 L] w fun e w' => ∃ A, RP (fun t => k ≤ t ∧ t ≤ k + 2) w O (.tuple #[]) (fun W G => Ob W G k R (rvCs ⟨L, z.p, z.last, z.ref, z.mw, z.is, z.o⟩ (some ⟨A, 0, none⟩) u) ∧ RmAt W G (k + 1) A [z.p.ver]) e w' := by
  obtain ⟨ln, p, last, ref, mw, is, o⟩ := z
  dsimp only at hp ⊢
  have x0 := hx.c 0 _ rfl
  have f0 := hx.f 0
  have E1 := ext_set (j := 0) (v := .int .i64 L) hhi hx hk
  have X1 := hx.set 0 (.int .i64 L) (by simp [rvCs])
  have HP := Lib.hid hp
  have EE := Lib.hid E1
  have XX := Lib.hid X1
  clear hx hhi E1 X1 hp
  go_enter Tryz.func134, Tryz.ntmps134
  go_upto_region 1 with fail
  obtain ⟨w3, hw3⟩ : ∃ w3, w3 = w.setCell ⟨R, 0, none⟩ (.int .i64 L) := ⟨_, rfl⟩
  rw [← hw3] at EE XX ⊢
  clear hw3 x0 f0
  have y1 := XX.out.c 1 _ rfl
  have y2 := XX.out.c 2 _ rfl
  obtain ⟨W3, hW3⟩ : ∃ W3, W3 = w3.alloc (.cells #[.int .i64 p.b, .int .i64 p.q] 43) := ⟨_, rfl⟩
  have bW3 : Below w3.heap.size w3 W3 := by rw [hW3]; exact (Below.refl _ _).alloc (Nat.le_refl _) _
  have N3 := Lib.hid (And.intro (EE.out.below bW3) (XX.out.below bW3))
  have u0 : W3.cell? ⟨w3.heap.size, 0, none⟩ = some (.int .i64 p.b) := by rw [hW3]; simp
  have u1 : W3.cell? ⟨w3.heap.size, 0 + 1, none⟩ = some (.int .i64 p.q) := by rw [hW3]; simp
  have ul : w3.heap.size < W3.heap.size := by rw [hW3]; simp
  go_wp2_with fail
  rw [← hW3]
  clear hW3
  refine (c_rNewMark1 p HP.out (b := w3.heap.size) (o := 0) (c := 1) (k + 1) (by omega) ⟨Nat.le_refl _, by unfold maxLen; omega⟩ ul u0 u1 N3.out.1.hi).mono ?_
  clear u0 u1 ul y1 y2
  rintro e w4 ⟨A, rfl, G4, e4, a4⟩
  have X4 := Lib.hid (N3.out.2.ext e4 (by omega))
  have E4 := Lib.hid (And.intro e4 a4)
  clear e4 a4 bW3
  have y8 := X4.out.c 8 _ rfl
  have f8 := X4.out.f 8
  have E5 := Lib.hid (ext_set (j := 8) (v := .pointer (some ⟨A, 0, none⟩)) E4.out.1.hi X4.out hk)
  have X5 := Lib.hid (X4.out.set 8 (.pointer (some ⟨A, 0, none⟩)) (by simp [rvCs]))
  go_wp2_with fail
  go_end0
  exact ⟨A, rfl, _, ((N3.out.1.mono fun t _ (ht : t = k) => ⟨by omega, by omega⟩).trans (E4.out.1.mono fun t _ ht => by omega)).trans (E5.out.mono fun t _ (ht : t = k) => ⟨by omega, by omega⟩), X5.out, E4.out.2.ext E5.out (by omega) (by omega)⟩
set_option maxHeartbeats 4000000 in
set_option maxRecDepth 100000 in
theorem c_rv1 {z : Vcm} (hW : RW w O C f s m) (hX : RvAt w O k R z) (hz : VcOk z) (hl : z.ln = 1) (hk : 10 ≤ k) (hm : m ≤ 900000) (hhi : ∀ j, O j ≠ 0 → j < w.heap.size) (n0 : 0 ≤ s.n) (n1 : s.n ≤ 4611686018427387904) :
    Calls Tryz.prog 67 #[.pointer (some ⟨R, 0, none⟩), .pointer (some ⟨C.p, 0, none⟩)] w (RVPost w O C f k R m (vcStep (s, z))) := by
  obtain ⟨r, hr⟩ : ∃ r, r = vcStep (s, z) := ⟨_, rfl⟩
  rw [← hr]
  rw [vcStep_1 s z hl] at hr
  obtain ⟨ln, p, last, ref, mw, is, o⟩ := z
  dsimp only at hl
  subst hl
  obtain ⟨a, u, hx, c3, c4⟩ := hX.ex
  dsimp only at c3 c4 hr
  have HM : Hid (Md k (k + 3) w O w O C f s m k R (rvCs ⟨1, p, last, ref, mw, is, o⟩ a u)) := Lib.hid (Md.start hhi hW hx)
  have x0 := hx.c 0 _ rfl
  dsimp only at x0
  unfold RVPost
  have hpo := hz.p (by dsimp only; omega)
  dsimp only at hpo
  have HP := Lib.hid hpo
  obtain ⟨l0, l1, -, a0, i0, r0, r1, m0, m1, w0, w1, o8, o4⟩ := hz
  dsimp only at l0 l1 a0 i0 r0 r1 m0 m1 w0 w1 o8 o4
  have hit := hpo.item
  have hq2 := hpo.q2
  have HI := Lib.hid (fun W => c_rItem p.b p.q p.s W (by have := hpo.b0; omega) (by have := hpo.b1; omega) (by have := hpo.q0; omega) (by omega) (by have := hpo.s0; omega) (by have := hpo.s1; omega))
  obtain ⟨ia, hia⟩ : ∃ ia, ia = p.item := ⟨_, rfl⟩
  have hia2 : plItem p.b p.q p.s = ia := hia.symm
  rw [hia2] at HI
  rw [← hia] at hit hr
  have er : vcRef s ⟨1, p, last, ref, mw, is, o⟩ = wrap64 (s.M ia) := by unfold vcRef; rw [hia]
  rw [er] at hr
  obtain ⟨r', hr'⟩ : ∃ r, r = wrap64 (s.M ia) := ⟨_, rfl⟩
  rw [← hr'] at hr
  have hr1 : wrap64 (s.M ia) = r' := hr'.symm
  have hr2 : IntKind.i64.wrap (s.M ia) = r' := by rw [hr']; unfold wrap64; simp [IntKind.wrap, IntKind.bits, IntKind.signed]; omega
  have hia0 : 0 ≤ ia ∧ ia < 18446744073709551616 := by omega
  have HR := Lib.hid hr
  have x1 := hx.c 1 _ rfl
  have x2 := hx.c 2 _ rfl
  have x3 := hx.c 3 _ rfl
  dsimp only at x1 x2 x3
  clear hr' hia hia2 er hit hq2
  clear hW hX hx hhi c3 c4 hr hpo l0 l1 a0 i0 r0 r1 m0 m1 w0 w1 o8 o4
  go_enter Tryz.func67, Tryz.ntmps67
  go_wp2_with fail
  refine (HI.out _).mono ?_
  rintro e w3 ⟨rfl, hb3⟩
  have M3 := Lib.hid (HM.out.below hb3)
  clear hb3 x0 x1 x2 x3
  go_wp2_with fail
  refine (c_rwLoad ia M3.out.p (by omega) hia0.1 hia0.2 M3.out.e.hi n0 n1).mono ?_
  rintro e w4 ⟨rfl, G4, e4, P4⟩
  have M4 := Lib.hid (M3.out.world hk e4 P4)
  have y5 := M4.out.t.c 5 _ rfl
  have f5 := M4.out.t.f 5
  have M5 := Lib.hid (M4.out.set hk (Nat.le_refl _) (by omega) 5 (.int .i64 r') (by simp [rvCs]))

  have y0 := M5.out.t.c 0 _ rfl
  have f0 := M5.out.t.f 0
  have M6 := Lib.hid (M5.out.set hk (Nat.le_refl _) (by omega) 0 (.int .i64 2) (by simp [rvCs]))

  clear e4 P4
  by_cases hr0 : r' = 0
  · subst hr0
    have z0 := M6.out.t.c 0 _ rfl
    have g0 := M6.out.t.f 0
    have M7 := Lib.hid (M6.out.set hk (Nat.le_refl _) (by omega) 0 (.int .i64 0) (by simp [rvCs]))
    have z7 := M7.out.t.c 7 _ rfl
    have g7 := M7.out.t.f 7
    have M8 := Lib.hid (M7.out.set hk (Nat.le_refl _) (by omega) 7 (.bool true) (by simp [rvCs]))
    have y7 := M4.out.t.c 7 _ rfl
    have q7 := M4.out.t.f 7
    clear z0 g0 z7 g7
    go_wp2_with fail
    go_end0
    have hR := HR.out
    simp only [if_true] at hR
    rw [hR]
    exact ⟨rfl, _, M8.out.e, M8.out.p, RvAt.simple a u M8.out.t (by dsimp only; omega)⟩
  · have dr : (r' == 0) = false := by simp [hr0]
    have HF := Lib.hid hr0
    clear hr0
    go_wp2_with fail
    go_end0
    have hR := HR.out
    rw [if_neg HF.out] at hR
    rw [hR]
    exact ⟨rfl, _, M6.out.e, M6.out.p, RvAt.simple a u M6.out.t (by dsimp only; omega)⟩
set_option maxHeartbeats 4000000 in
set_option maxRecDepth 100000 in
theorem c_rv2 {z : Vcm} (hW : RW w O C f s m) (hX : RvAt w O k R z) (hz : VcOk z) (hl : z.ln = 2) (hk : 10 ≤ k) (hm : m ≤ 900000) (hhi : ∀ j, O j ≠ 0 → j < w.heap.size) (n0 : 0 ≤ s.n) (n1 : s.n ≤ 4611686018427387904) :
    Calls Tryz.prog 67 #[.pointer (some ⟨R, 0, none⟩), .pointer (some ⟨C.p, 0, none⟩)] w (RVPost w O C f k R m (vcStep (s, z))) := by
  obtain ⟨r, hr⟩ : ∃ r, r = vcStep (s, z) := ⟨_, rfl⟩
  rw [← hr]
  rw [vcStep_2 s z hl] at hr
  obtain ⟨ln, p, last, ref, mw, is, o⟩ := z
  dsimp only at hl
  subst hl
  obtain ⟨a, u, hx, c3, c4⟩ := hX.ex
  dsimp only at c3 c4 hr
  have HM : Hid (Md k (k + 3) w O w O C f s m k R (rvCs ⟨2, p, last, ref, mw, is, o⟩ a u)) := Lib.hid (Md.start hhi hW hx)
  have x0 := hx.c 0 _ rfl
  dsimp only at x0
  unfold RVPost
  have hpo := hz.p (by dsimp only; omega)
  dsimp only at hpo
  have HP := Lib.hid hpo
  obtain ⟨l0, l1, -, a0, i0, r0, r1, m0, m1, w0, w1, o8, o4⟩ := hz
  dsimp only at l0 l1 a0 i0 r0 r1 m0 m1 w0 w1 o8 o4
  have hrf : 0 ≤ plRef ref ∧ plRef ref < 18446744073709551616 := by unfold plRef; split <;> omega
  have HRf := Lib.hid (fun W => c_rRef ref W r0 r1)
  obtain ⟨ra, hra⟩ : ∃ ra, ra = plRef ref := ⟨_, rfl⟩
  rw [← hra] at hrf HRf hr
  have hmb := hW.bd ra
  obtain ⟨mv, hmv⟩ : ∃ mv, mv = s.M ra := ⟨_, rfl⟩
  rw [← hmv] at hmb hr
  have HL := Lib.hid (c_rwLoad ra hW (by omega) hrf.1 hrf.2 hhi n0 n1)
  rw [← hmv] at HL
  have HK := Lib.hid (fun W => c_rMarked mv W hmb.1)
  obtain ⟨mb, hmk⟩ : ∃ mb, mb = rfMarked mv := ⟨_, rfl⟩
  rw [← hmk] at HK hr
  have HR := Lib.hid hr
  have x5 := hx.c 5 _ rfl
  dsimp only at x5
  clear hra hmv hmb hmk
  clear hW hX hx hhi c3 c4 hr hpo l0 l1 a0 i0 r0 r1 m0 m1 w0 w1 o8 o4
  go_enter Tryz.func67, Tryz.ntmps67
  go_wp2_with fail
  refine (HRf.out _).mono ?_
  rintro e w' ⟨rfl, rfl⟩
  go_wp2_with fail
  refine HL.out.mono ?_
  rintro e w3 ⟨rfl, G3, e3, P3⟩
  have M3 := Lib.hid (HM.out.world hk e3 P3)
  have y6 := M3.out.t.c 6 _ rfl
  have f6 := M3.out.t.f 6
  have M4 := Lib.hid (M3.out.set hk (Nat.le_refl _) (by omega) 6 (.int .u64 mv) (by simp [rvCs]))
  have z6 := M4.out.t.c 6 _ rfl
  clear e3 P3 x0 x5 HL
  go_wp2_with fail
  refine (HK.out _).mono ?_
  rintro e w' ⟨rfl, rfl⟩
  cases mb with
  | true =>
    have y0 := M4.out.t.c 0 _ rfl
    have f0 := M4.out.t.f 0
    have M5 := Lib.hid (M4.out.set hk (Nat.le_refl _) (by omega) 0 (.int .i64 3) (by simp [rvCs]))

    have y0 := M3.out.t.c 0 _ rfl
    have f0 := M3.out.t.f 0
    clear z6 y6 f6
    go_wp2_with fail
    go_end0
    rw [HR.out]
    exact ⟨rfl, _, M5.out.e, M5.out.p, RvAt.simple a u M5.out.t (by show (3 : Int) ≠ 4 ∧ (3 : Int) ≠ 5 ∧ (3 : Int) ≠ 6; omega)⟩

  | false =>
    clear z6 y6 f6
    go_wp2_with fail
    refine (c_rvMarks 4 ⟨2, p, last, ref, mv, is, o⟩ a u M4.out.t HP.out hk M4.out.e.hi).mono ?_
    rintro e w5 ⟨A, rfl, G5, e5, x5, a5⟩
    have M5 := Lib.hid (And.intro (M4.out.e.trans (e5.mono fun t _ ht => .inr ⟨ht.1, by omega⟩)) (And.intro (M4.out.p.ext e5 (by omega) (by omega) (by omega) (by omega)) (And.intro x5 a5)))
    clear e5 x5 a5
    go_wp2_with fail
    go_end0
    rw [HR.out]
    exact ⟨rfl, _, M5.out.1, M5.out.2.1, some ⟨A, 0, none⟩, u, M5.out.2.2.1, fun _ => ⟨A, rfl, M5.out.2.2.2⟩, fun g => absurd (show (4 : Int) = 5 from g) (by decide)⟩
set_option maxHeartbeats 4000000 in
set_option maxRecDepth 100000 in
theorem c_rv3 {z : Vcm} (hW : RW w O C f s m) (hX : RvAt w O k R z) (hz : VcOk z) (hl : z.ln = 3) (hk : 10 ≤ k) (hm : m ≤ 900000) (hhi : ∀ j, O j ≠ 0 → j < w.heap.size) (n0 : 0 ≤ s.n) (n1 : s.n ≤ 4611686018427387904) :
    Calls Tryz.prog 67 #[.pointer (some ⟨R, 0, none⟩), .pointer (some ⟨C.p, 0, none⟩)] w (RVPost w O C f k R m (vcStep (s, z))) := by
  obtain ⟨r, hr⟩ : ∃ r, r = vcStep (s, z) := ⟨_, rfl⟩
  rw [← hr]
  rw [vcStep_3 s z hl] at hr
  obtain ⟨ln, p, last, ref, mw, is, o⟩ := z
  dsimp only at hl
  subst hl
  obtain ⟨a, u, hx, c3, c4⟩ := hX.ex
  dsimp only at c3 c4 hr
  have HM : Hid (Md k (k + 3) w O w O C f s m k R (rvCs ⟨3, p, last, ref, mw, is, o⟩ a u)) := Lib.hid (Md.start hhi hW hx)
  have x0 := hx.c 0 _ rfl
  dsimp only at x0
  unfold RVPost
  have hpo := hz.p (by dsimp only; omega)
  dsimp only at hpo
  have HP := Lib.hid hpo
  obtain ⟨l0, l1, -, a0, i0, r0, r1, m0, m1, w0, w1, o8, o4⟩ := hz
  dsimp only at l0 l1 a0 i0 r0 r1 m0 m1 w0 w1 o8 o4
  have hrf : 0 ≤ plRef ref ∧ plRef ref < 18446744073709551616 := by unfold plRef; split <;> omega
  have hmb : 0 ≤ rfLess mw ∧ rfLess mw < 18446744073709551616 := by unfold rfLess; omega
  have HRf := Lib.hid (fun W => c_rRef ref W r0 r1)
  have HLs := Lib.hid (fun W => c_rLess mw W m0 m1)
  obtain ⟨ra, hra⟩ : ∃ ra, ra = plRef ref := ⟨_, rfl⟩
  rw [← hra] at hrf HRf hr
  obtain ⟨nm, hnm⟩ : ∃ nm, nm = rfLess mw := ⟨_, rfl⟩
  rw [← hnm] at hmb hr HLs
  have HR := Lib.hid hr
  have s0 := hpo.s0
  have s1 := hpo.s1
  have HS := Lib.hid (And.intro s0 s1)
  have x5 := hx.c 5 _ rfl
  have x6 := hx.c 6 _ rfl
  dsimp only at x5 x6
  clear hra hnm s0 s1
  clear hW hX hx hhi c3 c4 hr hpo l0 l1 a0 i0 r0 r1 m0 m1 w0 w1 o8 o4
  go_enter Tryz.func67, Tryz.ntmps67
  go_wp2_with fail
  go_region_held3 (fun w' => w'.cell? ⟨R, 5, none⟩ = some (.int .i64 ref) ∧ w'.cell? ⟨R, 6, none⟩ = some (.int .u64 mw)) (go_keep)
    ((first
      | (go_at_call 65
         refine (HRf.out _).mono ?_
         rintro e w1 ⟨rfl, rfl⟩)
      | (go_at_call 135
         refine (HLs.out _).mono ?_
         rintro e w1 ⟨rfl, rfl⟩)
      | (go_at_call 116
         refine (c_rwStore ra nm (w := w.drew) HM.out.drew.p (by omega) hrf.1 hrf.2 hmb.1 hmb.2 HM.out.drew.e.hi n0 n1).mono ?_
         rintro e w2 ⟨rfl, G2, e2, P2⟩
         have M2 := Lib.hid (HM.out.drew.world hk e2 P2)
         have y5 := M2.out.t.c 5 _ rfl
         have y6 := M2.out.t.c 6 _ rfl
         clear e2 P2)))
  all_goals
    clear x0 x5 x6 y5 y6
    go_wp2_with fail
    refine (c_rvNext ⟨3, p, last, ref, mw, is, o⟩ a u M2.out.t HS.out.1 HS.out.2 hk M2.out.e.hi).mono ?_
    rintro e w9 ⟨rfl, G9, e9, x9⟩
    have P9 := M2.out.p.ext e9 (by omega) (by omega) (by omega) (by omega)
    have E9 := M2.out.e.trans (e9.mono (T := SD k (k + 3)) fun t _ ht => .inr (by omega))
    have HE := Lib.hid (And.intro P9 (And.intro E9 x9))
    clear e9 x9 P9 E9
    go_wp2_with fail
    go_end0
    rw [HR.out]
    have hn := (vcLeft_next (z := ⟨3, p, last, ref, mw, is, o⟩) HP.out).2
    exact ⟨rfl, _, HE.out.2.1, HE.out.1, RvAt.simple a u HE.out.2.2 (by dsimp only; omega)⟩
set_option maxHeartbeats 4000000 in
set_option maxRecDepth 100000 in
theorem c_rv4 {z : Vcm} (hW : RW w O C f s m) (hX : RvAt w O k R z) (hz : VcOk z) (hl : z.ln = 4) (hk : 10 ≤ k) (hm : m ≤ 900000) (hhi : ∀ j, O j ≠ 0 → j < w.heap.size) (n0 : 0 ≤ s.n) (n1 : s.n ≤ 4611686018427387904) :
    Calls Tryz.prog 67 #[.pointer (some ⟨R, 0, none⟩), .pointer (some ⟨C.p, 0, none⟩)] w (RVPost w O C f k R m (vcStep (s, z))) := by
  obtain ⟨r, hr⟩ : ∃ r, r = vcStep (s, z) := ⟨_, rfl⟩
  rw [← hr]
  rw [vcStep_4 s z hl] at hr
  obtain ⟨ln, p, last, ref, mw, is, o⟩ := z
  dsimp only at hl
  subst hl
  obtain ⟨a, u, hx, c3, c4⟩ := hX.ex
  dsimp only at c3 c4 hr
  have HM : Hid (Md k (k + 3) w O w O C f s m k R (rvCs ⟨4, p, last, ref, mw, is, o⟩ a u)) := Lib.hid (Md.start hhi hW hx)
  have x0 := hx.c 0 _ rfl
  dsimp only at x0
  unfold RVPost
  have hpo := hz.p (by dsimp only; omega)
  dsimp only at hpo
  have HP := Lib.hid hpo
  obtain ⟨l0, l1, -, a0, i0, r0, r1, m0, m1, w0, w1, o8, o4⟩ := hz
  dsimp only at l0 l1 a0 i0 r0 r1 m0 m1 w0 w1 o8 o4
  obtain ⟨Y, rfl, hY⟩ := c3 (by decide)
  have hv := hpo.ver
  obtain ⟨ve, hve⟩ : ∃ ve, ve = p.ver := ⟨_, rfl⟩
  rw [← hve] at hY hr hv
  have HR := Lib.hid hr
  have HM : Hid (Md k (k + 3) w O w O C f s m k R (rvCs ⟨4, p, last, ref, mw, is, o⟩ (some ⟨Y, 0, none⟩) u)) := HM
  have HK := Lib.hid (c_rMkStep ve [] (k := k + 1) hW hY (by omega) hm hhi (by omega) (by omega) n0 n1)
  have H4 := Lib.hid o4
  have x8 := hx.c 8 _ rfl
  clear hY hv hve
  clear hW hX hx hhi c3 c4 hr hpo l0 l1 a0 i0 r0 r1 m0 m1 w0 w1 o8 o4
  go_enter Tryz.func67, Tryz.ntmps67
  go_wp2_with fail
  refine HK.out.mono ?_
  rintro e w2 ⟨rfl, G2, e2, P2, Y2⟩
  have M2 := Lib.hid (HM.out.call hk (by omega) (by omega) (by omega) e2 P2)
  have z0 := Y2.cell
  rw [if_pos rfl] at z0
  have y8 := M2.out.t.c 8 _ rfl
  clear HK e2 P2 x0 x8 Y2

  have y0 := M2.out.t.c 0 _ rfl
  have f0 := M2.out.t.f 0
  have M3 := Lib.hid (M2.out.set hk (Nat.le_refl _) (by omega) 0 (.int .i64 5) (by simp [rvCs]))

  have y0 : w2.cell? ⟨R, 0, none⟩ = some (.int .i64 4) := y0
  go_upto_region 20 with fail
  obtain ⟨w3, hw3⟩ : ∃ w3, w3 = w2.setCell ⟨R, 0, none⟩ (.int .i64 5) := ⟨_, rfl⟩
  rw [← hw3] at M3 ⊢
  clear hw3 y0 f0 y8 z0
  have y1 := M3.out.t.c 1 _ rfl
  have y2 := M3.out.t.c 2 _ rfl
  have y3 := M3.out.t.c 3 _ rfl
  go_wp2_with fail
  refine (c_rNewOut (k := k + 3) HP.out (by omega) M3.out.e.hi).mono ?_
  rintro e w4 ⟨U, rfl, G4, e4, u4⟩
  have M4 := Lib.hid (M3.out.oth hk e4 (fun t h => by omega))
  have U4 := Lib.hid u4
  clear e4 u4 y1 y2 y3
  have y9 := M4.out.t.c 9 _ rfl
  have f9 := M4.out.t.f 9
  have EE := Lib.hid (ext_set (j := 9) (v := .pointer (some ⟨U, 0, none⟩)) M4.out.e.hi M4.out.t hk)
  have M5 := Lib.hid (M4.out.set hk (Nat.le_refl _) (by omega) 9 (.pointer (some ⟨U, 0, none⟩)) (by simp [rvCs]))
  go_wp2_with fail
  go_end0
  rw [HR.out]
  have hU := U4.out.ext EE.out (by omega)

  have g4 := H4.out (by decide)
  rw [g4]
  rw [g4] at M5
  exact ⟨rfl, _, M5.out.e, M5.out.p, some ⟨Y, 0, none⟩, some ⟨U, 0, none⟩, M5.out.t, fun g => absurd g (by dsimp only; omega), fun _ => ⟨U, rfl, hU⟩⟩
set_option maxHeartbeats 4000000 in
set_option maxRecDepth 100000 in
theorem c_rv6 {z : Vcm} (hW : RW w O C f s m) (hX : RvAt w O k R z) (hz : VcOk z) (hl : z.ln = 6) (hk : 10 ≤ k) (hm : m ≤ 900000) (hhi : ∀ j, O j ≠ 0 → j < w.heap.size) (n0 : 0 ≤ s.n) (n1 : s.n ≤ 4611686018427387904) :
    Calls Tryz.prog 67 #[.pointer (some ⟨R, 0, none⟩), .pointer (some ⟨C.p, 0, none⟩)] w (RVPost w O C f k R m (vcStep (s, z))) := by
  obtain ⟨r, hr⟩ : ∃ r, r = vcStep (s, z) := ⟨_, rfl⟩
  rw [← hr]
  rw [vcStep_6 s z hl] at hr
  obtain ⟨ln, p, last, ref, mw, is, o⟩ := z
  dsimp only at hl
  subst hl
  obtain ⟨a, u, hx, c3, c4⟩ := hX.ex
  dsimp only at c3 c4 hr
  have HM : Hid (Md k (k + 3) w O w O C f s m k R (rvCs ⟨6, p, last, ref, mw, is, o⟩ a u)) := Lib.hid (Md.start hhi hW hx)
  have x0 := hx.c 0 _ rfl
  dsimp only at x0
  unfold RVPost
  have hpo := hz.p (by dsimp only; omega)
  dsimp only at hpo
  have HP := Lib.hid hpo
  obtain ⟨l0, l1, -, a0, i0, r0, r1, m0, m1, w0, w1, o8, o4⟩ := hz
  dsimp only at l0 l1 a0 i0 r0 r1 m0 m1 w0 w1 o8 o4
  obtain ⟨Y, rfl, hY⟩ := c3 (by decide)
  have hv := hpo.ver
  obtain ⟨ve, hve⟩ : ∃ ve, ve = p.ver := ⟨_, rfl⟩
  rw [← hve] at hY hr hv
  have HR := Lib.hid hr
  have HM : Hid (Md k (k + 3) w O w O C f s m k R (rvCs ⟨6, p, last, ref, mw, is, o⟩ (some ⟨Y, 0, none⟩) u)) := HM
  have HK := Lib.hid (c_rMkStep ve [] (k := k + 1) hW hY (by omega) hm hhi (by omega) (by omega) n0 n1)
  have H4 := Lib.hid o4
  have x8 := hx.c 8 _ rfl
  clear hY hv hve
  clear hW hX hx hhi c3 c4 hr hpo l0 l1 a0 i0 r0 r1 m0 m1 w0 w1 o8 o4
  go_enter Tryz.func67, Tryz.ntmps67
  go_wp2_with fail
  refine HK.out.mono ?_
  rintro e w2 ⟨rfl, G2, e2, P2, Y2⟩
  have M2 := Lib.hid (HM.out.call hk (by omega) (by omega) (by omega) e2 P2)
  have z0 := Y2.cell
  rw [if_pos rfl] at z0
  have y8 := M2.out.t.c 8 _ rfl
  clear HK e2 P2 x0 x8 Y2

  have y0 := M2.out.t.c 0 _ rfl
  have f0 := M2.out.t.f 0
  have M3 := Lib.hid (M2.out.set hk (Nat.le_refl _) (by omega) 0 (.int .i64 7) (by simp [rvCs]))

  have y0 : w2.cell? ⟨R, 0, none⟩ = some (.int .i64 6) := y0
  go_upto_region 20 with fail
  obtain ⟨w3, hw3⟩ : ∃ w3, w3 = w2.setCell ⟨R, 0, none⟩ (.int .i64 7) := ⟨_, rfl⟩
  rw [← hw3] at M3 ⊢
  clear hw3 y0 f0 y8 z0
  have y1 := M3.out.t.c 1 _ rfl
  have y2 := M3.out.t.c 2 _ rfl
  have y3 := M3.out.t.c 3 _ rfl
  go_wp2_with fail
  refine (c_rNewOut (k := k + 3) HP.out (by omega) M3.out.e.hi).mono ?_
  rintro e w4 ⟨U, rfl, G4, e4, u4⟩
  have M4 := Lib.hid (M3.out.oth hk e4 (fun t h => by omega))
  have U4 := Lib.hid u4
  clear e4 u4 y1 y2 y3
  have y9 := M4.out.t.c 9 _ rfl
  have f9 := M4.out.t.f 9
  have EE := Lib.hid (ext_set (j := 9) (v := .pointer (some ⟨U, 0, none⟩)) M4.out.e.hi M4.out.t hk)
  have M5 := Lib.hid (M4.out.set hk (Nat.le_refl _) (by omega) 9 (.pointer (some ⟨U, 0, none⟩)) (by simp [rvCs]))
  go_wp2_with fail
  go_end0
  rw [HR.out]
  have hU := U4.out.ext EE.out (by omega)

  exact ⟨rfl, _, M5.out.e, M5.out.p, RvAt.simple _ _ M5.out.t (by dsimp only; omega)⟩
set_option maxHeartbeats 4000000 in
set_option maxRecDepth 100000 in
theorem c_rv5_0 {z : Vcm} (hW : RW w O C f s m) (hX : RvAt w O k R z) (hz : VcOk z) (hl : z.ln = 5) (ho : z.o.ln = 0) (hk : 10 ≤ k) (hm : m ≤ 900000) (hhi : ∀ j, O j ≠ 0 → j < w.heap.size) (n0 : 0 ≤ s.n) (n1 : s.n ≤ 4611686018427387904) :
    Calls Tryz.prog 67 #[.pointer (some ⟨R, 0, none⟩), .pointer (some ⟨C.p, 0, none⟩)] w (RVPost w O C f k R m (vcStep (s, z))) := by
  obtain ⟨r, hr⟩ : ∃ r, r = vcStep (s, z) := ⟨_, rfl⟩
  rw [← hr]
  rw [vcStep_5 s z hl] at hr
  obtain ⟨ln, p, last, ref, mw, is, o⟩ := z
  dsimp only at hl
  subst hl
  obtain ⟨a, u, hx, c3, c4⟩ := hX.ex
  dsimp only at c3 c4 hr
  have HM : Hid (Md k (k + 3) w O w O C f s m k R (rvCs ⟨5, p, last, ref, mw, is, o⟩ a u)) := Lib.hid (Md.start hhi hW hx)
  have x0 := hx.c 0 _ rfl
  dsimp only at x0
  unfold RVPost
  have hpo := hz.p (by dsimp only; omega)
  dsimp only at hpo
  have HP := Lib.hid hpo
  obtain ⟨l0, l1, -, a0, i0, r0, r1, m0, m1, w0, w1, o8, o4⟩ := hz
  dsimp only at l0 l1 a0 i0 r0 r1 m0 m1 w0 w1 o8 o4
  obtain ⟨U, rfl, hU⟩ := c4 (by decide)
  obtain ⟨oln, ow⟩ := o
  dsimp only at ho w0 w1
  subst ho
  have HM : Hid (Md k (k + 3) w O w O C f s m k R (rvCs ⟨5, p, last, ref, mw, is, ⟨0, ow⟩⟩ a (some ⟨U, 0, none⟩))) := HM
  have HK := Lib.hid (c_rOutStep (k := k + 3) ⟨0, ow⟩ hW hU hpo (show (0 : Nat) < 3 by decide) w0 w1 (by omega) hm hhi n0 n1)
  have hon : (outStep p s ⟨0, ow⟩).2.ln = 1 := rfl
  obtain ⟨o2, ho2⟩ : ∃ o2, o2 = (outStep p s ⟨0, ow⟩).2 := ⟨_, rfl⟩
  obtain ⟨s2, hs2⟩ : ∃ s2, s2 = (outStep p s ⟨0, ow⟩).1 := ⟨_, rfl⟩
  rw [← ho2, ← hs2] at HK hr
  rw [← ho2] at hon
  have hr : r = (s2, ⟨5, p, last, ref, mw, is, o2⟩) := hr
  have HR := Lib.hid hr
  have j1 : w.cell? ⟨U, 1, none⟩ = some (.bool false) := hU.ob.c 1 _ rfl
  have x9 := hx.c 9 _ rfl
  clear ho2 hs2 hU
  clear hW hX hx hhi c3 c4 hr hpo l0 l1 a0 i0 r0 r1 m0 m1 w0 w1 o8 o4
  go_enter Tryz.func67, Tryz.ntmps67
  go_wp2_with fail
  refine HK.out.mono ?_
  rintro e w2 ⟨rfl, G2, e2, P2, u2⟩
  have M2 := Lib.hid (HM.out.call hk (by omega) (by omega) (by omega) e2 P2)
  have U2 := Lib.hid u2
  have i0 : w2.cell? ⟨U, 0, none⟩ = some (.int .i64 2) := by have := u2.ob.c 0 _ rfl; rw [hon] at this; exact this
  have i1 : w2.cell? ⟨U, 1, none⟩ = some (.bool false) := by have := u2.ob.c 1 _ rfl; rw [hon] at this; exact this
  have y9 := M2.out.t.c 9 _ rfl
  clear HK e2 P2 u2 j1 x9 x0

  go_wp2_with fail
  go_end0
  rw [HR.out]
  exact ⟨rfl, _, M2.out.e, M2.out.p, a, some ⟨U, 0, none⟩, M2.out.t, fun g => absurd g (by dsimp only; omega), fun _ => ⟨U, rfl, U2.out⟩⟩
set_option maxHeartbeats 4000000 in
set_option maxRecDepth 100000 in
theorem c_rv5_1 {z : Vcm} (hW : RW w O C f s m) (hX : RvAt w O k R z) (hz : VcOk z) (hl : z.ln = 5) (ho : z.o.ln = 1) (hk : 10 ≤ k) (hm : m ≤ 900000) (hhi : ∀ j, O j ≠ 0 → j < w.heap.size) (n0 : 0 ≤ s.n) (n1 : s.n ≤ 4611686018427387904) :
    Calls Tryz.prog 67 #[.pointer (some ⟨R, 0, none⟩), .pointer (some ⟨C.p, 0, none⟩)] w (RVPost w O C f k R m (vcStep (s, z))) := by
  obtain ⟨r, hr⟩ : ∃ r, r = vcStep (s, z) := ⟨_, rfl⟩
  rw [← hr]
  rw [vcStep_5 s z hl] at hr
  obtain ⟨ln, p, last, ref, mw, is, o⟩ := z
  dsimp only at hl
  subst hl
  obtain ⟨a, u, hx, c3, c4⟩ := hX.ex
  dsimp only at c3 c4 hr
  have HM : Hid (Md k (k + 3) w O w O C f s m k R (rvCs ⟨5, p, last, ref, mw, is, o⟩ a u)) := Lib.hid (Md.start hhi hW hx)
  have x0 := hx.c 0 _ rfl
  dsimp only at x0
  unfold RVPost
  have hpo := hz.p (by dsimp only; omega)
  dsimp only at hpo
  have HP := Lib.hid hpo
  obtain ⟨l0, l1, -, a0, i0, r0, r1, m0, m1, w0, w1, o8, o4⟩ := hz
  dsimp only at l0 l1 a0 i0 r0 r1 m0 m1 w0 w1 o8 o4
  obtain ⟨U, rfl, hU⟩ := c4 (by decide)
  obtain ⟨oln, ow⟩ := o
  dsimp only at ho w0 w1
  subst ho
  have HM : Hid (Md k (k + 3) w O w O C f s m k R (rvCs ⟨5, p, last, ref, mw, is, ⟨1, ow⟩⟩ a (some ⟨U, 0, none⟩))) := HM
  have HK := Lib.hid (c_rOutStep (k := k + 3) ⟨1, ow⟩ hW hU hpo (show (1 : Nat) < 3 by decide) w0 w1 (by omega) hm hhi n0 n1)
  have hon : (outStep p s ⟨1, ow⟩).2.ln = 2 := rfl
  obtain ⟨o2, ho2⟩ : ∃ o2, o2 = (outStep p s ⟨1, ow⟩).2 := ⟨_, rfl⟩
  obtain ⟨s2, hs2⟩ : ∃ s2, s2 = (outStep p s ⟨1, ow⟩).1 := ⟨_, rfl⟩
  rw [← ho2, ← hs2] at HK hr
  rw [← ho2] at hon
  have hr : r = (awNote 1 ref p.b p.q p.s 0 s2, ⟨5, p, last, ref, mw, is, o2⟩) := hr
  have HR := Lib.hid hr
  have j1 : w.cell? ⟨U, 1, none⟩ = some (.bool false) := hU.ob.c 1 _ rfl
  have x9 := hx.c 9 _ rfl
  clear ho2 hs2 hU
  clear hW hX hx hhi c3 c4 hr hpo l0 l1 a0 i0 r0 r1 m0 m1 w0 w1 o8 o4
  go_enter Tryz.func67, Tryz.ntmps67
  go_wp2_with fail
  refine HK.out.mono ?_
  rintro e w2 ⟨rfl, G2, e2, P2, u2⟩
  have M2 := Lib.hid (HM.out.call hk (by omega) (by omega) (by omega) e2 P2)
  have U2 := Lib.hid u2
  have i0 : w2.cell? ⟨U, 0, none⟩ = some (.int .i64 3) := by have := u2.ob.c 0 _ rfl; rw [hon] at this; exact this
  have i1 : w2.cell? ⟨U, 1, none⟩ = some (.bool true) := by have := u2.ob.c 1 _ rfl; rw [hon] at this; exact this
  have y9 := M2.out.t.c 9 _ rfl
  clear HK e2 P2 u2 j1 x9 x0

  have y5 := M2.out.t.c 5 _ rfl
  have y1 := M2.out.t.c 1 _ rfl
  have y2 := M2.out.t.c 2 _ rfl
  have y3 := M2.out.t.c 3 _ rfl
  obtain ⟨pb, hpb⟩ : ∃ z, z = p.b := ⟨_, rfl⟩
  obtain ⟨pq, hpq⟩ : ∃ z, z = p.q := ⟨_, rfl⟩
  obtain ⟨ps, hps⟩ : ∃ z, z = p.s := ⟨_, rfl⟩
  rw [← hpb] at y1
  rw [← hpq] at y2
  rw [← hps] at y3
  have HN := Lib.hid (c_rwNote 1 ref pb pq ps 0 (w := w2.drew) M2.out.drew.p M2.out.drew.e.hi (by decide) (by decide))
  have HQ := Lib.hid (And.intro hpb (And.intro hpq hps))
  clear hpb hpq hps
  go_upto_region 25 with fail
  go_region_held3 (fun w' => w'.cell? ⟨R, 5, none⟩ = some (.int .i64 ref) ∧ w'.cell? ⟨R, 1, none⟩ = some (.int .i64 pb) ∧ w'.cell? ⟨R, 2, none⟩ = some (.int .i64 pq) ∧ w'.cell? ⟨R, 3, none⟩ = some (.int .i64 ps)) (go_keep)
    ((go_at_call 140
      refine HN.out.mono ?_
      rintro e w3 ⟨rfl, G3, e3, P3⟩
      have M3 := Lib.hid (M2.out.drew.world hk e3 P3)
      have U3 := Lib.hid ((U2.out.below (drew_below _)).ext e3 (by unfold SR; omega))
      have y53 := M3.out.t.c 5 _ rfl
      have y13 := M3.out.t.c 1 _ rfl
      have y23 := M3.out.t.c 2 _ rfl
      have y33 := M3.out.t.c 3 _ rfl
      rw [← HQ.out.1] at y13
      rw [← HQ.out.2.1] at y23
      rw [← HQ.out.2.2] at y33
      have y93 := M3.out.t.c 9 _ rfl
      have i03 : w3.cell? ⟨U, 0, none⟩ = some (.int .i64 3) := by have := U3.out.ob.c 0 _ rfl; rw [hon] at this; exact this
      clear e3 P3))
  all_goals
    clear y1 y2 y3 y5 y9 i0 i1 y13 y23 y33 y53
    go_wp2_with fail
    go_end0
    rw [HR.out, ← HQ.out.1, ← HQ.out.2.1, ← HQ.out.2.2]
    exact ⟨rfl, _, M3.out.e, M3.out.p, a, some ⟨U, 0, none⟩, M3.out.t, fun g => absurd g (by dsimp only; omega), fun _ => ⟨U, rfl, U3.out⟩⟩
set_option maxHeartbeats 4000000 in
set_option maxRecDepth 100000 in
theorem c_rv5_2 {z : Vcm} (hW : RW w O C f s m) (hX : RvAt w O k R z) (hz : VcOk z) (hl : z.ln = 5) (ho : z.o.ln = 2) (hk : 10 ≤ k) (hm : m ≤ 900000) (hhi : ∀ j, O j ≠ 0 → j < w.heap.size) (n0 : 0 ≤ s.n) (n1 : s.n ≤ 4611686018427387904) :
    Calls Tryz.prog 67 #[.pointer (some ⟨R, 0, none⟩), .pointer (some ⟨C.p, 0, none⟩)] w (RVPost w O C f k R m (vcStep (s, z))) := by
  obtain ⟨r, hr⟩ : ∃ r, r = vcStep (s, z) := ⟨_, rfl⟩
  rw [← hr]
  rw [vcStep_5 s z hl] at hr
  obtain ⟨ln, p, last, ref, mw, is, o⟩ := z
  dsimp only at hl
  subst hl
  obtain ⟨a, u, hx, c3, c4⟩ := hX.ex
  dsimp only at c3 c4 hr
  have HM : Hid (Md k (k + 3) w O w O C f s m k R (rvCs ⟨5, p, last, ref, mw, is, o⟩ a u)) := Lib.hid (Md.start hhi hW hx)
  have x0 := hx.c 0 _ rfl
  dsimp only at x0
  unfold RVPost
  have hpo := hz.p (by dsimp only; omega)
  dsimp only at hpo
  have HP := Lib.hid hpo
  obtain ⟨l0, l1, -, a0, i0, r0, r1, m0, m1, w0, w1, o8, o4⟩ := hz
  dsimp only at l0 l1 a0 i0 r0 r1 m0 m1 w0 w1 o8 o4
  obtain ⟨U, rfl, hU⟩ := c4 (by decide)
  obtain ⟨oln, ow⟩ := o
  dsimp only at ho w0 w1
  subst ho
  have HM : Hid (Md k (k + 3) w O w O C f s m k R (rvCs ⟨5, p, last, ref, mw, is, ⟨2, ow⟩⟩ a (some ⟨U, 0, none⟩))) := HM
  have HK := Lib.hid (c_rOutStep (k := k + 3) ⟨2, ow⟩ hW hU hpo (show (2 : Nat) < 3 by decide) w0 w1 (by omega) hm hhi n0 n1)
  have hon : (outStep p s ⟨2, ow⟩).2.ln = 3 := rfl
  obtain ⟨o2, ho2⟩ : ∃ o2, o2 = (outStep p s ⟨2, ow⟩).2 := ⟨_, rfl⟩
  obtain ⟨s2, hs2⟩ : ∃ s2, s2 = (outStep p s ⟨2, ow⟩).1 := ⟨_, rfl⟩
  rw [← ho2, ← hs2] at HK hr
  rw [← ho2] at hon
  have hr : r = (s2, ⟨6, p, last, ref, mw, is, o2⟩) := hr
  have HR := Lib.hid hr
  have j1 : w.cell? ⟨U, 1, none⟩ = some (.bool true) := hU.ob.c 1 _ rfl
  have x9 := hx.c 9 _ rfl
  clear ho2 hs2 hU
  clear hW hX hx hhi c3 c4 hr hpo l0 l1 a0 i0 r0 r1 m0 m1 w0 w1 o8 o4
  go_enter Tryz.func67, Tryz.ntmps67
  go_wp2_with fail
  refine HK.out.mono ?_
  rintro e w2 ⟨rfl, G2, e2, P2, u2⟩
  have M2 := Lib.hid (HM.out.call hk (by omega) (by omega) (by omega) e2 P2)
  have U2 := Lib.hid u2
  have i0 : w2.cell? ⟨U, 0, none⟩ = some (.int .i64 0) := by have := u2.ob.c 0 _ rfl; rw [hon] at this; exact this
  have i1 : w2.cell? ⟨U, 1, none⟩ = some (.bool true) := by have := u2.ob.c 1 _ rfl; rw [hon] at this; exact this
  have y9 := M2.out.t.c 9 _ rfl
  clear HK e2 P2 u2 j1 x9 x0

  go_wp2_with fail
  refine (c_rvMarks 6 ⟨5, p, last, ref, mw, is, o2⟩ a (some ⟨U, 0, none⟩) M2.out.t HP.out hk M2.out.e.hi).mono ?_
  rintro e w5 ⟨A, rfl, G5, e5, x5, a5⟩
  have M5 := Lib.hid (And.intro (M2.out.e.trans (e5.mono fun t _ ht => .inr ⟨ht.1, by omega⟩)) (And.intro (M2.out.p.ext e5 (by omega) (by omega) (by omega) (by omega)) (And.intro x5 a5)))
  clear e5 x5 a5
  go_wp2_with fail
  go_end0
  rw [HR.out]
  exact ⟨rfl, _, M5.out.1, M5.out.2.1, some ⟨A, 0, none⟩, _, M5.out.2.2.1, fun _ => ⟨A, rfl, M5.out.2.2.2⟩, fun g => absurd (show (6 : Int) = 5 from g) (by decide)⟩
set_option maxHeartbeats 4000000 in
set_option maxRecDepth 100000 in
theorem c_rv7 {z : Vcm} (hW : RW w O C f s m) (hX : RvAt w O k R z) (hz : VcOk z) (hl : z.ln = 7) (hk : 10 ≤ k) (hm : m ≤ 900000) (hhi : ∀ j, O j ≠ 0 → j < w.heap.size) (n0 : 0 ≤ s.n) (n1 : s.n ≤ 4611686018427387904) :
    Calls Tryz.prog 67 #[.pointer (some ⟨R, 0, none⟩), .pointer (some ⟨C.p, 0, none⟩)] w (RVPost w O C f k R m (vcStep (s, z))) := by
  obtain ⟨r, hr⟩ : ∃ r, r = vcStep (s, z) := ⟨_, rfl⟩
  rw [← hr]
  rw [vcStep_7 s z hl] at hr
  obtain ⟨ln, p, last, ref, mw, is, o⟩ := z
  dsimp only at hl
  subst hl
  obtain ⟨a, u, hx, c3, c4⟩ := hX.ex
  dsimp only at c3 c4 hr
  have HM : Hid (Md k (k + 3) w O w O C f s m k R (rvCs ⟨7, p, last, ref, mw, is, o⟩ a u)) := Lib.hid (Md.start hhi hW hx)
  have x0 := hx.c 0 _ rfl
  dsimp only at x0
  unfold RVPost
  have hpo := hz.p (by dsimp only; omega)
  dsimp only at hpo
  have HP := Lib.hid hpo
  obtain ⟨l0, l1, -, a0, i0, r0, r1, m0, m1, w0, w1, o8, o4⟩ := hz
  dsimp only at l0 l1 a0 i0 r0 r1 m0 m1 w0 w1 o8 o4
  have HR := Lib.hid hr
  clear hW hX hx hhi c3 c4 hr hpo l0 l1 a0 i0 r0 r1 m0 m1 w0 w1 o8 o4
  go_enter Tryz.func67, Tryz.ntmps67
  go_wp2_with fail
  refine (c_rwAdd 6 18446744073709551615 HM.out.p (by omega) (by decide) (by decide) (by decide) (by decide) HM.out.e.hi n0 n1).mono ?_
  rintro e w2 ⟨rfl, G2, e2, P2⟩
  have M2 := Lib.hid (HM.out.world hk e2 P2)

  have y0 := M2.out.t.c 0 _ rfl
  have f0 := M2.out.t.f 0
  have M3 := Lib.hid (M2.out.set hk (Nat.le_refl _) (by omega) 0 (.int .i64 0) (by simp [rvCs]))

  have y7 := M2.out.t.c 7 _ rfl
  have f7 := M2.out.t.f 7
  have M4 := Lib.hid (M3.out.set hk (Nat.le_refl _) (by omega) 7 (.bool true) (by simp [rvCs]))
  clear e2 P2 x0
  go_wp2_with fail
  go_end0
  rw [HR.out]
  exact ⟨rfl, _, M4.out.e, M4.out.p, RvAt.simple a u M4.out.t (by dsimp only; omega)⟩
set_option maxRecDepth 100000 in
theorem c_rvStep0 {z : Vcm} (hX : RvAt w O k R z) (hl : z.ln = 0) :
    Calls Tryz.prog 67 #[.pointer (some ⟨R, 0, none⟩), .pointer (some ⟨C.p, 0, none⟩)] w fun e w' => e = .returned (.tuple #[]) ∧ w = w' := by
  obtain ⟨a, u, hx, -⟩ := hX.ex
  have x0 : w.cell? ⟨R, 0, none⟩ = some (.int .i64 z.ln) := hx.c 0 _ rfl
  rw [hl] at x0
  clear hx hX hl
  go_enter Tryz.func67, Tryz.ntmps67
  go_wp2_with fail
  go_end0
  exact ⟨rfl, rfl⟩
/-- The document's Victim's step. -/
theorem c_rvStep {z : Vcm} (hW : RW w O C f s m) (hX : RvAt w O k R z) (hz : VcOk z) (hk : 10 ≤ k) (hm : m ≤ 900000) (hhi : ∀ j, O j ≠ 0 → j < w.heap.size) (n0 : 0 ≤ s.n) (n1 : s.n ≤ 4611686018427387904) :
    Calls Tryz.prog 67 #[.pointer (some ⟨R, 0, none⟩), .pointer (some ⟨C.p, 0, none⟩)] w (RVPost w O C f k R m (vcStep (s, z))) := by
  have l0 := hz.l0
  have l1 := hz.l1
  by_cases e0 : z.ln = 0
  · rw [vcStep_0 s z e0]
    refine (c_rvStep0 hX e0).mono ?_
    rintro e w' ⟨rfl, rfl⟩
    exact ⟨rfl, O, Ext.refl hhi, hW.up (by omega), hX⟩
  have h : z.ln = 1 ∨ z.ln = 2 ∨ z.ln = 3 ∨ z.ln = 4 ∨ z.ln = 5 ∨ z.ln = 6 ∨ z.ln = 7 := by omega
  rcases h with h | h | h | h | h | h | h
  · exact c_rv1 hW hX hz h hk hm hhi n0 n1
  · exact c_rv2 hW hX hz h hk hm hhi n0 n1
  · exact c_rv3 hW hX hz h hk hm hhi n0 n1
  · exact c_rv4 hW hX hz h hk hm hhi n0 n1
  · have ho := hz.o8 (.inr h)
    have ho3 : z.o.ln = 0 ∨ z.o.ln = 1 ∨ z.o.ln = 2 := by omega
    rcases ho3 with g | g | g
    · exact c_rv5_0 hW hX hz h g hk hm hhi n0 n1
    · exact c_rv5_1 hW hX hz h g hk hm hhi n0 n1
    · exact c_rv5_2 hW hX hz h g hk hm hhi n0 n1
  · exact c_rv6 hW hX hz h hk hm hhi n0 n1
  · exact c_rv7 hW hX hz h hk hm hhi n0 n1
def spV2 (p : Spt) : Value := .agg #[.int .i64 p.b, .int .i64 p.q, .int .i64 p.s]
set_option maxHeartbeats 2000000 in
set_option maxRecDepth 100000 in
theorem c_rvGot {z : Vcm} (hX : RvAt w O k R z) :
    Calls Tryz.prog 131 #[.pointer (some ⟨R, 0, none⟩)] w fun e w' => e = .returned (.tuple #[spV2 (vcGot z).1, .bool (vcGot z).2]) ∧ Below w.heap.size w w' := by
  obtain ⟨a, u, hx, -⟩ := hX.ex
  have x1 := hx.c 1 _ rfl
  have x2 := hx.c 2 _ rfl
  have x3 := hx.c 3 _ rfl
  have x7 := hx.c 7 _ rfl
  have hl := hx.lt
  obtain ⟨ln, p, last, ref, mw, is, o⟩ := z
  dsimp only at x1 x2 x3 x7
  clear hX hx
  have hne : ¬ R = w.heap.size := by omega
  have hne2 : ¬ w.heap.size = R := by omega
  cases is with
  | true =>
    rw [show vcGot ⟨ln, p, last, ref, mw, true, o⟩ = (p, true) from rfl]
    unfold spV2
    dsimp only
    obtain ⟨pb, hpb⟩ : ∃ z, z = p.b := ⟨_, rfl⟩
    obtain ⟨pq, hpq⟩ : ∃ z, z = p.q := ⟨_, rfl⟩
    obtain ⟨ps, hps⟩ : ∃ z, z = p.s := ⟨_, rfl⟩
    rw [← hpb] at x1
    rw [← hpq] at x2
    rw [← hps] at x3
    rw [← hpb, ← hpq, ← hps]
    clear hpb hpq hps
    go_enter Tryz.func131, Tryz.ntmps131
    go_wp2_with fail
    exact bodyPost_ret (v := .tuple #[.agg #[.int .i64 pb, .int .i64 pq, .int .i64 ps], .bool true]) (by simp [results, Tryz.results131, go_sem]) rfl ⟨rfl, by first | exact (Below.refl _ _).alloc (Nat.le_refl _) _ | exact ((((Below.refl _ _).alloc (Nat.le_refl _) _).setCell (p := ⟨w.heap.size, 0, none⟩) (Nat.le_refl _) _).setCell (p := ⟨w.heap.size, 1, none⟩) (Nat.le_refl _) _).setCell (p := ⟨w.heap.size, 2, none⟩) (Nat.le_refl _) _⟩
  | false =>
    rw [show vcGot ⟨ln, p, last, ref, mw, false, o⟩ = (⟨0, 0, 0⟩, false) from rfl]
    unfold spV2
    dsimp only
    go_enter Tryz.func131, Tryz.ntmps131
    go_wp2_with fail
    exact bodyPost_ret (v := .tuple #[.agg #[.int .i64 0, .int .i64 0, .int .i64 0], .bool false]) (by simp [results, Tryz.results131, go_sem]) rfl ⟨rfl, by first | exact (Below.refl _ _).alloc (Nat.le_refl _) _ | exact ((((Below.refl _ _).alloc (Nat.le_refl _) _).setCell (p := ⟨w.heap.size, 0, none⟩) (Nat.le_refl _) _).setCell (p := ⟨w.heap.size, 1, none⟩) (Nat.le_refl _) _).setCell (p := ⟨w.heap.size, 2, none⟩) (Nat.le_refl _) _⟩
set_option maxHeartbeats 4000000 in
set_option maxRecDepth 100000 in
theorem c_rvNew (b h : Int) (b0 : -9223372036854775808 ≤ b) (b1 : b ≤ 9223372036854775807) (h0 : 0 ≤ h) (h1 : h < 18446744073709551616) (hk : 10 ≤ k) (hhi : ∀ j, O j ≠ 0 → j < w.heap.size) :
    Calls Tryz.prog 63 #[.int .i64 b, .int .u64 h] w fun e w' => ∃ R, RP (fun t => t = k) w O (.pointer (some ⟨R, 0, none⟩)) (fun W G => RvAt W G k R (vcNew b h)) e w' := by
  obtain ⟨z, hz⟩ : ∃ z, z = vcNew b h := ⟨_, rfl⟩
  rw [← hz]
  unfold vcNew at hz
  have HS := Lib.hid (fun W => c_rSize b W b0 b1)
  have HB := Lib.hid (fun W => c_rBucket h b W h0 h1 b0 b1)
  have HT := Lib.hid (fun W => c_rTag h W h0 h1)
  have ht := fnvTag_bd h h0 h1
  by_cases hb : vcTab b
  · rw [if_pos hb] at hz
    have hs := fnvSize_pos hb.1 hb.2
    have hd : decide (0 < fnvSize b) = true := by simp; omega
    have hbk := fnvBucket_bd (h := h) hb.1 hb.2
    have hsz := fnvSize_bd b
    have HO := Lib.hid (fun W => c_rOther (fnvBucket h b) (fnvTag h) b W (by omega) (by omega) (by omega) (by omega) b0 b1)
    obtain ⟨bk, hbk2⟩ : ∃ x, x = fnvBucket h b := ⟨_, rfl⟩
    rw [← hbk2] at HB HO hz
    obtain ⟨tg, htg⟩ : ∃ x, x = fnvTag h := ⟨_, rfl⟩
    rw [← htg] at HT HO hz
    obtain ⟨ot, hot⟩ : ∃ x, x = fnvOther bk tg b := ⟨_, rfl⟩
    rw [← hot] at HO hz
    obtain ⟨sz, hsz2⟩ : ∃ x, x = fnvSize b := ⟨_, rfl⟩
    rw [← hsz2] at HS hd
    have HZ := Lib.hid hz
    have HH := Lib.hid hhi
    clear ht hs hbk hsz hbk2 htg hot hsz2 hz hhi hb b0 b1 h0 h1
    obtain ⟨G, e2, x2, -⟩ := alloc_ob HH.out k #[.int .i64 1, .int .i64 b, .int .i64 bk, .int .i64 0, .int .i64 ot, .int .i64 0, .int .u64 0, .bool false, .pointer none, .pointer none] 144 w.heap.size rfl
    have HE := Lib.hid (And.intro e2 x2)
    clear e2 x2
    go_enter Tryz.func63, Tryz.ntmps63
    go_wp2_with fail
    refine (HS.out _).mono ?_
    rintro e w' ⟨rfl, rfl⟩
    go_wp2_with fail
    refine (HB.out _).mono ?_
    rintro e w' ⟨rfl, rfl⟩
    go_wp2_with fail
    refine (HT.out _).mono ?_
    rintro e w' ⟨rfl, rfl⟩
    go_wp2_with fail
    refine (HO.out _).mono ?_
    rintro e w' ⟨rfl, rfl⟩
    go_wp2_with fail
    go_ret
    rw [HZ.out]
    exact ⟨_, rfl, G, HE.out.1, RvAt.simple none none HE.out.2 (by dsimp only; omega)⟩
  · rw [if_neg hb] at hz
    have hs : fnvSize b = 0 := fnvSize_out (by unfold vcTab at hb; omega)
    rw [hs] at HS
    obtain ⟨G, e2, x2, -⟩ := alloc_ob hhi k #[.int .i64 0, .int .i64 0, .int .i64 0, .int .i64 0, .int .i64 0, .int .i64 0, .int .u64 0, .bool false, .pointer none, .pointer none] 144 w.heap.size rfl
    have HE := Lib.hid (And.intro e2 x2)
    have HZ := Lib.hid hz
    clear e2 x2 hz hhi hb hs ht
    go_enter Tryz.func63, Tryz.ntmps63
    go_wp2_with fail
    refine (HS.out _).mono ?_
    rintro e w' ⟨rfl, rfl⟩
    go_wp2_with fail
    go_ret
    rw [HZ.out]
    exact ⟨_, rfl, G, HE.out.1, RvAt.simple none none HE.out.2 (by dsimp only; omega)⟩
end
end
end Go.Proofs.YtlcibfpibklbdaaGreat
