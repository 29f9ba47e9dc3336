/- A table that is filled, plain: each slot is empty, or has an item of a key whose place it is, under its tag; no item stands twice. Slots of tables, plain: what they hold, spot by spot. Layer 15, plain: a Find by itself. Layer 13: nestboxlaw13.Slot. Layers 15, 25, plain: a world of one table, each key once at most; what a Find finds there. Layer 26, plain: a Change in a world of one table: the way to the key. -/
import Derived.Test.YtifkfhnbkjkakaaGreatDoorZcBaH
import Derived.Test.YtifkfhnbkjkakaaGreatDoorZcSp
import Derived.BigQuiet
import Derived.Deep.QuietTactic
import Derived.Test.YtifkfhnbkjkakaaGreatDoorZcFwA
import Derived.Test.YtifkfhnbkjkakaaGreatDoorZcChP
namespace Go.Proofs.YtifkfhnbkjkakaaGreatDoor
set_option linter.unusedSimpArgs false
set_option linter.unusedVariables false
set_option maxHeartbeats 2000000
set_option maxRecDepth 100000
section
open Go.RowKit
def keyH (k : ByteArray) : Int := fnvHash k.data.toList
def FilAt (b : Int) (ks : List ByteArray) (M : Int → Int) (p : Spt) : Prop :=
 (twTag (M p.tags) p.s = 0 ∧ M p.item = 0) ∨ ∃ (r : Nat) (k : ByteArray), ks[r]? = some k ∧ M p.item = (r : Int) + 1 ∧ twTag (M p.tags) p.s = fnvTag (keyH k) ∧ (b, p.q) ∈ plPair (keyH k) b
structure Fil (b : Int) (ks : List ByteArray) (M : Int → Int) : Prop where
 b0 : 1 ≤ b
 b1 : b ≤ 3
 wd : M 2 = b
 slot : ∀ p : Spt, p.ok → p.b = b → FilAt b ks M p
 word : ∀ p : Spt, p.ok → p.b = b → 0 ≤ M p.tags ∧ M p.tags < 4294967296
 inj : ∀ p q : Spt, p.ok → q.ok → p.b = b → q.b = b → M p.item = M q.item → M p.item ≠ 0 → p = q
 oth : ∀ a, a ≠ 2 → (a < 4096 + 8 * fnvSize b ∨ 4096 + 16 * fnvSize b ≤ a) → M a = 0
end
section
open Go.RowKit
abbrev Tab := Spt → Int × Int
end
section
def Fl.w : Fl → Nat
 | .tb => 20
 | .tg _ _ => 6
 | .im _ _ _ => 1
def flW (l : List Fl) : Nat := (l.map Fl.w).sum
theorem twHas_len (w tag : Int) : (twHas w tag).length ≤ 4 := List.length_filter_le _ _
end
section
open Go.RowKit Go.Shelf
section
variable {w : World} {O : Om} {B : Wb} {f : Cf} {s : AW} {k : Nat}
theorem c_Slot (p : Spt) (hP : PW w O B f s) (hp : p.ok) (hhi : ∀ j, O j ≠ 0 → j < w.heap.size) :
 Calls Tryz.prog 84 #[.pointer (some ⟨B.p, 0, none⟩), .agg #[.int .i64 p.b, .int .i64 p.q, .int .i64 p.s]] w fun e w' => e = .returned (.tuple #[.int .i64 (twTag (s.M p.tags) p.s), .int .u64 (s.M p.item)]) ∧ Below w.heap.size w w' := by
 have hit := hp.item
 have htg := hp.tags
 have hq2 := hp.q2
 have hs0 := hp.s0
 have hs1 := hp.s1
 have HI := Lib.hid (fun W => c_Item p.b p.q p.s W (by have := hp.b0; omega) (by have := hp.b1; omega) (by have := hp.q0; omega) (by omega) (by omega) (by omega))
 have HT := Lib.hid (fun W => c_Tags p.b p.q W (by have := hp.b0; omega) (by have := hp.b1; omega) (by have := hp.q0; omega) (by omega))
 have HPI := Lib.hid (fun (W : World) (h : Below w.heap.size w W) => c_Peek p.item (hP.below hhi h).ce (by omega) (by omega))
 have HPT := Lib.hid (fun (W : World) (h : Below w.heap.size w W) => c_Peek p.tags (hP.below hhi h).ce (by omega) (by omega))
 have hbt := hP.bd p.tags
 have HTG := Lib.hid (fun W => c_TwTag (s.M p.tags) p.s W hbt.1 hbt.2 hs0 hs1)
 have hia2 : plItem p.b p.q p.s = p.item := rfl
 have hta2 : plTags p.b p.q = p.tags := rfl
 rw [hia2] at HI
 rw [hta2] at HT
 obtain ⟨ia, hia⟩ : ∃ ia, ia = p.item := ⟨_, rfl⟩
 obtain ⟨ta, hta⟩ : ∃ ta, ta = p.tags := ⟨_, rfl⟩
 rw [← hia] at HI HPI
 rw [← hta] at HT HPT HTG
 rw [← hia, ← hta]
 obtain ⟨b, hb⟩ : ∃ z, z = p.b := ⟨_, rfl⟩
 obtain ⟨q, hq⟩ : ∃ z, z = p.q := ⟨_, rfl⟩
 obtain ⟨sl, hs⟩ : ∃ z, z = p.s := ⟨_, rfl⟩
 rw [← hb, ← hq, ← hs] at HI
 rw [← hb, ← hq] at HT
 rw [← hs] at HTG
 rw [← hb, ← hq, ← hs]
 have p0 := hP.wo.c0
 have pl := hP.wo.lt
 obtain ⟨M, hM⟩ : ∃ M, M = s.M := ⟨_, rfl⟩
 rw [← hM] at HPT HTG HPI ⊢
 obtain ⟨tt, htt⟩ : ∃ z, z = twTag (M ta) sl := ⟨_, rfl⟩
 rw [← htt] at HTG ⊢
 clear hP hhi hp hit htg hq2 hs0 hs1 hbt hia2 hta2 hia hta hb hq hs hM htt
 go_enter Tryz.func84, Tryz.ntmps84
 go_wp2_with fail
 obtain ⟨W, hW⟩ : ∃ W, W = w.alloc (.cells #[.int .i64 b, .int .i64 q, .int .i64 sl] 75) := ⟨_, rfl⟩
 have hB : Below w.heap.size w W := by rw [hW]; exact (Below.refl _ _).alloc (Nat.le_refl _) _
 have y0 : W.cell? ⟨w.heap.size, 0, none⟩ = some (.int .i64 b) := by rw [hW]; simp
 have y1 : W.cell? ⟨w.heap.size, 1, none⟩ = some (.int .i64 q) := by rw [hW]; simp
 have y2 : W.cell? ⟨w.heap.size, 2, none⟩ = some (.int .i64 sl) := by rw [hW]; simp
 have hl : w.heap.size < W.heap.size := by rw [hW]; simp
 have p1 := (hB.cell (p := ⟨B.p, 0, none⟩) pl).trans p0
 have pl1 : B.p < W.heap.size := Nat.lt_of_lt_of_le pl hB.size
 have HPX : Hid (∀ x, x = ta ∨ x = ia → ∀ e : Later W, Calls Tryz.prog 12 #[.pointer (some ⟨B.c, 0, none⟩), .int .u64 x] (via W e) fun e_1 w' => e_1 = .returned (.int .u64 (M x)) ∧ via W e = w') := Lib.hid (by
  rintro x (rfl | rfl) e
  · exact HPT.out (via W e) (hB.trans ((via_below W e).mono hB.size))
  · exact HPI.out (via W e) (hB.trans ((via_below W e).mono hB.size)))
 have HB := Lib.hid hB
 rw [← hW]
 clear hW hB p0 pl HPI HPT
 refine wp_region_via (by kernel_rfl) (by kernel_rfl) ?_
 repeat (go_big_quiet_step ((first
  | (go_at_call 153; exact viaB (HT.out _))
  | (go_at_call 154; exact viaB (HI.out _))
  | (go_at_call 152; exact viaB (HTG.out _))
  | (go_at_call 12; exact viaS (HPX.out _ (by first | exact .inl rfl | exact .inr rfl) _)))))
 refine wpQuiet_nil ?_
 rintro _ ⟨e, rfl⟩
 go_wp2_with fail
 exact bodyPost_ret (v := .tuple #[.int .i64 tt, .int .u64 (M ia)]) (by simp [results, Tryz.results84, go_sem]) rfl ⟨rfl, HB.out.trans ((via_below W e).mono HB.out.size)⟩
end
end
section
theorem kyH_bd (k : ByteArray) : 0 ≤ kyH k ∧ kyH k < 18446744073709551616 := fnvHash_bd _
end
section
def chFd (z : Chm) (f : Fdm) : Chm := if 0 < f.ref then { z with fd := f, ln := 4, p := f.p, ref := f.ref, ml := stVer f.p } else { z with fd := f, ln := 10 }
theorem chStep_3 (t : Nat) (c : Clm) (s : AW) (z : Chm) (h : z.ln = 3) : chStep t c (s, z) = ((fdStep c.key (s, z.fd)).1, if (fdStep c.key (s, z.fd)).2.left = [] then chFd z (fdStep c.key (s, z.fd)).2 else { z with fd := (fdStep c.key (s, z.fd)).2 }) := by
 obtain ⟨ln, tk, fd, ml, o, p, ref, r, an, nu, ep, pt, ka, kn⟩ := z
 cases h
 unfold chStep
 dsimp only
 cases e : (fdStep c.key (s, fd)).2.left with
 | nil => rw [if_pos rfl]; rfl
 | cons a l => rw [if_neg (List.cons_ne_nil a l)]; rfl
end
end Go.Proofs.YtifkfhnbkjkakaaGreatDoor
