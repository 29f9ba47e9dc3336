/- A law's world: the program's, and all that is anybody's is its own. -/
import Derived.Test.YtlcibfpibklbdaaGreatFuG
import Derived.Test.YtlcibfpibklbdaaGreatSlo
namespace Go.Proofs.YtlcibfpibklbdaaGreat
set_option linter.unusedSimpArgs false
open Go.RowKit Go.Shelf
set_option linter.unusedVariables false
structure LW (w0 W : World) (G : Om) (B : Wb) (f : Cf) (s : AW) : Prop where
  p : PW W G B f s
  e : Env w0 G W
section
variable {w0 W W' : World} {G G' : Om} {B : Wb} {f : Cf} {s s' : AW} {S : Nat → Prop}
theorem LW.below (h : LW w0 W G B f s) (hb : Below W.heap.size W W') : LW w0 W' G B f s := ⟨h.p.below h.e.hi hb, h.e.ext (Ext.of_below (S := SW) h.e.hi hb)⟩
theorem LW.ext (h : LW w0 W G B f s) (e : Ext S G W G' W') (h1 : ¬ S 1) (h2 : ¬ S 2) (h3 : ¬ S 3) (h4 : ¬ S 4) : LW w0 W' G' B f s := ⟨h.p.ext e h1 h2 h3 h4, h.e.ext e⟩
theorem LW.to (h : LW w0 W G B f s) (e : Ext S G W G' W') (p : PW W' G' B f s') : LW w0 W' G' B f s' := ⟨p, h.e.ext e⟩
theorem LW.from (h : LW w0 W G B f s) {w1 : World} (hb : Below w1.heap.size w1 w0) : LW w1 W G B f s := ⟨h.p, ⟨fun j hj => Nat.le_trans hb.size (h.e.base j hj), h.e.hi, hb.trans (h.e.bel.mono hb.size)⟩⟩
theorem LW.hi (h : LW w0 W G B f s) : ∀ j, G j ≠ 0 → j < W.heap.size := h.e.hi
theorem LW.bel (h : LW w0 W G B f s) : Below w0.heap.size w0 W := h.e.bel
theorem LW.peek (h : LW w0 W G B f s) (x : Int) (x0 : 0 ≤ x) (x1 : x < 18446744073709551616) :
    ∀ W', Below W.heap.size W W' → Calls Tryz.prog 16 #[.pointer (some ⟨B.c, 0, none⟩), .int .u64 x] W' fun e w' => e = .returned (.int .u64 (s.M x)) ∧ W' = w' := fun W' hb => c_Peek x (h.below hb).p.ce x0 x1
theorem LW.c0 (h : LW w0 W G B f s) : ∀ W', Below W.heap.size W W' → W'.cell? ⟨B.p, 0, none⟩ = some (.pointer (some ⟨B.c, 0, none⟩)) := fun W' hb => (hb.cell (p := ⟨B.p, 0, none⟩) h.p.wo.lt).trans h.p.wo.c0
theorem LW.notes (h : LW w0 W G B f s) : ∃ an cn, ∀ W', Below W.heap.size W W' → W'.cell? ⟨B.p, 2, none⟩ = some (.pointer (some ⟨B.np, 0, none⟩)) ∧ W'.cell? ⟨B.np, 0, none⟩ = some (.slice an s.nt.length cn) := by
  obtain ⟨vn, hn, -⟩ := h.p.no.ex
  obtain ⟨an, cn, rfl, -, -⟩ := (Arr.of_own hn.own).shape
  exact ⟨an, cn, fun W' hb => ⟨(hb.cell (p := ⟨B.p, 2, none⟩) h.p.wo.lt).trans h.p.wo.c2, (hb.cell (p := ⟨B.np, 0, none⟩) hn.lt).trans hn.head⟩⟩
end
theorem c_NCountL (h : Nat) (ao : Option Addr) (n c : Nat) (w : World) (hc : w.cell? ⟨h, 0, none⟩ = some (.slice ao n c)) :
    Calls Tryz.prog 24 #[.pointer (some ⟨h, 0, none⟩)] w fun e w' => e = .returned (.int .i64 n) ∧ w = w' := by
  have hn : Calls Tryz.prog 78 #[.pointer (some ⟨h, 0, none⟩)] w fun e w' => e = .returned (.slice ao n c) ∧ w = w' := by
    go_enter Tryz.func78, Tryz.ntmps78
    go_wp2
    go_ret
    exact ⟨rfl, rfl⟩
  go_enter Tryz.func24, Tryz.ntmps24
  go_wp2_with (go_at_call 78; refine hn.mono ?_; rintro e w' ⟨rfl, rfl⟩)
  go_ret
  exact ⟨rfl, rfl⟩
/-- A block with a table that is filled in it. -/
theorem fulBox {w : World} {F : Ful} {vk vl vs : Value} (ty : TypeId) : ∀ j u, (fulC F vk vl vs)[j]? = some u → (w.alloc (.cells (fulC F vk vl vs).toArray ty)).cell? ⟨w.heap.size, j, none⟩ = some u := fun j u hu => cell_newA w _ _ _ rfl j u (by simpa using hu)
end Go.Proofs.YtlcibfpibklbdaaGreat
