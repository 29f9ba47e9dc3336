/- Layer 5: contracts of the atomics, of cells' at and access. -/
import Derived.Test.YtijifjiehldcaaaGreatProg
import Derived.Test.YtijifjiehldcaaaGreatCl
import Derived.Test.YtijifjiehldcaaaGreatRfPlain
import Derived.Laws.LoneSync
import Derived.Outline
import Derived.BigRegion
namespace Go.Proofs.YtijifjiehldcaaaGreat
set_option linter.unusedSimpArgs false
open Go.RowKit
set_option linter.unusedVariables false

theorem run_swap_u64 {a : Addr} {x y : Int} {w : World} (hc : w.cell? a = some (.int .u64 x)) (hz : w.frozen? a = false) :
    (callFunc 153 #[.pointer (some a), .int .u64 y]).run Tryz.prog w = .ok (.value (.int .u64 x)) (w.setCell a (.int .u64 y)) := by
  rw [run_callFunc_extern Tryz.func153 (by kernel_rfl) (by kernel_rfl) (by kernel_rfl) (e := Extern.Atomic.swapT (.int .u64)) (by kernel_rfl)]
  change (Sem.run Tryz.prog (do
    let a' ← asAddr (.pointer (some a))
    let old ← Extern.Atomic.read (.int .u64) a'
    store a' (.int .u64 y) .atomic
    pure old) w).andThen _ = _
  simp [Extern.Atomic.read, asAddr, hc, hz, run_store Tryz.prog w a (.int .u64 y) .atomic rfl, Result.andThen]
section
variable {b : Nat} {w : World} {x : Int} (hc : w.cell? ⟨b, 0, none⟩ = some (.int .u64 x)) (hz : w.frozen? ⟨b, 0, none⟩ = false)
include hc
theorem c_aLoad : Calls Tryz.prog 81 #[.pointer (some ⟨b, 0, none⟩)] w fun e w' => e = .returned (.int .u64 x) ∧ w = w' := by
  have hld := run_call_load (P := Tryz.prog) Tryz.func125 (by kernel_rfl) (by kernel_rfl) (by kernel_rfl) .u64 (by kernel_rfl) hc
  go_enter Tryz.func81, Tryz.ntmps81
  go_wp2
  go_ret
  exact ⟨rfl, rfl⟩
include hz
theorem c_aSwap (y : Int) : Calls Tryz.prog 128 #[.pointer (some ⟨b, 0, none⟩), .int .u64 y] w fun e w' => e = .returned (.int .u64 x) ∧ w.setCell ⟨b, 0, none⟩ (.int .u64 y) = w' := by
  have hld := run_swap_u64 (y := y) hc hz
  go_enter Tryz.func128, Tryz.ntmps128
  go_wp2
  go_ret
  exact ⟨rfl, rfl⟩
theorem c_aStore (y : Int) : Calls Tryz.prog 130 #[.pointer (some ⟨b, 0, none⟩), .int .u64 y] w fun e w' => e = .returned (.tuple #[]) ∧ w.setCell ⟨b, 0, none⟩ (.int .u64 y) = w' := by
  have hld := run_call_store (P := Tryz.prog) Tryz.func154 (by kernel_rfl) (by kernel_rfl) (by kernel_rfl) (by kernel_rfl) (y := y) (k := .u64) hc hz
  go_enter Tryz.func130, Tryz.ntmps130
  go_wp2
  go_end0
  exact ⟨rfl, rfl⟩
theorem c_aCAS_hit (y : Int) : Calls Tryz.prog 147 #[.pointer (some ⟨b, 0, none⟩), .int .u64 x, .int .u64 y] w fun e w' => e = .returned (.bool true) ∧ w.setCell ⟨b, 0, none⟩ (.int .u64 y) = w' := by
  have hld := run_call_cas_hit (P := Tryz.prog) Tryz.func159 (by kernel_rfl) (by kernel_rfl) (by kernel_rfl) .u64 (by kernel_rfl) (y := y) hc hz
  go_enter Tryz.func147, Tryz.ntmps147
  go_wp2
  go_ret
  exact ⟨rfl, rfl⟩
theorem c_aCAS_miss (o y : Int) (hne : ¬ x = o) : Calls Tryz.prog 147 #[.pointer (some ⟨b, 0, none⟩), .int .u64 o, .int .u64 y] w fun e w' => e = .returned (.bool false) ∧ w = w' := by
  have hld := run_call_cas_miss (P := Tryz.prog) Tryz.func159 (by kernel_rfl) (by kernel_rfl) (by kernel_rfl) .u64 (by kernel_rfl) (y := y) hc hz hne
  go_enter Tryz.func147, Tryz.ntmps147
  go_wp2
  go_ret
  exact ⟨rfl, rfl⟩
theorem c_aAdd (y : Int) : Calls Tryz.prog 150 #[.pointer (some ⟨b, 0, none⟩), .int .u64 y] w fun e w' => e = .returned (.int .u64 (IntKind.u64.wrap (x + y))) ∧ w.setCell ⟨b, 0, none⟩ (.int .u64 (IntKind.u64.wrap (x + y))) = w' := by
  have hs : (Op.intArith .add .u64 x y).run Tryz.prog w = .ok (.int .u64 (IntKind.u64.wrap (x + y))) w := by simp [go_sem, Op.intArith]
  have hld := run_call_add (P := Tryz.prog) Tryz.func160 (by kernel_rfl) (by kernel_rfl) (by kernel_rfl) .u64 (by kernel_rfl) hc hz hs
  have hl2 := Lib.hid hs
  clear hs
  go_enter Tryz.func150, Tryz.ntmps150
  go_wp2
  go_ret
  exact ⟨rfl, rfl⟩
end
/-- What belongs to some cells has grown: by new blocks. -/
structure Grow (w : World) (F : Nat → Prop) (w' : World) (G : Nat → Prop) : Prop where
  lts : ∀ j, G j → j < w'.heap.size
  old : ∀ j, F j → G j
  new : ∀ j, G j → F j ∨ w.heap.size ≤ j
def AtPost (w : World) (F : Nat → Prop) (c : Nat) (L : List Wde) (n k a s i x : Int) (e : Ending) (w' : World) : Prop :=
  ∃ L' F' d, e = .returned (.pointer (some ⟨d.b, 0, none⟩)) ∧ Cl w' F' c L' n k a s i ∧ d ∈ L' ∧ d.a = x ∧ (∀ y, cval L' y = cval L y) ∧ Grow w F w' F' ∧ Wrote F w w'
theorem map_alloc_new (w : World) (N : Nat) (hN : N = w.heap.size) : MapL (w.alloc (.map #[] 0)) N [] := by
  subst hN
  exact ⟨#[], 0, heap_alloc_new w _, rfl, by simp, by simp⟩
theorem Cl.mkmap {w : World} {F : Nat → Prop} {c : Nat} {n k a s i : Int} (h : Cl w F c [] n k a s i) (h0 : w.cell? ⟨c, 0, none⟩ = some (.map none)) (hF : ∀ j, F j → j < w.heap.size) :
    Cl ((w.setCell ⟨c, 0, none⟩ (.map (some w.heap.size))).alloc (.map #[] 0)) (fun j => F j ∨ j = w.heap.size) c [] n k a s i ∧ MapL ((w.setCell ⟨c, 0, none⟩ (.map (some w.heap.size))).alloc (.map #[] 0)) w.heap.size [] ∧
    ((w.setCell ⟨c, 0, none⟩ (.map (some w.heap.size))).alloc (.map #[] 0)).cell? ⟨c, 0, none⟩ = some (.map (some w.heap.size)) ∧ Wrote (fun j => j = c) w ((w.setCell ⟨c, 0, none⟩ (.map (some w.heap.size))).alloc (.map #[] 0)) := by
  obtain ⟨W, hW⟩ : ∃ W, W = w.setCell ⟨c, 0, none⟩ (.map (some w.heap.size)) := ⟨_, rfl⟩
  rw [← hW]
  have hz : W.heap.size = w.heap.size := by rw [hW]; simp
  have hw0 : Wrote (fun j => j = c) w W := by rw [hW]; exact Wrote.setCell (S := fun j => j = c) (Wrote.refl _ _) (p := ⟨c, 0, none⟩) (fun _ => rfl) _
  have hb : Below W.heap.size W (W.alloc (.map #[] 0)) := (Below.refl _ _).alloc (Nat.le_refl _) _
  have hcl : c < W.heap.size := by rw [hz]; exact h.lt
  have hc : ∀ j, (W.alloc (.map #[] 0)).cell? ⟨c, j, none⟩ = W.cell? ⟨c, j, none⟩ := fun j => hb.cell (p := ⟨c, j, none⟩) hcl
  have hk : ∀ j, j ≠ 0 → W.cell? ⟨c, j, none⟩ = w.cell? ⟨c, j, none⟩ := fun j hj => by rw [hW]; exact World.cell?_setCell_other _ _ _ _ (by simp [hj])
  have h00 : W.cell? ⟨c, 0, none⟩ = some (.map (some w.heap.size)) := by rw [hW]; exact World.cell?_setCell_same _ _ _ h0
  have hm : MapL (W.alloc (.map #[] 0)) w.heap.size [] := map_alloc_new W _ hz.symm
  refine ⟨⟨.inr ⟨w.heap.size, (hc 0).trans h00, hm, .inr rfl, (fun d hd => by cases hd), by have := h.lt; omega⟩, (hc 1).trans ((hk 1 (by decide)).trans h.c1), (hc 2).trans ((hk 2 (by decide)).trans h.c2), (hc 3).trans ((hk 3 (by decide)).trans h.c3), (hc 4).trans ((hk 4 (by decide)).trans h.c4), (hc 5).trans ((hk 5 (by decide)).trans h.c5), fun j => (hb.frozen (p := ⟨c, j, none⟩) hcl).trans ?_, by simp; omega, .inl h.mem, (fun d hd => by cases hd), h.na, h.nb⟩, hm, (hc 0).trans h00, hw0.alloc _⟩
  rw [hW]; exact (World.frozen?_setCell _ _ _ _).trans (h.fr j)
theorem Cl.addWord {w w1 : World} {F : Nat → Prop} {c m : Nat} {L : List Wde} {n k a s i x : Int} {T : TypeId} (h : Cl w F c L n k a s i) (h1 : w.cell? ⟨c, 0, none⟩ = some (.map (some m))) (h2 : MapL w m (L.map wdk)) (h3 : F m) (h4 : ∀ d ∈ L, d.b ≠ m) (h5 : m ≠ c)
    (hF : ∀ j, F j → j < w.heap.size) (hL : ∀ d ∈ L, d.a ≠ x) (hm : MapL w1 m (L.map wdk ++ [(x, w.heap.size)])) (hg : (w.alloc (.cells #[.int .u64 0] T)).grownBy w1 (some m)) :
    Cl w1 (fun j => F j ∨ j = w.heap.size) c (L ++ [⟨x, w.heap.size, 0⟩]) n k a s i ∧ Wrote (fun j => j = m) w w1 ∧ w.heap.size < w1.heap.size := by
  have hw : Wrote (fun j => j = m) w w1 := ((Wrote.refl _ _).alloc _).grown hg fun k hk _ => by cases hk; rfl
  have hc : ∀ j, w1.cell? ⟨c, j, none⟩ = w.cell? ⟨c, j, none⟩ := fun j => hw.cell (p := ⟨c, j, none⟩) h.lt (Ne.symm h5)
  have hml := h2.lt
  have hz : w.heap.size + 1 ≤ w1.heap.size := by have := hg.size; simpa using this
  have hb0 : (w.alloc (.cells #[.int .u64 0] T)).cell? ⟨w.heap.size, 0, none⟩ = some (.int .u64 0) := by
    unfold World.cell?
    rw [heap_alloc_new]
    rfl
  have hbf : (w.alloc (.cells #[.int .u64 0] T)).frozen? ⟨w.heap.size, 0, none⟩ = false := by
    unfold World.frozen?
    rw [heap_alloc_new]
    rfl
  have hne : some w.heap.size ≠ some m := by intro e; injection e; omega
  refine ⟨Cl.snoc hL hF (fun j hj => .inl hj) (.inl h3) (.inr rfl) ((hc 0).trans h1) hm (by omega) h4 h5 (by have := h.lt; omega) ((hc 1).trans h.c1) ((hc 2).trans h.c2) ((hc 3).trans h.c3) ((hc 4).trans h.c4) ((hc 5).trans h.c5)
    (fun j => (hw.frozen (p := ⟨c, j, none⟩) h.lt (Ne.symm h5)).trans (h.fr j)) (Nat.lt_of_lt_of_le h.lt hw.size) (.inl h.mem) ((hg.cell_far ⟨w.heap.size, 0, none⟩ (by simp) hne).trans hb0) ((hg.frozen_far ⟨w.heap.size, 0, none⟩ (by simp) hne).trans hbf) (by omega)
    (fun d hd => (h.wd d hd).wrote hw (h4 d hd)) h.na h.nb, hw, by omega⟩
theorem zero_au (w : World) : (zeroValue 162).run Tryz.prog w = .ok (.pointer none) w := by kernel_rfl
set_option maxHeartbeats 1000000 in
set_option maxRecDepth 100000 in
theorem c_at (w : World) (F : Nat → Prop) (c : Nat) (L : List Wde) (n k a s i x : Int) (h : Cl w F c L n k a s i) (hF : ∀ j, F j → j < w.heap.size) (x0 : 0 ≤ x) (x1 : x < 18446744073709551616) :
    Calls Tryz.prog 126 #[.pointer (some ⟨c, 0, none⟩), .int .u64 x] w (AtPost w F c L n k a s i x) := by
  by_cases hin : ∃ d ∈ L, d.a = x
  · obtain ⟨d, hd, rfl⟩ := hin
    rcases h.mp with ⟨h0, _⟩ | ⟨m, h1, h2, h3, h4, h5⟩
    · rw [h0] at hd; cases hd
    · have hlk := MapL.run_lookup h2 Tryz.underlying163 Tryz.underlying38 (zero_au w) d.a
      rw [lookL_some h.na hd] at hlk
      simp only [ptrL] at hlk
      have HP : Hid (AtPost w F c L n k a s i d.a (.returned (.pointer (some ⟨d.b, 0, none⟩))) w) := Lib.hid ⟨L, F, d, rfl, h, hd, rfl, fun _ => rfl, ⟨hF, fun _ h => h, fun _ h => .inl h⟩, Wrote.refl _ _⟩
      clear h h2 h3 h4 h5 hd
      go_enter Tryz.func126, Tryz.ntmps126
      go_wp2
      go_ret
      exact HP.out
  · have hL : ∀ d ∈ L, d.a ≠ x := fun d hd e => hin ⟨d, hd, e⟩
    have HL := Lib.hid hL
    have H := Lib.hid h
    have HF := Lib.hid hF
    have hcl := h.lt
    have hfr := h.fr 0
    clear hin hL hF
    rcases h.mp with ⟨h0, h1⟩ | ⟨m, h1, h2, h3, h4, h5⟩
    · subst h0
      have hlk := fun (W : World) => run_lookup_nil (w := W) (T := 163) Tryz.underlying163 Tryz.underlying38 (zero_au W) x
      have hmm := @run_makeMap Tryz.prog
      have heq := fun (W : World) (r : Option Nat) => run_eql_map_nil (P := Tryz.prog) W 163 38 162 r Tryz.underlying163
      have hne : ¬ c = w.heap.size := by omega
      have HM := Lib.hid (Cl.mkmap h h1 HF.out)
      have HE : Hid (∀ w1, MapL w1 w.heap.size [(x, w.heap.size + 1)] → (((w.setCell ⟨c, 0, none⟩ (.map (some w.heap.size))).alloc (.map #[] 0)).alloc (.cells #[.int .u64 0] 212)).grownBy w1 (some w.heap.size) → AtPost w F c [] n k a s i x (.returned (.pointer (some ⟨w.heap.size + 1, 0, none⟩))) w1) := by
        refine Lib.hid fun w1 hm hg => ?_
        obtain ⟨g1, g2, g3, g4⟩ := HM.out
        have hz1 : ((w.setCell ⟨c, 0, none⟩ (.map (some w.heap.size))).alloc (.map #[] 0)).heap.size = w.heap.size + 1 := by simp
        have hlt : ∀ j, (F j ∨ j = w.heap.size) → j < ((w.setCell ⟨c, 0, none⟩ (.map (some w.heap.size))).alloc (.map #[] 0)).heap.size := by
          rw [hz1]; rintro j (hj | hj)
          · have := HF.out j hj; omega
          · omega
        obtain ⟨q1, q2, q3⟩ := Cl.addWord g1 g3 g2 (.inr rfl) (fun d hd => by cases hd) (by have := h.lt; omega) hlt (fun d hd => by cases hd) (by rw [hz1]; exact hm) hg
        rw [hz1] at q1 q3
        refine ⟨_, _, ⟨x, w.heap.size + 1, 0⟩, rfl, q1, by simp, rfl, fun y => cval_snoc _ (fun d hd => by cases hd) y, ⟨?_, fun j hj => .inl (.inl hj), ?_⟩, ?_⟩
        · rintro j ((hj | hj) | hj)
          · have := HF.out j hj; omega
          · omega
          · omega
        · rintro j ((hj | hj) | hj)
          · exact .inl hj
          · exact .inr (by omega)
          · exact .inr (by omega)
        · exact (g4.mono (fun j _ e => by subst e; exact h.mem)).trans q2 (fun j hj e => by omega)
      have HM2 : Hid (MapL (((w.setCell ⟨c, 0, none⟩ (.map (some w.heap.size))).alloc (.map #[] 0)).alloc (.cells #[.int .u64 0] 212)) w.heap.size []) := Lib.hid ((map_alloc_new _ _ (by simp)).block (Below.heap_alloc _ _ _ (by simp)))
      have HN : Hid (lookL [] x = none) := Lib.hid rfl
      clear h HM
      go_enter Tryz.func126, Tryz.ntmps126
      go_wp2_with (at_mapUpdate; refine wpList_mapUpdate_L _ rfl _ _ _ 163 rfl 38 162 Tryz.underlying163 Tryz.underlying38 w.heap.size [] rfl HM2.out x (w.heap.size + 1) rfl rfl HN.out ?_; intro w1 hm1 hg1)
      go_ret
      exact HE.out _ hm1 hg1
    · have hlk := MapL.run_lookup h2 Tryz.underlying163 Tryz.underlying38 (zero_au w) x
      rw [lookL_none HL.out] at hlk
      simp only [ptrL] at hlk
      have heq := fun (W : World) (r : Option Nat) => run_eql_map_nil (P := Tryz.prog) W 163 38 162 r Tryz.underlying163
      have hne : ¬ c = w.heap.size := by omega
      have HM2 := Lib.hid (h2.block (w' := w.alloc (.cells #[.int .u64 0] 212)) (Below.heap_alloc _ _ _ h2.lt))
      have HN := Lib.hid (lookL_none HL.out)
      have HE : Hid (∀ w1, MapL w1 m (L.map wdk ++ [(x, w.heap.size)]) → (w.alloc (.cells #[.int .u64 0] 212)).grownBy w1 (some m) → AtPost w F c L n k a s i x (.returned (.pointer (some ⟨w.heap.size, 0, none⟩))) w1) := by
        refine Lib.hid fun w1 hm hg => ?_
        obtain ⟨q1, q2, q3⟩ := Cl.addWord h h1 h2 h3 h4 h5 HF.out HL.out hm hg
        refine ⟨_, _, ⟨x, w.heap.size, 0⟩, rfl, q1, by simp, rfl, fun y => cval_snoc _ HL.out y, ⟨?_, fun j hj => .inl hj, ?_⟩, ?_⟩
        · rintro j (hj | hj)
          · have := HF.out j hj; omega
          · omega
        · rintro j (hj | hj)
          · exact .inl hj
          · exact .inr (by omega)
        · exact q2.mono (fun j _ e => by subst e; exact h3)
      clear h h2 h3 h4 h5
      go_enter Tryz.func126, Tryz.ntmps126
      go_wp2_with (at_mapUpdate; refine wpList_mapUpdate_L _ rfl _ _ _ 163 rfl 38 162 Tryz.underlying163 Tryz.underlying38 m (L.map wdk) rfl HM2.out x w.heap.size rfl rfl HN.out ?_; intro w1 hm1 hg1)
      go_ret
      exact HE.out _ hm1 hg1
end Go.Proofs.YtijifjiehldcaaaGreat
