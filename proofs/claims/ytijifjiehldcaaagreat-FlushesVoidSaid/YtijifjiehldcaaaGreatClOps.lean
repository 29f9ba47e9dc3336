/- Layer 5: contracts of cells' Load, Store, CAS, Add, Peek, Count, Last, over what the cells hold as a function. -/
import Derived.Test.YtijifjiehldcaaaGreatClAcc
import Derived.RegionTactic
import Derived.Deep.RegionHeld3
import Derived.Deep.DrawnRows
namespace Go.Proofs.YtijifjiehldcaaaGreat
set_option linter.unusedSimpArgs false
open Go.RowKit
set_option linter.unusedVariables false

/-- The cells in block c hold M; n accesses, la the last one. -/
structure Ce (w : World) (F : Nat → Prop) (c : Nat) (M : Int → Int) (n : Int) (la : La) : Prop where
  ex : ∃ L, Cl w F c L n la.k la.a la.s la.i ∧ ∀ x, cval L x = M x
  lts : ∀ j, F j → j < w.heap.size
theorem Ce.bd {w : World} {F : Nat → Prop} {c : Nat} {M : Int → Int} {n : Int} {la : La} (h : Ce w F c M n la) : Bd M := by
  obtain ⟨L, hL, hv⟩ := h.ex
  intro x
  rw [← hv]; exact cval_bd hL x
theorem Ce.mem {w : World} {F : Nat → Prop} {c : Nat} {M : Int → Int} {n : Int} {la : La} (h : Ce w F c M n la) : F c := by
  obtain ⟨L, hL, hv⟩ := h.ex
  exact hL.mem
theorem Ce.wrote {w w' : World} {F S : Nat → Prop} {c : Nat} {M : Int → Int} {n : Int} {la : La} (h : Ce w F c M n la) (hw : Wrote S w w') (hs : ∀ j, F j → ¬ S j) : Ce w' F c M n la := by
  obtain ⟨L, hL, hv⟩ := h.ex
  exact ⟨⟨L, hL.wrote hw hs, hv⟩, fun j hj => Nat.lt_of_lt_of_le (h.lts j hj) hw.size⟩
theorem Ce.below {w w' : World} {F : Nat → Prop} {c : Nat} {M : Int → Int} {n : Int} {la : La} (h : Ce w F c M n la) (hb : Below w.heap.size w w') : Ce w' F c M n la := h.wrote (S := fun _ => False) (Wrote.of_below hb) fun _ _ hf => hf
def CePost (w : World) (F : Nat → Prop) (c : Nat) (M : Int → Int) (n : Int) (la : La) (v : Value) (e : Ending) (w' : World) : Prop :=
  e = .returned v ∧ ∃ F', Ce w' F' c M n la ∧ Grow w F w' F' ∧ Wrote F w w'
theorem AcPost.ce {w w0 : World} {F D : Nat → Prop} {R : World → Prop} {c : Nat} {L : List Wde} {n kd x v' : Int} {e : Ending} {w' : World} {M : Int → Int} (h : AcPost w F D R c L n kd x v' e w') (hM : ∀ y, cval L y = M y) (hw : Below w0.heap.size w0 w) (hD : ∀ j, D j → w0.heap.size ≤ j) :
    e = .returned (.int .u64 (M x)) ∧ R w' ∧ ∃ F', Ce w' F' c (upd M x v') (n + 1) ⟨kd, x, M x, v'⟩ ∧ Grow w0 F w' F' ∧ Wrote F w0 w' ∧ ∀ j, F' j → F j ∨ w.heap.size ≤ j := by
  obtain ⟨rfl, hr, L', F', h1, h2, h3, h4⟩ := h
  have hs := hw.size
  rw [hM] at h1 ⊢
  refine ⟨rfl, hr, F', ⟨⟨L', h1, fun y => ?_⟩, h3.lts⟩, ⟨h3.lts, h3.old, fun j hj => (h3.new j hj).elim .inl fun h => .inr (by omega)⟩, (Wrote.of_below hw).trans h4 fun j hj h => h.elim id fun hd => ?_, h3.new⟩
  · rw [h2]; unfold upd; split <;> simp [hM]
  · have := hD j hd; omega
theorem upd_id (M : Int → Int) (x : Int) : upd M x (M x) = M := by funext y; unfold upd; split <;> simp_all
section
variable {w : World} {F : Nat → Prop} {c : Nat} {M : Int → Int} {n : Int} {la : La}
theorem does_Load (w : World) (F : Nat → Prop) (v : Int) : DoesOf w F (fun _ => False) (fun _ => True) 81 #[] v v := by
  intro W b _ _ hb hc hf
  refine (c_aLoad hc).mono ?_
  rintro e w' ⟨rfl, rfl⟩
  exact ⟨rfl, hc, hf, Wrote.refl _ _, trivial⟩
theorem c_Load (x : Int) (h : Ce w F c M n la) (x0 : 0 ≤ x) (x1 : x < 18446744073709551616) (hn0 : 0 ≤ n) (hn : n ≤ 4611686018427387904) :
    Calls Tryz.prog 119 #[.pointer (some ⟨c, 0, none⟩), .int .u64 x] w (CePost w F c M (n + 1) ⟨1, x, M x, M x⟩ (.int .u64 (M x))) := by
  obtain ⟨L, hL, hv⟩ := h.ex
  have hb := h.bd x
  have Ha := Lib.hid (c_access w F (fun _ => False) (fun _ => True) c L n la.k la.a la.s la.i 1 x (M x) 81 #[] hL h.lts x0 x1 hn0 hn hb.1 hb.2 (fun _ h => h.elim) (fun _ _ h _ => h) (by rw [hv]; exact does_Load w F (M x)) (run_enter Tryz.func81 (by kernel_rfl) (by kernel_rfl)))
  have Hv := Lib.hid hv
  clear h hL hv hb
  go_enter Tryz.func119, Tryz.ntmps119
  go_wp2_with fail
  refine Ha.out.mono ?_
  intro e w' hp
  obtain ⟨rfl, _, F', hq1, hq2, hq3, _⟩ := hp.ce Hv.out (Below.refl _ _) (fun _ h => h.elim)
  rw [upd_id] at hq1
  have Hq := Lib.hid (Exists.intro (p := fun G => Ce w' G c _ _ _ ∧ Grow w F w' G ∧ Wrote F w w') F' ⟨hq1, hq2, hq3⟩)
  clear hp hq1 hq2 hq3
  go_wp2
  go_ret
  exact ⟨rfl, Hq.out⟩
theorem does_swaps (w : World) (F : Nat → Prop) (v y : Int) (N : Nat) (hN : w.cell? ⟨N, 0, none⟩ = some (.int .u64 y)) (hl : N < w.heap.size) (hF : ¬ F N) : DoesOf w F (fun _ => False) (fun _ => True) 127 #[.pointer (some ⟨N, 0, none⟩)] v y := by
  intro W b hw hb0 hb hc hf
  have hN2 : W.cell? ⟨N, 0, none⟩ = some (.int .u64 y) := (hw.cell (p := ⟨N, 0, none⟩) hl hF).trans hN
  have HS := Lib.hid (c_aSwap hc hf y)
  have HE : Hid ((W.setCell ⟨b, 0, none⟩ (.int .u64 y)).cell? ⟨b, 0, none⟩ = some (.int .u64 y) ∧ (W.setCell ⟨b, 0, none⟩ (.int .u64 y)).frozen? ⟨b, 0, none⟩ = false ∧ Wrote (fun j => j = b ∨ False) W (W.setCell ⟨b, 0, none⟩ (.int .u64 y))) :=
    Lib.hid ⟨World.cell?_setCell_same _ _ _ hc, (World.frozen?_setCell _ _ _ _).trans hf, Wrote.setCell (S := fun j => j = b ∨ False) (Wrote.refl _ _) (p := ⟨b, 0, none⟩) (fun _ => .inl rfl) _⟩
  clear hc hf hw hN
  go_enter Tryz.func127, Tryz.ntmps127
  go_wp2_with fail
  refine HS.out.mono ?_
  rintro e w' ⟨rfl, rfl⟩
  go_wp2
  go_ret
  exact ⟨rfl, HE.out.1, HE.out.2.1, HE.out.2.2, trivial⟩
theorem c_swaps (w : World) (y : Int) : Calls Tryz.prog 83 #[.int .u64 y] w fun e w' => e = .returned (.func (.func 127) #[] #[.pointer (some ⟨w.heap.size, 0, none⟩)]) ∧ w.alloc (.cells #[.int .u64 y] 37) = w' := by
  go_enter Tryz.func83, Tryz.ntmps83
  go_wp2
  go_ret
  exact ⟨rfl, rfl⟩
theorem alloc_one (w : World) (v : Value) (e : TypeId) (N : Nat) (hN : N = w.heap.size) : (w.alloc (.cells #[v] e)).cell? ⟨N, 0, none⟩ = some v := by
  subst hN
  unfold World.cell?
  rw [heap_alloc_new]
  rfl
theorem alloc_free (w : World) (v : Value) (e : TypeId) (N : Nat) (hN : N = w.heap.size) : (w.alloc (.cells #[v] e)).frozen? ⟨N, 0, none⟩ = false := by
  subst hN
  unfold World.frozen?
  rw [heap_alloc_new]
  rfl
theorem c_Store (x y : Int) (h : Ce w F c M n la) (x0 : 0 ≤ x) (x1 : x < 18446744073709551616) (y0 : 0 ≤ y) (y1 : y < 18446744073709551616) (hn0 : 0 ≤ n) (hn : n ≤ 4611686018427387904) :
    Calls Tryz.prog 36 #[.pointer (some ⟨c, 0, none⟩), .int .u64 x, .int .u64 y] w (CePost w F c (upd M x y) (n + 1) ⟨2, x, M x, y⟩ (.int .u64 (M x))) := by
  have h1 := h.below ((Below.refl _ _).alloc (Nat.le_refl _) (.cells #[.int .u64 y] 37))
  obtain ⟨L, hL, hv⟩ := h1.ex
  have Ha := Lib.hid (c_access _ F (fun _ => False) (fun _ => True) c L n la.k la.a la.s la.i 2 x y _ _ hL h1.lts x0 x1 hn0 hn y0 y1 (fun _ h => h.elim) (fun _ _ h _ => h) (does_swaps _ F (cval L x) y w.heap.size (alloc_one _ _ _ _ rfl) (by simp) (fun hf => by have := h.lts _ hf; omega)) (run_enter Tryz.func127 (by kernel_rfl) (by kernel_rfl)))
  have Hv := Lib.hid hv
  clear h h1 hL hv
  go_enter Tryz.func36, Tryz.ntmps36
  go_wp2_with fail
  refine (c_swaps _ _).mono ?_
  rintro e w' ⟨rfl, rfl⟩
  go_wp2_with fail
  refine Ha.out.mono ?_
  intro e w' hp
  obtain ⟨rfl, _, F', hq1, hq2, hq3, _⟩ := hp.ce Hv.out ((Below.refl _ _).alloc (Nat.le_refl _) (.cells #[.int .u64 y] 37)) (fun _ h => h.elim)
  have Hq := Lib.hid (Exists.intro (p := fun G => Ce w' G c _ _ _ ∧ Grow w F w' G ∧ Wrote F w w') F' ⟨hq1, hq2, hq3⟩)
  clear hp hq1 hq2 hq3
  go_wp2
  go_ret
  exact ⟨rfl, Hq.out⟩
theorem does_Add1 (w : World) (F : Nat → Prop) (v y z : Int) (N : Nat) (hN : w.cell? ⟨N, 0, none⟩ = some (.int .u64 y)) (hl : N < w.heap.size) (hF : ¬ F N) (v0 : 0 ≤ v) (v1 : v < 18446744073709551616) (y0 : 0 ≤ y) (y1 : y < 18446744073709551616) (hz : Hid (z = (v + y) % 18446744073709551616)) : DoesOf w F (fun _ => False) (fun _ => True) 149 #[.pointer (some ⟨N, 0, none⟩)] v z := by
  intro W b hw hb0 hb hc hf
  have hN2 : W.cell? ⟨N, 0, none⟩ = some (.int .u64 y) := (hw.cell (p := ⟨N, 0, none⟩) hl hF).trans hN
  have hs := c_aAdd (w := W.drew) hc hf y
  have e1 : IntKind.u64.wrap (v + y) = z := by rw [hz.out, IntKind.wrap_u64]
  rw [e1] at hs
  have HS := Lib.hid hs
  have hne : N ≠ b := by
    intro e; subst e
    rcases hb0 with h | h
    · exact hF h
    · omega
  have HE : Hid ((W.setCell ⟨b, 0, none⟩ (.int .u64 z)).drew.cell? ⟨b, 0, none⟩ = some (.int .u64 z) ∧ (W.setCell ⟨b, 0, none⟩ (.int .u64 z)).drew.frozen? ⟨b, 0, none⟩ = false ∧ Wrote (fun j => j = b ∨ False) W (W.setCell ⟨b, 0, none⟩ (.int .u64 z)).drew ∧ IntKind.u64.wrap (z - y) = v) :=
    Lib.hid ⟨World.cell?_setCell_same _ _ _ hc, (World.frozen?_setCell _ _ _ _).trans hf, (Wrote.setCell (S := fun j => j = b ∨ False) (Wrote.refl _ _) (p := ⟨b, 0, none⟩) (fun _ => .inl rfl) _).drew, by rw [hz.out, IntKind.wrap_u64]; omega⟩
  have hN3 : (W.setCell ⟨b, 0, none⟩ (.int .u64 z)).cell? ⟨N, 0, none⟩ = some (.int .u64 y) := (World.cell?_setCell_other _ _ _ _ (fun e => hne (congrArg Addr.block e).symm)).trans hN2
  clear hc hf hw hN e1 hs
  go_enter Tryz.func149, Tryz.ntmps149
  go_wp2_with fail
  go_region_held3 (fun w' => w'.cell? ⟨N, 0, none⟩ = some (.int .u64 y)) (go_keep) ((go_at_call 150; refine (HS.out).mono ?_; rintro e w' ⟨rfl, rfl⟩))
  all_goals
    go_wp2
    go_ret
    exact ⟨ret_int HE.out.2.2.2, HE.out.1, HE.out.2.1, HE.out.2.2.1, trivial⟩
theorem c_Add (x y : Int) (h : Ce w F c M n la) (x0 : 0 ≤ x) (x1 : x < 18446744073709551616) (y0 : 0 ≤ y) (y1 : y < 18446744073709551616) (hn0 : 0 ≤ n) (hn : n ≤ 4611686018427387904) :
    Calls Tryz.prog 117 #[.pointer (some ⟨c, 0, none⟩), .int .u64 x, .int .u64 y] w (CePost w F c (upd M x ((M x + y) % 18446744073709551616)) (n + 1) ⟨4, x, M x, (M x + y) % 18446744073709551616⟩ (.int .u64 (M x))) := by
  have hb := h.bd x
  have h1 := h.below ((Below.refl _ _).alloc (Nat.le_refl _) (.cells #[.int .u64 y] 37))
  obtain ⟨L, hL, hv⟩ := h1.ex
  obtain ⟨z, hz⟩ : ∃ z, z = (M x + y) % 18446744073709551616 := ⟨_, rfl⟩
  have z0 : 0 ≤ z ∧ z < 18446744073709551616 := by omega
  have Hz := Lib.hid hz
  have Ha := Lib.hid (c_access _ F (fun _ => False) (fun _ => True) c L n la.k la.a la.s la.i 4 x z 149 #[.pointer (some ⟨w.heap.size, 0, none⟩)] hL h1.lts x0 x1 hn0 hn z0.1 z0.2 (fun _ h => h.elim) (fun _ _ h _ => h) (by rw [hv]; exact does_Add1 _ F (M x) y z w.heap.size (alloc_one _ _ _ _ rfl) (by simp) (fun hf => by have := h.lts _ hf; omega) hb.1 hb.2 y0 y1 Hz) (run_enter Tryz.func149 (by kernel_rfl) (by kernel_rfl)))
  have Hv := Lib.hid hv
  rw [← hz]
  clear h h1 hL hv hz hb z0
  go_enter Tryz.func117, Tryz.ntmps117
  go_wp2_with fail
  refine Ha.out.mono ?_
  intro e w' hp
  obtain ⟨rfl, _, F', hq1, hq2, hq3, _⟩ := hp.ce Hv.out ((Below.refl _ _).alloc (Nat.le_refl _) (.cells #[.int .u64 y] 37)) (fun _ h => h.elim)
  have Hq := Lib.hid (Exists.intro (p := fun G => Ce w' G c _ _ _ ∧ Grow w F w' G ∧ Wrote F w w') F' ⟨hq1, hq2, hq3⟩)
  clear hp hq1 hq2 hq3
  go_wp2
  go_ret
  exact ⟨rfl, Hq.out⟩
theorem does_CAS1_hit (w : World) (F : Nat → Prop) (v is : Int) (N : Nat) (h0 : w.cell? ⟨N, 0, none⟩ = some (.int .u64 v)) (h1 : w.cell? ⟨N + 1, 0, none⟩ = some (.int .u64 is)) (h2 : w.cell? ⟨N + 2, 0, none⟩ = some (.bool false)) (h3 : w.frozen? ⟨N + 2, 0, none⟩ = false)
    (hl : N + 2 < w.heap.size) (hF : ∀ j, F j → j < N) : DoesOf w F (fun j => j = N + 2) (fun W => W.cell? ⟨N + 2, 0, none⟩ = some (.bool true) ∧ W.frozen? ⟨N + 2, 0, none⟩ = false ∧ N + 2 < W.heap.size) 146 #[.pointer (some ⟨N, 0, none⟩), .pointer (some ⟨N + 1, 0, none⟩), .pointer (some ⟨N + 2, 0, none⟩)] v is := by
  intro W b hw hb0 hb hc hf
  have hk : ∀ j, N ≤ j → ¬ F j := fun j hj hf => by have := hF j hf; omega
  have k0 : W.cell? ⟨N, 0, none⟩ = some (.int .u64 v) := (hw.cell (p := ⟨N, 0, none⟩) (by show N < _; omega) (hk _ (Nat.le_refl _))).trans h0
  have k1 : W.cell? ⟨N + 1, 0, none⟩ = some (.int .u64 is) := (hw.cell (p := ⟨N + 1, 0, none⟩) (by show N + 1 < _; omega) (hk _ (by show N ≤ N + 1; omega))).trans h1
  have k2 : W.cell? ⟨N + 2, 0, none⟩ = some (.bool false) := (hw.cell (p := ⟨N + 2, 0, none⟩) hl (hk _ (by show N ≤ N + 2; omega))).trans h2
  have k3 : W.frozen? ⟨N + 2, 0, none⟩ = false := (hw.frozen (p := ⟨N + 2, 0, none⟩) hl (hk _ (by show N ≤ N + 2; omega))).trans h3
  have hl2 : N + 2 < W.heap.size := Nat.lt_of_lt_of_le hl hw.size
  have hbn : b ≠ N ∧ b ≠ N + 1 ∧ b ≠ N + 2 := by
    rcases hb0 with h | h
    · have := hF b h; omega
    · omega
  obtain ⟨n0, n1, n2⟩ := hbn
  have HS := Lib.hid (c_aCAS_hit hc hf is)
  have q0 : (W.setCell ⟨b, 0, none⟩ (.int .u64 is)).cell? ⟨N, 0, none⟩ = some (.int .u64 v) := (World.cell?_setCell_other _ _ _ _ (fun e => n0 (congrArg Addr.block e))).trans k0
  have q2 : (W.setCell ⟨b, 0, none⟩ (.int .u64 is)).cell? ⟨N + 2, 0, none⟩ = some (.bool false) := (World.cell?_setCell_other _ _ _ _ (fun e => n2 (congrArg Addr.block e))).trans k2
  have HE : Hid (((W.setCell ⟨b, 0, none⟩ (.int .u64 is)).setCell ⟨N + 2, 0, none⟩ (.bool true)).cell? ⟨b, 0, none⟩ = some (.int .u64 is) ∧ ((W.setCell ⟨b, 0, none⟩ (.int .u64 is)).setCell ⟨N + 2, 0, none⟩ (.bool true)).frozen? ⟨b, 0, none⟩ = false ∧ Wrote (fun j => j = b ∨ j = N + 2) W ((W.setCell ⟨b, 0, none⟩ (.int .u64 is)).setCell ⟨N + 2, 0, none⟩ (.bool true)) ∧ ((W.setCell ⟨b, 0, none⟩ (.int .u64 is)).setCell ⟨N + 2, 0, none⟩ (.bool true)).cell? ⟨N + 2, 0, none⟩ = some (.bool true) ∧ ((W.setCell ⟨b, 0, none⟩ (.int .u64 is)).setCell ⟨N + 2, 0, none⟩ (.bool true)).frozen? ⟨N + 2, 0, none⟩ = false ∧ N + 2 < ((W.setCell ⟨b, 0, none⟩ (.int .u64 is)).setCell ⟨N + 2, 0, none⟩ (.bool true)).heap.size) := by
    refine Lib.hid ⟨(World.cell?_setCell_other _ _ _ _ (fun e => n2 (congrArg Addr.block e).symm)).trans (World.cell?_setCell_same _ _ _ hc), ?_, ?_, World.cell?_setCell_same _ _ _ q2, ?_, by simp; omega⟩
    · rw [World.frozen?_setCell, World.frozen?_setCell]; exact hf
    · exact Wrote.setCell (S := fun j => j = b ∨ j = N + 2) (Wrote.setCell (S := fun j => j = b ∨ j = N + 2) (Wrote.refl _ _) (p := ⟨b, 0, none⟩) (fun _ => .inl rfl) _) (p := ⟨N + 2, 0, none⟩) (fun _ => .inr rfl) _
    · rw [World.frozen?_setCell, World.frozen?_setCell]; exact k3
  clear hc hf hw h0 h1 h2 h3 hk
  go_enter Tryz.func146, Tryz.ntmps146
  go_wp2_with fail
  refine HS.out.mono ?_
  rintro e w' ⟨rfl, rfl⟩
  go_wp2
  go_ret
  exact ⟨rfl, HE.out.1, HE.out.2.1, HE.out.2.2.1, HE.out.2.2.2.1, HE.out.2.2.2.2.1, HE.out.2.2.2.2.2⟩
theorem does_CAS1_miss (w : World) (F : Nat → Prop) (v was is : Int) (N : Nat) (h0 : w.cell? ⟨N, 0, none⟩ = some (.int .u64 was)) (h1 : w.cell? ⟨N + 1, 0, none⟩ = some (.int .u64 is)) (h2 : w.cell? ⟨N + 2, 0, none⟩ = some (.bool false)) (h3 : w.frozen? ⟨N + 2, 0, none⟩ = false)
    (hl : N + 2 < w.heap.size) (hF : ∀ j, F j → j < N) (hv : ¬ v = was) : DoesOf w F (fun j => j = N + 2) (fun W => W.cell? ⟨N + 2, 0, none⟩ = some (.bool false) ∧ W.frozen? ⟨N + 2, 0, none⟩ = false ∧ N + 2 < W.heap.size) 146 #[.pointer (some ⟨N, 0, none⟩), .pointer (some ⟨N + 1, 0, none⟩), .pointer (some ⟨N + 2, 0, none⟩)] v v := by
  intro W b hw hb0 hb hc hf
  have hk : ∀ j, N ≤ j → ¬ F j := fun j hj hf => by have := hF j hf; omega
  have k0 : W.cell? ⟨N, 0, none⟩ = some (.int .u64 was) := (hw.cell (p := ⟨N, 0, none⟩) (by show N < _; omega) (hk _ (Nat.le_refl _))).trans h0
  have k1 : W.cell? ⟨N + 1, 0, none⟩ = some (.int .u64 is) := (hw.cell (p := ⟨N + 1, 0, none⟩) (by show N + 1 < _; omega) (hk _ (by show N ≤ N + 1; omega))).trans h1
  have k2 : W.cell? ⟨N + 2, 0, none⟩ = some (.bool false) := (hw.cell (p := ⟨N + 2, 0, none⟩) hl (hk _ (by show N ≤ N + 2; omega))).trans h2
  have k3 : W.frozen? ⟨N + 2, 0, none⟩ = false := (hw.frozen (p := ⟨N + 2, 0, none⟩) hl (hk _ (by show N ≤ N + 2; omega))).trans h3
  have hl2 : N + 2 < W.heap.size := Nat.lt_of_lt_of_le hl hw.size
  have hbn : b ≠ N ∧ b ≠ N + 1 ∧ b ≠ N + 2 := by
    rcases hb0 with h | h
    · have := hF b h; omega
    · omega
  obtain ⟨n0, n1, n2⟩ := hbn
  have HS := Lib.hid (c_aCAS_miss hc hf was is hv)
  have HE : Hid ((W.setCell ⟨N + 2, 0, none⟩ (.bool false)).cell? ⟨b, 0, none⟩ = some (.int .u64 v) ∧ (W.setCell ⟨N + 2, 0, none⟩ (.bool false)).frozen? ⟨b, 0, none⟩ = false ∧ Wrote (fun j => j = b ∨ j = N + 2) W (W.setCell ⟨N + 2, 0, none⟩ (.bool false)) ∧ (W.setCell ⟨N + 2, 0, none⟩ (.bool false)).cell? ⟨N + 2, 0, none⟩ = some (.bool false) ∧ (W.setCell ⟨N + 2, 0, none⟩ (.bool false)).frozen? ⟨N + 2, 0, none⟩ = false ∧ N + 2 < (W.setCell ⟨N + 2, 0, none⟩ (.bool false)).heap.size) := by
    refine Lib.hid ⟨(World.cell?_setCell_other _ _ _ _ (fun e => n2 (congrArg Addr.block e).symm)).trans hc, ?_, ?_, World.cell?_setCell_same _ _ _ k2, ?_, by simp; omega⟩
    · rw [World.frozen?_setCell]; exact hf
    · exact Wrote.setCell (S := fun j => j = b ∨ j = N + 2) (Wrote.refl _ _) (p := ⟨N + 2, 0, none⟩) (fun _ => .inr rfl) _
    · rw [World.frozen?_setCell]; exact k3
  have HL := Lib.hid (c_aLoad (w := W.setCell ⟨N + 2, 0, none⟩ (.bool false)) HE.out.1)
  clear hc hf hw h0 h1 h2 h3 hk hv
  go_enter Tryz.func146, Tryz.ntmps146
  go_wp2_with fail
  refine HS.out.mono ?_
  rintro e w' ⟨rfl, rfl⟩
  go_wp2_with fail
  refine HL.out.mono ?_
  rintro e w' ⟨rfl, rfl⟩
  go_wp2
  go_ret
  exact ⟨rfl, HE.out.1, HE.out.2.1, HE.out.2.2.1, HE.out.2.2.2.1, HE.out.2.2.2.2.1, HE.out.2.2.2.2.2⟩
set_option maxHeartbeats 1000000 in
theorem c_CAS_hit (x was is : Int) (h : Ce w F c M n la) (x0 : 0 ≤ x) (x1 : x < 18446744073709551616) (i0 : 0 ≤ is) (i1 : is < 18446744073709551616) (hn0 : 0 ≤ n) (hn : n ≤ 4611686018427387904) (hv : M x = was) :
    Calls Tryz.prog 111 #[.pointer (some ⟨c, 0, none⟩), .int .u64 x, .int .u64 was, .int .u64 is] w (CePost w F c (upd M x is) (n + 1) ⟨3, x, M x, is⟩ (.tuple #[.int .u64 (M x), .bool true])) := by
  have hb := h.bd x
  have hbel : Below w.heap.size w (((w.alloc (.cells #[.int .u64 was] 37)).alloc (.cells #[.int .u64 is] 37)).alloc (.cells #[.bool false] 4)) := (((Below.refl _ _).alloc (Nat.le_refl _) _).alloc (by simp) _).alloc (by simp; omega) _
  have h1 := h.below hbel
  have hlt := h.lts
  have k0 : (((w.alloc (.cells #[.int .u64 was] 37)).alloc (.cells #[.int .u64 is] 37)).alloc (.cells #[.bool false] 4)).cell? ⟨w.heap.size, 0, none⟩ = some (.int .u64 was) := by
    rw [((Below.refl _ _).alloc (Nat.le_refl _) _).cell (p := ⟨w.heap.size, 0, none⟩) (by simp <;> omega), ((Below.refl _ _).alloc (Nat.le_refl _) _).cell (p := ⟨w.heap.size, 0, none⟩) (by simp)]
    exact alloc_one _ _ _ _ rfl
  have k1 : (((w.alloc (.cells #[.int .u64 was] 37)).alloc (.cells #[.int .u64 is] 37)).alloc (.cells #[.bool false] 4)).cell? ⟨w.heap.size + 1, 0, none⟩ = some (.int .u64 is) := by
    rw [((Below.refl _ _).alloc (Nat.le_refl _) _).cell (p := ⟨w.heap.size + 1, 0, none⟩) (by simp)]
    exact alloc_one _ _ _ _ (by simp)
  have k2 := alloc_one ((w.alloc (.cells #[.int .u64 was] 37)).alloc (.cells #[.int .u64 is] 37)) (.bool false) 4 (w.heap.size + 2) (by simp)
  have k3 := alloc_free ((w.alloc (.cells #[.int .u64 was] 37)).alloc (.cells #[.int .u64 is] 37)) (.bool false) 4 (w.heap.size + 2) (by simp)
  obtain ⟨L, hL, hv0⟩ := h1.ex
  have Hcell := Lib.hid hbel
  have Ha := Lib.hid (c_access _ F (fun j => j = w.heap.size + 2) (fun W => W.cell? ⟨w.heap.size + 2, 0, none⟩ = some (.bool true) ∧ W.frozen? ⟨w.heap.size + 2, 0, none⟩ = false ∧ w.heap.size + 2 < W.heap.size) c L n la.k la.a la.s la.i 3 x is 146 #[.pointer (some ⟨w.heap.size, 0, none⟩), .pointer (some ⟨w.heap.size + 1, 0, none⟩), .pointer (some ⟨w.heap.size + 2, 0, none⟩)] hL h1.lts x0 x1 hn0 hn i0 i1
    (fun j hj => by subst hj; exact ⟨fun hf => by have := hlt _ hf; omega, by simp⟩)
    (fun A B hA hw => ⟨(hw.cell (p := ⟨w.heap.size + 2, 0, none⟩) hA.2.2 (by have := hlt _ h.mem; show ¬ w.heap.size + 2 = c; omega)).trans hA.1, (hw.frozen (p := ⟨w.heap.size + 2, 0, none⟩) hA.2.2 (by have := hlt _ h.mem; show ¬ w.heap.size + 2 = c; omega)).trans hA.2.1, Nat.lt_of_lt_of_le hA.2.2 hw.size⟩)
    (by rw [hv0]; exact does_CAS1_hit _ F (M x) is w.heap.size (hv ▸ k0) k1 k2 k3 (by simp) hlt) (run_enter Tryz.func146 (by kernel_rfl) (by kernel_rfl)))
  have Hv := Lib.hid hv0
  have Hlt := Lib.hid hlt
  have Hh := Lib.hid hv
  clear h h1 hL hv0 hb k0 k1 k2 k3 hbel hlt hv
  go_enter Tryz.func111, Tryz.ntmps111
  go_wp2_with fail
  refine Ha.out.mono ?_
  intro e w' hp
  obtain ⟨rfl, ⟨hr1, hr2, hr3⟩, F', hq1, hq2, hq3, hq4⟩ := hp.ce Hv.out Hcell.out (fun j hj => by omega)
  have Hq1 := Lib.hid hq1
  have Hq2 := Lib.hid hq2
  have Hq3 := Lib.hid hq3
  have HE : Hid (∀ w3, Wrote (fun j => j = w.heap.size + 2) w' w3 → CePost w F c (upd M x is) (n + 1) ⟨3, x, M x, is⟩ (.tuple #[.int .u64 (M x), .bool true]) (.returned (.tuple #[.int .u64 (M x), .bool true])) w3) := by
    refine Lib.hid fun w3 hw3 => ⟨rfl, F', Hq1.out.wrote hw3 (fun j hj e => ?_), Hq2.out.size hw3.size, Hq3.out.trans hw3 fun j hj e => by omega⟩
    subst e
    rcases hq4 _ hj with h | h
    · have := Hlt.out _ h; omega
    · simp at h; omega
  clear hp hq1 hq2 hq3 hq4
  go_wp2
  go_region
  all_goals
    go_wp2
    exact bodyPost_ret (v := .tuple #[.int .u64 (M x), .bool true]) (by simp [results, Tryz.results111, go_sem, hr1, hr2]) rfl (HE.out _ (Wrote.setCell (S := fun j => j = w.heap.size + 2) (Wrote.refl _ _) (p := ⟨w.heap.size + 2, 0, none⟩) (fun _ => rfl) _).drew)
set_option maxHeartbeats 1000000 in
theorem c_CAS_miss (x was is : Int) (h : Ce w F c M n la) (x0 : 0 ≤ x) (x1 : x < 18446744073709551616) (i0 : 0 ≤ is) (i1 : is < 18446744073709551616) (hn0 : 0 ≤ n) (hn : n ≤ 4611686018427387904) (hv : ¬ M x = was) :
    Calls Tryz.prog 111 #[.pointer (some ⟨c, 0, none⟩), .int .u64 x, .int .u64 was, .int .u64 is] w (CePost w F c M (n + 1) ⟨3, x, M x, (M x)⟩ (.tuple #[.int .u64 (M x), .bool false])) := by
  have hb := h.bd x
  have hbel : Below w.heap.size w (((w.alloc (.cells #[.int .u64 was] 37)).alloc (.cells #[.int .u64 is] 37)).alloc (.cells #[.bool false] 4)) := (((Below.refl _ _).alloc (Nat.le_refl _) _).alloc (by simp) _).alloc (by simp; omega) _
  have h1 := h.below hbel
  have hlt := h.lts
  have k0 : (((w.alloc (.cells #[.int .u64 was] 37)).alloc (.cells #[.int .u64 is] 37)).alloc (.cells #[.bool false] 4)).cell? ⟨w.heap.size, 0, none⟩ = some (.int .u64 was) := by
    rw [((Below.refl _ _).alloc (Nat.le_refl _) _).cell (p := ⟨w.heap.size, 0, none⟩) (by simp <;> omega), ((Below.refl _ _).alloc (Nat.le_refl _) _).cell (p := ⟨w.heap.size, 0, none⟩) (by simp)]
    exact alloc_one _ _ _ _ rfl
  have k1 : (((w.alloc (.cells #[.int .u64 was] 37)).alloc (.cells #[.int .u64 is] 37)).alloc (.cells #[.bool false] 4)).cell? ⟨w.heap.size + 1, 0, none⟩ = some (.int .u64 is) := by
    rw [((Below.refl _ _).alloc (Nat.le_refl _) _).cell (p := ⟨w.heap.size + 1, 0, none⟩) (by simp)]
    exact alloc_one _ _ _ _ (by simp)
  have k2 := alloc_one ((w.alloc (.cells #[.int .u64 was] 37)).alloc (.cells #[.int .u64 is] 37)) (.bool false) 4 (w.heap.size + 2) (by simp)
  have k3 := alloc_free ((w.alloc (.cells #[.int .u64 was] 37)).alloc (.cells #[.int .u64 is] 37)) (.bool false) 4 (w.heap.size + 2) (by simp)
  obtain ⟨L, hL, hv0⟩ := h1.ex
  have Hcell := Lib.hid hbel
  have Ha := Lib.hid (c_access _ F (fun j => j = w.heap.size + 2) (fun W => W.cell? ⟨w.heap.size + 2, 0, none⟩ = some (.bool false) ∧ W.frozen? ⟨w.heap.size + 2, 0, none⟩ = false ∧ w.heap.size + 2 < W.heap.size) c L n la.k la.a la.s la.i 3 x (M x) 146 #[.pointer (some ⟨w.heap.size, 0, none⟩), .pointer (some ⟨w.heap.size + 1, 0, none⟩), .pointer (some ⟨w.heap.size + 2, 0, none⟩)] hL h1.lts x0 x1 hn0 hn hb.1 hb.2
    (fun j hj => by subst hj; exact ⟨fun hf => by have := hlt _ hf; omega, by simp⟩)
    (fun A B hA hw => ⟨(hw.cell (p := ⟨w.heap.size + 2, 0, none⟩) hA.2.2 (by have := hlt _ h.mem; show ¬ w.heap.size + 2 = c; omega)).trans hA.1, (hw.frozen (p := ⟨w.heap.size + 2, 0, none⟩) hA.2.2 (by have := hlt _ h.mem; show ¬ w.heap.size + 2 = c; omega)).trans hA.2.1, Nat.lt_of_lt_of_le hA.2.2 hw.size⟩)
    (by rw [hv0]; exact does_CAS1_miss _ F (M x) was is w.heap.size k0 k1 k2 k3 (by simp) hlt hv) (run_enter Tryz.func146 (by kernel_rfl) (by kernel_rfl)))
  have Hv := Lib.hid hv0
  have Hlt := Lib.hid hlt
  have Hh := Lib.hid hv
  clear h h1 hL hv0 hb k0 k1 k2 k3 hbel hlt hv
  go_enter Tryz.func111, Tryz.ntmps111
  go_wp2_with fail
  refine Ha.out.mono ?_
  intro e w' hp
  obtain ⟨rfl, ⟨hr1, hr2, hr3⟩, F', hq1, hq2, hq3, hq4⟩ := hp.ce Hv.out Hcell.out (fun j hj => by omega)
  rw [upd_id] at hq1
  have Hq1 := Lib.hid hq1
  have Hq2 := Lib.hid hq2
  have Hq3 := Lib.hid hq3
  have HE : Hid (∀ w3, Wrote (fun j => j = w.heap.size + 2) w' w3 → CePost w F c M (n + 1) ⟨3, x, M x, (M x)⟩ (.tuple #[.int .u64 (M x), .bool false]) (.returned (.tuple #[.int .u64 (M x), .bool false])) w3) := by
    refine Lib.hid fun w3 hw3 => ⟨rfl, F', Hq1.out.wrote hw3 (fun j hj e => ?_), Hq2.out.size hw3.size, Hq3.out.trans hw3 fun j hj e => by omega⟩
    subst e
    rcases hq4 _ hj with h | h
    · have := Hlt.out _ h; omega
    · simp at h; omega
  clear hp hq1 hq2 hq3 hq4
  go_wp2
  go_region
  all_goals
    go_wp2
    exact bodyPost_ret (v := .tuple #[.int .u64 (M x), .bool false]) (by simp [results, Tryz.results111, go_sem, hr1, hr2]) rfl (HE.out _ (Wrote.setCell (S := fun j => j = w.heap.size + 2) (Wrote.refl _ _) (p := ⟨w.heap.size + 2, 0, none⟩) (fun _ => rfl) _).drew)
set_option maxHeartbeats 1000000 in
theorem c_Peek (x : Int) (h : Ce w F c M n la) (x0 : 0 ≤ x) (x1 : x < 18446744073709551616) :
    Calls Tryz.prog 35 #[.pointer (some ⟨c, 0, none⟩), .int .u64 x] w fun e w' => e = .returned (.int .u64 (M x)) ∧ w = w' := by
  obtain ⟨L, hL, hv⟩ := h.ex
  by_cases hin : ∃ d ∈ L, d.a = x
  · obtain ⟨d, hd, rfl⟩ := hin
    rcases hL.mp with ⟨h0, _⟩ | ⟨m, h1, h2, h3, h4, h5⟩
    · rw [h0] at hd; cases hd
    · have hlk := MapL.run_lookup h2 Tryz.underlying163 Tryz.underlying38 (zero_au w) d.a
      rw [lookL_some hL.na hd] at hlk
      simp only [ptrL] at hlk
      have hval : M d.a = d.v := by rw [← hv, cval_mem hL.na hd]
      have Hc := Lib.hid (c_aLoad (hL.wd d hd).cell)
      rw [hval]
      clear h hL hv h2 h3 h4 h5 hd hval
      go_enter Tryz.func35, Tryz.ntmps35
      go_wp2_with fail
      refine Hc.out.mono ?_
      rintro e w' ⟨rfl, rfl⟩
      go_wp2
      go_ret
      exact ⟨rfl, rfl⟩
  · have hn : ∀ d ∈ L, d.a ≠ x := fun d hd e => hin ⟨d, hd, e⟩
    have hval : M x = 0 := by rw [← hv, cval_none hn]
    rw [hval]
    rcases hL.mp with ⟨h0, h1⟩ | ⟨m, h1, h2, h3, h4, h5⟩
    · have hlk := run_lookup_nil (w := w) (T := 163) Tryz.underlying163 Tryz.underlying38 (zero_au w) x
      clear h hL hv hn hin hval h0
      go_enter Tryz.func35, Tryz.ntmps35
      go_wp2
      go_ret
      exact ⟨rfl, rfl⟩
    · have hlk := MapL.run_lookup h2 Tryz.underlying163 Tryz.underlying38 (zero_au w) x
      rw [lookL_none hn] at hlk
      simp only [ptrL] at hlk
      clear h hL hv hn hin hval h2 h3 h4 h5
      go_enter Tryz.func35, Tryz.ntmps35
      go_wp2
      go_ret
      exact ⟨rfl, rfl⟩
theorem c_CCount (h : Ce w F c M n la) : Calls Tryz.prog 105 #[.pointer (some ⟨c, 0, none⟩)] w fun e w' => e = .returned (.int .i64 n) ∧ w = w' := by
  obtain ⟨L, hL, hv⟩ := h.ex
  have c1 := hL.c1
  clear h hL hv
  go_enter Tryz.func105, Tryz.ntmps105
  go_wp2
  go_ret
  exact ⟨rfl, rfl⟩
theorem c_Last (h : Ce w F c M n la) : Calls Tryz.prog 52 #[.pointer (some ⟨c, 0, none⟩)] w fun e w' => e = .returned (.agg #[.int .u8 la.k, .int .u64 la.a, .int .u64 la.s, .int .u64 la.i]) ∧ Below w.heap.size w w' := by
  obtain ⟨L, hL, hv⟩ := h.ex
  have c2 := hL.c2
  have c3 := hL.c3
  have c4 := hL.c4
  have c5 := hL.c5
  have hlt := hL.lt
  clear h hL hv
  go_enter Tryz.func52, Tryz.ntmps52
  go_wp2
  exact bodyPost_ret (v := .agg #[.int .u8 la.k, .int .u64 la.a, .int .u64 la.s, .int .u64 la.i]) (by simp [results, Tryz.results52, go_sem]) rfl ⟨rfl, (Below.refl _ _).alloc (Nat.le_refl _) _⟩
end
end Go.Proofs.YtijifjiehldcaaaGreat
