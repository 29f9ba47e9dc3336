/- Layer 10: a new world, all that belongs to it told by its owners. -/
import Derived.Test.YtijifjiehldcaaaGreatOw
namespace Go.Proofs.YtijifjiehldcaaaGreat
set_option linter.unusedSimpArgs false
open Go.RowKit
set_option linter.unusedVariables false

/-- A world that has just been made. -/
def aw0 (b : Int) : AW := ⟨upd (fun _ => 0) 2 (plWord b 0), 0, ⟨0, 0, 0, 0⟩, fun _ => 0, -1, [], []⟩
def NewW (w : World) (f : Cf) (r : Nat → Value) (e : Ending) (w' : World) : Prop := ∃ B O, e = .returned (r B.p) ∧ PW w' O B f (aw0 f.b) ∧ Env w O w'
/-- .. told with its owners: they are 1 to 4. -/
def NewW2 (w : World) (f : Cf) (r : Nat → Value) (e : Ending) (w' : World) : Prop := ∃ B O, e = .returned (r B.p) ∧ PW w' O B f (aw0 f.b) ∧ Env w O w' ∧ ∀ j, O j ≤ 4
theorem NewW2.one {w : World} {f : Cf} {r : Nat → Value} {e : Ending} {w' : World} (h : NewW2 w f r e w') : NewW w f r e w' := by
  obtain ⟨B, O, h1, h2, h3, -⟩ := h
  exact ⟨B, O, h1, h2, h3⟩
theorem NewW2.mk {w w1 : World} {F1 : Nat → Prop} {c : Nat} {M : Int → Int} (f : Cf) (hb : Below w.heap.size w w1) (hc : Ce w1 F1 c M 0 ⟨0, 0, 0, 0⟩) (hF : ∀ j, F1 j → w.heap.size ≤ j) :
    ∃ B O, Ending.returned (Value.tuple #[.pointer (some ⟨w1.heap.size + 2, 0, none⟩), .int .i64 0]) = .returned (.tuple #[.pointer (some ⟨B.p, 0, none⟩), .int .i64 0]) ∧
      PW (((w1.alloc (.cells #[.slice none 0 0, .int .i64 0] 191)).alloc (.cells #[.slice none 0 0] 220)).alloc (.cells (wZ c w1.heap.size (w1.heap.size + 1) f) 96)) O B f ⟨M, 0, ⟨0, 0, 0, 0⟩, fun _ => 0, -1, [], []⟩ ∧
      Env w O (((w1.alloc (.cells #[.slice none 0 0, .int .i64 0] 191)).alloc (.cells #[.slice none 0 0] 220)).alloc (.cells (wZ c w1.heap.size (w1.heap.size + 1) f) 96)) ∧ ∀ j, O j ≤ 4 := by
  classical
  obtain ⟨W1, hW1⟩ : ∃ W1, W1 = w1.alloc (.cells #[.slice none 0 0, .int .i64 0] 191) := ⟨_, rfl⟩
  obtain ⟨W2, hW2⟩ : ∃ W2, W2 = W1.alloc (.cells #[.slice none 0 0] 220) := ⟨_, rfl⟩
  obtain ⟨W3, hW3⟩ : ∃ W3, W3 = W2.alloc (.cells (wZ c w1.heap.size (w1.heap.size + 1) f) 96) := ⟨_, rfl⟩
  have z1 : W1.heap.size = w1.heap.size + 1 := by rw [hW1]; simp
  have z2 : W2.heap.size = w1.heap.size + 2 := by rw [hW2]; simp; omega
  have z3 : W3.heap.size = w1.heap.size + 3 := by rw [hW3]; simp; omega
  have b01 : Below w1.heap.size w1 W1 := by rw [hW1]; exact (Below.refl _ _).alloc (Nat.le_refl _) _
  have b12 : Below W1.heap.size W1 W2 := by rw [hW2]; exact (Below.refl _ _).alloc (Nat.le_refl _) _
  have b23 : Below W2.heap.size W2 W3 := by rw [hW3]; exact (Below.refl _ _).alloc (Nat.le_refl _) _
  have b13 := b12.trans (b23.mono b12.size)
  have b03 := b01.trans (b13.mono b01.size)
  have hz := hb.size
  rw [← hW1, ← hW2, ← hW3]
  obtain ⟨O, hO⟩ : ∃ O : Om, ∀ j, O j = if j = w1.heap.size + 2 then 1 else if j = w1.heap.size then 3 else if j = w1.heap.size + 1 then 4 else if F1 j then 2 else 0 := ⟨_, fun _ => rfl⟩
  have hp : O (w1.heap.size + 2) = 1 := by rw [hO, if_pos rfl]
  have hip : O w1.heap.size = 3 := by rw [hO, if_neg (by omega), if_pos rfl]
  have hnp : O (w1.heap.size + 1) = 4 := by rw [hO, if_neg (by omega), if_neg (by omega), if_pos rfl]
  have hF2 : ∀ j, F1 j → O j = 2 := fun j hj => by have := hc.lts j hj; rw [hO, if_neg (by omega), if_neg (by omega), if_neg (by omega), if_pos hj]
  have hany : ∀ j, O j ≠ 0 → (w1.heap.size ≤ j ∧ j ≤ w1.heap.size + 2) ∨ F1 j := by
    intro j hj
    rw [hO] at hj
    by_cases e1 : j = w1.heap.size + 2
    · left; omega
    · by_cases e2 : j = w1.heap.size
      · left; omega
      · by_cases e3 : j = w1.heap.size + 1
        · left; omega
        · rw [if_neg e1, if_neg e2, if_neg e3] at hj
          by_cases e4 : F1 j
          · exact .inr e4
          · rw [if_neg e4] at hj; exact absurd rfl hj
  have hhi : ∀ j, O j ≠ 0 → j < W3.heap.size := fun j hj => (hany j hj).elim (fun h => by omega) fun h => by have := hc.lts j h; omega
  refine ⟨⟨w1.heap.size + 2, c, w1.heap.size, w1.heap.size + 1⟩, O, rfl, ⟨hp, by rw [hW3]; exact wZ_get _ _ _ _ _ _ _ z2.symm, ?_, ?_, ?_⟩, ⟨fun j hj => (hany j hj).elim (fun h => by omega) (hF j), hhi, hb.trans (b03.mono hz)⟩, fun j => ?_⟩
  · exact (hc.below b03).mono hF2 fun j hj => hhi j (by rw [hj]; decide)
  · have k0 : W1.cell? ⟨w1.heap.size, 0, none⟩ = some (.slice none 0 0) := by rw [hW1]; exact cell_new w1 [.slice none 0 0, .int .i64 0] _ _ rfl 0 _ rfl
    have k1 : W1.cell? ⟨w1.heap.size, 1, none⟩ = some (.int .i64 0) := by rw [hW1]; exact cell_new w1 [.slice none 0 0, .int .i64 0] _ _ rfl 1 _ rfl
    have kf : ∀ j, W1.frozen? ⟨w1.heap.size, j, none⟩ = false := fun j => by rw [hW1]; exact frozen_new w1 [.slice none 0 0, .int .i64 0] _ _ rfl j
    have hl : w1.heap.size < W1.heap.size := by omega
    exact ⟨hip, (show w1.heap.size < W3.heap.size by omega), fun j => (b13.frozen (p := ⟨_, j, none⟩) hl).trans (kf j), (b13.cell (p := ⟨_, 1, none⟩) hl).trans k1, .slice none 0 0, [], (b13.cell (p := ⟨_, 0, none⟩) hl).trans k0, World.ownsRow_nil _ _ _ _, (fun k hk => by cases hk), by simp, by simp, by simp, by simp, (fun b hb => by cases hb), (fun i x b hi => by cases hi)⟩
  · have k0 : W2.cell? ⟨w1.heap.size + 1, 0, none⟩ = some (.slice none 0 0) := by rw [hW2]; exact cell_new W1 [.slice none 0 0] _ _ z1.symm 0 _ rfl
    have kf : W2.frozen? ⟨w1.heap.size + 1, 0, none⟩ = false := by rw [hW2]; exact frozen_new W1 [.slice none 0 0] _ _ z1.symm 0
    have hl : w1.heap.size + 1 < W2.heap.size := by omega
    refine ⟨.slice none 0 0, ⟨(b23.cell (p := ⟨_, 0, none⟩) hl).trans k0, (b23.frozen (p := ⟨_, 0, none⟩) hl).trans kf, (show w1.heap.size + 1 < W3.heap.size by omega), (fun e => by cases e), World.ownsRow_nil _ _ _ _⟩, ?_⟩
    rintro k (rfl | hk)
    · exact hnp
    · cases hk
  · rw [hO]
    repeat' split
    all_goals omega
set_option maxHeartbeats 2000000 in
set_option maxRecDepth 100000 in
theorem c_WNewQ (f : Cf) (w : World) (h : f.may) : Calls Tryz.prog 41 #[.agg #[.int .i64 f.b, .int .i64 f.g, .int .i64 f.t, .int .i64 f.q, .int .i64 f.y]] w fun e w' => NewW2 w f (fun p => .tuple #[.pointer (some ⟨p, 0, none⟩), .int .i64 0]) e w' := by
  have HM := Lib.hid h
  obtain ⟨b, g, t, q, y⟩ := f
  obtain ⟨b0, b1, g0, g1, t0, t1, q0, q1, y0, y1⟩ := h
  dsimp only at b0 b1 g0 g1 t0 t1 q0 q1 y0 y1 ⊢
  have hwb := plWord_bd b 0
  go_enter Tryz.func41, Tryz.ntmps41
  go_wp2_with fail
  refine (viaC (c_WMay ⟨b, g, t, q, y⟩ _ HM.out)).mono ?_
  rintro e w' ⟨rfl, m, rfl⟩
  go_wp2_with fail
  refine (c_Word b 0 _).mono ?_
  rintro e w' ⟨rfl, rfl⟩
  go_wp2_with fail
  obtain ⟨V, hV⟩ : ∃ V, V = via (w.alloc (.cells #[.int .i64 b, .int .i64 g, .int .i64 t, .int .i64 q, .int .i64 y] 23)) m := ⟨_, rfl⟩
  have hB : Below w.heap.size w V := by rw [hV]; exact below_via ((Below.refl _ _).alloc (Nat.le_refl _) _) _
  have hlt : w.heap.size < V.heap.size := by rw [hV]; exact lt_via _ _ _ (by simp)
  have q0' : ∀ j u, [Value.int .i64 b, .int .i64 g, .int .i64 t, .int .i64 q, .int .i64 y][j]? = some u → V.cell? ⟨w.heap.size, j, none⟩ = some u := by
    intro j u hu
    rw [hV, cell?_via _ _ _ _ (by simp)]
    exact cell_new w _ _ _ rfl j u hu
  have d0 := q0' 0 _ rfl
  have d1 := q0' 1 _ rfl
  have d2 := q0' 2 _ rfl
  have d3 := q0' 3 _ rfl
  have d4 := q0' 4 _ rfl
  rw [← hV]
  have hne : ¬ w.heap.size = V.heap.size := by omega
  have HB := Lib.hid hB
  obtain ⟨pw, hpw⟩ : ∃ pw, pw = plWord b 0 := ⟨_, rfl⟩
  rw [← hpw] at hwb ⊢
  have Hpw := Lib.hid hpw
  clear hB hV q0' hpw
  go_region_held3 (fun w' => w'.cell? ⟨w.heap.size, 0, none⟩ = some (.int .i64 b) ∧ w'.cell? ⟨w.heap.size, 1, none⟩ = some (.int .i64 g) ∧ w'.cell? ⟨w.heap.size, 2, none⟩ = some (.int .i64 t) ∧ w'.cell? ⟨w.heap.size, 3, none⟩ = some (.int .i64 q) ∧ w'.cell? ⟨w.heap.size, 4, none⟩ = some (.int .i64 y) ∧ w'.cell? ⟨V.heap.size, 0, none⟩ = some (.int .u64 2) ∧ w'.cell? ⟨V.heap.size, 1, none⟩ = some (.int .u64 pw)) (go_keep)
    (first
      | (go_at_call 87
         refine (c_CNew _ (V.heap.size + 1) 2 pw (by go_simp) (by go_simp) (by simp) (by omega) (by omega) hwb.1 (by omega)).mono ?_
         rintro e w1 ⟨c, F1, rfl, ce1, hb1, bel1⟩
         have e0 : w1.cell? ⟨w.heap.size, 0, none⟩ = some (.int .i64 b) := (bel1.cell (p := ⟨w.heap.size, 0, none⟩) (by simp <;> omega)).trans (by go_simp)
         have e1 : w1.cell? ⟨w.heap.size, 1, none⟩ = some (.int .i64 g) := (bel1.cell (p := ⟨w.heap.size, 1, none⟩) (by simp <;> omega)).trans (by go_simp)
         have e2 : w1.cell? ⟨w.heap.size, 2, none⟩ = some (.int .i64 t) := (bel1.cell (p := ⟨w.heap.size, 2, none⟩) (by simp <;> omega)).trans (by go_simp)
         have e3 : w1.cell? ⟨w.heap.size, 3, none⟩ = some (.int .i64 q) := (bel1.cell (p := ⟨w.heap.size, 3, none⟩) (by simp <;> omega)).trans (by go_simp)
         have e4 : w1.cell? ⟨w.heap.size, 4, none⟩ = some (.int .i64 y) := (bel1.cell (p := ⟨w.heap.size, 4, none⟩) (by simp <;> omega)).trans (by go_simp)
         have e5 : w1.cell? ⟨V.heap.size, 0, none⟩ = some (.int .u64 2) := (bel1.cell (p := ⟨V.heap.size, 0, none⟩) (by simp <;> omega)).trans (by go_simp)
         have e6 : w1.cell? ⟨V.heap.size, 1, none⟩ = some (.int .u64 pw) := (bel1.cell (p := ⟨V.heap.size, 1, none⟩) (by simp <;> omega)).trans (by go_simp)
         have HC1 := Lib.hid ce1
         have HF1 := Lib.hid hb1
         have HB1 := Lib.hid bel1
         have hz1 : V.heap.size + 2 ≤ w1.heap.size := by have := bel1.size; simp at this; omega
         clear ce1 hb1 bel1)
      | (go_at_call 88; refine (c_INew _).mono ?_; rintro e w2 ⟨rfl, rfl⟩)
      | (go_at_call 89; refine (c_NNew _).mono ?_; rintro e w3 ⟨rfl, rfl⟩))
  all_goals
    go_wp2
    rename_i hheld
    clear hheld
    have hz := hz1
    have hbs := HB.out.size
    have HE : NewW2 w ⟨b, g, t, q, y⟩ (fun p => .tuple #[.pointer (some ⟨p, 0, none⟩), .int .i64 0]) (.returned (.tuple #[.pointer (some ⟨w1.heap.size + 2, 0, none⟩), .int .i64 0])) (((w1.alloc (.cells #[.slice none 0 0, .int .i64 0] 191)).alloc (.cells #[.slice none 0 0] 220)).alloc (.cells (wZ c w1.heap.size (w1.heap.size + 1) ⟨b, g, t, q, y⟩) 96)) := by
      have hbb : Below w.heap.size w w1 := by
        have h1 := ((HB.out.alloc hbs (.cells #[.int .u64 2, .int .u64 pw] 176)).alloc (by rw [World.heap_size_alloc']; omega) (.cells #[.int .u64 2, .int .u64 pw] 176)).drew
        exact h1.trans (HB1.out.mono h1.size)
      have hcb : ∀ j, F1 j → w.heap.size ≤ j := fun j hj => by have := HF1.out j hj; simp at this; omega
      have := NewW2.mk ⟨b, g, t, q, y⟩ hbb HC1.out hcb
      rw [Hpw.out] at this
      exact this
    exact bodyPost_ret (v := .tuple #[.pointer (some ⟨w1.heap.size + 2, 0, none⟩), .int .i64 0]) (by simp [results, Tryz.results41, go_sem]) rfl HE
theorem c_WNewP (f : Cf) (w : World) (h : f.may) : Calls Tryz.prog 41 #[.agg #[.int .i64 f.b, .int .i64 f.g, .int .i64 f.t, .int .i64 f.q, .int .i64 f.y]] w fun e w' => NewW w f (fun p => .tuple #[.pointer (some ⟨p, 0, none⟩), .int .i64 0]) e w' :=
  (c_WNewQ f w h).mono fun _ _ h => h.one
theorem PW.congr {w : World} {O G : Om} {B : Wb} {f : Cf} {s : AW} (h : PW w O B f s) (hO : ∀ j, O j ≠ 0 → G j = O j) (hhi : ∀ j, G j ≠ 0 → j < w.heap.size) : PW w G B f s := by
  have k : ∀ j t, O j = t → t ≠ 0 → G j = t := fun j t hj ht => (hO j (by rw [hj]; exact ht)).trans hj
  refine ⟨k _ _ h.o (by decide), h.wo, Ce.mono h.ce (fun j hj => k _ _ hj (by decide)) (fun j hj => hhi j (by rw [hj]; decide)), ?_, ?_⟩
  · obtain ⟨v, bl, h0, h1, h2, h3, h4, h5, h6, h7, h8⟩ := h.ar.ex
    exact ⟨k _ _ h.ar.o (by decide), h.ar.lt, h.ar.fr, h.ar.c1, v, bl, h0, h1, fun j hj => ⟨k _ _ (h2 j hj).1 (by decide), (h2 j hj).2⟩, h3, h4, h5, h6, fun b hb => ⟨k _ _ (h7 b hb).1 (by decide), (h7 b hb).2⟩, h8⟩
  · obtain ⟨v, h1, h2⟩ := h.no.ex
    exact ⟨v, h1, fun j hj => k _ _ (h2 j hj) (by decide)⟩
/-- A new world beside what there is. -/
theorem NewW2.rp {w w' : World} {O : Om} {f : Cf} {r : Nat → Value} {e : Ending} (h : NewW2 w f r e w') (hhi : ∀ j, O j ≠ 0 → j < w.heap.size) : ∃ B, RP SW w O (r B.p) (fun W G => PW W G B f (aw0 f.b)) e w' := by
  obtain ⟨B, N, rfl, hP, hE, h4⟩ := h
  obtain ⟨G, hG⟩ : ∃ G : Om, ∀ j, G j = if j < w.heap.size then O j else N j := ⟨_, fun _ => rfl⟩
  have hhi2 : ∀ j, G j ≠ 0 → j < w'.heap.size := fun j hj => by
    rw [hG] at hj
    split at hj
    · exact Nat.lt_of_lt_of_le ‹_› hE.bel.size
    · exact hE.hi j hj
  refine ⟨B, rfl, G, ⟨fun j hj => by rw [hG, if_pos hj], hhi2, fun j hj hn => ?_, Wrote.of_below hE.bel⟩, hP.congr (fun j hj => by rw [hG, if_neg (by have := hE.base j hj; omega)]) hhi2⟩
  rw [hG, if_neg (by omega)] at hn ⊢
  exact ⟨by omega, h4 j⟩
theorem c_WorldP (b : Int) (w : World) (b0 : 1 ≤ b) (b1 : b ≤ 12) : Calls Tryz.prog 32 #[.int .i64 b] w (NewW w ⟨b, 8, 3, 1, 16⟩ (fun p => .pointer (some ⟨p, 0, none⟩))) := by
  have hc : Cf.may ⟨b, 8, 3, 1, 16⟩ := ⟨b0, b1, (by show (1:Int) ≤ 8; decide), (by show (8:Int) ≤ 65536; decide), (by show (0:Int) ≤ 3; decide), (by show (3:Int) ≤ 16; decide), (by show (1:Int) ≤ 1; decide), (by show (1:Int) ≤ 8; decide), (by show (2:Int) ≤ 16; decide), (by show (16:Int) ≤ 256; decide)⟩
  have HC := Lib.hid hc
  clear hc
  go_enter Tryz.func32, Tryz.ntmps32
  go_wp2_with fail
  refine (c_WNewP ⟨b, 8, 3, 1, 16⟩ w HC.out).mono ?_
  rintro e w1 ⟨B, O, rfl, hS, hE⟩
  have HS := Lib.hid hS
  have HE := Lib.hid hE
  clear hS hE
  go_wp2
  go_ret
  exact ⟨B, O, rfl, HS.out, HE.out⟩
end Go.Proofs.YtijifjiehldcaaaGreat
