/- Layer 28: GetsVoid, but for Begin and SameAll. -/
import Derived.Test.YthpedifjclofoaaGreatZvGt5
import Derived.Test.YthpedifjclofoaaGreatZvSeI
namespace Go.Proofs.YthpedifjclofoaaGreat
set_option linter.unusedSimpArgs false
set_option linter.unusedVariables false
set_option maxHeartbeats 8000000
set_option maxRecDepth 100000
open Go.RowKit
theorem infoGpt : (Tryz.prog.info? 59).map (fun i => (i.zero, i.size, i.bytes)) = some (some (.pointer none), 1, 8) := by kernel_rfl
structure VLG (w : World) (base : Nat) (v : Value) (n : Nat) : Prop where
 ex : ∃ xs : List Value, w.ownsRow base 59 1 v n xs ∧ ∀ x ∈ xs, VoidG w x ∧ ∀ b, v.ownBlock = some b → x ≠ .pointer (some ⟨b, 0, none⟩)
def zGtC : List Value := [.int .i64 0, .string ⟨#[]⟩, .bool false, .nilIface, .int .i64 0, .int .u64 0, .int .i64 0, .int .u8 0, .int .u64 0, .string ⟨#[]⟩, .string ⟨#[]⟩, .int .u32 0, .int .u64 0, .int .i64 0, .int .i64 0]
theorem VoidG.zero (w : World) (ty : TypeId) : VoidG (w.alloc (.cells zGtC.toArray ty)) (.pointer (some ⟨w.heap.size, 0, none⟩)) := by
 have h : ∀ j u, zGtC[j]? = some u → (w.alloc (.cells zGtC.toArray ty)).cell? ⟨w.heap.size, j, none⟩ = some u := fun j u hu => cell_newA w zGtC.toArray ty _ rfl j u (by simpa using hu)
 exact .inr ⟨_, rfl, h 2 _ rfl, h 3 _ rfl, h 5 _ rfl, h 6 _ rfl, h 7 _ rfl, h 8 _ rfl, h 9 _ rfl, h 10 _ rfl, h 11 _ rfl, h 12 _ rfl, h 13 _ rfl, h 14 _ rfl⟩
theorem VoidG.ne {w : World} {v : Value} (h : VoidG w v) {b : Nat} (hb : w.heap.size ≤ b) : v ≠ .pointer (some ⟨b, 0, none⟩) := by
 rcases h with rfl | ⟨X, rfl, h, -⟩
 · intro e; cases e
 · intro e
   cases e
   have := blk_lt h
   dsimp only at this
   omega
theorem VLG.lit {w : World} {base : Nat} {a b c d : Value} (hb : base ≤ w.heap.size) (ha : VoidG w a) (h2 : VoidG w b) (h3 : VoidG w c) (h4 : VoidG w d) : VLG (w.alloc (.cells #[.pointer none, a, b, c, d] 59)) base (.slice (some ⟨w.heap.size, 0, none⟩) 5 5) 5 := by
 have hw := alloc_below w (.cells #[.pointer none, a, b, c, d] 59)
 refine ⟨_, World.ownsRow_lit (base := base) (e := 59) (size := 1) w #[.pointer none, a, b, c, d] 5 hb (by unfold maxLen; omega) (by simp), fun x hx => ?_⟩
 have hx' : x = .pointer none ∨ x = a ∨ x = b ∨ x = c ∨ x = d := by simpa using hx
 have hne : ∀ v, VoidG w v → VoidG (w.alloc (.cells #[.pointer none, a, b, c, d] 59)) v ∧ ∀ b', (Value.slice (some ⟨w.heap.size, 0, none⟩) 5 5).ownBlock = some b' → v ≠ .pointer (some ⟨b', 0, none⟩) := by
  intro v hv
  refine ⟨hv.below hw, fun b' hb' => hv.ne ?_⟩
  have h9 : w.heap.size = b' := by simpa [Value.ownBlock] using hb'
  omega
 rcases hx' with rfl | rfl | rfl | rfl | rfl
 · exact hne _ (.inl rfl)
 · exact hne _ ha
 · exact hne _ h2
 · exact hne _ h3
 · exact hne _ h4
theorem VoidG.wrote {w w' : World} {S : Nat → Prop} {v : Value} (h : VoidG w v) (hw : Wrote S w w') (hn : ∀ b, v = .pointer (some ⟨b, 0, none⟩) → ¬ S b) : VoidG w' v := by
 rcases h with rfl | ⟨X, rfl, h⟩
 · exact .inl rfl
 · have hl := blk_lt h.1
   dsimp only at hl
   have k : ∀ j u, w.cell? ⟨X, j, none⟩ = some u → w'.cell? ⟨X, j, none⟩ = some u := fun j u hu => (hw.cell (p := ⟨X, j, none⟩) hl (hn X rfl)).trans hu
   obtain ⟨a, b, c, d, e, f, g, i, j, l, m, n⟩ := h
   exact .inr ⟨X, rfl, k _ _ a, k _ _ b, k _ _ c, k _ _ d, k _ _ e, k _ _ f, k _ _ g, k _ _ i, k _ _ j, k _ _ l, k _ _ m, k _ _ n⟩
theorem VLG.step {w w' : World} {base n g cap : Nat} {v x : Value} {xs : List Value} (hxs : ∀ y ∈ xs, VoidG w y ∧ ∀ b, v.ownBlock = some b → y ≠ .pointer (some ⟨b, 0, none⟩)) (hx : VoidG w x) (hxb : ∀ b, v.ownBlock = some b → x ≠ .pointer (some ⟨b, 0, none⟩)) (hown : w'.ownsRow base 59 1 (.slice (some ⟨g, 0, none⟩) (n + 1) cap) (n + 1) (xs ++ [x])) (hgr : w.grownBy w' v.ownBlock) (hat : v.ownBlock = some g ∨ w.heap.size ≤ g) : VLG w' base (.slice (some ⟨g, 0, none⟩) (n + 1) cap) (n + 1) := by
 have hW : Wrote (fun k => v.ownBlock = some k) w w' := (Wrote.refl _ _).grown hgr fun k hk _ => hk
 refine ⟨_, hown, fun y hy => ?_⟩
 have hy2 : VoidG w y ∧ ∀ b, v.ownBlock = some b → y ≠ .pointer (some ⟨b, 0, none⟩) := by
  rcases List.mem_append.1 hy with h | h
  · exact hxs y h
  · obtain rfl : y = x := by simpa using h
    exact ⟨hx, hxb⟩
 refine ⟨hy2.1.wrote hW fun b hb hk => hy2.2 b hk hb, fun b hb => ?_⟩
 have hgb : g = b := by simpa [Value.ownBlock] using hb
 subst hgb
 rcases hat with h | h
 · exact hy2.2 _ h
 · exact hy2.1.ne h
theorem VLG.sep {w : World} {base bl n cp : Nat} {xs : List Value} {X : Nat} (h : w.ownsRow base 59 1 (.slice (some ⟨bl, 0, none⟩) n cp) n xs) (hn : 2 < n) (hxs : ∀ y ∈ xs, VoidG w y) (hx : VoidG w (.pointer (some ⟨X, 0, none⟩))) : ∀ b, (Value.slice (some ⟨bl, 0, none⟩) n cp).ownBlock = some b → (Value.pointer (some ⟨X, 0, none⟩)) ≠ .pointer (some ⟨b, 0, none⟩) := by
 intro b hb e
 have hbb : bl = b := by simpa [Value.ownBlock] using hb
 subst hbb
 have hX : X = bl := by simpa using e
 subst hX
 have hl : xs.length = n * 1 := h.1
 have h0 : 2 < xs.length := by omega
 have hc := h.cells (g := X) rfl 2 _ (List.getElem?_eq_getElem h0)
 obtain ⟨a, ha⟩ := (hxs _ (List.getElem_mem h0)).ptr
 rcases hx with h1 | ⟨X', h1, h2, -⟩
 · cases h1
 · cases h1
   have hc2 : w.cell? ⟨X, 2, none⟩ = some xs[2] := by simpa [Addr.add] using hc
   rw [h2, ha] at hc2
   cases hc2
section
theorem w_GetsVoidB (hBG : BeginS (.agg #[.int .i64 0, .int .i64 0, .int .i64 0, .int .i64 0, .int .i64 0, .bool false, .slice none 0 0, .slice none 0 0, .slice none 0 0, .int .i64 0])) (t : Int) (key : ByteArray) (w : World) (t0 : -9223372036854775808 ≤ t) (t1 : t ≤ 9223372036854775807) (hkz : key.size ≤ maxLen) :
 Calls Tryz.prog 7 #[.int .i64 t, .string key] w fun e w' => e = .returned (.bool true) ∧ Below w.heap.size w w' := by
 have HBg := Lib.hid hBG
 clear hBG
 have HN1 := Lib.hid (fun W => c_NewGetV (-1) ⟨#[97]⟩ (.inl (by decide)) (by decide) W)
 have HN2 := Lib.hid (fun W => c_NewGetV 64 ⟨#[97]⟩ (.inl (by decide)) (by decide) W)
 have HN3 := Lib.hid (fun W => c_NewGetV 0 ⟨#[]⟩ (.inr (by decide +kernel)) (by decide) W)
 have HN4 := Lib.hid (fun W (h : ¬ (0 ≤ t ∧ t < 64)) => c_NewGetV t ⟨#[97]⟩ (.inl h) (by decide) W)
 have HN5 := Lib.hid (fun W (h : kyOk key = false) => c_NewGetV 2 key (.inr h) hkz W)
 have HKO := Lib.hid (fun W => c_rkyOk key W hkz)
 have HNO := Lib.hid (fun W => c_NewGet (w := W) (O := OZ) (k := 10) (key := ⟨#[97]⟩) 1 (by decide) (by decide +kernel) (by decide) (by decide) (fun j hj => absurd rfl hj))
 obtain ⟨ok, hok⟩ : ∃ b, b = kyOk key := ⟨_, rfl⟩
 rw [← hok] at HKO HN5
 clear hok hkz
 by_cases hs2 : 4000 < (key.size : Int)
 · go_enter Tryz.func7, Tryz.ntmps7
   go_wp2_with fail
   refine (c_lives28 _).mono ?_
   rintro e w9 ⟨rfl, hb9⟩
   go_wp2_with fail
   go_ret
   exact ⟨rfl, hb9⟩
 · go_enter Tryz.func7, Tryz.ntmps7
   go_wp2_with fail
   unfold BeginS at HBg
   refine (HBg.out _).mono ?_
   rintro e w1 ⟨p, q, rfl, hb1, hSA⟩
   obtain ⟨Wa, hWa⟩ : ∃ Wa, Wa = w1.alloc (.cells #[.pointer (some ⟨p, 0, none⟩), .pointer (some ⟨q, 0, none⟩)] 88) := ⟨_, rfl⟩
   have ba : Below w1.heap.size w1 Wa := by rw [hWa]; exact alloc_below _ _
   have hwa : Wa.heap.size = w1.heap.size + 1 := by rw [hWa]; simp
   have p0 : Wa.cell? ⟨w1.heap.size, 0, none⟩ = some (.pointer (some ⟨p, 0, none⟩)) := by rw [hWa]; simp
   have p1 : Wa.cell? ⟨w1.heap.size, 1, none⟩ = some (.pointer (some ⟨q, 0, none⟩)) := by rw [hWa]; simp
   have HBa : Hid (Below w.heap.size w Wa ∧ Below w1.heap.size w1 Wa) := Lib.hid ⟨hb1.trans (ba.mono hb1.size), ba⟩
   have HSA := Lib.hid hSA
   have HPB : Hid (w1.heap.size < Wa.heap.size) := Lib.hid (by omega)
   clear hb1 hSA ba HBg hwa
   go_upto_region 5 with fail
   rw [← hWa]
   clear hWa
   obtain ⟨Wb, hWb⟩ : ∃ W, W = Wa.alloc (.cells #[.int .i64 0, .string ⟨#[]⟩, .bool false, .nilIface, .int .i64 0, .int .u64 0, .int .i64 0, .int .u8 0, .int .u64 0, .string ⟨#[]⟩, .string ⟨#[]⟩, .int .u32 0, .int .u64 0, .int .i64 0, .int .i64 0] 111) := ⟨_, rfl⟩
   have HVb : Hid (VoidG Wb (.pointer (some ⟨Wa.heap.size, 0, none⟩)) ∧ Below Wa.heap.size Wa Wb) := Lib.hid (by rw [hWb]; exact ⟨VoidG.zero Wa _, alloc_below _ _⟩)
   go_cut [7] (fun v wx => ∃ (bl : Nat), v = .slice (some ⟨bl, 0, none⟩) 5 5 ∧ VLG wx Wa.heap.size v 5 ∧ Below Wa.heap.size Wa wx)
   case first =>
    go_wp2_with fail
    rw [← hWb]
    clear hWb
    refine (HN1.out _).mono ?_
    rintro e w2 ⟨X1, rfl, b2, -, v1⟩
    have H2 := Lib.hid (And.intro (HVb.out.2.trans (b2.mono HVb.out.2.size)) (And.intro (HVb.out.1.below b2) v1))
    clear b2 v1 HVb
    go_wp2_with fail
    refine (HN2.out _).mono ?_
    rintro e w3 ⟨X2, rfl, b3, -, v2⟩
    have H3 := Lib.hid (And.intro (H2.out.1.trans (b3.mono H2.out.1.size)) (And.intro (H2.out.2.1.below b3) (And.intro (H2.out.2.2.below b3) v2)))
    clear b3 v2 H2
    go_wp2_with fail
    refine (HN3.out _).mono ?_
    rintro e w4 ⟨X3, rfl, b4, -, v3⟩
    have H4 := Lib.hid (And.intro (H3.out.1.trans (b4.mono H3.out.1.size)) (And.intro (H3.out.2.1.below b4) (And.intro (H3.out.2.2.1.below b4) (And.intro (H3.out.2.2.2.below b4) v3))))
    clear b4 v3 H3
    go_wp2_with fail
    go_meet
    exact ⟨_, rfl, VLG.lit H4.out.1.size H4.out.2.1 H4.out.2.2.1 H4.out.2.2.2.1 H4.out.2.2.2.2, H4.out.1.trans ((alloc_below w4 _).mono H4.out.1.size)⟩
   obtain ⟨bl, rfl, hVL, hbc⟩ := hcut
   obtain ⟨xs, hown, hxs⟩ := hVL.ex
   have HOW := Lib.hid hown
   have HXS := Lib.hid hxs
   have HVL := Lib.hid hVL
   have HBc := Lib.hid hbc
   have HGL : Hid (Wa.heap.size ≤ bl) := Lib.hid (hown.lt bl rfl).1
   clear hVL hbc hown hxs HN1 HN2 HN3 HVb
   obtain ⟨Wc, hWc⟩ : ∃ W, W = wc := ⟨_, rfl⟩
   rw [← hWc] at HOW HXS HVL HBc ⊢
   clear hWc
   go_upto_region 6 with fail
   go_cut [31] (fun v wx => v = .bool (!decide (0 ≤ t ∧ t < 64)) ∧ Wc = wx)
   case first =>
    have hc : t < 0 ∨ (¬ t < 0 ∧ 64 ≤ t) ∨ (¬ t < 0 ∧ ¬ 64 ≤ t) := by omega
    rcases hc with d3 | ⟨d3, d4⟩ | ⟨d3, d4⟩
    · have dd : decide (0 ≤ t ∧ t < 64) = false := decide_eq_false (by omega)
      go_wp2_with fail
      go_meet
      exact ⟨by rw [dd]; rfl, rfl⟩
    · have dd : decide (0 ≤ t ∧ t < 64) = false := decide_eq_false (by omega)
      go_wp2_with fail
      go_meet
      exact ⟨by rw [dd]; rfl, rfl⟩
    · have dd : decide (0 ≤ t ∧ t < 64) = true := decide_eq_true (by omega)
      go_wp2_with fail
      go_meet
      exact ⟨by rw [dd]; rfl, rfl⟩
   obtain ⟨rfl, rfl⟩ := hcut
   go_upto_if 31 with fail
   go_cut [7] (fun v wx => ∃ (gl n cp : Nat), v = .slice (some ⟨gl, 0, none⟩) n cp ∧ (5 ≤ n ∧ n ≤ 6) ∧ VLG wx Wa.heap.size v n ∧ Below Wa.heap.size Wa wx)
   case first =>
    by_cases ht : 0 ≤ t ∧ t < 64
    · rw [decide_eq_true ht]
      clear ht
      go_wp2_with fail
      go_meet
      exact ⟨bl, 5, 5, rfl, by decide, HVL.out, HBc.out⟩
    · have HNT := Lib.hid (fun W => HN4.out W ht)
      rw [decide_eq_false ht]
      obtain ⟨i0', hi, hi0, hi1, hi2⟩ := info_parts infoGpt
      have HI := Lib.hid (And.intro hi (And.intro hi0 (And.intro hi1 hi2)))
      clear ht hi hi0 hi1 hi2
      iterate 1
       go_wp2_with fail
       refine (HNT.out _).mono ?_
       rintro e W7 ⟨X4, rfl, hb7, -, v4⟩
       have HO7 := Lib.hid (ownsRow_below HOW.out hb7)
       have hBW : Wa.heap.size ≤ W7.heap.size := Nat.le_trans HBc.out.size hb7.size
       have HX7 := Lib.hid (fun y (hy : y ∈ xs) => And.intro ((HXS.out y hy).1.below hb7) (HXS.out y hy).2)
       have H7 := Lib.hid (And.intro hb7 v4)
       clear hb7 v4
       go_wp2_with (at_builtin; refine wpList_append_lies (W7.alloc (.cells #[.pointer (some ⟨X4, 0, none⟩)] 59)) rfl _ _ 112 rfl Wa.heap.size 59 i0' (.pointer none) 1 8 Tryz.underlying112 HI.out.1 HI.out.2.1 HI.out.2.2.1 HI.out.2.2.2 rfl (by decide) (.slice (some ⟨bl, 0, none⟩) 5 5) 5 xs rfl (HO7.out.alloc _) ⟨W7.heap.size, 0, none⟩ 1 1 [.pointer (some ⟨X4, 0, none⟩)] rfl rfl (alloc_cells W7 [.pointer (some ⟨X4, 0, none⟩)] _ W7.heap.size rfl) (by simp [Value.oneCell']) (by decide) (by unfold maxLen; omega) (by omega) (by have := hBW; simp; omega) (W7.heap.size + 1) (by simp) ?_; intro gg cap Wz hownz hgr hat hgl; have HZ := Lib.hid (And.intro hownz (And.intro hgr (And.intro hat hgl))); clear hownz hgr hat hgl)
       obtain ⟨hz1, hz2, hz3, hz4⟩ := HZ.out
       have hb8 := alloc_below W7 (.cells #[.pointer (some ⟨X4, 0, none⟩)] 59)
       have hB67 := H7.out.1.trans (hb8.mono H7.out.1.size)
       have hx4 : VoidG W7 (.pointer (some ⟨X4, 0, none⟩)) := H7.out.2
       have hne : ∀ b, (Value.slice (some ⟨bl, 0, none⟩) 5 5).ownBlock = some b → (Value.pointer (some ⟨X4, 0, none⟩)) ≠ .pointer (some ⟨b, 0, none⟩) := VLG.sep HO7.out (by omega) (fun y hy => (HX7.out y hy).1) hx4
       have hVL := VLG.step (w := W7.alloc (.cells #[.pointer (some ⟨X4, 0, none⟩)] 59)) (fun y hy => ⟨(HX7.out y hy).1.below hb8, (HX7.out y hy).2⟩) (hx4.below hb8) hne hz1 hz2 (hz3.imp (fun e => e) fun e => by simp; omega)
       have hW : Wrote (fun k => k = bl) (W7.alloc (.cells #[.pointer (some ⟨X4, 0, none⟩)] 59)) Wz := (Wrote.refl _ _).grown hz2 fun k hk _ => by simpa [Value.ownBlock] using hk.symm
       have hbz : Below Wa.heap.size Wa Wz := (HBc.out.trans (hB67.mono HBc.out.size)).trans (hW.below (fun k _ hk => by rw [hk]; exact HGL.out) (Nat.le_trans hBW hb8.size))
       have HF := Lib.hid (And.intro hVL hbz)
       clear hz1 hz2 hz3 hz4 hb8 hB67 hx4 hne hVL hW hbz HZ
       go_wp2_with fail
       go_meet
       exact ⟨gg, 5 + 1, cap, rfl, by omega, HF.out.1, HF.out.2⟩
   obtain ⟨gl, n, cp, rfl, ⟨hn0, hn5⟩, hVL8, hb8⟩ := hcut
   have HVL8 := Lib.hid hVL8
   have HB8 := Lib.hid hb8
   clear hVL8 hb8 HOW HXS HVL HBc HGL
   obtain ⟨W8, hW8⟩ : ∃ W, W = wc := ⟨_, rfl⟩
   rw [← hW8] at HVL8 HB8 ⊢
   clear hW8
   go_wp2_with fail
   refine (HKO.out _).mono ?_
   rintro e w9 ⟨rfl, rfl⟩
   go_upto_if 39 with fail
   go_cut [7] (fun v wx => ∃ (gl2 n2 cp2 : Nat), v = .slice (some ⟨gl2, 0, none⟩) n2 cp2 ∧ n2 ≤ 7 ∧ VLG wx Wa.heap.size v n2 ∧ Below Wa.heap.size Wa wx)
   case first =>
    cases ok with
    | true =>
      go_wp2_with fail
      go_meet
      exact ⟨gl, n, cp, rfl, by omega, HVL8.out, HB8.out⟩
    | false =>
      have HNT := Lib.hid (fun W => HN5.out W rfl)
      obtain ⟨ys, hown, hys⟩ := HVL8.out.ex
      have HOW9 := Lib.hid hown
      have HYS := Lib.hid hys
      have HGL : Hid (Wa.heap.size ≤ gl) := Lib.hid (hown.lt gl rfl).1
      obtain ⟨i0', hi, hi0, hi1, hi2⟩ := info_parts infoGpt
      have HI := Lib.hid (And.intro hi (And.intro hi0 (And.intro hi1 hi2)))
      clear hown hys hi hi0 hi1 hi2
      iterate 1
       go_wp2_with fail
       refine (HNT.out _).mono ?_
       rintro e W7 ⟨X4, rfl, hb7, -, v4⟩
       have HO7 := Lib.hid (ownsRow_below HOW9.out hb7)
       have hBW : Wa.heap.size ≤ W7.heap.size := Nat.le_trans HB8.out.size hb7.size
       have HX7 := Lib.hid (fun y (hy : y ∈ ys) => And.intro ((HYS.out y hy).1.below hb7) (HYS.out y hy).2)
       have H7 := Lib.hid (And.intro hb7 v4)
       clear hb7 v4
       go_wp2_with (at_builtin; refine wpList_append_lies (W7.alloc (.cells #[.pointer (some ⟨X4, 0, none⟩)] 59)) rfl _ _ 112 rfl Wa.heap.size 59 i0' (.pointer none) 1 8 Tryz.underlying112 HI.out.1 HI.out.2.1 HI.out.2.2.1 HI.out.2.2.2 rfl (by decide) (.slice (some ⟨gl, 0, none⟩) n cp) n ys rfl (HO7.out.alloc _) ⟨W7.heap.size, 0, none⟩ 1 1 [.pointer (some ⟨X4, 0, none⟩)] rfl rfl (alloc_cells W7 [.pointer (some ⟨X4, 0, none⟩)] _ W7.heap.size rfl) (by simp [Value.oneCell']) (by decide) (by unfold maxLen; omega) (by omega) (by have := hBW; simp; omega) (W7.heap.size + 1) (by simp) ?_; intro gg cap Wz hownz hgr hat hgl; have HZ := Lib.hid (And.intro hownz (And.intro hgr (And.intro hat hgl))); clear hownz hgr hat hgl)
       obtain ⟨hz1, hz2, hz3, hz4⟩ := HZ.out
       have hb8 := alloc_below W7 (.cells #[.pointer (some ⟨X4, 0, none⟩)] 59)
       have hB67 := H7.out.1.trans (hb8.mono H7.out.1.size)
       have hx4 : VoidG W7 (.pointer (some ⟨X4, 0, none⟩)) := H7.out.2
       have hne : ∀ b, (Value.slice (some ⟨gl, 0, none⟩) n cp).ownBlock = some b → (Value.pointer (some ⟨X4, 0, none⟩)) ≠ .pointer (some ⟨b, 0, none⟩) := VLG.sep HO7.out (by omega) (fun y hy => (HX7.out y hy).1) hx4
       have hVL := VLG.step (w := W7.alloc (.cells #[.pointer (some ⟨X4, 0, none⟩)] 59)) (fun y hy => ⟨(HX7.out y hy).1.below hb8, (HX7.out y hy).2⟩) (hx4.below hb8) hne hz1 hz2 (hz3.imp (fun e => e) fun e => by simp; omega)
       have hW : Wrote (fun k => k = gl) (W7.alloc (.cells #[.pointer (some ⟨X4, 0, none⟩)] 59)) Wz := (Wrote.refl _ _).grown hz2 fun k hk _ => by simpa [Value.ownBlock] using hk.symm
       have hbz : Below Wa.heap.size Wa Wz := (HB8.out.trans (hB67.mono HB8.out.size)).trans (hW.below (fun k _ hk => by rw [hk]; exact HGL.out) (Nat.le_trans hBW hb8.size))
       have HF := Lib.hid (And.intro hVL hbz)
       clear hz1 hz2 hz3 hz4 hb8 hB67 hx4 hne hVL hW hbz HZ
       go_wp2_with fail
       go_meet
       exact ⟨gg, n + 1, cap, rfl, by omega, HF.out.1, HF.out.2⟩
   obtain ⟨gl2, n2, cp2, rfl, hn6, hVLf, hbf⟩ := hcut
   obtain ⟨zs, hown, hzs⟩ := hVLf.ex
   have HBf := Lib.hid hbf
   have y0 := (hbf.cell (p := ⟨w1.heap.size, 0, none⟩) HPB.out).trans p0
   have y1 := (hbf.cell (p := ⟨w1.heap.size, 1, none⟩) HPB.out).trans p1
   have hNy : w1.heap.size < wc.heap.size := Nat.lt_of_lt_of_le HPB.out hbf.size
   have hgl := (hown.lt gl2 rfl).2
   have HVz : Hid (∀ j, j < n2 → ∃ v, wc.cell? ⟨gl2, j, none⟩ = some v ∧ VoidG wc v) := Lib.hid (fun j hj => by
    have hl : zs.length = n2 * 1 := hown.1
    have hj2 : j < zs.length := by omega
    have hc := hown.cells (g := gl2) rfl j _ (List.getElem?_eq_getElem hj2)
    rw [show (⟨gl2, 0, none⟩ : Addr).add j = ⟨gl2, j, none⟩ by unfold Addr.add; split <;> simp_all] at hc
    exact ⟨zs[j], hc, (hzs _ (List.getElem_mem hj2)).1⟩)
   clear hVLf hown hzs hbf HVL8 HB8 HN4 HN5 HKO
   go_wp2_with fail
   go_loopw [8] (fun i wr => ∃ k : Nat, k ≤ n2 ∧ i = .int .i64 k ∧ Below wc.heap.size wc wr) (fun i _ => n2 - (intOf i).toNat)
   case atStart => exact ⟨0, Nat.zero_le _, rfl, Below.refl _ _⟩
   case round =>
    obtain ⟨k, hk, rfl, hb⟩ := hrel
    have HBr := Lib.hid hb
    have x0 := (hb.cell (p := ⟨w1.heap.size, 0, none⟩) hNy).trans y0
    have x1 := (hb.cell (p := ⟨w1.heap.size, 1, none⟩) hNy).trans y1
    have hNr : w1.heap.size < wr.heap.size := Nat.lt_of_lt_of_le hNy hb.size
    by_cases hk2 : k < n2
    · obtain ⟨v, hvc, hvv⟩ := HVz.out k hk2
      have lc := (hb.cell (p := ⟨gl2, k, none⟩) hgl).trans hvc
      have HV := Lib.hid (hvv.below hb)
      obtain ⟨a, rfl⟩ := hvv.ptr
      have hbr : gl2 < wr.heap.size := Nat.lt_of_lt_of_le hgl hb.size
      have hki : (k : Int) < n2 := by omega
      clear hvc hvv hb y0 y1
      go_wp2_with fail
      refine (c_vgGot HV.out).mono ?_
      rintro e w2 ⟨rfl, hb2⟩
      unfold ganV it0
      have V2 := Lib.hid (HV.out.below hb2)
      have z0 := (hb2.cell (p := ⟨w1.heap.size, 0, none⟩) hNr).trans x0
      have zc := (hb2.cell (p := ⟨gl2, k, none⟩) hbr).trans lc
      have HB2 := Lib.hid (HBr.out.trans (hb2.mono HBr.out.size))
      have hN2 : w1.heap.size < w2.heap.size := Nat.lt_of_lt_of_le hNr hb2.size
      have hb2r : gl2 < w2.heap.size := Nat.lt_of_lt_of_le hbr hb2.size
      clear hb2 x0 x1 lc HV
      go_upto_region 14 with fail
      obtain ⟨W3, hW3⟩ : ∃ W3, W3 = w2.alloc (.cells #[.int .u8 0, .int .u64 0, .string ⟨#[]⟩, .string ⟨#[]⟩, .int .u32 0, .int .u64 0, .int .i64 0, .int .i64 0] 34) := ⟨_, rfl⟩
      have b3 : Below w2.heap.size w2 W3 := by rw [hW3]; exact alloc_below _ _
      have V3 := Lib.hid (V2.out.below b3)
      have x0 := (b3.cell (p := ⟨w1.heap.size, 0, none⟩) hN2).trans z0
      have xc := (b3.cell (p := ⟨gl2, k, none⟩) hb2r).trans zc
      have hcA : ∀ j u, [.int .u8 0, .int .u64 0, .string ⟨#[]⟩, .string ⟨#[]⟩, .int .u32 0, .int .u64 0, .int .i64 0, .int .i64 0][j]? = some u → W3.cell? ⟨w2.heap.size, j, none⟩ = some u := fun j u hu => by rw [hW3]; exact cell_newA w2 #[.int .u8 0, .int .u64 0, .string ⟨#[]⟩, .string ⟨#[]⟩, .int .u32 0, .int .u64 0, .int .i64 0, .int .i64 0] _ _ rfl j u (by simpa using hu)
      have e0 := hcA 0 _ rfl
      have e1 := hcA 1 _ rfl
      have e2 := hcA 2 _ rfl
      have e3 := hcA 3 _ rfl
      have e4 := hcA 4 _ rfl
      have e5 := hcA 5 _ rfl
      have e6 := hcA 6 _ rfl
      have e7 := hcA 7 _ rfl
      have HB3 := Lib.hid (HB2.out.trans (b3.mono HB2.out.size))
      have hN3 : w1.heap.size < W3.heap.size := Nat.lt_of_lt_of_le hN2 b3.size
      have hb3r : gl2 < W3.heap.size := Nat.lt_of_lt_of_le hb2r b3.size
      have hA3 : w2.heap.size < W3.heap.size := by rw [hW3]; simp
      rw [← hW3]
      clear hW3 b3 z0 zc hN2 hb2r hNr hbr V2 hcA
      have HVv := Lib.hid (fun e => V3.out.below (via_below W3 e))
      refine wp_region_via (by kernel_rfl) (by kernel_rfl) ?_
      repeat (go_big_quiet_step ((first
       | (go_at_call 24; exact viaS (c_vgOver (HVv.out _)))
       | (go_at_call 40; exact viaS (c_vgStep _ (HVv.out _))))))
      refine wpQuiet_nil ?_
      rintro _ ⟨e, rfl⟩
      have HB4 := Lib.hid (HB3.out.trans ((via_below W3 e).mono HB3.out.size))
      go_wp2_with fail
      go_roundw
      case rel => exact ⟨k + 1, by omega, by go_num, HB4.out⟩
      case measure => simp [intOf]; omega
    · obtain rfl : k = n2 := by omega
      have HBx := Lib.hid (HBf.out.trans (hb.mono HBf.out.size))
      clear hb y0 y1
      go_wp2_with fail
      refine (HNO.out wr).mono ?_
      rintro e W8 ⟨X, rfl, G8, e8, h8⟩
      have hb8 := ext0_belowS e8
      have hid : GIdle W8 X false := h8.idle
      have HS := Lib.hid (c_GtStepNil hid)
      have HO := Lib.hid (c_GtOver hid)
      have z0 := (hb8.cell (p := ⟨w1.heap.size, 0, none⟩) hNr).trans x0
      have z1 := (hb8.cell (p := ⟨w1.heap.size, 1, none⟩) hNr).trans x1
      have HBy := Lib.hid (HBx.out.trans (hb8.mono HBx.out.size))
      have HSB := Lib.hid (HSA.out W8 (HBa.out.2.trans (HBy.out.mono HBa.out.2.size)))
      clear hb8 hid e8 h8 x0 x1 HNO HSA
      go_wp2_with fail
      refine HS.out.mono ?_
      rintro e w' ⟨rfl, rfl⟩
      go_wp2_with fail
      refine HO.out.mono ?_
      rintro e w' ⟨rfl, rfl⟩
      go_wp2_with fail
      refine HSB.out.mono ?_
      rintro e Wf ⟨rfl, hbf⟩
      have HBz := Lib.hid (HBy.out.trans (hbf.mono HBy.out.size))
      clear hbf
      go_wp2_with fail
      refine (c_lives28 Wf).mono ?_
      rintro e W10 ⟨rfl, hb10⟩
      go_wp2_with fail
      go_ret
      exact ⟨rfl, HBa.out.1.trans ((HBz.out.trans (hb10.mono HBz.out.size)).mono HBa.out.1.size)⟩
end
end Go.Proofs.YthpedifjclofoaaGreat
