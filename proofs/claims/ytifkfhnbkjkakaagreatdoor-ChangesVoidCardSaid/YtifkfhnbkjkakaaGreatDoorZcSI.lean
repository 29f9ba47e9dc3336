/- Layer 25: StoresVoid. Layer 26: ChangesVoid, but for Begin and SameAll. -/
import Derived.Test.YtifkfhnbkjkakaaGreatDoorZcSeY
import Derived.BigQuiet
import Derived.Deep.QuietTactic
import Derived.Test.YtifkfhnbkjkakaaGreatDoorZcCgC
namespace Go.Proofs.YtifkfhnbkjkakaaGreatDoor
set_option linter.unusedSimpArgs false
set_option linter.unusedVariables false
set_option maxHeartbeats 8000000
set_option maxRecDepth 100000
section
open Go.RowKit
def BeginS (fv : Value) : Prop := ∀ W : World, Calls Tryz.prog 21 #[fv] W fun e w' => ∃ p q : Nat, e = .returned (.agg #[.pointer (some ⟨p, 0, none⟩), .pointer (some ⟨q, 0, none⟩)]) ∧ Below W.heap.size W w' ∧ ∀ W2, Below w'.heap.size w' W2 → Calls Tryz.prog 27 #[.agg #[.pointer (some ⟨p, 0, none⟩), .pointer (some ⟨q, 0, none⟩)]] W2 fun e w3 => e = .returned (.bool true) ∧ Below W2.heap.size W2 w3
end
section
open Go.RowKit
theorem infoCpt : (Tryz.prog.info? 78).map (fun i => (i.zero, i.size, i.bytes)) = some (some (.pointer none), 1, 8) := by kernel_rfl
structure VLC (w : World) (base : Nat) (v : Value) (n : Nat) : Prop where
 ex : ∃ xs : List Value, w.ownsRow base 78 1 v n xs ∧ ∀ x ∈ xs, VoidC w x ∧ ∀ b, v.ownBlock = some b → x ≠ .pointer (some ⟨b, 0, none⟩)
def c00 : Clm := ⟨0, ⟨#[]⟩, ⟨#[]⟩, 0, 0, 0, 0⟩
def zChC : List Value := chCs c00 .nilIface .nilFunc chTl0
theorem VoidC.zero (w : World) (ty : TypeId) : VoidC (w.alloc (.cells zChC.toArray ty)) (.pointer (some ⟨w.heap.size, 0, none⟩)) := by
 have h : ∀ j u, zChC[j]? = some u → (w.alloc (.cells zChC.toArray ty)).cell? ⟨w.heap.size, j, none⟩ = some u := fun j u hu => cell_newA w zChC.toArray ty _ rfl j u (by simpa using hu)
 exact .inr ⟨_, rfl, h 7 _ rfl, h 19 _ rfl, h 20 _ rfl, h 21 _ rfl, h 22 _ rfl, h 23 _ rfl, h 24 _ rfl, h 25 _ rfl, h 26 _ rfl, h 27 _ rfl, h 28 _ rfl⟩
theorem c_NewChangeV2 (t : Int) (c : Clm) (hbad : (decide (0 ≤ t ∧ t < 64) && chMay c) = false) (hz : c.key.size ≤ maxLen) (w : World) :
 Calls Tryz.prog 22 #[.int .i64 t, clV c] w fun e w' => ∃ X, e = .returned (.pointer (some ⟨X, 0, none⟩)) ∧ Below w.heap.size w w' ∧ VoidC w' (.pointer (some ⟨X, 0, none⟩)) ∧ w.heap.size ≤ X := by
 refine (c_NewChangeG (k := 10) (O := OZ) t false hbad.symm hz (by decide) (fun j hj => absurd rfl hj)).mono ?_
 rintro e w' ⟨X, rfl, G, e1, o1⟩
 have o1 : Ob w' G 10 X (chCs c .nilIface .nilFunc chTl0) := o1
 refine ⟨X, rfl, ext0_belowS e1, VoidC.of_ob o1, ?_⟩
 by_cases h : X < w.heap.size
 · have h1 := e1.lo X h
   have h2 := o1.o
   rw [h1] at h2
   cases h2
 · omega
theorem VoidC.ne {w : World} {v : Value} (h : VoidC w v) {b : Nat} (hb : w.heap.size ≤ b) : v ≠ .pointer (some ⟨b, 0, none⟩) := by
 rcases h with rfl | ⟨X, rfl, h, -⟩
 · intro e; cases e
 · intro e
   cases e
   have := blk_lt h
   dsimp only at this
   omega
theorem VLC.lit {w : World} {base : Nat} {z a b c d : Value} (hb : base ≤ w.heap.size) (hz : VoidC w z) (ha : VoidC w a) (h2 : VoidC w b) (h3 : VoidC w c) (h4 : VoidC w d) : VLC (w.alloc (.cells #[z, .pointer none, a, b, c, d] 78)) base (.slice (some ⟨w.heap.size, 0, none⟩) 6 6) 6 := by
 have hw := alloc_below w (.cells #[z, .pointer none, a, b, c, d] 78)
 refine ⟨_, World.ownsRow_lit (base := base) (e := 78) (size := 1) w #[z, .pointer none, a, b, c, d] 6 hb (by unfold maxLen; omega) (by simp), fun x hx => ?_⟩
 have hx' : x = z ∨ x = .pointer none ∨ x = a ∨ x = b ∨ x = c ∨ x = d := by simpa using hx
 have hne : ∀ v, VoidC w v → VoidC (w.alloc (.cells #[z, .pointer none, a, b, c, d] 78)) v ∧ ∀ b', (Value.slice (some ⟨w.heap.size, 0, none⟩) 6 6).ownBlock = some b' → v ≠ .pointer (some ⟨b', 0, none⟩) := by
  intro v hv
  refine ⟨hv.below hw, fun b' hb' => hv.ne ?_⟩
  have h9 : w.heap.size = b' := by simpa [Value.ownBlock] using hb'
  omega
 rcases hx' with rfl | rfl | rfl | rfl | rfl | rfl
 · exact hne _ hz
 · exact hne _ (.inl rfl)
 · exact hne _ ha
 · exact hne _ h2
 · exact hne _ h3
 · exact hne _ h4
theorem VoidC.wrote {w w' : World} {S : Nat → Prop} {v : Value} (h : VoidC w v) (hw : Wrote S w w') (hn : ∀ b, v = .pointer (some ⟨b, 0, none⟩) → ¬ S b) : VoidC w' v := by
 rcases h with rfl | ⟨X, rfl, h⟩
 · exact .inl rfl
 · have hl := blk_lt h.1
   dsimp only at hl
   have k : ∀ j u, w.cell? ⟨X, j, none⟩ = some u → w'.cell? ⟨X, j, none⟩ = some u := fun j u hu => (hw.cell (p := ⟨X, j, none⟩) hl (hn X rfl)).trans hu
   obtain ⟨a, c, d, e, f, g, i, j, l, m, n⟩ := h
   exact .inr ⟨X, rfl, k _ _ a, k _ _ c, k _ _ d, k _ _ e, k _ _ f, k _ _ g, k _ _ i, k _ _ j, k _ _ l, k _ _ m, k _ _ n⟩
theorem VLC.step {w w' : World} {base n g cap : Nat} {v x : Value} {xs : List Value} (hxs : ∀ y ∈ xs, VoidC w y ∧ ∀ b, v.ownBlock = some b → y ≠ .pointer (some ⟨b, 0, none⟩)) (hx : VoidC w x) (hxb : ∀ b, v.ownBlock = some b → x ≠ .pointer (some ⟨b, 0, none⟩)) (hown : w'.ownsRow base 78 1 (.slice (some ⟨g, 0, none⟩) (n + 1) cap) (n + 1) (xs ++ [x])) (hgr : w.grownBy w' v.ownBlock) (hat : v.ownBlock = some g ∨ w.heap.size ≤ g) : VLC w' base (.slice (some ⟨g, 0, none⟩) (n + 1) cap) (n + 1) := by
 have hW : Wrote (fun k => v.ownBlock = some k) w w' := (Wrote.refl _ _).grown hgr fun k hk _ => hk
 refine ⟨_, hown, fun y hy => ?_⟩
 have hy2 : VoidC w y ∧ ∀ b, v.ownBlock = some b → y ≠ .pointer (some ⟨b, 0, none⟩) := by
  rcases List.mem_append.1 hy with h | h
  · exact hxs y h
  · obtain rfl : y = x := by simpa using h
    exact ⟨hx, hxb⟩
 refine ⟨hy2.1.wrote hW fun b hb hk => hy2.2 b hk hb, fun b hb => ?_⟩
 have hgb : g = b := by simpa [Value.ownBlock] using hb
 subst hgb
 rcases hat with h | h
 · exact hy2.2 _ h
 · exact hy2.1.ne h
theorem VLC.below {w w' : World} {base n : Nat} {v : Value} (h : VLC w base v n) (hb : Below w.heap.size w w') : VLC w' base v n := by
 obtain ⟨xs, h1, h2⟩ := h.ex
 exact ⟨xs, ownsRow_below h1 hb, fun x hx => ⟨(h2 x hx).1.below hb, (h2 x hx).2⟩⟩
section
theorem w_ChangesVoidB (hBG : BeginS (.agg #[.int .i64 0, .int .i64 0, .int .i64 0, .int .i64 0, .int .i64 0, .bool false, .slice none 0 0, .slice none 0 0, .slice none 0 0, .int .i64 0])) (t verb : Int) (key val : ByteArray) (fl exp id by_ : Int) (w : World) (hV : Va w OZ) (t0 : -9223372036854775808 ≤ t) (t1 : t ≤ 9223372036854775807) (hkz : key.size ≤ maxLen) :
 Calls Tryz.prog 5 #[.int .i64 t, .agg #[.int .u8 verb, .string key, .string val, .int .u32 fl, .int .i64 exp, .int .u64 id, .int .u64 by_]] w fun e w' => e = .returned (.bool true) ∧ Below w.heap.size w w' := by
 have HBg := Lib.hid hBG
 clear hBG
 have HLV := Lib.hid (fun W (hb : Below w.heap.size w W) => c_lives26 W (hV.below hb))
 clear hV
 obtain ⟨c, hc⟩ : ∃ c : Clm, c = ⟨verb, key, val, fl, exp, id, by_⟩ := ⟨_, rfl⟩
 have HN1 := Lib.hid (fun W => c_NewChangeV2 (-1) ⟨7, ⟨#[97]⟩, ⟨#[]⟩, 0, 0, 0, 0⟩ (by decide +kernel) (by decide) W)
 have HN2 := Lib.hid (fun W => c_NewChangeV2 64 ⟨9, ⟨#[97]⟩, ⟨#[]⟩, 0, 0, 0, 0⟩ (by decide +kernel) (by decide) W)
 have HN3 := Lib.hid (fun W => c_NewChangeV2 3 ⟨3, ⟨#[97]⟩, ⟨#[]⟩, 0, 0, 0, 0⟩ (by decide +kernel) (by decide) W)
 have HN4 := Lib.hid (fun W => c_NewChangeV2 3 ⟨8, ⟨#[97, 32, 98]⟩, ⟨#[]⟩, 0, 0, 0, 0⟩ (by decide +kernel) (by decide) W)
 have HN5 := Lib.hid (fun W (h : (decide (0 ≤ t ∧ t < 64) && chMay c) = false) => c_NewChangeV2 t c h (by rw [hc]; exact hkz) W)
 have HRN := Lib.hid (fun W => c_rNew26 t c W t0 t1 (by rw [hc]; exact hkz))
 have HNO := Lib.hid (fun W => c_NewChange (w := W) (O := OZ) (k := 10) (c := ⟨10, ⟨#[97]⟩, ⟨#[]⟩, 0, 0, 0, 0⟩) 5 (by decide) (by decide +kernel) (by decide) (by decide) (fun j hj => absurd rfl hj))
 have hcv : clV c = .agg #[.int .u8 verb, .string key, .string val, .int .u32 fl, .int .i64 exp, .int .u64 id, .int .u64 by_] := by rw [hc]; rfl
 rw [hcv] at HN5 HRN
 unfold clV at HN1 HN2 HN3 HN4 HNO
 dsimp only at HN1 HN2 HN3 HN4 HNO
 obtain ⟨ok, hok⟩ : ∃ b, b = (decide (0 ≤ t ∧ t < 64) && chMay c) := ⟨_, rfl⟩
 rw [← hok] at HRN HN5
 clear hcv hc hok t0 t1
 obtain ⟨sm, hw⟩ : ∃ sm, IntKind.i64.wrap ((key.size : Int) + val.size) = sm := ⟨_, rfl⟩
 clear hkz
 by_cases hs2 : 3000 < sm
 · go_enter Tryz.func5, Tryz.ntmps5
   go_wp2_with fail
   have hb0 := alloc_below w (.cells #[.int .u8 verb, .string key, .string val, .int .u32 fl, .int .i64 exp, .int .u64 id, .int .u64 by_] 26)
   refine (HLV.out _ hb0).mono ?_
   rintro e w9 ⟨rfl, hb9⟩
   go_wp2_with fail
   go_ret
   exact ⟨rfl, hb0.trans (hb9.mono (by simp))⟩
 · go_enter Tryz.func5, Tryz.ntmps5
   go_wp2_with fail
   unfold BeginS at HBg
   refine (HBg.out _).mono ?_
   rintro e w1 ⟨p, q, rfl, hb1, hSA⟩
   have hb0 := alloc_below w (.cells #[.int .u8 verb, .string key, .string val, .int .u32 fl, .int .i64 exp, .int .u64 id, .int .u64 by_] 26)
   have k0 : ∀ j u, [.int .u8 verb, .string key, .string val, .int .u32 fl, .int .i64 exp, .int .u64 id, .int .u64 by_][j]? = some u → (w.alloc (.cells #[.int .u8 verb, .string key, .string val, .int .u32 fl, .int .i64 exp, .int .u64 id, .int .u64 by_] 26)).cell? ⟨w.heap.size, j, none⟩ = some u := fun j u hu => cell_newA w #[.int .u8 verb, .string key, .string val, .int .u32 fl, .int .i64 exp, .int .u64 id, .int .u64 by_] _ _ rfl j u (by simpa using hu)
   obtain ⟨Wa, hWa⟩ : ∃ Wa, Wa = w1.alloc (.cells #[.pointer (some ⟨p, 0, none⟩), .pointer (some ⟨q, 0, none⟩)] 62) := ⟨_, rfl⟩
   have ba : Below w1.heap.size w1 Wa := by rw [hWa]; exact alloc_below _ _
   have hwa : Wa.heap.size = w1.heap.size + 1 := by rw [hWa]; simp
   have p0 : Wa.cell? ⟨w1.heap.size, 0, none⟩ = some (.pointer (some ⟨p, 0, none⟩)) := by rw [hWa]; simp
   have p1 : Wa.cell? ⟨w1.heap.size, 1, none⟩ = some (.pointer (some ⟨q, 0, none⟩)) := by rw [hWa]; simp
   have hcl : w.heap.size < w1.heap.size := Nat.lt_of_lt_of_le (by simp) hb1.size
   have k1 : ∀ j u, [.int .u8 verb, .string key, .string val, .int .u32 fl, .int .i64 exp, .int .u64 id, .int .u64 by_][j]? = some u → Wa.cell? ⟨w.heap.size, j, none⟩ = some u := fun j u hu => (ba.cell (p := ⟨w.heap.size, j, none⟩) hcl).trans ((hb1.cell (p := ⟨w.heap.size, j, none⟩) (by simp)).trans (k0 j u hu))
   have HBa : Hid (Below w.heap.size w Wa ∧ Below w1.heap.size w1 Wa) := Lib.hid ⟨(hb0.trans (hb1.mono (by simp))).trans (ba.mono (by omega)), ba⟩
   have HSA := Lib.hid hSA
   have HCL := Lib.hid k1
   obtain ⟨cb, hcb⟩ : ∃ n, n = w.heap.size := ⟨_, rfl⟩
   rw [← hcb] at hcl HCL
   have HPB : Hid (w1.heap.size < Wa.heap.size) := Lib.hid (by omega)
   have hcba : Hid (cb < Wa.heap.size) := Lib.hid (by omega)
   have HWA := Lib.hid hwa
   clear hb1 hSA hb0 k0 k1 ba HBg hwa hcl
   go_upto_region 6 with fail
   rw [← hWa, ← hcb]
   clear hWa hcb
   obtain ⟨Wb, hWb⟩ : ∃ W, W = Wa.alloc (.cells #[.int .u8 0, .string ⟨#[]⟩, .string ⟨#[]⟩, .int .u32 0, .int .i64 0, .int .u64 0, .int .u64 0, .nilIface, .nilFunc, .int .i64 0, .int .i64 0, .int .i64 0, .string ⟨#[]⟩, .string ⟨#[]⟩, .int .u32 0, .int .u64 0, .int .i64 0, .int .i64 0, .int .i64 0, .int .u8 0, .int .u64 0, .string ⟨#[]⟩, .string ⟨#[]⟩, .int .u32 0, .int .u64 0, .int .i64 0, .int .i64 0, .int .u64 0, .int .i64 0] 77) := ⟨_, rfl⟩
   have HVb : Hid (VoidC Wb (.pointer (some ⟨Wa.heap.size, 0, none⟩)) ∧ Below Wa.heap.size Wa Wb) := Lib.hid (by rw [hWb]; exact ⟨VoidC.zero Wa _, alloc_below _ _⟩)
   rw [← hWb]
   clear hWb
   go_cut [8] (fun v wx => ∃ (bl : Nat), v = .slice (some ⟨bl, 0, none⟩) 6 6 ∧ VLC wx Wa.heap.size v 6 ∧ Below Wa.heap.size Wa wx)
   case first =>
    go_wp2_with fail
    refine (HN1.out _).mono ?_
    rintro e w2 ⟨X1, rfl, b2, v1, -⟩
    have H2 := Lib.hid (And.intro (HVb.out.2.trans (b2.mono HVb.out.2.size)) (And.intro (HVb.out.1.below b2) v1))
    clear b2 v1 HVb
    go_wp2_with fail
    refine (HN2.out _).mono ?_
    rintro e w3 ⟨X2, rfl, b3, v2, -⟩
    have H3 := Lib.hid (And.intro (H2.out.1.trans (b3.mono H2.out.1.size)) (And.intro (H2.out.2.1.below b3) (And.intro (H2.out.2.2.below b3) v2)))
    clear b3 v2 H2
    go_wp2_with fail
    refine (HN3.out _).mono ?_
    rintro e w4 ⟨X3, rfl, b4, v3, -⟩
    have H4 := Lib.hid (And.intro (H3.out.1.trans (b4.mono H3.out.1.size)) (And.intro (H3.out.2.1.below b4) (And.intro (H3.out.2.2.1.below b4) (And.intro (H3.out.2.2.2.below b4) v3))))
    clear b4 v3 H3
    go_wp2_with fail
    refine (HN4.out _).mono ?_
    rintro e w5 ⟨X4, rfl, b5, v4, -⟩
    have H5 := Lib.hid (And.intro (H4.out.1.trans (b5.mono H4.out.1.size)) (And.intro (H4.out.2.1.below b5) (And.intro (H4.out.2.2.1.below b5) (And.intro (H4.out.2.2.2.1.below b5) (And.intro (H4.out.2.2.2.2.below b5) v4)))))
    clear b5 v4 H4
    go_wp2_with fail
    go_meet
    rw [← HWA.out]
    exact ⟨_, rfl, VLC.lit H5.out.1.size H5.out.2.1 H5.out.2.2.1 H5.out.2.2.2.1 H5.out.2.2.2.2.1 H5.out.2.2.2.2.2, H5.out.1.trans ((alloc_below w5 _).mono H5.out.1.size)⟩
   obtain ⟨bl, rfl, hVL, hbc⟩ := hcut
   have HVL := Lib.hid hVL
   have HBc := Lib.hid hbc
   clear hVL hbc HN1 HN2 HN3 HN4 HVb
   obtain ⟨Wc, hWc⟩ : ∃ W, W = wc := ⟨_, rfl⟩
   rw [← hWc] at HVL HBc ⊢
   clear hWc
   have HCc := Lib.hid (fun j u (hu : [.int .u8 verb, .string key, .string val, .int .u32 fl, .int .i64 exp, .int .u64 id, .int .u64 by_][j]? = some u) => (HBc.out.cell (p := ⟨cb, j, none⟩) hcba.out).trans (HCL.out j u hu))
   have c0 := HCc.out 0 _ rfl
   have c1 := HCc.out 1 _ rfl
   have c2 := HCc.out 2 _ rfl
   have c3 := HCc.out 3 _ rfl
   have c4 := HCc.out 4 _ rfl
   have c5 := HCc.out 5 _ rfl
   have c6 := HCc.out 6 _ rfl
   go_upto_region 7 with fail
   go_wp2_with fail
   refine (HRN.out _).mono ?_
   rintro e w7 ⟨Y, rfl, hb7, hY⟩
   have HVL7 := Lib.hid (HVL.out.below hb7)
   have HB7 := Lib.hid (HBc.out.trans (hb7.mono HBc.out.size))
   have HC7 := Lib.hid (fun j u (hu : [.int .u8 verb, .string key, .string val, .int .u32 fl, .int .i64 exp, .int .u64 id, .int .u64 by_][j]? = some u) => (HB7.out.cell (p := ⟨cb, j, none⟩) hcba.out).trans (HCL.out j u hu))
   clear hb7 c0 c1 c2 c3 c4 c5 c6 HVL HBc HCc HRN
   obtain ⟨xs, hown, hxs⟩ := HVL7.out.ex
   have HOW := Lib.hid hown
   have HXS := Lib.hid hxs
   have HGL := Lib.hid (hown.lt bl rfl)
   clear hown hxs
   go_upto_if 41 with fail
   go_cut [8] (fun v wx => ∃ (gl2 n2 cp2 : Nat), v = .slice (some ⟨gl2, 0, none⟩) n2 cp2 ∧ n2 ≤ 7 ∧ VLC wx Wa.heap.size v n2 ∧ Below Wa.heap.size Wa wx)
   case first =>
    cases ok with
    | true =>
      have hY : w7.cell? ⟨Y, 0, none⟩ = some (.int .i64 1) := hY
      go_wp2_with fail
      go_meet
      exact ⟨bl, 6, 6, rfl, by decide, HVL7.out, HB7.out⟩
    | false =>
      have hY : w7.cell? ⟨Y, 0, none⟩ = some (.int .i64 0) := hY
      have HNT := Lib.hid (fun W => HN5.out W rfl)
      obtain ⟨i0', hi, hi0, hi1, hi2⟩ := info_parts infoCpt
      have HI := Lib.hid (And.intro hi (And.intro hi0 (And.intro hi1 hi2)))
      clear hi hi0 hi1 hi2
      have c0 := HC7.out 0 _ rfl
      have c1 := HC7.out 1 _ rfl
      have c2 := HC7.out 2 _ rfl
      have c3 := HC7.out 3 _ rfl
      have c4 := HC7.out 4 _ rfl
      have c5 := HC7.out 5 _ rfl
      have c6 := HC7.out 6 _ rfl
      iterate 1
       go_wp2_with fail
       refine (HNT.out _).mono ?_
       rintro e W7 ⟨X4, rfl, hb7, v4, hfr⟩
       have HO7 := Lib.hid (ownsRow_below HOW.out hb7)
       have hBW : Wa.heap.size ≤ W7.heap.size := Nat.le_trans HB7.out.size hb7.size
       have HX7 := Lib.hid (fun y (hy : y ∈ xs) => And.intro ((HXS.out y hy).1.below hb7) (HXS.out y hy).2)
       have H7 := Lib.hid (And.intro hb7 v4)
       have HFR := Lib.hid hfr
       clear hb7 v4 hfr
       go_wp2_with (at_builtin; refine wpList_append_lies (W7.alloc (.cells #[.pointer (some ⟨X4, 0, none⟩)] 78)) rfl _ _ 80 rfl Wa.heap.size 78 i0' (.pointer none) 1 8 Tryz.underlying80 HI.out.1 HI.out.2.1 HI.out.2.2.1 HI.out.2.2.2 rfl (by decide) (.slice (some ⟨bl, 0, none⟩) 6 6) 6 xs rfl (HO7.out.alloc _) ⟨W7.heap.size, 0, none⟩ 1 1 [.pointer (some ⟨X4, 0, none⟩)] rfl rfl (alloc_cells W7 [.pointer (some ⟨X4, 0, none⟩)] _ W7.heap.size rfl) (by simp [Value.oneCell']) (by decide) (by unfold maxLen; omega) (by omega) (by have := hBW; simp; omega) (W7.heap.size + 1) (by simp) ?_; intro gg cap Wz hownz hgr hat hgl; have HZ := Lib.hid (And.intro hownz (And.intro hgr (And.intro hat hgl))); clear hownz hgr hat hgl)
       obtain ⟨hz1, hz2, hz3, hz4⟩ := HZ.out
       have hb8 := alloc_below W7 (.cells #[.pointer (some ⟨X4, 0, none⟩)] 78)
       have hB67 := H7.out.1.trans (hb8.mono H7.out.1.size)
       have hx4 : VoidC W7 (.pointer (some ⟨X4, 0, none⟩)) := H7.out.2
       have hne : ∀ b, (Value.slice (some ⟨bl, 0, none⟩) 6 6).ownBlock = some b → (Value.pointer (some ⟨X4, 0, none⟩)) ≠ .pointer (some ⟨b, 0, none⟩) := fun b hb e => by
        have h1 : bl = b := by simpa [Value.ownBlock] using hb
        have h2 : X4 = b := by simpa using e
        have h3 := HFR.out
        have h4 := HGL.out.2
        omega
       have hVL := VLC.step (w := W7.alloc (.cells #[.pointer (some ⟨X4, 0, none⟩)] 78)) (fun y hy => ⟨(HX7.out y hy).1.below hb8, (HX7.out y hy).2⟩) (hx4.below hb8) hne hz1 hz2 (hz3.imp (fun e => e) fun e => by simp; omega)
       have hW : Wrote (fun k => k = bl) (W7.alloc (.cells #[.pointer (some ⟨X4, 0, none⟩)] 78)) Wz := (Wrote.refl _ _).grown hz2 fun k hk _ => by simpa [Value.ownBlock] using hk.symm
       have hbz : Below Wa.heap.size Wa Wz := (HB7.out.trans (hB67.mono HB7.out.size)).trans (hW.below (fun k _ hk => by rw [hk]; exact HGL.out.1) (Nat.le_trans hBW hb8.size))
       have HF := Lib.hid (And.intro hVL hbz)
       clear hz1 hz2 hz3 hz4 hb8 hB67 hx4 hne hVL hW hbz HZ
       go_wp2_with fail
       go_meet
       exact ⟨gg, 6 + 1, cap, rfl, by omega, HF.out.1, HF.out.2⟩
   obtain ⟨gl2, n2, cp2, rfl, hn6, hVLf, hbf⟩ := hcut
   obtain ⟨zs, hown, hzs⟩ := hVLf.ex
   have HBf := Lib.hid hbf
   have y0 := (hbf.cell (p := ⟨w1.heap.size, 0, none⟩) HPB.out).trans p0
   have y1 := (hbf.cell (p := ⟨w1.heap.size, 1, none⟩) HPB.out).trans p1
   have hNy : w1.heap.size < wc.heap.size := Nat.lt_of_lt_of_le HPB.out hbf.size
   have hgl := (hown.lt gl2 rfl).2
   have HVz : Hid (∀ j, j < n2 → ∃ v, wc.cell? ⟨gl2, j, none⟩ = some v ∧ VoidC wc v) := Lib.hid (fun j hj => by
    have hl : zs.length = n2 * 1 := hown.1
    have hj2 : j < zs.length := by omega
    have hc := hown.cells (g := gl2) rfl j _ (List.getElem?_eq_getElem hj2)
    rw [show (⟨gl2, 0, none⟩ : Addr).add j = ⟨gl2, j, none⟩ by unfold Addr.add; split <;> simp_all] at hc
    exact ⟨zs[j], hc, (hzs _ (List.getElem_mem hj2)).1⟩)
   clear hVLf hown hzs hbf HVL7 HB7 HN5 HC7 HCL HOW HXS HGL hcba hY
   go_wp2_with fail
   go_loopw [9] (fun i wr => ∃ k : Nat, k ≤ n2 ∧ i = .int .i64 k ∧ Below wc.heap.size wc wr) (fun i _ => n2 - (intOf i).toNat)
   case atStart => exact ⟨0, Nat.zero_le _, rfl, Below.refl _ _⟩
   case round =>
    obtain ⟨k, hk, rfl, hb⟩ := hrel
    have HBr := Lib.hid hb
    have x0 := (hb.cell (p := ⟨w1.heap.size, 0, none⟩) hNy).trans y0
    have x1 := (hb.cell (p := ⟨w1.heap.size, 1, none⟩) hNy).trans y1
    have hNr : w1.heap.size < wr.heap.size := Nat.lt_of_lt_of_le hNy hb.size
    by_cases hk2 : k < n2
    · obtain ⟨v, hvc, hvv⟩ := HVz.out k hk2
      have lc := (hb.cell (p := ⟨gl2, k, none⟩) hgl).trans hvc
      have HV := Lib.hid (hvv.below hb)
      obtain ⟨a, rfl⟩ := hvv.ptr
      have hbr : gl2 < wr.heap.size := Nat.lt_of_lt_of_le hgl hb.size
      have hki : (k : Int) < n2 := by omega
      clear hvc hvv hb y0 y1
      go_wp2_with fail
      refine (c_vcGot HV.out).mono ?_
      rintro e w2 ⟨rfl, hb2⟩
      unfold ansV
      have V2 := Lib.hid (HV.out.below hb2)
      have z0 := (hb2.cell (p := ⟨w1.heap.size, 0, none⟩) hNr).trans x0
      have zc := (hb2.cell (p := ⟨gl2, k, none⟩) hbr).trans lc
      have HB2 := Lib.hid (HBr.out.trans (hb2.mono HBr.out.size))
      have hN2 : w1.heap.size < w2.heap.size := Nat.lt_of_lt_of_le hNr hb2.size
      have hb2r : gl2 < w2.heap.size := Nat.lt_of_lt_of_le hbr hb2.size
      clear hb2 x0 x1 lc HV
      go_upto_region 13 with fail
      obtain ⟨W3, hW3⟩ : ∃ W3, W3 = w2.alloc (.cells #[.int .u8 0, .int .u64 0, .string ⟨#[]⟩, .string ⟨#[]⟩, .int .u32 0, .int .u64 0, .int .i64 0, .int .i64 0] 36) := ⟨_, rfl⟩
      have b3 : Below w2.heap.size w2 W3 := by rw [hW3]; exact alloc_below _ _
      have V3 := Lib.hid (V2.out.below b3)
      have x0 := (b3.cell (p := ⟨w1.heap.size, 0, none⟩) hN2).trans z0
      have xc := (b3.cell (p := ⟨gl2, k, none⟩) hb2r).trans zc
      have hcA : ∀ j u, [.int .u8 0, .int .u64 0, .string ⟨#[]⟩, .string ⟨#[]⟩, .int .u32 0, .int .u64 0, .int .i64 0, .int .i64 0][j]? = some u → W3.cell? ⟨w2.heap.size, j, none⟩ = some u := fun j u hu => by rw [hW3]; exact cell_newA w2 #[.int .u8 0, .int .u64 0, .string ⟨#[]⟩, .string ⟨#[]⟩, .int .u32 0, .int .u64 0, .int .i64 0, .int .i64 0] _ _ rfl j u (by simpa using hu)
      have e0 := hcA 0 _ rfl
      have e1 := hcA 1 _ rfl
      have e2 := hcA 2 _ rfl
      have e3 := hcA 3 _ rfl
      have e4 := hcA 4 _ rfl
      have e5 := hcA 5 _ rfl
      have e6 := hcA 6 _ rfl
      have e7 := hcA 7 _ rfl
      have HB3 := Lib.hid (HB2.out.trans (b3.mono HB2.out.size))
      have hN3 : w1.heap.size < W3.heap.size := Nat.lt_of_lt_of_le hN2 b3.size
      have hb3r : gl2 < W3.heap.size := Nat.lt_of_lt_of_le hb2r b3.size
      have hA3 : w2.heap.size < W3.heap.size := by rw [hW3]; simp
      rw [← hW3]
      clear hW3 b3 z0 zc hN2 hb2r hNr hbr V2 hcA
      have HVv := Lib.hid (fun e => V3.out.below (via_below W3 e))
      refine wp_region_via (by kernel_rfl) (by kernel_rfl) ?_
      repeat (go_big_quiet_step ((first
       | (go_at_call 25; exact viaS (c_vcOver (HVv.out _)))
       | (go_at_call 26; exact viaS (c_vcStep _ (HVv.out _))))))
      refine wpQuiet_nil ?_
      rintro _ ⟨e, rfl⟩
      have HB4 := Lib.hid (HB3.out.trans ((via_below W3 e).mono HB3.out.size))
      go_wp2_with fail
      go_roundw
      case rel => exact ⟨k + 1, by omega, by go_num, HB4.out⟩
      case measure => simp [intOf]; omega
    · obtain rfl : k = n2 := by omega
      have HBx := Lib.hid (HBf.out.trans (hb.mono HBf.out.size))
      clear hb y0 y1
      go_wp2_with fail
      refine (HNO.out wr).mono ?_
      rintro e W8 ⟨X, rfl, G8, e8, h8⟩
      have hb8 := ext0_belowS e8
      have hid : ChIdle W8 X false := h8.idle
      have HS := Lib.hid (c_ChStepNil hid)
      have HO := Lib.hid (c_ChOver hid)
      have z0 := (hb8.cell (p := ⟨w1.heap.size, 0, none⟩) hNr).trans x0
      have z1 := (hb8.cell (p := ⟨w1.heap.size, 1, none⟩) hNr).trans x1
      have HBy := Lib.hid (HBx.out.trans (hb8.mono HBx.out.size))
      have HSB := Lib.hid (HSA.out W8 (HBa.out.2.trans (HBy.out.mono HBa.out.2.size)))
      clear hb8 hid e8 h8 x0 x1 HNO HSA
      go_wp2_with fail
      refine HS.out.mono ?_
      rintro e w' ⟨rfl, rfl⟩
      go_wp2_with fail
      refine HO.out.mono ?_
      rintro e w' ⟨rfl, rfl⟩
      go_wp2_with fail
      refine HSB.out.mono ?_
      rintro e Wf ⟨rfl, hbf⟩
      have HBz := Lib.hid (HBy.out.trans (hbf.mono HBy.out.size))
      clear hbf
      go_wp2_with fail
      refine (HLV.out Wf (HBa.out.1.trans (HBz.out.mono HBa.out.1.size))).mono ?_
      rintro e W10 ⟨rfl, hb10⟩
      go_wp2_with fail
      go_ret
      exact ⟨rfl, HBa.out.1.trans ((HBz.out.trans (hb10.mono HBz.out.size)).mono HBa.out.1.size)⟩
end
end
end Go.Proofs.YtifkfhnbkjkakaaGreatDoor
