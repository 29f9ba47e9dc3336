/- Layer 25: StoresVoid. -/
import Derived.Test.YthpedifjclofoaaGreatSeY
import Derived.BigQuiet
import Derived.Deep.QuietTactic
namespace Go.Proofs.YthpedifjclofoaaGreat
set_option linter.unusedSimpArgs false
open Go.RowKit
set_option linter.unusedVariables false
/-- What Begin and SameAll are to do. -/
def BeginS (fv : Value) : Prop := ∀ W : World, Calls Tryz.prog 32 #[fv] W fun e w' => ∃ p q : Nat, e = .returned (.agg #[.pointer (some ⟨p, 0, none⟩), .pointer (some ⟨q, 0, none⟩)]) ∧ Below W.heap.size W w' ∧ ∀ W2, Below w'.heap.size w' W2 → Calls Tryz.prog 38 #[.agg #[.pointer (some ⟨p, 0, none⟩), .pointer (some ⟨q, 0, none⟩)]] W2 fun e w3 => e = .returned (.bool true) ∧ Below W2.heap.size W2 w3
theorem infoSpt : (Tryz.prog.info? 95).map (fun i => (i.zero, i.size, i.bytes)) = some (some (.pointer none), 1, 8) := by kernel_rfl
/-- A list of Stores that do nothing, made since base. -/
structure VL (w : World) (base : Nat) (v : Value) (n : Nat) : Prop where
  ex : ∃ xs : List Value, w.ownsRow base 95 1 v n xs ∧ ∀ x ∈ xs, VoidS w x ∧ ∀ b, v.ownBlock = some b → x ≠ .pointer (some ⟨b, 0, none⟩)
def zStC : List Value := [.nilIface, .nilFunc, .nilFunc, .int .u8 0, .string ⟨#[]⟩, .string ⟨#[]⟩, .int .u32 0, .int .i64 0, .int .u64 0, .int .u64 0, .int .u64 0, .int .i64 0, .int .i64 0, .int .i64 0, .int .u8 0, .int .u64 0, .string ⟨#[]⟩, .string ⟨#[]⟩, .int .u32 0, .int .u64 0, .int .i64 0, .int .i64 0, .int .u64 0, .int .i64 0]
theorem VoidS.zero (w : World) (ty : TypeId) : VoidS (w.alloc (.cells zStC.toArray ty)) (.pointer (some ⟨w.heap.size, 0, none⟩)) := by
  have h : ∀ j u, zStC[j]? = some u → (w.alloc (.cells zStC.toArray ty)).cell? ⟨w.heap.size, j, none⟩ = some u := fun j u hu => cell_newA w zStC.toArray ty _ rfl j u (by simpa using hu)
  exact .inr ⟨_, rfl, h 0 _ rfl, h 2 _ rfl, h 14 _ rfl, h 15 _ rfl, h 16 _ rfl, h 17 _ rfl, h 18 _ rfl, h 19 _ rfl, h 20 _ rfl, h 21 _ rfl, h 22 _ rfl, h 23 _ rfl⟩
theorem VoidS.ne {w : World} {v : Value} (h : VoidS w v) {b : Nat} (hb : w.heap.size ≤ b) : v ≠ .pointer (some ⟨b, 0, none⟩) := by
  rcases h with rfl | ⟨X, rfl, h, -⟩
  · intro e; cases e
  · intro e
    cases e
    have := blk_lt h
    dsimp only at this
    omega
theorem VL.lit {w : World} {base : Nat} {a b c : Value} (hb : base ≤ w.heap.size) (ha : VoidS w a) (h2 : VoidS w b) (h3 : VoidS w c) : VL (w.alloc (.cells #[.pointer none, a, b, c] 95)) base (.slice (some ⟨w.heap.size, 0, none⟩) 4 4) 4 := by
  have hw := alloc_below w (.cells #[.pointer none, a, b, c] 95)
  refine ⟨_, World.ownsRow_lit (base := base) (e := 95) (size := 1) w #[.pointer none, a, b, c] 4 hb (by unfold maxLen; omega) (by simp), fun x hx => ?_⟩
  have hx' : x = .pointer none ∨ x = a ∨ x = b ∨ x = c := by simpa using hx
  have hne : ∀ v, VoidS w v → VoidS (w.alloc (.cells #[.pointer none, a, b, c] 95)) v ∧ ∀ b', (Value.slice (some ⟨w.heap.size, 0, none⟩) 4 4).ownBlock = some b' → v ≠ .pointer (some ⟨b', 0, none⟩) := by
    intro v hv
    refine ⟨hv.below hw, fun b' hb' => hv.ne ?_⟩
    have h9 : w.heap.size = b' := by simpa [Value.ownBlock] using hb'
    omega
  rcases hx' with rfl | rfl | rfl | rfl
  · exact hne _ (.inl rfl)
  · exact hne _ ha
  · exact hne _ h2
  · exact hne _ h3
theorem VoidS.wrote {w w' : World} {S : Nat → Prop} {v : Value} (h : VoidS w v) (hw : Wrote S w w') (hn : ∀ b, v = .pointer (some ⟨b, 0, none⟩) → ¬ S b) : VoidS w' v := by
  rcases h with rfl | ⟨X, rfl, h⟩
  · exact .inl rfl
  · have hl := blk_lt h.1
    dsimp only at hl
    have k : ∀ j u, w.cell? ⟨X, j, none⟩ = some u → w'.cell? ⟨X, j, none⟩ = some u := fun j u hu => (hw.cell (p := ⟨X, j, none⟩) hl (hn X rfl)).trans hu
    obtain ⟨a, b, c, d, e, f, g, i, j, l, m, n⟩ := h
    exact .inr ⟨X, rfl, k _ _ a, k _ _ b, k _ _ c, k _ _ d, k _ _ e, k _ _ f, k _ _ g, k _ _ i, k _ _ j, k _ _ l, k _ _ m, k _ _ n⟩
/-- One more. -/
theorem VL.step {w w' : World} {base n g cap : Nat} {v x : Value} {xs : List Value} (hxs : ∀ y ∈ xs, VoidS w y ∧ ∀ b, v.ownBlock = some b → y ≠ .pointer (some ⟨b, 0, none⟩)) (hx : VoidS w x) (hxb : ∀ b, v.ownBlock = some b → x ≠ .pointer (some ⟨b, 0, none⟩)) (hown : w'.ownsRow base 95 1 (.slice (some ⟨g, 0, none⟩) (n + 1) cap) (n + 1) (xs ++ [x])) (hgr : w.grownBy w' v.ownBlock) (hat : v.ownBlock = some g ∨ w.heap.size ≤ g) : VL w' base (.slice (some ⟨g, 0, none⟩) (n + 1) cap) (n + 1) := by
  have hW : Wrote (fun k => v.ownBlock = some k) w w' := (Wrote.refl _ _).grown hgr fun k hk _ => hk
  refine ⟨_, hown, fun y hy => ?_⟩
  have hy2 : VoidS w y ∧ ∀ b, v.ownBlock = some b → y ≠ .pointer (some ⟨b, 0, none⟩) := by
    rcases List.mem_append.1 hy with h | h
    · exact hxs y h
    · obtain rfl : y = x := by simpa using h
      exact ⟨hx, hxb⟩
  refine ⟨hy2.1.wrote hW fun b hb hk => hy2.2 b hk hb, fun b hb => ?_⟩
  have hgb : g = b := by simpa [Value.ownBlock] using hb
  subst hgb
  rcases hat with h | h
  · exact hy2.2 _ h
  · exact hy2.1.ne h
theorem VL.sep {w : World} {base bl n cp : Nat} {xs : List Value} {X : Nat} (h : w.ownsRow base 95 1 (.slice (some ⟨bl, 0, none⟩) n cp) n xs) (hn : 0 < n) (hxs : ∀ y ∈ xs, VoidS w y) (hx : VoidS w (.pointer (some ⟨X, 0, none⟩))) : ∀ b, (Value.slice (some ⟨bl, 0, none⟩) n cp).ownBlock = some b → (Value.pointer (some ⟨X, 0, none⟩)) ≠ .pointer (some ⟨b, 0, none⟩) := by
  intro b hb e
  have hbb : bl = b := by simpa [Value.ownBlock] using hb
  subst hbb
  have hX : X = bl := by simpa using e
  subst hX
  have hl : xs.length = n * 1 := h.1
  have h0 : 0 < xs.length := by omega
  have hc := h.cells (g := X) rfl 0 _ (List.getElem?_eq_getElem h0)
  obtain ⟨a, ha⟩ := (hxs _ (List.getElem_mem h0)).ptr
  rcases hx with h1 | ⟨X', h1, h2, -⟩
  · cases h1
  · cases h1
    have hc2 : w.cell? ⟨X, 0, none⟩ = some xs[0] := by simpa [Addr.add] using hc
    rw [h2, ha] at hc2
    cases hc2
theorem VL.below {w w' : World} {base n : Nat} {v : Value} (h : VL w base v n) (hb : Below w.heap.size w w') : VL w' base v n := by
  obtain ⟨xs, h1, h2⟩ := h.ex
  exact ⟨xs, ownsRow_below h1 hb, fun x hx => ⟨(h2 x hx).1.below hb, (h2 x hx).2⟩⟩
theorem VL.ne0 {w : World} {base bl n cp b : Nat} {k : IntKind} {u : Int} (h : VL w base (.slice (some ⟨bl, 0, none⟩) n cp) n) (hn : 0 < n) (hc : w.cell? ⟨b, 0, none⟩ = some (.int k u)) : b ≠ bl := by
  intro e
  subst e
  obtain ⟨xs, h1, h2⟩ := h.ex
  have hl : xs.length = n * 1 := h1.1
  have h0 : 0 < xs.length := by omega
  have hq := h1.cells (g := b) rfl 0 _ (List.getElem?_eq_getElem h0)
  obtain ⟨a, ha⟩ := (h2 _ (List.getElem_mem h0)).1.ptr
  have hq2 : w.cell? ⟨b, 0, none⟩ = some xs[0] := by simpa [Addr.add] using hq
  rw [hc, ha] at hq2
  cases hq2
def clOne : Clm := ⟨3, ⟨#[97]⟩, ⟨#[]⟩, 0, 0, 0, 0⟩
section
set_option maxHeartbeats 8000000 in
set_option maxRecDepth 100000 in
theorem w_StoresVoidB (hBG : BeginS (.agg #[.int .i64 0, .int .i64 0, .int .i64 0, .int .i64 0, .int .i64 0, .bool false, .slice none 0 0, .slice none 0 0, .slice none 0 0, .int .i64 0])) (t verb : Int) (key val : ByteArray) (fl exp id by_ : Int) (w : World) (t0 : -9223372036854775808 ≤ t) (t1 : t ≤ 9223372036854775807) (a0 : 0 ≤ verb) (a1 : verb ≤ 255) (hkz : key.size ≤ maxLen) (hvz : val.size ≤ maxLen) (f0 : 0 ≤ fl) (f1 : fl ≤ 4294967295) (x0 : -9223372036854775808 ≤ exp) (x1 : exp ≤ 9223372036854775807) (i0 : 0 ≤ id) (i1 : id ≤ 18446744073709551615) (b0 : 0 ≤ by_) (b1 : by_ ≤ 18446744073709551615) :
    Calls Tryz.prog 6 #[.int .i64 t, .agg #[.int .u8 verb, .string key, .string val, .int .u32 fl, .int .i64 exp, .int .u64 id, .int .u64 by_]] w fun e w' => e = .returned (.bool true) ∧ Below w.heap.size w w' := by
  have HBg := Lib.hid hBG
  clear hBG
  obtain ⟨c, hc⟩ : ∃ c : Clm, c = ⟨verb, key, val, fl, exp, id, by_⟩ := ⟨_, rfl⟩
  have HN1 := Lib.hid (fun W => c_NewStoreV (-1) c (.inl (by decide)) (by rw [hc]; exact hkz) (by rw [hc]; exact hvz) W)
  have HN2 := Lib.hid (fun W => c_NewStoreV 64 c (.inl (by decide)) (by rw [hc]; exact hkz) (by rw [hc]; exact hvz) W)
  have HN3 := Lib.hid (fun W (h : mayB c = false) => c_NewStoreV 1 c (.inr h) (by rw [hc]; exact hkz) (by rw [hc]; exact hvz) W)
  have HN4 := Lib.hid (fun W (h : ¬ (0 ≤ t ∧ t < 64)) => c_NewStoreV t clOne (.inl h) (by decide) (by decide) W)
  have HMY := Lib.hid (fun W => c_rMay c W (by rw [hc]; exact hkz) (by rw [hc]; exact hvz))
  have HNO := Lib.hid (fun W => c_NewStore (w := W) (O := OZ) (k := 10) 1 (c := clOne) (by decide) (by decide +kernel) (by decide) (by decide) (by decide) (fun j hj => absurd rfl hj))
  have hcv : clV c = .agg #[.int .u8 verb, .string key, .string val, .int .u32 fl, .int .i64 exp, .int .u64 id, .int .u64 by_] := by rw [hc]; rfl
  rw [hcv] at HN1 HN2 HN3 HMY
  unfold clV clOne at HN4 HNO
  dsimp only at HN4 HNO
  obtain ⟨mb, hmb⟩ : ∃ b, b = mayB c := ⟨_, rfl⟩
  rw [← hmb] at HMY HN3
  clear hcv hc hmb
  obtain ⟨sm, hw⟩ : ∃ sm, IntKind.i64.wrap ((key.size : Int) + val.size) = sm := ⟨_, rfl⟩
  clear hkz hvz
  by_cases hs2 : 4000 < sm
  · go_enter Tryz.func6, Tryz.ntmps6
    go_wp2_with fail
    refine (c_lives25 _).mono ?_
    rintro e w9 ⟨rfl, hb9⟩
    go_wp2_with fail
    go_ret
    exact ⟨rfl, (alloc_below w (.cells #[.int .u8 verb, .string key, .string val, .int .u32 fl, .int .i64 exp, .int .u64 id, .int .u64 by_] 26)).trans (hb9.mono (by simp))⟩
  · go_enter Tryz.func6, Tryz.ntmps6
    go_wp2_with fail
    unfold BeginS at HBg
    refine (HBg.out _).mono ?_
    rintro e w1 ⟨p, q, rfl, hb1, hSA⟩
    have hb0 := alloc_below w (.cells #[.int .u8 verb, .string key, .string val, .int .u32 fl, .int .i64 exp, .int .u64 id, .int .u64 by_] 26)
    have k0 : ∀ j u, [.int .u8 verb, .string key, .string val, .int .u32 fl, .int .i64 exp, .int .u64 id, .int .u64 by_][j]? = some u → (w.alloc (.cells #[.int .u8 verb, .string key, .string val, .int .u32 fl, .int .i64 exp, .int .u64 id, .int .u64 by_] 26)).cell? ⟨w.heap.size, j, none⟩ = some u := fun j u hu => cell_newA w #[.int .u8 verb, .string key, .string val, .int .u32 fl, .int .i64 exp, .int .u64 id, .int .u64 by_] _ _ rfl j u (by simpa using hu)
    obtain ⟨Wa, hWa⟩ : ∃ Wa, Wa = w1.alloc (.cells #[.pointer (some ⟨p, 0, none⟩), .pointer (some ⟨q, 0, none⟩)] 88) := ⟨_, rfl⟩
    have ba : Below w1.heap.size w1 Wa := by rw [hWa]; exact alloc_below _ _
    have hwa : Wa.heap.size = w1.heap.size + 1 := by rw [hWa]; simp
    have p0 : Wa.cell? ⟨w1.heap.size, 0, none⟩ = some (.pointer (some ⟨p, 0, none⟩)) := by rw [hWa]; simp
    have p1 : Wa.cell? ⟨w1.heap.size, 1, none⟩ = some (.pointer (some ⟨q, 0, none⟩)) := by rw [hWa]; simp
    have hcl : w.heap.size < w1.heap.size := Nat.lt_of_lt_of_le (by simp) hb1.size
    have k1 : ∀ j u, [.int .u8 verb, .string key, .string val, .int .u32 fl, .int .i64 exp, .int .u64 id, .int .u64 by_][j]? = some u → Wa.cell? ⟨w.heap.size, j, none⟩ = some u := fun j u hu => (ba.cell (p := ⟨w.heap.size, j, none⟩) hcl).trans ((hb1.cell (p := ⟨w.heap.size, j, none⟩) (by simp)).trans (k0 j u hu))
    have HBa : Hid (Below w.heap.size w Wa ∧ Below w1.heap.size w1 Wa) := Lib.hid ⟨(hb0.trans (hb1.mono (by simp))).trans (ba.mono (by omega)), ba⟩
    have HSA := Lib.hid hSA
    have HCL := Lib.hid k1
    obtain ⟨cb, hcb⟩ : ∃ n, n = w.heap.size := ⟨_, rfl⟩
    rw [← hcb] at hcl HCL
    have HPB : Hid (w1.heap.size < Wa.heap.size) := Lib.hid (by omega)
    have c0 := HCL.out 0 _ rfl
    have c1 := HCL.out 1 _ rfl
    have c2 := HCL.out 2 _ rfl
    have c3 := HCL.out 3 _ rfl
    have c4 := HCL.out 4 _ rfl
    have c5 := HCL.out 5 _ rfl
    have c6 := HCL.out 6 _ rfl
    have hcba : cb < Wa.heap.size := by omega
    clear hb1 hSA hb0 k0 k1 ba HBg hwa
    go_upto_region 5 with fail
    rw [← hWa, ← hcb]
    clear hWa hcb
    go_cut [7] (fun v wx => ∃ (bl : Nat), v = .slice (some ⟨bl, 0, none⟩) 4 4 ∧ VL wx Wa.heap.size v 4 ∧ Below Wa.heap.size Wa wx)
    case first =>
      go_region_held3 (fun w' => w'.cell? ⟨cb, 0, none⟩ = some (.int .u8 verb) ∧ w'.cell? ⟨cb, 1, none⟩ = some (.string key) ∧ w'.cell? ⟨cb, 2, none⟩ = some (.string val) ∧ w'.cell? ⟨cb, 3, none⟩ = some (.int .u32 fl) ∧ w'.cell? ⟨cb, 4, none⟩ = some (.int .i64 exp) ∧ w'.cell? ⟨cb, 5, none⟩ = some (.int .u64 id) ∧ w'.cell? ⟨cb, 6, none⟩ = some (.int .u64 by_)) (go_keep)
        (first
          | (go_at_call_of 33 (64 : Int)
             refine (HN2.out _).mono ?_
             rintro e w3 ⟨X2, rfl, hb3, v2⟩
             have HA2 : Hid (Below w2.heap.size w2 w3) := Lib.hid (by first | exact hb3 | exact (alloc_below w2 (.cells zStC.toArray 102)).trans (hb3.mono (by simp)))
             first
               | (replace HZ := Lib.hid (HZ.out.below HA2.out))
               | (have HZ : Hid (VoidS w3 (.pointer (some ⟨w2.heap.size, 0, none⟩))) := Lib.hid ((VoidS.zero w2 102).below hb3))
               | skip
             have HV2 := Lib.hid (And.intro (HV1.out.below HA2.out) v2)
             have c0 := (HA2.out.cell (p := ⟨cb, 0, none⟩) hcb2).trans (HCL2.out 0 _ rfl)
             have c1 := (HA2.out.cell (p := ⟨cb, 1, none⟩) hcb2).trans (HCL2.out 1 _ rfl)
             have c2 := (HA2.out.cell (p := ⟨cb, 2, none⟩) hcb2).trans (HCL2.out 2 _ rfl)
             have c3 := (HA2.out.cell (p := ⟨cb, 3, none⟩) hcb2).trans (HCL2.out 3 _ rfl)
             have c4 := (HA2.out.cell (p := ⟨cb, 4, none⟩) hcb2).trans (HCL2.out 4 _ rfl)
             have c5 := (HA2.out.cell (p := ⟨cb, 5, none⟩) hcb2).trans (HCL2.out 5 _ rfl)
             have c6 := (HA2.out.cell (p := ⟨cb, 6, none⟩) hcb2).trans (HCL2.out 6 _ rfl)
             clear hb3 v2)
          | (go_at_call 33
             refine (HN1.out _).mono ?_
             rintro e w2 ⟨X1, rfl, hb2, v1⟩
             first
               | (have HZ : Hid (VoidS w2 (.pointer (some ⟨Wa.heap.size, 0, none⟩))) := Lib.hid ((VoidS.zero Wa 102).below ((drew_below _).trans (hb2.mono (by simp)))))
               | skip
             have HA1 : Hid (Below Wa.heap.size Wa w2) := Lib.hid (by first | exact (drew_below Wa).trans (hb2.mono (Nat.le_refl _)) | exact ((alloc_below Wa (.cells zStC.toArray 102)).drew).trans (hb2.mono (by simp)))
             have HV1 := Lib.hid v1
             have HCL2 : Hid (∀ j u, [.int .u8 verb, .string key, .string val, .int .u32 fl, .int .i64 exp, .int .u64 id, .int .u64 by_][j]? = some u → w2.cell? ⟨cb, j, none⟩ = some u) := Lib.hid (fun j u hu => (HA1.out.cell (p := ⟨cb, j, none⟩) hcba).trans (HCL.out j u hu))
             have hcb2 : cb < w2.heap.size := Nat.lt_of_lt_of_le hcba HA1.out.size
             have c0 := (HA1.out.cell (p := ⟨cb, 0, none⟩) hcba).trans (HCL.out 0 _ rfl)
             have c1 := (HA1.out.cell (p := ⟨cb, 1, none⟩) hcba).trans (HCL.out 1 _ rfl)
             have c2 := (HA1.out.cell (p := ⟨cb, 2, none⟩) hcba).trans (HCL.out 2 _ rfl)
             have c3 := (HA1.out.cell (p := ⟨cb, 3, none⟩) hcba).trans (HCL.out 3 _ rfl)
             have c4 := (HA1.out.cell (p := ⟨cb, 4, none⟩) hcba).trans (HCL.out 4 _ rfl)
             have c5 := (HA1.out.cell (p := ⟨cb, 5, none⟩) hcba).trans (HCL.out 5 _ rfl)
             have c6 := (HA1.out.cell (p := ⟨cb, 6, none⟩) hcba).trans (HCL.out 6 _ rfl)
             clear hb2 v1))
      all_goals
        rename_i hheld
        clear hheld
        have hsz := Nat.le_trans HA1.out.size HA2.out.size
        have hB3 := HA1.out.trans (HA2.out.mono HA1.out.size)
        go_wp2_with fail
        go_meet
        first
          | exact ⟨_, rfl, VL.lit hsz HZ.out HV2.out.1 HV2.out.2, hB3.trans ((alloc_below w3 _).mono hsz)⟩
          | (have V := VL.lit (w := w3.alloc (.cells zStC.toArray 102)) (Nat.le_trans hsz (alloc_below w3 _).size) (VoidS.zero w3 102) (HV2.out.1.below (alloc_below w3 _)) (HV2.out.2.below (alloc_below w3 _))
             rw [show (w3.alloc (.cells zStC.toArray 102)).heap.size = w3.heap.size + 1 by simp] at V
             exact ⟨_, rfl, V, (hB3.trans ((alloc_below w3 _).mono hsz)).trans ((alloc_below (w3.alloc (.cells zStC.toArray 102)) _).mono (Nat.le_trans hsz (alloc_below w3 _).size))⟩)
    obtain ⟨bl, rfl, hVL, hbc⟩ := hcut
    have HVL := Lib.hid hVL
    have HBc := Lib.hid hbc
    clear hVL hbc
    have HCc := Lib.hid (fun j u (hu : [.int .u8 verb, .string key, .string val, .int .u32 fl, .int .i64 exp, .int .u64 id, .int .u64 by_][j]? = some u) => (HBc.out.cell (p := ⟨cb, j, none⟩) hcba).trans (HCL.out j u hu))
    have hbo := alloc_below wc (.cells #[.int .u8 3, .string ⟨#[97]⟩, .string ⟨#[]⟩, .int .u32 0, .int .i64 0, .int .u64 0, .int .u64 0] 26)
    have ko : ∀ j u, [.int .u8 3, .string ⟨#[97]⟩, .string ⟨#[]⟩, .int .u32 0, .int .i64 0, .int .u64 0, .int .u64 0][j]? = some u → (wc.alloc (.cells #[.int .u8 3, .string ⟨#[97]⟩, .string ⟨#[]⟩, .int .u32 0, .int .i64 0, .int .u64 0, .int .u64 0] 26)).cell? ⟨wc.heap.size, j, none⟩ = some u := fun j u hu => cell_newA wc #[.int .u8 3, .string ⟨#[97]⟩, .string ⟨#[]⟩, .int .u32 0, .int .i64 0, .int .u64 0, .int .u64 0] _ _ rfl j u (by simpa using hu)
    obtain ⟨W6, hW6⟩ : ∃ W, W = wc.alloc (.cells #[.int .u8 3, .string ⟨#[97]⟩, .string ⟨#[]⟩, .int .u32 0, .int .i64 0, .int .u64 0, .int .u64 0] 26) := ⟨_, rfl⟩
    have hl6 : wc.heap.size < W6.heap.size := by rw [hW6]; simp
    rw [← hW6] at hbo ko
    have HVL6 := Lib.hid (HVL.out.below hbo)
    have HB6 := Lib.hid (HBc.out.trans (hbo.mono HBc.out.size))
    have HKO := Lib.hid ko
    clear hbo ko HVL HCc HBc
    go_upto_region 7 with fail
    rw [← hW6]
    clear hW6
    obtain ⟨ob, hob⟩ : ∃ n, n = wc.heap.size := ⟨_, rfl⟩
    rw [← hob] at hl6 HKO ⊢
    clear hob
    have o0 := HKO.out 0 _ rfl
    have o1 := HKO.out 1 _ rfl
    have o2 := HKO.out 2 _ rfl
    have o3 := HKO.out 3 _ rfl
    have o4 := HKO.out 4 _ rfl
    have o5 := HKO.out 5 _ rfl
    have o6 := HKO.out 6 _ rfl
    obtain ⟨xs, hown, hxs⟩ := HVL6.out.ex
    have hblt := hown.lt bl rfl
    have HOW := Lib.hid hown
    have HXS := Lib.hid hxs
    have HBL : Hid (Wa.heap.size ≤ bl) := Lib.hid hblt.1
    clear hown hxs hblt
    go_cut [39] (fun v wx => v = .bool (!decide (0 ≤ t ∧ t < 64)) ∧ W6 = wx)
    case first =>
      have hc : t < 0 ∨ (¬ t < 0 ∧ 64 ≤ t) ∨ (¬ t < 0 ∧ ¬ 64 ≤ t) := by omega
      rcases hc with d3 | ⟨d3, d4⟩ | ⟨d3, d4⟩
      · have dd : decide (0 ≤ t ∧ t < 64) = false := decide_eq_false (by omega)
        go_wp2_with fail
        go_meet
        exact ⟨by rw [dd]; rfl, rfl⟩
      · have dd : decide (0 ≤ t ∧ t < 64) = false := decide_eq_false (by omega)
        go_wp2_with fail
        go_meet
        exact ⟨by rw [dd]; rfl, rfl⟩
      · have dd : decide (0 ≤ t ∧ t < 64) = true := decide_eq_true (by omega)
        go_wp2_with fail
        go_meet
        exact ⟨by rw [dd]; rfl, rfl⟩
    obtain ⟨rfl, rfl⟩ := hcut
    go_upto_if 39 with fail
    go_cut [7] (fun v wx => ∃ (gl n cp : Nat), v = .slice (some ⟨gl, 0, none⟩) n cp ∧ (0 < n ∧ n ≤ 5) ∧ VL wx Wa.heap.size v n ∧ (∀ p : Addr, p.block < W6.heap.size → p.block ≠ bl → wx.cell? p = W6.cell? p) ∧ Below Wa.heap.size Wa wx ∧ W6.heap.size ≤ wx.heap.size)
    case first =>
      by_cases ht : 0 ≤ t ∧ t < 64
      · rw [decide_eq_true ht]
        clear ht
        go_wp2_with fail
        go_meet
        exact ⟨bl, 4, 4, rfl, by decide, HVL6.out, fun p _ _ => rfl, HB6.out, Nat.le_refl _⟩
      · have HNT := Lib.hid (fun W => HN4.out W ht)
        rw [decide_eq_false ht]
        obtain ⟨i0', hi, hi0, hi1, hi2⟩ := info_parts infoSpt
        have HI := Lib.hid (And.intro hi (And.intro hi0 (And.intro hi1 hi2)))
        clear ht hi hi0 hi1 hi2
        iterate 1
          go_wp2_with fail
          refine (HNT.out _).mono ?_
          rintro e W7 ⟨X4, rfl, hb7, v4⟩
          have HO7 := Lib.hid (ownsRow_below HOW.out hb7)
          have hBW : Wa.heap.size ≤ W7.heap.size := Nat.le_trans HB6.out.size hb7.size
          have HX7 := Lib.hid (fun y (hy : y ∈ xs) => And.intro ((HXS.out y hy).1.below hb7) (HXS.out y hy).2)
          have H7 := Lib.hid (And.intro hb7 v4)
          clear hb7 v4
          go_wp2_with (at_builtin; refine wpList_append_lies (W7.alloc (.cells #[.pointer (some ⟨X4, 0, none⟩)] 95)) rfl _ _ 104 rfl Wa.heap.size 95 i0' (.pointer none) 1 8 Tryz.underlying104 HI.out.1 HI.out.2.1 HI.out.2.2.1 HI.out.2.2.2 rfl (by decide) (.slice (some ⟨bl, 0, none⟩) 4 4) 4 xs rfl (HO7.out.alloc _) ⟨W7.heap.size, 0, none⟩ 1 1 [.pointer (some ⟨X4, 0, none⟩)] rfl rfl (alloc_cells W7 [.pointer (some ⟨X4, 0, none⟩)] _ W7.heap.size rfl) (by simp [Value.oneCell']) (by decide) (by unfold maxLen; omega) (by omega) (by have := hBW; simp; omega) (W7.heap.size + 1) (by simp) ?_; intro gg cap Wz hownz hgr hat hgl; have HZ := Lib.hid (And.intro hownz (And.intro hgr (And.intro hat hgl))); clear hownz hgr hat hgl)
          obtain ⟨hz1, hz2, hz3, hz4⟩ := HZ.out
          have hb8 := alloc_below W7 (.cells #[.pointer (some ⟨X4, 0, none⟩)] 95)
          have hB67 := H7.out.1.trans (hb8.mono H7.out.1.size)
          have hx4 : VoidS W7 (.pointer (some ⟨X4, 0, none⟩)) := H7.out.2
          have hne : ∀ b, (Value.slice (some ⟨bl, 0, none⟩) 4 4).ownBlock = some b → (Value.pointer (some ⟨X4, 0, none⟩)) ≠ .pointer (some ⟨b, 0, none⟩) := VL.sep HO7.out (by omega) (fun y hy => (HX7.out y hy).1) hx4
          have hVL := VL.step (w := W7.alloc (.cells #[.pointer (some ⟨X4, 0, none⟩)] 95)) (fun y hy => ⟨(HX7.out y hy).1.below hb8, (HX7.out y hy).2⟩) (hx4.below hb8) hne hz1 hz2 (hz3.imp (fun e => e) fun e => by simp; omega)
          have hW : Wrote (fun k => k = bl) (W7.alloc (.cells #[.pointer (some ⟨X4, 0, none⟩)] 95)) Wz := (Wrote.refl _ _).grown hz2 fun k hk _ => by simpa [Value.ownBlock] using hk.symm
          have hbz : Below Wa.heap.size Wa Wz := (HB6.out.trans (hB67.mono HB6.out.size)).trans (hW.below (fun k _ hk => by rw [hk]; exact HBL.out) (Nat.le_trans hBW hb8.size))
          have hVF : VL Wz Wa.heap.size (.slice (some ⟨gg, 0, none⟩) 5 cap) 5 := hVL
          have hcF : ∀ p : Addr, p.block < W6.heap.size → p.block ≠ bl → Wz.cell? p = W6.cell? p := fun p hp hn => (hW.cell (Nat.lt_of_lt_of_le hp hB67.size) hn).trans (hB67.cell hp)
          have HF := Lib.hid (And.intro hVF (And.intro hcF (And.intro hbz (Nat.le_trans hB67.size hW.size))))
          clear hz1 hz2 hz3 hz4 hb8 hB67 hx4 hne hVL hW hbz hVF hcF HZ
          go_wp2_with fail
          go_meet
          exact ⟨gg, 5, cap, rfl, by decide, HF.out.1, HF.out.2.1, HF.out.2.2.1, HF.out.2.2.2⟩
    obtain ⟨gl, n, cp, rfl, ⟨hn0, hn5⟩, hVL8, hc8, hb8, hs8⟩ := hcut
    have HVL8 := Lib.hid hVL8
    have HB8 := Lib.hid hb8
    have HBLl := Lib.hid (HOW.out.lt bl rfl).2
    have HC8 : Hid (∀ p : Addr, p.block < W6.heap.size → p.block ≠ bl → wc.cell? p = W6.cell? p) := Lib.hid hc8
    have HS8 := Lib.hid hs8
    have hmay : Hid (∀ j u, [.int .u8 verb, .string key, .string val, .int .u32 fl, .int .i64 exp, .int .u64 id, .int .u64 by_][j]? = some u → wc.cell? ⟨cb, j, none⟩ = some u) := Lib.hid (fun j u hu => (HB8.out.cell (p := ⟨cb, j, none⟩) hcba).trans (HCL.out j u hu))
    have m0 := hmay.out 0 _ rfl
    have m1' := hmay.out 1 _ rfl
    have m2 := hmay.out 2 _ rfl
    have m3 := hmay.out 3 _ rfl
    have m4 := hmay.out 4 _ rfl
    have m5 := hmay.out 5 _ rfl
    have m6 := hmay.out 6 _ rfl
    clear hVL8 hb8 hc8 hs8 c0 c1 c2 c3 c4 c5 c6 o0 o1 o2 o3 o4 o5 o6
    go_upto_region 9 with fail
    go_wp2_with fail
    refine (HMY.out _).mono ?_
    rintro e w9 ⟨rfl, hb9⟩
    have HB9 := Lib.hid hb9
    have HVL9 := Lib.hid (HVL8.out.below hb9)
    have HBB9 := Lib.hid (HB8.out.trans (hb9.mono HB8.out.size))
    have HC9 : Hid (∀ p : Addr, p.block < W6.heap.size → p.block ≠ bl → w9.cell? p = W6.cell? p) := Lib.hid (fun p hp hn => (hb9.cell (Nat.lt_of_lt_of_le hp HS8.out)).trans (HC8.out p hp hn))
    have HS9 : Hid (W6.heap.size ≤ w9.heap.size) := Lib.hid (Nat.le_trans HS8.out hb9.size)
    have hm9 : Hid (∀ j u, [.int .u8 verb, .string key, .string val, .int .u32 fl, .int .i64 exp, .int .u64 id, .int .u64 by_][j]? = some u → w9.cell? ⟨cb, j, none⟩ = some u) := Lib.hid (fun j u hu => (HBB9.out.cell (p := ⟨cb, j, none⟩) hcba).trans (HCL.out j u hu))
    clear hb9 m0 m1' m2 m3 m4 m5 m6 HVL8 HB8 HC8 HS8 hmay HB9
    have m0 := hm9.out 0 _ rfl
    have m1' := hm9.out 1 _ rfl
    have m2 := hm9.out 2 _ rfl
    have m3 := hm9.out 3 _ rfl
    have m4 := hm9.out 4 _ rfl
    have m5 := hm9.out 5 _ rfl
    have m6 := hm9.out 6 _ rfl
    go_upto_if 48 with fail
    go_cut [7] (fun v wx => ∃ (gl2 n2 cp2 : Nat), v = .slice (some ⟨gl2, 0, none⟩) n2 cp2 ∧ n2 ≤ 6 ∧ VL wx Wa.heap.size v n2 ∧ (∀ p : Addr, p.block < W6.heap.size → p.block ≠ bl → p.block ≠ gl → wx.cell? p = W6.cell? p) ∧ Below Wa.heap.size Wa wx ∧ W6.heap.size ≤ wx.heap.size)
    case first =>
      cases mb with
      | true =>
        go_wp2_with fail
        go_meet
        exact ⟨gl, n, cp, rfl, by omega, HVL9.out, fun p h1 h2 _ => HC9.out p h1 h2, HBB9.out, HS9.out⟩
      | false =>
        have HNT := Lib.hid (fun W => HN3.out W rfl)
        obtain ⟨ys, hown, hys⟩ := HVL9.out.ex
        have HOW9 := Lib.hid hown
        have HYS := Lib.hid hys
        have HGL : Hid (Wa.heap.size ≤ gl) := Lib.hid (hown.lt gl rfl).1
        obtain ⟨i0', hi, hi0, hi1, hi2⟩ := info_parts infoSpt
        have HI := Lib.hid (And.intro hi (And.intro hi0 (And.intro hi1 hi2)))
        clear hown hys hi hi0 hi1 hi2
        iterate 1
          go_wp2_with fail
          refine (HNT.out _).mono ?_
          rintro e W7 ⟨X4, rfl, hb7, v4⟩
          have HO7 := Lib.hid (ownsRow_below HOW9.out hb7)
          have hBW : Wa.heap.size ≤ W7.heap.size := Nat.le_trans HBB9.out.size hb7.size
          have HX7 := Lib.hid (fun y (hy : y ∈ ys) => And.intro ((HYS.out y hy).1.below hb7) (HYS.out y hy).2)
          have H7 := Lib.hid (And.intro hb7 v4)
          clear hb7 v4
          go_wp2_with (at_builtin; refine wpList_append_lies (W7.alloc (.cells #[.pointer (some ⟨X4, 0, none⟩)] 95)) rfl _ _ 104 rfl Wa.heap.size 95 i0' (.pointer none) 1 8 Tryz.underlying104 HI.out.1 HI.out.2.1 HI.out.2.2.1 HI.out.2.2.2 rfl (by decide) (.slice (some ⟨gl, 0, none⟩) n cp) n ys rfl (HO7.out.alloc _) ⟨W7.heap.size, 0, none⟩ 1 1 [.pointer (some ⟨X4, 0, none⟩)] rfl rfl (alloc_cells W7 [.pointer (some ⟨X4, 0, none⟩)] _ W7.heap.size rfl) (by simp [Value.oneCell']) (by decide) (by unfold maxLen; omega) (by omega) (by have := hBW; simp; omega) (W7.heap.size + 1) (by simp) ?_; intro gg cap Wz hownz hgr hat hgl; have HZ := Lib.hid (And.intro hownz (And.intro hgr (And.intro hat hgl))); clear hownz hgr hat hgl)
          obtain ⟨hz1, hz2, hz3, hz4⟩ := HZ.out
          have hb8 := alloc_below W7 (.cells #[.pointer (some ⟨X4, 0, none⟩)] 95)
          have hB67 := H7.out.1.trans (hb8.mono H7.out.1.size)
          have hx4 : VoidS W7 (.pointer (some ⟨X4, 0, none⟩)) := H7.out.2
          have hne : ∀ b, (Value.slice (some ⟨gl, 0, none⟩) n cp).ownBlock = some b → (Value.pointer (some ⟨X4, 0, none⟩)) ≠ .pointer (some ⟨b, 0, none⟩) := VL.sep HO7.out hn0 (fun y hy => (HX7.out y hy).1) hx4
          have hVL := VL.step (w := W7.alloc (.cells #[.pointer (some ⟨X4, 0, none⟩)] 95)) (fun y hy => ⟨(HX7.out y hy).1.below hb8, (HX7.out y hy).2⟩) (hx4.below hb8) hne hz1 hz2 (hz3.imp (fun e => e) fun e => by simp; omega)
          have hW : Wrote (fun k => k = gl) (W7.alloc (.cells #[.pointer (some ⟨X4, 0, none⟩)] 95)) Wz := (Wrote.refl _ _).grown hz2 fun k hk _ => by simpa [Value.ownBlock] using hk.symm
          have hbz : Below Wa.heap.size Wa Wz := (HBB9.out.trans (hB67.mono HBB9.out.size)).trans (hW.below (fun k _ hk => by rw [hk]; exact HGL.out) (Nat.le_trans hBW hb8.size))
          have hcF : ∀ p : Addr, p.block < W6.heap.size → p.block ≠ bl → p.block ≠ gl → Wz.cell? p = W6.cell? p := fun p hp hn hg => (hW.cell (Nat.lt_of_lt_of_le hp (Nat.le_trans HS9.out hB67.size)) hg).trans ((hB67.cell (Nat.lt_of_lt_of_le hp HS9.out)).trans (HC9.out p hp hn))
          have HF := Lib.hid (And.intro hVL (And.intro hcF (And.intro hbz (Nat.le_trans (Nat.le_trans HS9.out hB67.size) hW.size))))
          clear hz1 hz2 hz3 hz4 hb8 hB67 hx4 hne hVL hW hbz hcF HZ
          go_wp2_with fail
          go_meet
          exact ⟨gg, n + 1, cap, rfl, by omega, HF.out.1, HF.out.2.1, HF.out.2.2.1, HF.out.2.2.2⟩
    obtain ⟨gl2, n2, cp2, rfl, hn6, hVLf, hcf, hbf, hsf⟩ := hcut
    obtain ⟨zs, hown, hzs⟩ := hVLf.ex
    have HZS := Lib.hid hzs
    have HOWf := Lib.hid hown
    have HBf := Lib.hid hbf
    have y0 := (hbf.cell (p := ⟨w1.heap.size, 0, none⟩) HPB.out).trans p0
    have y1 := (hbf.cell (p := ⟨w1.heap.size, 1, none⟩) HPB.out).trans p1
    have hNy : w1.heap.size < wc.heap.size := Nat.lt_of_lt_of_le HPB.out hbf.size
    have hgl := (hown.lt gl2 rfl).2
    have HVz : Hid (∀ j, j < n2 → ∃ v, wc.cell? ⟨gl2, j, none⟩ = some v ∧ VoidS wc v) := Lib.hid (fun j hj => by
      have hl : zs.length = n2 * 1 := hown.1
      have hj2 : j < zs.length := by omega
      have hc := hown.cells (g := gl2) rfl j _ (List.getElem?_eq_getElem hj2)
      rw [show (⟨gl2, 0, none⟩ : Addr).add j = ⟨gl2, j, none⟩ by unfold Addr.add; split <;> simp_all] at hc
      exact ⟨zs[j], hc, (hzs _ (List.getElem_mem hj2)).1⟩)
    have HCf := Lib.hid hcf
    clear hVLf hown hzs hbf hcf
    go_wp2_with fail
    go_loopw [9] (fun i wr => ∃ k : Nat, k ≤ n2 ∧ i = .int .i64 k ∧ Below wc.heap.size wc wr) (fun i _ => n2 - (intOf i).toNat)
    case atStart => exact ⟨0, Nat.zero_le _, rfl, Below.refl _ _⟩
    case round =>
      obtain ⟨k, hk, rfl, hb⟩ := hrel
      have HBr := Lib.hid hb
      have x0 := (hb.cell (p := ⟨w1.heap.size, 0, none⟩) hNy).trans y0
      have x1 := (hb.cell (p := ⟨w1.heap.size, 1, none⟩) hNy).trans y1
      have hNr : w1.heap.size < wr.heap.size := Nat.lt_of_lt_of_le hNy hb.size
      by_cases hk2 : k < n2
      · obtain ⟨v, hvc, hvv⟩ := HVz.out k hk2
        have lc := (hb.cell (p := ⟨gl2, k, none⟩) hgl).trans hvc
        have HV := Lib.hid (hvv.below hb)
        obtain ⟨a, rfl⟩ := hvv.ptr
        have hbr : gl2 < wr.heap.size := Nat.lt_of_lt_of_le hgl hb.size
        have hki : (k : Int) < n2 := by omega
        clear hvc hvv hb y0 y1
        go_wp2_with fail
        refine (c_vsGot HV.out).mono ?_
        rintro e w2 ⟨rfl, hb2⟩
        unfold ansV
        have V2 := Lib.hid (HV.out.below hb2)
        have z0 := (hb2.cell (p := ⟨w1.heap.size, 0, none⟩) hNr).trans x0
        have zc := (hb2.cell (p := ⟨gl2, k, none⟩) hbr).trans lc
        have HB2 := Lib.hid (HBr.out.trans (hb2.mono HBr.out.size))
        have hN2 : w1.heap.size < w2.heap.size := Nat.lt_of_lt_of_le hNr hb2.size
        have hb2r : gl2 < w2.heap.size := Nat.lt_of_lt_of_le hbr hb2.size
        clear hb2 x0 x1 lc HV
        go_upto_region 15 with fail
        obtain ⟨W3, hW3⟩ : ∃ W3, W3 = w2.alloc (.cells #[.int .u8 0, .int .u64 0, .string ⟨#[]⟩, .string ⟨#[]⟩, .int .u32 0, .int .u64 0, .int .i64 0, .int .i64 0] 34) := ⟨_, rfl⟩
        have b3 : Below w2.heap.size w2 W3 := by rw [hW3]; exact alloc_below _ _
        have V3 := Lib.hid (V2.out.below b3)
        have x0 := (b3.cell (p := ⟨w1.heap.size, 0, none⟩) hN2).trans z0
        have xc := (b3.cell (p := ⟨gl2, k, none⟩) hb2r).trans zc
        have hcA : ∀ j u, [.int .u8 0, .int .u64 0, .string ⟨#[]⟩, .string ⟨#[]⟩, .int .u32 0, .int .u64 0, .int .i64 0, .int .i64 0][j]? = some u → W3.cell? ⟨w2.heap.size, j, none⟩ = some u := fun j u hu => by rw [hW3]; exact cell_newA w2 #[.int .u8 0, .int .u64 0, .string ⟨#[]⟩, .string ⟨#[]⟩, .int .u32 0, .int .u64 0, .int .i64 0, .int .i64 0] _ _ rfl j u (by simpa using hu)
        have e0 := hcA 0 _ rfl
        have e1 := hcA 1 _ rfl
        have e2 := hcA 2 _ rfl
        have e3 := hcA 3 _ rfl
        have e4 := hcA 4 _ rfl
        have e5 := hcA 5 _ rfl
        have e6 := hcA 6 _ rfl
        have e7 := hcA 7 _ rfl
        have HB3 := Lib.hid (HB2.out.trans (b3.mono HB2.out.size))
        have hN3 : w1.heap.size < W3.heap.size := Nat.lt_of_lt_of_le hN2 b3.size
        have hb3r : gl2 < W3.heap.size := Nat.lt_of_lt_of_le hb2r b3.size
        have hA3 : w2.heap.size < W3.heap.size := by rw [hW3]; simp
        rw [← hW3]
        clear hW3 b3 z0 zc hN2 hb2r hNr hbr V2 hcA
        have HVv := Lib.hid (fun e => V3.out.below (via_below W3 e))
        refine wp_region_via (by kernel_rfl) (by kernel_rfl) ?_
        repeat (go_big_quiet_step ((first
          | (go_at_call 36; exact viaS (c_vsOver (HVv.out _)))
          | (go_at_call 37; exact viaS (c_vsStep _ (HVv.out _))))))
        refine wpQuiet_nil ?_
        rintro _ ⟨e, rfl⟩
        have HB4 := Lib.hid (HB3.out.trans ((via_below W3 e).mono HB3.out.size))
        go_wp2_with fail
        go_roundw
        case rel => exact ⟨k + 1, by omega, by go_num, HB4.out⟩
        case measure => simp [intOf]; omega
      · obtain rfl : k = n2 := by omega
        have hob1 : ob ≠ bl := HVL6.out.ne0 (by decide) (HKO.out 0 _ rfl)
        have hob2 : ob ≠ gl := HVL9.out.ne0 hn0 ((HC9.out ⟨ob, 0, none⟩ hl6 hob1).trans (HKO.out 0 _ rfl))
        have hlo : ob < wr.heap.size := Nat.lt_of_lt_of_le hl6 (Nat.le_trans hsf hb.size)
        have HOo := Lib.hid (fun j u (hu : [.int .u8 3, .string ⟨#[97]⟩, .string ⟨#[]⟩, .int .u32 0, .int .i64 0, .int .u64 0, .int .u64 0][j]? = some u) => (hb.cell (p := ⟨ob, j, none⟩) (Nat.lt_of_lt_of_le hl6 hsf)).trans ((HCf.out ⟨ob, j, none⟩ hl6 hob1 hob2).trans (HKO.out j u hu)))
        have o0 := HOo.out 0 _ rfl
        have o1 := HOo.out 1 _ rfl
        have o2 := HOo.out 2 _ rfl
        have o3 := HOo.out 3 _ rfl
        have o4 := HOo.out 4 _ rfl
        have o5 := HOo.out 5 _ rfl
        have o6 := HOo.out 6 _ rfl
        have HBx := Lib.hid (HBf.out.trans (hb.mono HBf.out.size))
        clear hb y0 y1 hob1 hob2 hlo
        go_wp2_with fail
        refine (HNO.out wr).mono ?_
        rintro e W8 ⟨X, rfl, G8, e8, h8⟩
        have hb8 := ext0_belowS e8
        have hid : Idle W8 X false := h8.idle
        have HS := Lib.hid (c_StStepNil hid)
        have HO := Lib.hid (c_StOver hid)
        have z0 := (hb8.cell (p := ⟨w1.heap.size, 0, none⟩) hNr).trans x0
        have z1 := (hb8.cell (p := ⟨w1.heap.size, 1, none⟩) hNr).trans x1
        have HBy := Lib.hid (HBx.out.trans (hb8.mono HBx.out.size))
        have HSB := Lib.hid (HSA.out W8 (HBa.out.2.trans (HBy.out.mono HBa.out.2.size)))
        clear hb8 hid e8 h8 x0 x1 o0 o1 o2 o3 o4 o5 o6 HOo HNO HSA
        go_wp2_with fail
        refine HS.out.mono ?_
        rintro e w' ⟨rfl, rfl⟩
        go_wp2_with fail
        refine HO.out.mono ?_
        rintro e w' ⟨rfl, rfl⟩
        go_wp2_with fail
        refine HSB.out.mono ?_
        rintro e Wf ⟨rfl, hbf⟩
        have HBz := Lib.hid (HBy.out.trans (hbf.mono HBy.out.size))
        clear hbf
        go_wp2_with fail
        refine (c_lives25 Wf).mono ?_
        rintro e W10 ⟨rfl, hb10⟩
        go_wp2_with fail
        go_ret
        exact ⟨rfl, HBa.out.1.trans ((HBz.out.trans (hb10.mono HBz.out.size)).mono HBa.out.1.size)⟩
end
end Go.Proofs.YthpedifjclofoaaGreat
