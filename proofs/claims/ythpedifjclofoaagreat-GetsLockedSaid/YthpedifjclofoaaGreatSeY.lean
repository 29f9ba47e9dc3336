/- Layers 3, 25: which keys and values may be; which calls may be stored. Layer 25: a new Store; what it got. Layer 25: what a Store got; Stores that do nothing. Layers 14, 25: runs of a Store and of a Look by themselves. Layer 25: a call by itself. Layer 25: the chapter's examples. Layer 25: calls that may not be stored. Layer 25: Stores that do nothing. -/
import Derived.Test.YthpedifjclofoaaGreatBaB
import Derived.Test.YthpedifjclofoaaGreatSeR
import Derived.Test.YthpedifjclofoaaGreatLkA
import Derived.Test.YthpedifjclofoaaGreatBaH
namespace Go.Proofs.YthpedifjclofoaaGreat
set_option linter.unusedSimpArgs false
section
open Go.RowKit
set_option linter.unusedVariables false
def kyB (c : UInt8) : Bool := decide (32 < c.toNat) && decide (c.toNat ≠ 127)
def kyOk (k : ByteArray) : Bool := decide (k.size ≠ 0) && (decide (k.size ≤ 250) && k.data.toList.all kyB)
def kyVal (k : ByteArray) : Bool := decide (k.size ≤ 1024)
theorem byLoop (b : ByteArray) : ∀ (n i : Nat) (r : List UInt8), b.size - i = n → (ByteArray.toList.loop b i r).length = r.length + n := by
  intro n
  induction n with
  | zero =>
    intro i r h
    unfold ByteArray.toList.loop
    rw [if_neg (by omega)]
    simp
  | succ n ih =>
    intro i r h
    unfold ByteArray.toList.loop
    rw [if_pos (by omega), ih (i + 1) _ (by omega)]
    simp
    omega
theorem by_ne {b : ByteArray} (h : b.size ≠ 0) : b.toList.isEmpty = false := by
  rw [List.isEmpty_eq_false_iff]
  intro e
  have h1 := byLoop b b.size 0 [] (by omega)
  have h2 := congrArg List.length e
  unfold ByteArray.toList at h2
  rw [h1] at h2
  simp at h2
  exact h (by rw [h2]; rfl)
/-- What a look at a key tells. -/
def KyLk (kd : IntKind) (s : ByteArray) (e : Ending) : Prop := ∃ f n, e = .returned (.tuple #[.int kd f, .int .i64 n]) ∧ (f == 0) = kyOk s
theorem all_take {l : List UInt8} {k : Nat} (h : k < l.length) (a : (l.take k).all kyB = true) (b : kyB l[k] = true) : (l.take (k + 1)).all kyB = true := by
  rw [List.take_succ_eq_append_getElem h, List.all_append, a]
  simp [b]
theorem all_not {l : List UInt8} {k : Nat} (h : k < l.length) (b : kyB l[k] = false) : l.all kyB = false := by
  rw [List.all_eq_false]
  exact ⟨l[k], List.getElem_mem h, by simp [b]⟩
section
set_option maxRecDepth 100000 in
theorem c_kyLook (s : ByteArray) (w : World) (hs : s.size ≤ maxLen) :
    Calls Tryz.prog 43 #[.string s] w fun e w' => KyLk .u8 s e ∧ w = w' := by
  unfold maxLen at hs
  by_cases h0 : s.size = 0
  · have he : s = ⟨#[]⟩ := by
      cases s with | mk d => cases d with | mk l => cases l with | nil => rfl | cons a l => simp [ByteArray.size] at h0
    subst he
    go_enter Tryz.func43, Tryz.ntmps43
    go_wp2
    exact bodyPost_ret (v := .tuple #[.int .u8 1, .int .i64 0]) (by simp [results, Tryz.results43, go_sem]) rfl ⟨⟨1, 0, rfl, rfl⟩, rfl⟩
  · have he3 : s.toList.isEmpty = false := by_ne h0
    by_cases h1 : 250 < s.size
    · have e1 : decide ((250 : Int) < (s.size : Int)) = true := by simp; omega
      have HK : Hid (kyOk s = false) := Lib.hid (by unfold kyOk; rw [decide_eq_false (show ¬ s.size ≤ 250 by omega)]; simp)
      go_enter Tryz.func43, Tryz.ntmps43
      go_wp2
      exact bodyPost_ret (v := .tuple #[.int .u8 2, .int .i64 0]) (by simp [results, Tryz.results43, go_sem]) rfl ⟨⟨2, 0, rfl, by rw [HK.out]; rfl⟩, rfl⟩
    · have e1 : decide ((250 : Int) < (s.size : Int)) = false := by simp; omega
      have HK : Hid (kyOk s = s.data.toList.all kyB) := Lib.hid (by unfold kyOk; rw [decide_eq_true (show s.size ≤ 250 by omega), decide_eq_true h0]; simp)
      clear h0 h1
      go_enter Tryz.func43, Tryz.ntmps43
      go_wp2
      go_loop [15] (fun i => ∃ k : Nat, k ≤ s.size ∧ i = .int .i64 k ∧ (s.data.toList.take k).all kyB = true) (fun i => s.size - (intOf i).toNat)
      case atStart => exact ⟨0, Nat.zero_le _, rfl, rfl⟩
      case round =>
        obtain ⟨k, hk, rfl, ha⟩ := hrel
        have HA := Lib.hid ha
        clear ha
        by_cases hlt : k < s.size
        · have hll : k < s.data.toList.length := by simpa using hlt
          have hg : s.data.toList[k] = s[k] := by simp; rfl
          have hc0 : (0 : Int) ≤ (s[k].toNat : Int) := by omega
          have hc1 : (s[k].toNat : Int) < 256 := by have := s[k].toNat_lt; omega
          by_cases hb1 : (s[k].toNat : Int) ≤ 32
          · have d1 : decide ((s[k].toNat : Int) ≤ 32) = true := by simp [hb1]
            have HN : Hid (s.data.toList.all kyB = false) := Lib.hid (all_not hll (by rw [hg]; unfold kyB; rw [decide_eq_false (by omega)]; rfl))
            clear hg
            go_wp2
            exact bodyPost_ret (v := .tuple #[.int .u8 3, .int .i64 k]) (by simp [results, Tryz.results43, go_sem]) rfl ⟨⟨3, k, rfl, by rw [HK.out, HN.out]; rfl⟩, rfl⟩
          · have d1 : decide ((s[k].toNat : Int) ≤ 32) = false := by simp; omega
            by_cases hb2 : (s[k].toNat : Int) = 127
            · have d2 : ((s[k].toNat : Int) == 127) = true := by simp [hb2]
              have HN : Hid (s.data.toList.all kyB = false) := Lib.hid (all_not hll (by rw [hg]; unfold kyB; rw [decide_eq_false (p := s[k].toNat ≠ 127) (by omega)]; simp))
              clear hg hb2
              go_wp2
              exact bodyPost_ret (v := .tuple #[.int .u8 3, .int .i64 k]) (by simp [results, Tryz.results43, go_sem]) rfl ⟨⟨3, k, rfl, by rw [HK.out, HN.out]; rfl⟩, rfl⟩
            · have d2 : ((s[k].toNat : Int) == 127) = false := by simp [hb2]
              have HN : Hid ((s.data.toList.take (k + 1)).all kyB = true) := Lib.hid (all_take hll HA.out (by rw [hg]; unfold kyB; rw [decide_eq_true (p := s[k].toNat ≠ 127) (by omega), decide_eq_true (by omega)]; rfl))
              clear hg hb2
              go_wp2
              go_round
              case rel => exact ⟨k + 1, by omega, by go_num, HN.out⟩
              case measure => simp [intOf]; omega
        · go_wp2
          exact bodyPost_ret (v := .tuple #[.int .u8 0, .int .i64 0]) (by simp [results, Tryz.results43, go_sem]) rfl ⟨⟨0, 0, rfl, by rw [HK.out]; have := HA.out; rw [List.take_of_length_le (by simp; omega)] at this; rw [this]; rfl⟩, rfl⟩
theorem c_kyOk (s : ByteArray) (w : World) (hs : s.size ≤ maxLen) : Calls Tryz.prog 11 #[.string s] w fun e w' => e = .returned (.bool (kyOk s)) ∧ w = w' := by
  have HC := Lib.hid (c_kyLook s w hs)
  go_enter Tryz.func11, Tryz.ntmps11
  go_wp2_with fail
  refine HC.out.mono ?_
  rintro e w' ⟨⟨f, n, rfl, hf⟩, rfl⟩
  have HF := Lib.hid hf
  clear hf
  go_wp2_with fail
  go_ret
  exact ⟨ret_bool HF.out, rfl⟩
theorem c_kyValue (s : ByteArray) (w : World) (hs : s.size ≤ maxLen) : Calls Tryz.prog 12 #[.string s] w fun e w' => e = .returned (.bool (kyVal s)) ∧ w = w' := by
  unfold maxLen at hs
  have HR : Hid (Calls Tryz.prog 44 #[.int .i64 s.size] w fun e w' => e = .returned (.bool (kyVal s)) ∧ w = w') := by
    refine Lib.hid ?_
    have d0 : decide ((0 : Int) ≤ (s.size : Int)) = true := by simp
    go_enter Tryz.func44, Tryz.ntmps44
    go_wp2
    go_ret
    exact ⟨ret_bool (by unfold kyVal; rw [Bool.eq_iff_iff]; simp; try omega), rfl⟩
  go_enter Tryz.func12, Tryz.ntmps12
  go_wp2_with fail
  refine HR.out.mono ?_
  rintro e w' ⟨rfl, rfl⟩
  go_wp2_with fail
  go_ret
  exact ⟨rfl, rfl⟩
end
section
theorem c_rkyMay (c : UInt8) (w : World) : Calls Tryz.prog 138 #[.int .u8 (c.toNat : Int)] w fun e w' => e = .returned (.bool (kyB c)) ∧ w = w' := by
  by_cases h : (32 : Int) < (c.toNat : Int)
  · have d1 : decide ((32 : Int) < (c.toNat : Int)) = true := by simp [h]
    go_enter Tryz.func138, Tryz.ntmps138
    go_wp2
    go_ret
    exact ⟨ret_bool (by unfold kyB; rw [decide_eq_true (show 32 < c.toNat by omega), Bool.true_and, Bool.eq_iff_iff]; simp; try omega), rfl⟩
  · have d1 : decide ((32 : Int) < (c.toNat : Int)) = false := by simp; omega
    go_enter Tryz.func138, Tryz.ntmps138
    go_wp2
    go_ret
    exact ⟨ret_bool (by unfold kyB; rw [decide_eq_false (show ¬ 32 < c.toNat by omega), Bool.false_and]), rfl⟩
set_option maxRecDepth 100000 in
theorem c_rkyLook (s : ByteArray) (w : World) (hs : s.size ≤ maxLen) :
    Calls Tryz.prog 88 #[.string s] w fun e w' => KyLk .i64 s e ∧ w = w' := by
  unfold maxLen at hs
  by_cases h0 : s.size = 0
  · have e0 : ((s.size : Int) == 0) = true := by simp [h0]
    have HK : Hid (kyOk s = false) := Lib.hid (by unfold kyOk; rw [decide_eq_false (show ¬ s.size ≠ 0 by omega)]; simp)
    clear h0
    go_enter Tryz.func88, Tryz.ntmps88
    go_wp2
    exact bodyPost_ret (v := .tuple #[.int .i64 1, .int .i64 0]) (by simp [results, Tryz.results88, go_sem]) rfl ⟨⟨1, 0, rfl, by rw [HK.out]; rfl⟩, rfl⟩
  · have e0 : ((s.size : Int) == 0) = false := by simp [h0]
    by_cases h1 : 250 < s.size
    · have e1 : decide ((250 : Int) < (s.size : Int)) = true := by simp; omega
      have HK : Hid (kyOk s = false) := Lib.hid (by unfold kyOk; rw [decide_eq_false (show ¬ s.size ≤ 250 by omega)]; simp)
      go_enter Tryz.func88, Tryz.ntmps88
      go_wp2
      exact bodyPost_ret (v := .tuple #[.int .i64 2, .int .i64 0]) (by simp [results, Tryz.results88, go_sem]) rfl ⟨⟨2, 0, rfl, by rw [HK.out]; rfl⟩, rfl⟩
    · have e1 : decide ((250 : Int) < (s.size : Int)) = false := by simp; omega
      have HK : Hid (kyOk s = s.data.toList.all kyB) := Lib.hid (by unfold kyOk; rw [decide_eq_true (show s.size ≤ 250 by omega), decide_eq_true h0]; simp)
      clear h0 h1
      go_enter Tryz.func88, Tryz.ntmps88
      go_wp2
      go_loop [4] (fun i => ∃ k : Nat, k ≤ s.size ∧ i = .int .i64 k ∧ (s.data.toList.take k).all kyB = true) (fun i => s.size - (intOf i).toNat)
      case atStart => exact ⟨0, Nat.zero_le _, rfl, rfl⟩
      case round =>
        obtain ⟨k, hk, rfl, ha⟩ := hrel
        have HA := Lib.hid ha
        clear ha
        by_cases hlt : k < s.size
        · have hll : k < s.data.toList.length := by simpa using hlt
          have hg : s.data.toList[k] = s[k] := by simp; rfl
          have HM := Lib.hid (c_rkyMay s[k] w)
          obtain ⟨b, hb⟩ : ∃ b, b = kyB s[k] := ⟨_, rfl⟩
          rw [← hb] at HM
          have HB := Lib.hid hb
          cases b
          · have HN : Hid (s.data.toList.all kyB = false) := Lib.hid (all_not hll (by rw [hg]; exact HB.out.symm))
            clear hg hb
            go_wp2_with fail
            refine HM.out.mono ?_
            rintro e w' ⟨rfl, rfl⟩
            go_wp2_with fail
            exact bodyPost_ret (v := .tuple #[.int .i64 3, .int .i64 k]) (by simp [results, Tryz.results88, go_sem]) rfl ⟨⟨3, k, rfl, by rw [HK.out, HN.out]; rfl⟩, rfl⟩
          · have HN : Hid ((s.data.toList.take (k + 1)).all kyB = true) := Lib.hid (all_take hll HA.out (by rw [hg]; exact HB.out.symm))
            clear hg hb
            go_wp2_with fail
            refine HM.out.mono ?_
            rintro e w' ⟨rfl, rfl⟩
            go_wp2_with fail
            go_round
            case rel => exact ⟨k + 1, by omega, by go_num, HN.out⟩
            case measure => simp [intOf]; omega
        · go_wp2
          exact bodyPost_ret (v := .tuple #[.int .i64 0, .int .i64 0]) (by simp [results, Tryz.results88, go_sem]) rfl ⟨⟨0, 0, rfl, by rw [HK.out]; have := HA.out; rw [List.take_of_length_le (by simp; omega)] at this; rw [this]; rfl⟩, rfl⟩
theorem c_rkyOk (s : ByteArray) (w : World) (hs : s.size ≤ maxLen) : Calls Tryz.prog 39 #[.string s] w fun e w' => e = .returned (.bool (kyOk s)) ∧ w = w' := by
  have HC := Lib.hid (c_rkyLook s w hs)
  go_enter Tryz.func39, Tryz.ntmps39
  go_wp2_with fail
  refine HC.out.mono ?_
  rintro e w' ⟨⟨f, n, rfl, hf⟩, rfl⟩
  have HF := Lib.hid hf
  clear hf
  go_wp2_with fail
  go_ret
  exact ⟨ret_bool HF.out, rfl⟩
theorem c_rkyValue (s : ByteArray) (w : World) (hs : s.size ≤ maxLen) : Calls Tryz.prog 81 #[.string s] w fun e w' => e = .returned (.bool (kyVal s)) ∧ w = w' := by
  unfold maxLen at hs
  go_enter Tryz.func81, Tryz.ntmps81
  go_wp2
  go_ret
  exact ⟨ret_bool (by unfold kyVal; rw [Bool.eq_iff_iff]; simp; try omega), rfl⟩
end
end
section
open Go.RowKit
set_option linter.unusedVariables false
def clV (c : Clm) : Value := .agg #[.int .u8 c.verb, .string c.key, .string c.val, .int .u32 c.fl, .int .i64 c.exp, .int .u64 c.id, .int .u64 c.by_]
/-- May a call be stored? -/
def mayB (c : Clm) : Bool := decide (c.verb = 3 ∨ c.verb = 4 ∨ c.verb = 5 ∨ c.verb = 6) && (kyOk c.key && kyVal c.val)
section
set_option maxRecDepth 100000 in
set_option maxHeartbeats 1000000 in
theorem c_StMay (c : Clm) (w : World) (hk : c.key.size ≤ maxLen) (hv : c.val.size ≤ maxLen) : Calls Tryz.prog 76 #[clV c] w fun e w' => e = .returned (.bool (mayB c)) ∧ Below w.heap.size w w' := by
  unfold clV
  have HO := Lib.hid (fun W => c_kyOk c.key W hk)
  have HV := Lib.hid (fun W => c_kyValue c.val W hv)
  obtain ⟨ko, hko⟩ : ∃ t, t = kyOk c.key := ⟨_, rfl⟩
  obtain ⟨vo, hvo⟩ : ∃ t, t = kyVal c.val := ⟨_, rfl⟩
  rw [← hko] at HO
  rw [← hvo] at HV
  have hmb : mayB c = (decide (c.verb = 3 ∨ c.verb = 4 ∨ c.verb = 5 ∨ c.verb = 6) && (ko && vo)) := by rw [hko, hvo]; rfl
  clear hko hvo
  by_cases h : c.verb = 3 ∨ c.verb = 4 ∨ c.verb = 5 ∨ c.verb = 6
  · rw [decide_eq_true h, Bool.true_and] at hmb
    rw [hmb]
    clear hmb
    have hc : (c.verb == 3) = true ∨ ((c.verb == 3) = false ∧ (c.verb == 4) = true) ∨ ((c.verb == 3) = false ∧ (c.verb == 4) = false ∧ (c.verb == 5) = true) ∨ ((c.verb == 3) = false ∧ (c.verb == 4) = false ∧ (c.verb == 5) = false ∧ (c.verb == 6) = true) := by
      simp only [beq_iff_eq, beq_eq_false_iff_ne]
      omega
    clear h
    rcases hc with d3 | ⟨d3, d4⟩ | ⟨d3, d4, d5⟩ | ⟨d3, d4, d5, d6⟩
    all_goals
      cases ko with
      | false =>
        go_enter Tryz.func76, Tryz.ntmps76
        go_wp2_with fail
        refine (HO.out _).mono ?_
        rintro e w' ⟨rfl, rfl⟩
        go_wp2_with fail
        go_ret
        exact ⟨rfl, alloc_below _ _⟩
      | true =>
        go_enter Tryz.func76, Tryz.ntmps76
        go_wp2_with fail
        refine (HO.out _).mono ?_
        rintro e w' ⟨rfl, rfl⟩
        go_wp2_with fail
        refine (HV.out _).mono ?_
        rintro e w' ⟨rfl, rfl⟩
        go_wp2_with fail
        go_ret
        exact ⟨rfl, alloc_below _ _⟩
  · rw [decide_eq_false h, Bool.false_and] at hmb
    rw [hmb]
    clear hmb HO HV
    have d3 : (c.verb == 3) = false := by simp; omega
    have d4 : (c.verb == 4) = false := by simp; omega
    have d5 : (c.verb == 5) = false := by simp; omega
    have d6 : (c.verb == 6) = false := by simp; omega
    clear h
    go_enter Tryz.func76, Tryz.ntmps76
    go_wp2_with fail
    go_ret
    exact ⟨rfl, alloc_below _ _⟩
end
/-- The owners of a Store's blocks. -/
def NX (k t : Nat) : Prop := k ≤ t ∧ t ≤ k + 30
theorem NX.one {k t : Nat} (h : t = k) : NX k t := ⟨by omega, by omega⟩
theorem NX.sx {k t : Nat} (h : NX k t) : SX k (k + 30) t := .inr h
section
variable {w : World} {O : Om} {B : Wb} {f : Cf} {s : AW} {k X t : Nat} {c : Clm}
/-- The blocks of a new Store, in whatever order they are made. -/
structure NewSt (w : World) (O : Om) (k : Nat) (c : Clm) (wx : World) (G : Om) (X bx : Nat) : Prop where
  e : Ext (NX k) O w G wx
  o : Ob wx G k X (stCs .nilIface .nilFunc .nilFunc c sp20 0 0 0 0)
  b : Bx wx G bx [PTR X]
  c : Bx wx G w.heap.size (clCs c)
theorem newStA (hhi : ∀ j, O j ≠ 0 → j < w.heap.size) (h : Value) (t1 t2 t3 t4 : TypeId) : ∃ G, NewSt w O k c ((((w.alloc (.cells (clCs c).toArray t1)).alloc (.cells #[h] t2)).alloc (.cells (stCs .nilIface .nilFunc .nilFunc c sp20 0 0 0 0).toArray t3)).alloc (.cells #[PTR (w.heap.size + 1 + 1)] t4)).drew G (w.heap.size + 1 + 1) (w.heap.size + 1 + 1 + 1) := by
  have b1 := alloc_below w (.cells (clCs c).toArray t1)
  have b2 := alloc_below (w.alloc (.cells (clCs c).toArray t1)) (.cells #[h] t2)
  have b12 := b1.trans (b2.mono b1.size)
  obtain ⟨G, e, o, -⟩ := alloc_ob (hi_below hhi b12) k (stCs .nilIface .nilFunc .nilFunc c sp20 0 0 0 0).toArray t3 (w.heap.size + 1 + 1) (by simp)
  have b4 := (alloc_below (((w.alloc (.cells (clCs c).toArray t1)).alloc (.cells #[h] t2)).alloc (.cells (stCs .nilIface .nilFunc .nilFunc c sp20 0 0 0 0).toArray t3)) (.cells #[PTR (w.heap.size + 1 + 1)] t4)).drew
  exact ⟨G, ((Ext.of_below hhi b12).trans (e.mono fun t _ ht => NX.one ht)).below b4, o.below b4, (Bx.new e.hi #[PTR (w.heap.size + 1 + 1)] t4 _ (by simp)).below (drew_below _), (((Bx.new hhi (clCs c).toArray t1 _ rfl).below b2).ext e).below b4⟩
theorem newStB (hhi : ∀ j, O j ≠ 0 → j < w.heap.size) (h : Value) (t1 t2 t3 t4 : TypeId) : ∃ G, NewSt w O k c ((((w.alloc (.cells (clCs c).toArray t1)).alloc (.cells #[h] t2)).alloc (.cells #[PTR (w.heap.size + 1 + 1 + 1)] t4)).alloc (.cells (stCs .nilIface .nilFunc .nilFunc c sp20 0 0 0 0).toArray t3)).drew G (w.heap.size + 1 + 1 + 1) (w.heap.size + 1 + 1) := by
  have b1 := alloc_below w (.cells (clCs c).toArray t1)
  have b2 := alloc_below (w.alloc (.cells (clCs c).toArray t1)) (.cells #[h] t2)
  have b12 := b1.trans (b2.mono b1.size)
  have b3 := alloc_below ((w.alloc (.cells (clCs c).toArray t1)).alloc (.cells #[h] t2)) (.cells #[PTR (w.heap.size + 1 + 1 + 1)] t4)
  have b13 := b12.trans (b3.mono b12.size)
  obtain ⟨G, e, o, -⟩ := alloc_ob (hi_below hhi b13) k (stCs .nilIface .nilFunc .nilFunc c sp20 0 0 0 0).toArray t3 (w.heap.size + 1 + 1 + 1) (by simp)
  have bd := drew_below ((((w.alloc (.cells (clCs c).toArray t1)).alloc (.cells #[h] t2)).alloc (.cells #[PTR (w.heap.size + 1 + 1 + 1)] t4)).alloc (.cells (stCs .nilIface .nilFunc .nilFunc c sp20 0 0 0 0).toArray t3))
  exact ⟨G, ((Ext.of_below hhi b13).trans (e.mono fun t _ ht => NX.one ht)).below bd, o.below bd, ((Bx.new (hi_below hhi b12) #[PTR (w.heap.size + 1 + 1 + 1)] t4 _ (by simp)).ext e).below bd, ((((Bx.new hhi (clCs c).toArray t1 _ rfl).below b2).below b3).ext e).below bd⟩
theorem newStC (hhi : ∀ j, O j ≠ 0 → j < w.heap.size) (h : Value) (t1 t2 t3 t4 : TypeId) : ∃ G, NewSt w O k c ((((w.alloc (.cells (clCs c).toArray t1)).alloc (.cells #[PTR (w.heap.size + 1 + 1 + 1)] t4)).alloc (.cells #[h] t2)).alloc (.cells (stCs .nilIface .nilFunc .nilFunc c sp20 0 0 0 0).toArray t3)).drew G (w.heap.size + 1 + 1 + 1) (w.heap.size + 1) := by
  have b1 := alloc_below w (.cells (clCs c).toArray t1)
  have b2 := alloc_below (w.alloc (.cells (clCs c).toArray t1)) (.cells #[PTR (w.heap.size + 1 + 1 + 1)] t4)
  have b12 := b1.trans (b2.mono b1.size)
  have b3 := alloc_below ((w.alloc (.cells (clCs c).toArray t1)).alloc (.cells #[PTR (w.heap.size + 1 + 1 + 1)] t4)) (.cells #[h] t2)
  have b13 := b12.trans (b3.mono b12.size)
  obtain ⟨G, e, o, -⟩ := alloc_ob (hi_below hhi b13) k (stCs .nilIface .nilFunc .nilFunc c sp20 0 0 0 0).toArray t3 (w.heap.size + 1 + 1 + 1) (by simp)
  have bd := drew_below ((((w.alloc (.cells (clCs c).toArray t1)).alloc (.cells #[PTR (w.heap.size + 1 + 1 + 1)] t4)).alloc (.cells #[h] t2)).alloc (.cells (stCs .nilIface .nilFunc .nilFunc c sp20 0 0 0 0).toArray t3))
  exact ⟨G, ((Ext.of_below hhi b13).trans (e.mono fun t _ ht => NX.one ht)).below bd, o.below bd, (((Bx.new (hi_below hhi b1) #[PTR (w.heap.size + 1 + 1 + 1)] t4 _ (by simp)).below b3).ext e).below bd, ((((Bx.new hhi (clCs c).toArray t1 _ rfl).below b2).below b3).ext e).below bd⟩
set_option maxHeartbeats 4000000 in
set_option maxRecDepth 100000 in
theorem c_NewStore (t : Nat) (ht : t < 64) (hm : mayB c = true) (hz : c.key.size ≤ maxLen) (hv : c.val.size ≤ maxLen) (hk : 10 ≤ k) (hhi : ∀ j, O j ≠ 0 → j < w.heap.size) :
    Calls Tryz.prog 33 #[.int .i64 t, clV c] w fun e w' => ∃ X, RP (NX k) w O (PTR X) (fun W G => StAt W G k X t c stNew) e w' := by
  have HM := Lib.hid (fun W => c_StMay c W hz hv)
  rw [hm] at HM
  have HH := Lib.hid (fun W => c_Hash c.key W hz)
  rw [show fnvHash c.key.data.toList = kyH c.key from rfl] at HH
  unfold clV at HM ⊢
  have HI := Lib.hid hhi
  clear hm hhi hz hv
  go_enter Tryz.func33, Tryz.ntmps33
  go_upto_region 1 with fail
  go_cut [5] (fun v wx => ∃ (bx X : Nat) (G : Om), v = PTR bx ∧ NewSt w O k c wx G X bx)
  case first =>
   go_region_held3 (fun w' => w'.cell? ⟨w.heap.size, 0, none⟩ = some (.int .u8 c.verb) ∧ w'.cell? ⟨w.heap.size, 1, none⟩ = some (.string c.key) ∧ w'.cell? ⟨w.heap.size, 2, none⟩ = some (.string c.val) ∧ w'.cell? ⟨w.heap.size, 3, none⟩ = some (.int .u32 c.fl) ∧ w'.cell? ⟨w.heap.size, 4, none⟩ = some (.int .i64 c.exp) ∧ w'.cell? ⟨w.heap.size, 5, none⟩ = some (.int .u64 c.id) ∧ w'.cell? ⟨w.heap.size, 6, none⟩ = some (.int .u64 c.by_)) (go_keep)
    (first
      | (go_at_call 29
         refine (HH.out _).mono ?_
         rintro e w' ⟨rfl, rfl⟩))
   all_goals
     go_wp2_with fail
     go_meet
     first
       | (obtain ⟨G, h⟩ := newStA (c := c) (k := k) HI.out (.int .u64 (kyH c.key)) 26 155 102 95; exact ⟨_, _, G, rfl, h⟩)
       | (obtain ⟨G, h⟩ := newStB (c := c) (k := k) HI.out (.int .u64 (kyH c.key)) 26 155 102 95; exact ⟨_, _, G, rfl, h⟩)
       | (obtain ⟨G, h⟩ := newStC (c := c) (k := k) HI.out (.int .u64 (kyH c.key)) 26 155 102 95; exact ⟨_, _, G, rfl, h⟩)
  obtain ⟨bx, X, G, rfl, hN⟩ := hcut
  unfold PTR
  have HN := Lib.hid (c_NewTakeE t wc G (k + 1) (by omega) (by omega) (by omega) hN.e.hi)
  have HW := Lib.hid hN
  clear hN
  go_wp2_with fail
  refine HN.out.mono ?_
  rintro e w2 ⟨T, rfl, G2, e2, t2⟩
  have em := e2.mono (T := NX k) fun t _ ht => ⟨by omega, by omega⟩
  have o2 := HW.out.o.ext e2 (by omega)
  have b2 := HW.out.b.ext e2
  have c2 := HW.out.c.ext e2
  have q0 := c2.c 0 _ rfl
  have q1 := c2.c 1 _ rfl
  have q2 := c2.c 2 _ rfl
  have q3 := c2.c 3 _ rfl
  have q4 := c2.c 4 _ rfl
  have q5 := c2.c 5 _ rfl
  have q6 := c2.c 6 _ rfl
  have HJ := Lib.hid (And.intro (HW.out.e.trans em) (And.intro o2 (And.intro b2 t2)))
  clear e2 t2 em o2 b2 c2 HW
  go_wp2_with fail
  refine (HM.out _).mono ?_
  rintro e w3 ⟨rfl, hb3⟩
  replace HJ := Lib.hid (And.intro (HJ.out.1.below hb3) (And.intro (HJ.out.2.1.below hb3) (And.intro (HJ.out.2.2.1.below hb3) (HJ.out.2.2.2.below hb3))))
  have t3 := HJ.out.2.2.2.c 3 _ rfl
  clear hb3
  go_wp2_with fail
  refine (c_TakeOver T _ _ t3 false (.inr ⟨_, _, _, rfl, rfl⟩)).mono ?_
  rintro e w' ⟨rfl, rfl⟩
  have z0 := HJ.out.2.1.c 0 _ rfl
  have z1 := HJ.out.2.1.c 1 _ rfl
  have f0 := HJ.out.2.1.f 0
  have f1 := HJ.out.2.1.f 1
  have y0 : w3.cell? ⟨bx, 0, none⟩ = some (.pointer (some ⟨X, 0, none⟩)) := HJ.out.2.2.1.c 0 _ rfl
  have hne : ¬ bx = X := fun e => by have h1 := HJ.out.2.2.1.o; have h2 := HJ.out.2.1.o; rw [e] at h1; omega
  have hne2 : ¬ X = bx := fun e => hne e.symm
  clear t3
  go_wp2_with fail
  go_ret
  obtain ⟨E, o, b, tt⟩ := HJ.out
  have e4 := Ext.of_set (j := 0) (v := .iface 136 (PTR T)) (S := fun t => t = k) E.hi o.o (by omega) rfl
  have o4 := o.set 0 (.iface 136 (PTR T)) (by simp [stCs])
  have e5 := Ext.of_set (j := 1) (v := NEW1V bx) (S := fun t => t = k) e4.hi o4.o (by omega) rfl
  have o5 := o4.set 1 (NEW1V bx) (by simp [stCs, stTl])
  refine ⟨X, rfl, G2, (E.trans (e4.mono fun t _ ht => NX.one ht)).trans (e5.mono fun t _ ht => NX.one ht), _, _, _, o5, ?_⟩
  exact ⟨T, bx, rfl, rfl, (b.ext e4).ext e5, (tt.ext e4 (by omega)).ext e5 (by omega)⟩
end
end
section
open Go.RowKit
set_option linter.unusedVariables false
def ansV (an nu : Int) : Value := .agg #[.int .u8 an, .int .u64 nu, .string ⟨#[]⟩, .string ⟨#[]⟩, .int .u32 0, .int .u64 0, .int .i64 0, .int .i64 0]
section
variable {w : World} {O : Om} {B : Wb} {f : Cf} {s : AW} {k X t : Nat} {c : Clm} {z : Stm}
theorem c_StGotNil (w : World) : Calls Tryz.prog 35 #[.pointer none] w fun e w' => e = .returned (.tuple #[ansV 0 0, .int .u64 0, .int .i64 0]) ∧ Below w.heap.size w w' := by
  unfold ansV
  go_enter Tryz.func35, Tryz.ntmps35
  go_wp2_with fail
  exact bodyPost_ret (v := .tuple #[.agg #[.int .u8 0, .int .u64 0, .string ⟨#[]⟩, .string ⟨#[]⟩, .int .u32 0, .int .u64 0, .int .i64 0, .int .i64 0], .int .u64 0, .int .i64 0]) (by simp [results, Tryz.results35, go_sem]) rfl ⟨rfl, alloc_below _ _⟩
set_option maxHeartbeats 2000000 in
set_option maxRecDepth 100000 in
theorem c_StGotC (an nu ep pt : Int) (hI : Idle w X true) (q14 : w.cell? ⟨X, 14, none⟩ = some (.int .u8 an)) (q15 : w.cell? ⟨X, 15, none⟩ = some (.int .u64 nu)) (q16 : w.cell? ⟨X, 16, none⟩ = some (.string ⟨#[]⟩)) (q17 : w.cell? ⟨X, 17, none⟩ = some (.string ⟨#[]⟩)) (q18 : w.cell? ⟨X, 18, none⟩ = some (.int .u32 0)) (q19 : w.cell? ⟨X, 19, none⟩ = some (.int .u64 0)) (q20 : w.cell? ⟨X, 20, none⟩ = some (.int .i64 0)) (q21 : w.cell? ⟨X, 21, none⟩ = some (.int .i64 0)) (q22 : w.cell? ⟨X, 22, none⟩ = some (.int .u64 ep)) (q23 : w.cell? ⟨X, 23, none⟩ = some (.int .i64 pt)) :
    Calls Tryz.prog 35 #[.pointer (some ⟨X, 0, none⟩)] w fun e w' => e = .returned (.tuple #[ansV an nu, .int .u64 ep, .int .i64 pt]) ∧ Below w.heap.size w w' := by
  unfold ansV
  have hl := blk_lt q14
  dsimp only at hl
  have hne : ¬ X = w.heap.size := by omega
  have hne2 : ¬ w.heap.size = X := by omega
  have hI2 : Idle (w.alloc (.cells #[.int .u8 0, .int .u64 0, .string ⟨#[]⟩, .string ⟨#[]⟩, .int .u32 0, .int .u64 0, .int .i64 0, .int .i64 0] 34)) X true := by
    rcases hI with ⟨h, a, b⟩ | ⟨h, -⟩
    · exact .inl ⟨h, ((alloc_below w _).cell (p := ⟨X, 0, none⟩) hl).trans a, ((alloc_below w _).cell (p := ⟨X, 2, none⟩) hl).trans b⟩
    · cases h
  have HO := Lib.hid (c_goIdle hI2)
  clear hI hI2 hl
  go_enter Tryz.func35, Tryz.ntmps35
  go_wp2_with fail
  refine HO.out.mono ?_
  rintro e w' ⟨rfl, rfl⟩
  go_upto_region 3 with fail
  go_region_held3 (fun w' => w'.cell? ⟨X, 14, none⟩ = some (.int .u8 an) ∧ w'.cell? ⟨X, 15, none⟩ = some (.int .u64 nu) ∧ w'.cell? ⟨X, 16, none⟩ = some (.string ⟨#[]⟩) ∧ w'.cell? ⟨X, 17, none⟩ = some (.string ⟨#[]⟩) ∧ w'.cell? ⟨X, 18, none⟩ = some (.int .u32 0) ∧ w'.cell? ⟨X, 19, none⟩ = some (.int .u64 0) ∧ w'.cell? ⟨X, 20, none⟩ = some (.int .i64 0) ∧ w'.cell? ⟨X, 21, none⟩ = some (.int .i64 0) ∧ w'.cell? ⟨X, 22, none⟩ = some (.int .u64 ep) ∧ w'.cell? ⟨X, 23, none⟩ = some (.int .i64 pt)) (go_keep)
    (fail)
  rename_i hheld
  clear hheld
  go_wp2_with fail
  exact bodyPost_ret (v := .tuple #[.agg #[.int .u8 an, .int .u64 nu, .string ⟨#[]⟩, .string ⟨#[]⟩, .int .u32 0, .int .u64 0, .int .i64 0, .int .i64 0], .int .u64 ep, .int .i64 pt]) (by simp [results, Tryz.results35, go_sem]) rfl ⟨rfl, (alloc_below _ _).drew⟩
theorem c_StGot (h : StAt w O k X t c z) (hn : z.ln = 0) : Calls Tryz.prog 35 #[.pointer (some ⟨X, 0, none⟩)] w fun e w' => e = .returned (.tuple #[ansV z.an z.nu, .int .u64 z.ep, .int .i64 z.pt]) ∧ Below w.heap.size w w' := by
  have hi := h.idle
  rw [hn] at hi
  obtain ⟨op, th, ac, ho, -⟩ := h.ex
  exact c_StGotC z.an z.nu z.ep z.pt hi (ho.c 14 _ rfl) (ho.c 15 _ rfl) (ho.c 16 _ rfl) (ho.c 17 _ rfl) (ho.c 18 _ rfl) (ho.c 19 _ rfl) (ho.c 20 _ rfl) (ho.c 21 _ rfl) (ho.c 22 _ rfl) (ho.c 23 _ rfl)
end
end
section
open Go.RowKit
set_option linter.unusedVariables false
theorem m_StOver (a : Addr) (w : World) : (method 543 95 (.pointer (some a)) "Over").run Tryz.prog w = .ok (36, .pointer (some a)) w := by kernel_rfl
theorem m_StStep (a : Addr) (w : World) : (method 543 95 (.pointer (some a)) "Step").run Tryz.prog w = .ok (37, .pointer (some a)) w := by kernel_rfl
theorem m_LkOver (a : Addr) (w : World) : (method 543 114 (.pointer (some a)) "Over").run Tryz.prog w = .ok (324, .pointer (some a)) w := by kernel_rfl
theorem m_LkStep (a : Addr) (w : World) : (method 543 114 (.pointer (some a)) "Step").run Tryz.prog w = .ok (325, .pointer (some a)) w := by kernel_rfl
/-- All along a run what a step wants is so. -/
def goodN {Y : Type} (over : Y → Bool) (step : AW × Y → AW × Y) (pre : AW × Y → Bool) : Nat → AW × Y → Bool
  | 0, z => over z.2
  | n + 1, z => over z.2 || (pre z && goodN over step pre n (step z))
theorem goodN_step {Y : Type} {over : Y → Bool} {step : AW × Y → AW × Y} {pre : AW × Y → Bool} {n : Nat} {z : AW × Y} (h : goodN over step pre n z = true) (ho : over z.2 = false) : pre z = true ∧ ∃ m, goodN over step pre m (step z) = true := by
  cases n with
  | zero => unfold goodN at h; rw [ho] at h; cases h
  | succ n =>
    unfold goodN at h
    rw [ho, Bool.false_or, Bool.and_eq_true] at h
    exact ⟨h.1, n, h.2⟩
/-- One access, at most. -/
def On1 (s t : AW) : Prop := t.n ≤ s.n + 1 ∧ s.n ≤ t.n
theorem On1.load (a : Int) (s : AW) : On1 s (awLoad a s) := ⟨Int.le_refl _, by show s.n ≤ s.n + 1; omega⟩
theorem On1.store (a v : Int) (s : AW) : On1 s (awStore a v s) := ⟨Int.le_refl _, by show s.n ≤ s.n + 1; omega⟩
theorem On1.add (a v : Int) (s : AW) : On1 s (awAdd a v s) := ⟨Int.le_refl _, by show s.n ≤ s.n + 1; omega⟩
theorem On1.refl (s : AW) : On1 s s := ⟨by omega, by omega⟩
theorem On1.note {s t : AW} (a b c d e g : Int) (h : On1 s t) : On1 s (awNote a b c d e g t) := h
theorem On1.out (p : Spt) (s : AW) (o : Otm) : On1 s (outStep p s o).1 := by
  unfold outStep
  split
  · exact On1.load _ _
  · split
    · exact On1.store _ _ _
    · split
      · exact On1.store _ _ _
      · exact On1.refl _
theorem On1.put (p : Spt) (tg rf : Int) (s : AW) (o : Otm) : On1 s (putStep p tg rf s o).1 := by
  unfold putStep
  split
  · exact On1.store _ _ _
  · split
    · exact On1.load _ _
    · split
      · exact On1.store _ _ _
      · exact On1.refl _
theorem On1.wy (x : AW × Wym) : On1 x.1 (wyStep x).1 := by
  unfold wyStep
  split
  · exact On1.refl _
  · split
    · exact On1.load _ _
    · exact On1.load _ _
theorem On1.ho (x : AW × Hom) : On1 x.1 (hoStep x).1 := by
  unfold hoStep
  split
  · exact On1.load _ _
  · split
    · exact On1.load _ _
    · split
      · exact On1.add _ _ _
      · split
        · exact On1.out _ _ _
        · split
          · exact On1.put _ _ _ _ _
          · split
            · exact On1.add _ _ _
            · exact On1.refl _
theorem On1.rm (mo : Int) (x : AW × Rmm) : On1 x.1 (rmStep mo x).1 := by
  unfold rmStep
  split
  · exact On1.load _ _
  · split
    · exact On1.load _ _
    · split
      · split
        · dsimp only
          split
          · exact (On1.wy (x.1, x.2.wy)).note _ _ _ _ _ _
          · exact On1.wy (x.1, x.2.wy)
        · exact On1.wy (x.1, x.2.wy)
      · split
        · exact On1.ho (x.1, x.2.ho)
        · exact On1.refl _
theorem On1.tk (t : Nat) (s : AW) (x : Tkm) : On1 s (tkStep t s x).1 := by
  unfold tkStep
  split
  · exact ⟨Int.le_refl _, by show s.n ≤ s.n + 1; omega⟩
  · split
    · split
      · exact ⟨Int.le_refl _, by show s.n ≤ s.n + 1; omega⟩
      · exact ⟨Int.le_refl _, by show s.n ≤ s.n + 1; omega⟩
    · exact ⟨by dsimp only; omega, Int.le_refl _⟩
theorem On1.fd (key : ByteArray) (x : AW × Fdm) : On1 x.1 (fdStep key x).1 := by
  unfold fdStep
  split
  · exact On1.refl _
  · exact On1.load _ _
  · exact On1.load _ _
  · exact On1.load _ _
theorem On1.again (s s1 : AW) (z : Lkm) (h : On1 s s1) : On1 s (lkAgain s1 z).1 := by
  unfold lkAgain
  split
  · exact h
  · exact h.note _ _ _ _ _ _
theorem stStep_n (t : Nat) (c : Clm) (mo : Int) (x : AW × Stm) : (stStep t c mo x).1.n ≤ x.1.n + 1 ∧ x.1.n ≤ (stStep t c mo x).1.n := by
  show On1 x.1 (stStep t c mo x).1
  obtain ⟨s, z⟩ := x
  obtain ⟨ln, tk, fd, ml, rm, pu, p, ref, id, an, nu, ep, pt⟩ := z
  unfold stStep
  dsimp only
  split
  · exact On1.tk _ _ _
  · exact On1.load _ _
  · exact On1.fd _ (s, fd)
  · exact ⟨Int.le_refl _, by show s.n ≤ s.n + 1; omega⟩
  · exact On1.load _ _
  · exact ⟨Int.le_refl _, by show s.n ≤ s.n + 1; omega⟩
  · exact On1.store _ _ _
  · exact ⟨Int.le_refl _, by show s.n ≤ s.n + 1; omega⟩
  · exact ⟨Int.le_refl _, by show s.n ≤ s.n + 1; omega⟩
  · exact On1.load _ _
  · exact On1.load _ _
  · exact On1.load _ _
  · exact On1.rm mo (s, rm)
  · exact ⟨Int.le_refl _, by show s.n ≤ s.n + 1; omega⟩
  · exact On1.load _ _
  · exact ⟨Int.le_refl _, by show s.n ≤ s.n + 1; omega⟩
  · exact On1.put _ _ _ _ _
  · exact ⟨Int.le_refl _, by show s.n ≤ s.n + 1; omega⟩
  · exact On1.refl _
theorem lkStep_n (key : ByteArray) (x : AW × Lkm) : (lkStep key x).1.n ≤ x.1.n + 1 ∧ x.1.n ≤ (lkStep key x).1.n := by
  show On1 x.1 (lkStep key x).1
  obtain ⟨s, z⟩ := x
  unfold lkStep
  dsimp only
  split
  · exact On1.load _ _
  · split
    · exact On1.again _ _ _ (On1.load _ _)
    · exact On1.load _ _
  · exact On1.load _ _
  · exact On1.load _ _
  · exact On1.load _ _
  · split
    · exact On1.again _ _ _ (On1.load _ _)
    · exact On1.load _ _
  · split
    · exact On1.again _ _ _ (On1.load _ _)
    · exact On1.load _ _
  · exact On1.refl _
section
variable {w : World} {O : Om} {B : Wb} {f : Cf} {s : AW} {k X t : Nat} {c : Clm} {key : ByteArray}
theorem c_StRun (m N : Nat) (mo : Int) (z : Stm) (hP : PW w O B f s) (hX : StAt w O k X t c z) (hg : goodN stOver (stStep t c mo) (fun y => stPre c f.g y.1 y.2) N (s, z) = true) (ht : t < 64) (hex : -9223372036854775808 ≤ c.exp ∧ c.exp ≤ 9223372036854775807) (hkz : c.key.size ≤ maxLen) (hk : 10 ≤ k) (g0 : 1 ≤ f.g) (g1 : f.g ≤ 65536) (hhi : ∀ j, O j ≠ 0 → j < w.heap.size) (n0 : 0 ≤ s.n) (n1 : s.n + m ≤ 4611686018427387904) :
    Calls Tryz.prog 22 #[.pointer (some ⟨B.p, 0, none⟩), .iface 95 (.pointer (some ⟨X, 0, none⟩)), .int .i64 m] w (RP (SX k (k + 30)) w O (.int .i64 (runN stOver (stStep t c mo) m (s, z)).1) fun W G => PW W G B f (runN stOver (stStep t c mo) m (s, z)).2.1 ∧ StAt W G k X t c (runN stOver (stStep t c mo) m (s, z)).2.2) := by
  refine (c_RunG stOver (stStep t c mo) (SX k (k + 30)) (fun W G y => PW W G B f y.1 ∧ StAt W G k X t c y.2 ∧ ∃ N, goodN stOver (stStep t c mo) (fun y => stPre c f.g y.1 y.2) N y = true) B.p X 95 36 37 (m_StOver _) (m_StStep _)
    (run_enter Tryz.func36 (by kernel_rfl) (by kernel_rfl)) (run_enter Tryz.func37 (by kernel_rfl) (by kernel_rfl)) ?_ ?_ (stStep_n t c mo) w O m (s, z) ⟨hP, hX, N, hg⟩ hhi n0 n1).mono ?_
  · rintro W G ⟨s1, y⟩ ⟨h1, h2, h3⟩
    exact c_StOver h2.idle
  · rintro W G ⟨s1, y⟩ ⟨h1, h2, N1, h3⟩ ho hh q0 q1
    obtain ⟨hp, M, h4⟩ := goodN_step h3 ho
    have hz : y.ln ≠ 0 := fun e => by dsimp only at ho; unfold stOver at ho; rw [e] at ho; cases ho
    refine (c_StStep mo y h1 h2 hp hz ht hex hkz hk g0 g1 hh q0 q1).mono ?_
    intro e w' hp2
    exact ⟨_, RP.mono hp2 (fun _ _ h => h) fun W1 G1 h => ⟨h.1, h.2, M, h4⟩⟩
  · intro e w' hp2
    exact RP.mono hp2 (fun _ _ h => h) fun W1 G1 h => ⟨h.1, h.2.1⟩
theorem c_LkRun (m N : Nat) (z : Lkm) (hP : PW w O B f s) (hX : LkAt w O k X key z) (hl : z.ln ≤ 7) (hg : goodN lkOver (lkStep key) (fun y => lkB y.1 y.2 && decide ((lkStep key y).2.ln ≤ 7)) N (s, z) = true) (hkz : key.size ≤ maxLen) (hk : 10 ≤ k) (hhi : ∀ j, O j ≠ 0 → j < w.heap.size) (n0 : 0 ≤ s.n) (n1 : s.n + m ≤ 4611686018427387904) :
    Calls Tryz.prog 22 #[.pointer (some ⟨B.p, 0, none⟩), .iface 114 (.pointer (some ⟨X, 0, none⟩)), .int .i64 m] w (RP (SX k (k + 3)) w O (.int .i64 (runN lkOver (lkStep key) m (s, z)).1) fun W G => PW W G B f (runN lkOver (lkStep key) m (s, z)).2.1 ∧ LkAt W G k X key (runN lkOver (lkStep key) m (s, z)).2.2) := by
  refine (c_RunG lkOver (lkStep key) (SX k (k + 3)) (fun W G y => PW W G B f y.1 ∧ LkAt W G k X key y.2 ∧ y.2.ln ≤ 7 ∧ ∃ N, goodN lkOver (lkStep key) (fun y => lkB y.1 y.2 && decide ((lkStep key y).2.ln ≤ 7)) N y = true) B.p X 114 324 325 (m_LkOver _) (m_LkStep _)
    (run_enter Tryz.func324 (by kernel_rfl) (by kernel_rfl)) (run_enter Tryz.func325 (by kernel_rfl) (by kernel_rfl)) ?_ ?_ (lkStep_n key) w O m (s, z) ⟨hP, hX, hl, N, hg⟩ hhi n0 n1).mono ?_
  · rintro W G ⟨s1, y⟩ ⟨h1, h2, h3, -⟩
    exact c_LkOver h2.c3 h3
  · rintro W G ⟨s1, y⟩ ⟨h1, h2, h5, N1, h3⟩ ho hh q0 q1
    obtain ⟨hp, M, h4⟩ := goodN_step h3 ho
    rw [Bool.and_eq_true, decide_eq_true_eq] at hp
    refine (c_LkStep h1 h2 hp.1 hk hkz hh q0 q1).mono ?_
    intro e w' hp2
    exact ⟨_, RP.mono hp2 (fun _ _ h => h) fun W1 G1 h => ⟨h.1, h.2, hp.2, M, h4⟩⟩
  · intro e w' hp2
    exact RP.mono hp2 (fun _ _ h => h) fun W1 G1 h => ⟨h.1, h.2.1⟩
end
end
section
open Go.RowKit
set_option linter.unusedVariables false
section
variable {w : World} {O : Om} {B : Wb} {f : Cf} {s : AW}
def a0Cs : List Value := [.int .u8 0, .int .u64 0, .string ⟨#[]⟩, .string ⟨#[]⟩, .int .u32 0, .int .u64 0, .int .i64 0, .int .i64 0]
def aCs (an nu : Int) : List Value := [.int .u8 an, .int .u64 nu, .string ⟨#[]⟩, .string ⟨#[]⟩, .int .u32 0, .int .u64 0, .int .i64 0, .int .i64 0]
set_option maxHeartbeats 4000000 in
set_option maxRecDepth 100000 in
theorem c_Does (t N : Nat) (c : Clm) (hP : PW w O B f s) (hg : goodN stOver (stStep t c 16) (fun y => stPre c f.g y.1 y.2) N (s, stNew) = true) (hv : (stRun t c s).2.2.ln = 0) (ht : t < 64) (hm : mayB c = true) (hex : -9223372036854775808 ≤ c.exp ∧ c.exp ≤ 9223372036854775807) (hkz : c.key.size ≤ maxLen) (hvz : c.val.size ≤ maxLen) (g0 : 1 ≤ f.g) (g1 : f.g ≤ 65536) (hhi : ∀ j, O j ≠ 0 → j < w.heap.size) (n0 : 0 ≤ s.n) (n1 : s.n + 200000 ≤ 4611686018427387904) :
    Calls Tryz.prog 10 #[.pointer (some ⟨B.p, 0, none⟩), .int .i64 t, clV c] w (RP (SX 10 41) w O (ansV (stRun t c s).2.2.an (stRun t c s).2.2.nu) fun W G => PW W G B f (stRun t c s).2.1) := by
  have b1 := alloc_below w (.cells (clCs c).toArray 26)
  obtain ⟨O2, e2, x2, -⟩ := alloc_ob (hi_below hhi b1) 41 a0Cs.toArray 34 (w.heap.size + 1) (by simp)
  have P2 := (hP.below hhi b1).ext e2 (by decide) (by decide) (by decide) (by decide)
  have E2 := (Ext.of_below (S := SX 10 41) hhi b1).trans (e2.mono fun t _ ht => .inr (by omega))
  have HN := Lib.hid (c_NewStore (w := (w.alloc (.cells (clCs c).toArray 26)).alloc (.cells a0Cs.toArray 34)) (O := O2) (k := 10) t ht hm hkz hvz (by decide) e2.hi)
  have HJ := Lib.hid (And.intro E2 (And.intro P2 x2))
  have HRN := Lib.hid (fun (W : World) (G : Om) (X : Nat) (hp : PW W G B f s) (hx : StAt W G 10 X t c stNew) (hh : ∀ j, G j ≠ 0 → j < W.heap.size) => c_StRun (k := 10) 200000 N 16 stNew hp hx hg ht hex hkz (by decide) g0 g1 hh n0 n1)
  have HST : Hid (runN stOver (stStep t c 16) 200000 (s, stNew) = stRun t c s) := Lib.hid rfl
  rw [HST.out] at HRN
  obtain ⟨r, hr⟩ : ∃ r, r = stRun t c s := ⟨_, rfl⟩
  rw [← hr] at HRN hv ⊢
  have HV := Lib.hid hv
  obtain ⟨an, han⟩ : ∃ v, v = r.2.2.an := ⟨_, rfl⟩
  obtain ⟨nu, hnu⟩ : ∃ v, v = r.2.2.nu := ⟨_, rfl⟩
  rw [← han, ← hnu]
  have HAN := Lib.hid (And.intro han hnu)
  clear han hnu
  clear hr hv HST b1 e2 P2 E2 x2 hP hg hhi n0 n1 hm hkz hvz hex g0 g1
  unfold clCs a0Cs at HN HJ
  unfold clV at HN ⊢
  unfold ansV
  go_enter Tryz.func10, Tryz.ntmps10
  go_wp2_with fail
  refine HN.out.mono ?_
  rintro e w3 ⟨X, rfl, G3, e3, h3⟩
  have m3 := e3.mono (T := SX 10 41) fun t _ ht => SX.mono (by decide) (by decide) ht.sx
  have p3 := HJ.out.2.1.ext e3 (by unfold NX; omega) (by unfold NX; omega) (by unfold NX; omega) (by unfold NX; omega)
  have x3 := HJ.out.2.2.ext e3 (by unfold NX; omega)
  have HJ3 := Lib.hid (And.intro (HJ.out.1.trans m3) x3)
  have HR3 := Lib.hid (HRN.out _ _ X p3 h3 e3.hi)
  clear m3 p3 x3 h3 e3 HN HRN HJ
  unfold PTR
  go_wp2_with fail
  refine HR3.out.mono ?_
  rintro e w4 ⟨rfl, G4, e4, p4, h4⟩
  have x4 := HJ3.out.2.ext e4 (by unfold SX; omega)
  have HG := Lib.hid (c_StGot h4 HV.out)
  have HJ4 := Lib.hid (And.intro (HJ3.out.1.trans (e4.mono (T := SX 10 41) fun t _ ht => SX.mono (by decide) (by decide) ht)) (And.intro x4 p4))
  clear x4 e4 p4 h4 HJ3 HR3
  unfold ansV at HG
  obtain ⟨ep, hep⟩ : ∃ v, v = r.2.2.ep := ⟨_, rfl⟩
  obtain ⟨pt, hpt⟩ : ∃ v, v = r.2.2.pt := ⟨_, rfl⟩
  rw [← HAN.out.1, ← HAN.out.2, ← hep, ← hpt] at HG
  clear hep hpt
  go_wp2_with fail
  refine HG.out.mono ?_
  rintro e w5 ⟨rfl, hb5⟩
  have b6 := hb5.trans ((alloc_below w5 (.cells (aCs an nu).toArray 34)).mono hb5.size)
  have HJ6 := Lib.hid (And.intro (HJ4.out.1.below b6) (And.intro (HJ4.out.2.1.below b6) (HJ4.out.2.2.below HJ4.out.1.hi b6)))
  unfold aCs at HJ6
  clear hb5 b6 HJ4 HG
  obtain ⟨w6, hw6⟩ : ∃ W, W = w5.alloc (.cells #[.int .u8 an, .int .u64 nu, .string ⟨#[]⟩, .string ⟨#[]⟩, .int .u32 0, .int .u64 0, .int .i64 0, .int .i64 0] 34) := ⟨_, rfl⟩
  rw [← hw6] at HJ6
  have hc : ∀ j u, [.int .u8 an, .int .u64 nu, .string ⟨#[]⟩, .string ⟨#[]⟩, .int .u32 0, .int .u64 0, .int .i64 0, .int .i64 0][j]? = some u → w6.cell? ⟨w5.heap.size, j, none⟩ = some u := fun j u hu => by
    rw [hw6]; exact cell_newA w5 #[.int .u8 an, .int .u64 nu, .string ⟨#[]⟩, .string ⟨#[]⟩, .int .u32 0, .int .u64 0, .int .i64 0, .int .i64 0] _ _ rfl j u (by simpa using hu)
  have y0 := hc 0 _ rfl
  have y1 := hc 1 _ rfl
  have y2 := hc 2 _ rfl
  have y3 := hc 3 _ rfl
  have y4 := hc 4 _ rfl
  have y5 := hc 5 _ rfl
  have y6 := hc 6 _ rfl
  have y7 := hc 7 _ rfl
  have x := HJ6.out.2.1
  have x0 := x.c 0 _ rfl
  have x1 := x.c 1 _ rfl
  have x2 := x.c 2 _ rfl
  have x3 := x.c 3 _ rfl
  have x4 := x.c 4 _ rfl
  have x5 := x.c 5 _ rfl
  have x6 := x.c 6 _ rfl
  have x7 := x.c 7 _ rfl
  have f0 := x.f 0
  have f1 := x.f 1
  have f2 := x.f 2
  have f3 := x.f 3
  have f4 := x.f 4
  have f5 := x.f 5
  have f6 := x.f 6
  have f7 := x.f 7
  clear hc x
  go_upto_region 4 with fail
  rw [← hw6]
  clear hw6
  go_wp2_with fail
  have M6 : Me 10 41 w O w6 G4 B f r.2.1 41 (w.heap.size + 1) [.int .u8 0, .int .u64 0, .string ⟨#[]⟩, .string ⟨#[]⟩, .int .u32 0, .int .u64 0, .int .i64 0, .int .i64 0] := ⟨HJ6.out.1, HJ6.out.2.2, HJ6.out.2.1⟩
  have M9 := (((((((M6.set (by decide) (by decide) (by decide) 0 (.int .u8 an) (by simp)).set (by decide) (by decide) (by decide) 1 (.int .u64 nu) (by simp)).set (by decide) (by decide) (by decide) 2 (.string ⟨#[]⟩) (by simp)).set (by decide) (by decide) (by decide) 3 (.string ⟨#[]⟩) (by simp)).set (by decide) (by decide) (by decide) 4 (.int .u32 0) (by simp)).set (by decide) (by decide) (by decide) 5 (.int .u64 0) (by simp)).set (by decide) (by decide) (by decide) 6 (.int .i64 0) (by simp)).set (by decide) (by decide) (by decide) 7 (.int .i64 0) (by simp)
  obtain ⟨w9, hw9⟩ : ∃ W, W = ((((((((w6.setCell ⟨w.heap.size + 1, 0, none⟩ (.int .u8 an)).setCell ⟨w.heap.size + 1, 1, none⟩ (.int .u64 nu)).setCell ⟨w.heap.size + 1, 2, none⟩ (.string ⟨#[]⟩)).setCell ⟨w.heap.size + 1, 3, none⟩ (.string ⟨#[]⟩)).setCell ⟨w.heap.size + 1, 4, none⟩ (.int .u32 0)).setCell ⟨w.heap.size + 1, 5, none⟩ (.int .u64 0)).setCell ⟨w.heap.size + 1, 6, none⟩ (.int .i64 0)).setCell ⟨w.heap.size + 1, 7, none⟩ (.int .i64 0)) := ⟨_, rfl⟩
  rw [← hw9] at M9 ⊢
  have z0 := M9.t.c 0 _ rfl
  have z1 := M9.t.c 1 _ rfl
  have z2 := M9.t.c 2 _ rfl
  have z3 := M9.t.c 3 _ rfl
  have z4 := M9.t.c 4 _ rfl
  have z5 := M9.t.c 5 _ rfl
  have z6 := M9.t.c 6 _ rfl
  have z7 := M9.t.c 7 _ rfl
  have HF := Lib.hid M9
  clear M9 M6 hw9 HJ6
  exact bodyPost_ret (v := .agg #[.int .u8 an, .int .u64 nu, .string ⟨#[]⟩, .string ⟨#[]⟩, .int .u32 0, .int .u64 0, .int .i64 0, .int .i64 0]) (by simp [results, Tryz.results10, go_sem, z0, z1, z2, z3, z4, z5, z6, z7]) rfl ⟨rfl, G4, HF.out.e, HF.out.p⟩
end
end
section
open Go.RowKit
set_option linter.unusedVariables false
def lz1 : Nat × (AW × Stm) := stRun 3 cl1 (aw0 2)
def lzk : Nat × (AW × Lkm) := runN lkOver (lkStep kA) 60 (lz1.2.1, lkNew 0)
def lz2 : Nat × (AW × Stm) := stRun 3 cl2 lzk.2.1
def lz3 : Nat × (AW × Stm) := stRun 3 cl3 lz2.2.1
def lz4 : Nat × (AW × Stm) := stRun 3 cl4 lz3.2.1
def lz5 : Nat × (AW × Stm) := stRun 3 cl5 lz4.2.1
def stG (c : Clm) (s : AW) : Bool := goodN stOver (stStep 3 c 16) (fun y => stPre c 8 y.1 y.2) 100 (s, stNew)
def lkG (s : AW) : Bool := goodN lkOver (lkStep kA) (fun y => lkB y.1 y.2 && decide ((lkStep kA y).2.ln ≤ 7)) 50 (s, lkNew 0)
def nOk (s : AW) : Prop := 0 ≤ s.n ∧ s.n ≤ 1000
instance (s : AW) : Decidable (nOk s) := inferInstanceAs (Decidable (_ ∧ _))
theorem lz_1 : (stG cl1 (aw0 2) = true ∧ lz1.2.2.ln = 0) ∧ (lz1.2.2.an = 1 ∧ lz1.2.2.nu = 1) ∧ nOk lz1.2.1 := by decide +kernel
theorem lz_k : (lkG lz1.2.1 = true ∧ lzk.2.2.ln = 0) ∧ (lzk.2.2.fl = false ∧ lzk.2.2.ref = 1) ∧ nOk lzk.2.1 := by decide +kernel
theorem lz_2 : (stG cl2 lzk.2.1 = true ∧ lz2.2.2.ln = 0) ∧ (lz2.2.2.an = 2 ∧ lz2.2.2.nu = 0) ∧ nOk lz2.2.1 := by decide +kernel
theorem lz_3 : (stG cl3 lz2.2.1 = true ∧ lz3.2.2.ln = 0) ∧ (lz3.2.2.an = 3 ∧ lz3.2.2.nu = 0) ∧ nOk lz3.2.1 := by decide +kernel
theorem lz_4 : (stG cl4 lz3.2.1 = true ∧ lz4.2.2.ln = 0) ∧ (lz4.2.2.an = 1 ∧ lz4.2.2.nu = 2) ∧ nOk lz4.2.1 := by decide +kernel
theorem lz_5 : (stG cl5 lz4.2.1 = true ∧ lz5.2.2.ln = 0) ∧ (lz5.2.2.an = 2 ∧ lz5.2.2.nu = 0) ∧ nOk lz5.2.1 := by decide +kernel
theorem lz_may : mayB cl1 = true ∧ mayB cl2 = true ∧ mayB cl3 = true ∧ mayB cl4 = true ∧ mayB cl5 = true := by decide +kernel
section
variable {w : World} {O : Om} {B : Wb}
/-- A call of the examples. -/
theorem c_lzDoes (c : Clm) (s : AW) (r : Nat × (AW × Stm)) (hr : r = stRun 3 c s) (hg : stG c s = true) (hv : r.2.2.ln = 0) (hm : mayB c = true) (hex : c.exp = 0) (hkz : c.key.size ≤ maxLen) (hvz : c.val.size ≤ maxLen) (hn : nOk s) (hP : PW w O B ⟨2, 8, 3, 1, 16⟩ s) (hhi : ∀ j, O j ≠ 0 → j < w.heap.size) :
    Calls Tryz.prog 10 #[.pointer (some ⟨B.p, 0, none⟩), .int .i64 3, clV c] w (RP (SX 10 41) w O (ansV r.2.2.an r.2.2.nu) fun W G => PW W G B ⟨2, 8, 3, 1, 16⟩ r.2.1) := by
  subst hr
  exact c_Does 3 100 c hP hg hv (by decide) hm (by rw [hex]; decide) hkz hvz (by decide) (by decide) hhi hn.1 (by have := hn.2; omega)
/-- An answer laid down. -/
theorem lzLay {w0 : World} {G : Om} {s : AW} (hE : Env w0 G w) (hP : PW w G B ⟨2, 8, 3, 1, 16⟩ s) (an nu : Int) : ∃ W, W = w.alloc (.cells #[.int .u8 an, .int .u64 nu, .string ⟨#[]⟩, .string ⟨#[]⟩, .int .u32 0, .int .u64 0, .int .i64 0, .int .i64 0] 34) ∧ Env w0 G W ∧ PW W G B ⟨2, 8, 3, 1, 16⟩ s ∧ Bx W G w.heap.size (aCs an nu) ∧ Below w.heap.size w W := by
  have hb := alloc_below w (.cells #[.int .u8 an, .int .u64 nu, .string ⟨#[]⟩, .string ⟨#[]⟩, .int .u32 0, .int .u64 0, .int .i64 0, .int .i64 0] 34)
  exact ⟨_, rfl, hE.ext (Ext.of_below (S := SW) hE.hi hb), hP.below hE.hi hb, Bx.new hE.hi _ _ _ rfl, hb⟩
set_option maxHeartbeats 4000000 in
set_option maxRecDepth 100000 in
theorem c_lives25 (w : World) : Calls Tryz.prog 9 #[] w fun e w' => e = .returned (.bool true) ∧ Below w.heap.size w w' := by
  have HW := Lib.hid (c_WorldP 2 w (by decide) (by decide))
  have HD1 := Lib.hid (fun (W : World) (G : Om) (B : Wb) hp hh => c_lzDoes (w := W) (O := G) (B := B) cl1 (aw0 2) lz1 rfl lz_1.1.1 lz_1.1.2 lz_may.1 rfl (by decide) (by decide) (by decide) hp hh)
  have HD2 := Lib.hid (fun (W : World) (G : Om) (B : Wb) hp hh => c_lzDoes (w := W) (O := G) (B := B) cl2 lzk.2.1 lz2 rfl lz_2.1.1 lz_2.1.2 lz_may.2.1 rfl (by decide) (by decide) lz_k.2.2 hp hh)
  have HD3 := Lib.hid (fun (W : World) (G : Om) (B : Wb) hp hh => c_lzDoes (w := W) (O := G) (B := B) cl3 lz2.2.1 lz3 rfl lz_3.1.1 lz_3.1.2 lz_may.2.2.1 rfl (by decide) (by decide) lz_2.2.2 hp hh)
  have HD4 := Lib.hid (fun (W : World) (G : Om) (B : Wb) hp hh => c_lzDoes (w := W) (O := G) (B := B) cl4 lz3.2.1 lz4 rfl lz_4.1.1 lz_4.1.2 lz_may.2.2.2.1 rfl (by decide) (by decide) lz_3.2.2 hp hh)
  have HD5 := Lib.hid (fun (W : World) (G : Om) (B : Wb) hp hh => c_lzDoes (w := W) (O := G) (B := B) cl5 lz4.2.1 lz5 rfl lz_5.1.1 lz_5.1.2 lz_may.2.2.2.2 rfl (by decide) (by decide) lz_4.2.2 hp hh)
  have HNL := Lib.hid (fun (W : World) (G : Om) hh => c_NewLook (w := W) (O := G) (k := 10) (key := kA) 0 (by decide) (by decide) (by decide) hh)
  have HLR := Lib.hid (fun (W : World) (G : Om) (B : Wb) (X : Nat) hp hx hh => c_LkRun (w := W) (O := G) (B := B) (f := ⟨2, 8, 3, 1, 16⟩) (s := lz1.2.1) (k := 10) (X := X) (key := kA) 60 50 (lkNew 0) hp hx (by decide) lz_k.1.1 (by decide) (by decide) hh lz_1.2.2.1 (by have := lz_1.2.2.2; omega))
  rw [lz_1.2.1.1, lz_1.2.1.2] at HD1
  rw [lz_2.2.1.1, lz_2.2.1.2] at HD2
  rw [lz_3.2.1.1, lz_3.2.1.2] at HD3
  rw [lz_4.2.1.1, lz_4.2.1.2] at HD4
  rw [lz_5.2.1.1, lz_5.2.1.2] at HD5
  rw [show runN lkOver (lkStep kA) 60 (lz1.2.1, lkNew 0) = lzk from rfl] at HLR
  have HLG := Lib.hid (fun (W : World) (G : Om) (X : Nat) (hx : LkAt W G 10 X kA lzk.2.2) => c_LkGot0 hx lz_k.1.2 lz_k.2.1.1)
  rw [lz_k.2.1.2] at HLG
  unfold clV cl1 kA ansV at HD1
  unfold clV cl2 kA ansV at HD2
  unfold clV cl3 kA ansV at HD3
  unfold clV cl4 kA ansV at HD4
  unfold clV cl5 ansV at HD5
  dsimp only at HD1 HD2 HD3 HD4 HD5
  unfold kA at HNL
  go_enter Tryz.func9, Tryz.ntmps9
  go_wp2_with fail
  refine HW.out.mono ?_
  rintro e w1 ⟨B, G1, rfl, p1, E1⟩
  have HD := Lib.hid (HD1.out w1 G1 B p1 E1.hi)
  have HE := Lib.hid E1
  clear HW p1 E1
  go_wp2_with fail
  refine HD.out.mono ?_
  rintro e w2 ⟨rfl, G2, e2, p2⟩
  obtain ⟨W2, hW2, E2, P2, B2, -⟩ := lzLay (HE.out.ext e2) p2 1 1
  have HJ := Lib.hid (And.intro E2 (And.intro P2 B2))
  have HL := Lib.hid (HNL.out W2 G2 E2.hi)
  clear HD e2 p2 E2 P2 B2 HE HD1 HNL
  go_upto_region 5 with fail
  rw [← hW2]
  clear hW2
  go_wp2_with fail
  refine HL.out.mono ?_
  rintro e w3 ⟨X, rfl, G3, e3, h3⟩
  have E3 := HJ.out.1.ext e3
  have P3 := HJ.out.2.1.ext e3 (by decide) (by decide) (by decide) (by decide)
  have HR := Lib.hid (HLR.out w3 G3 B X P3 h3 E3.hi)
  have HJ3 := Lib.hid (And.intro E3 (HJ.out.2.2.ext e3))
  clear e3 h3 E3 P3 HJ HL HLR
  go_wp2_with fail
  refine HR.out.mono ?_
  rintro e w4 ⟨rfl, G4, e4, p4, h4⟩
  have HG := Lib.hid (HLG.out w4 G4 X h4)
  have HJ4 := Lib.hid (And.intro (HJ3.out.1.ext e4) (And.intro p4 (HJ3.out.2.ext e4)))
  clear e4 p4 h4 HJ3 HR HLG
  go_wp2_with fail
  refine HG.out.mono ?_
  rintro e w5 ⟨rfl, hb5⟩
  have HJ5 := Lib.hid (And.intro (HJ4.out.1.ext (Ext.of_below (S := SW) HJ4.out.1.hi hb5)) (And.intro (HJ4.out.2.1.below HJ4.out.1.hi hb5) (HJ4.out.2.2.below hb5)))
  have HDb := Lib.hid (HD2.out w5 G4 B HJ5.out.2.1 HJ5.out.1.hi)
  clear hb5 HJ4 HG HD2
  go_wp2_with fail
  refine HDb.out.mono ?_
  rintro e v2 ⟨rfl, H2, e2, p2⟩
  obtain ⟨V2, hV2, E2, P2, B2, b2⟩ := lzLay (HJ5.out.1.ext e2) p2 2 0
  have HK2 := Lib.hid (And.intro E2 (And.intro P2 (And.intro ((HJ5.out.2.2.ext e2).below b2) B2)))
  have HE2 := Lib.hid (HD3.out V2 H2 B P2 E2.hi)
  clear e2 p2 E2 P2 B2 b2 HJ5 HDb HD3
  go_upto_region 9 with fail
  rw [← hV2]
  clear hV2
  go_wp2_with fail
  refine HE2.out.mono ?_
  rintro e v3 ⟨rfl, H3, e3, p3⟩
  obtain ⟨V3, hV3, E3, P3, B3, b3⟩ := lzLay (HK2.out.1.ext e3) p3 3 0
  have HK3 := Lib.hid (And.intro E3 (And.intro P3 (And.intro ((HK2.out.2.2.1.ext e3).below b3) (And.intro ((HK2.out.2.2.2.ext e3).below b3) B3))))
  have HE3 := Lib.hid (HD4.out V3 H3 B P3 E3.hi)
  clear e3 p3 E3 P3 B3 b3 HK2 HE2 HD4
  go_upto_region 10 with fail
  rw [← hV3]
  clear hV3
  go_wp2_with fail
  refine HE3.out.mono ?_
  rintro e v4 ⟨rfl, H4, e4, p4⟩
  obtain ⟨V4, hV4, E4, P4, B4, b4⟩ := lzLay (HK3.out.1.ext e4) p4 1 2
  have HK4 := Lib.hid (And.intro E4 (And.intro P4 (And.intro ((HK3.out.2.2.1.ext e4).below b4) (And.intro ((HK3.out.2.2.2.1.ext e4).below b4) (And.intro ((HK3.out.2.2.2.2.ext e4).below b4) B4)))))
  have HE4 := Lib.hid (HD5.out V4 H4 B P4 E4.hi)
  clear e4 p4 E4 P4 B4 b4 HK3 HE3 HD5
  go_upto_region 11 with fail
  rw [← hV4]
  clear hV4
  go_wp2_with fail
  refine HE4.out.mono ?_
  rintro e v5 ⟨rfl, H5, e5, p5⟩
  obtain ⟨V5, hV5, E5, P5, B5, b5⟩ := lzLay (HK4.out.1.ext e5) p5 2 0
  have HK5 := Lib.hid (And.intro E5 (And.intro P5 (And.intro ((HK4.out.2.2.1.ext e5).below b5) (And.intro ((HK4.out.2.2.2.1.ext e5).below b5) (And.intro ((HK4.out.2.2.2.2.1.ext e5).below b5) (And.intro ((HK4.out.2.2.2.2.2.ext e5).below b5) B5))))))
  clear e5 p5 E5 P5 B5 b5 HK4 HE4
  go_upto_region 12 with fail
  rw [← hV5]
  clear hV5
  have c00 := HK5.out.2.2.1.c 0 _ rfl
  have c01 := HK5.out.2.2.1.c 1 _ rfl
  have c02 := HK5.out.2.2.1.c 2 _ rfl
  have c03 := HK5.out.2.2.1.c 3 _ rfl
  have c04 := HK5.out.2.2.1.c 4 _ rfl
  have c05 := HK5.out.2.2.1.c 5 _ rfl
  have c06 := HK5.out.2.2.1.c 6 _ rfl
  have c07 := HK5.out.2.2.1.c 7 _ rfl
  have c10 := HK5.out.2.2.2.1.c 0 _ rfl
  have c11 := HK5.out.2.2.2.1.c 1 _ rfl
  have c12 := HK5.out.2.2.2.1.c 2 _ rfl
  have c13 := HK5.out.2.2.2.1.c 3 _ rfl
  have c14 := HK5.out.2.2.2.1.c 4 _ rfl
  have c15 := HK5.out.2.2.2.1.c 5 _ rfl
  have c16 := HK5.out.2.2.2.1.c 6 _ rfl
  have c17 := HK5.out.2.2.2.1.c 7 _ rfl
  have c20 := HK5.out.2.2.2.2.1.c 0 _ rfl
  have c21 := HK5.out.2.2.2.2.1.c 1 _ rfl
  have c22 := HK5.out.2.2.2.2.1.c 2 _ rfl
  have c23 := HK5.out.2.2.2.2.1.c 3 _ rfl
  have c24 := HK5.out.2.2.2.2.1.c 4 _ rfl
  have c25 := HK5.out.2.2.2.2.1.c 5 _ rfl
  have c26 := HK5.out.2.2.2.2.1.c 6 _ rfl
  have c27 := HK5.out.2.2.2.2.1.c 7 _ rfl
  have c30 := HK5.out.2.2.2.2.2.1.c 0 _ rfl
  have c31 := HK5.out.2.2.2.2.2.1.c 1 _ rfl
  have c32 := HK5.out.2.2.2.2.2.1.c 2 _ rfl
  have c33 := HK5.out.2.2.2.2.2.1.c 3 _ rfl
  have c34 := HK5.out.2.2.2.2.2.1.c 4 _ rfl
  have c35 := HK5.out.2.2.2.2.2.1.c 5 _ rfl
  have c36 := HK5.out.2.2.2.2.2.1.c 6 _ rfl
  have c37 := HK5.out.2.2.2.2.2.1.c 7 _ rfl
  have c40 := HK5.out.2.2.2.2.2.2.c 0 _ rfl
  have c41 := HK5.out.2.2.2.2.2.2.c 1 _ rfl
  have c42 := HK5.out.2.2.2.2.2.2.c 2 _ rfl
  have c43 := HK5.out.2.2.2.2.2.2.c 3 _ rfl
  have c44 := HK5.out.2.2.2.2.2.2.c 4 _ rfl
  have c45 := HK5.out.2.2.2.2.2.2.c 5 _ rfl
  have c46 := HK5.out.2.2.2.2.2.2.c 6 _ rfl
  have c47 := HK5.out.2.2.2.2.2.2.c 7 _ rfl
  go_wp2_with fail
  go_ret
  exact ⟨rfl, HK5.out.1.bel⟩
end
end
section
open Go.RowKit
set_option linter.unusedVariables false
section
set_option maxRecDepth 100000 in
set_option maxHeartbeats 1000000 in
theorem c_rMay (c : Clm) (w : World) (hk : c.key.size ≤ maxLen) (hv : c.val.size ≤ maxLen) : Calls Tryz.prog 34 #[clV c] w fun e w' => e = .returned (.bool (mayB c)) ∧ Below w.heap.size w w' := by
  unfold clV
  have HO := Lib.hid (fun W => c_rkyOk c.key W hk)
  have HV := Lib.hid (fun W => c_rkyValue c.val W hv)
  obtain ⟨ko, hko⟩ : ∃ t, t = kyOk c.key := ⟨_, rfl⟩
  obtain ⟨vo, hvo⟩ : ∃ t, t = kyVal c.val := ⟨_, rfl⟩
  rw [← hko] at HO
  rw [← hvo] at HV
  have hmb : mayB c = (decide (c.verb = 3 ∨ c.verb = 4 ∨ c.verb = 5 ∨ c.verb = 6) && (ko && vo)) := by rw [hko, hvo]; rfl
  clear hko hvo
  by_cases h : c.verb = 3 ∨ c.verb = 4 ∨ c.verb = 5 ∨ c.verb = 6
  · rw [decide_eq_true h, Bool.true_and] at hmb
    rw [hmb]
    clear hmb
    have hc : (c.verb != 3) = false ∨ ((c.verb != 3) = true ∧ (c.verb != 4) = false) ∨ ((c.verb != 3) = true ∧ (c.verb != 4) = true ∧ (c.verb != 5) = false) ∨ ((c.verb != 3) = true ∧ (c.verb != 4) = true ∧ (c.verb != 5) = true ∧ (c.verb != 6) = false) := by
      simp only [bne_iff_ne, bne_eq_false_iff_eq]
      omega
    clear h
    rcases hc with d3 | ⟨d3, d4⟩ | ⟨d3, d4, d5⟩ | ⟨d3, d4, d5, d6⟩
    all_goals
      cases ko with
      | false =>
        go_enter Tryz.func34, Tryz.ntmps34
        go_wp2_with fail
        refine (HO.out _).mono ?_
        rintro e w' ⟨rfl, rfl⟩
        go_wp2_with fail
        go_ret
        exact ⟨rfl, alloc_below _ _⟩
      | true =>
        go_enter Tryz.func34, Tryz.ntmps34
        go_wp2_with fail
        refine (HO.out _).mono ?_
        rintro e w' ⟨rfl, rfl⟩
        go_wp2_with fail
        refine (HV.out _).mono ?_
        rintro e w' ⟨rfl, rfl⟩
        go_wp2_with fail
        go_ret
        exact ⟨rfl, alloc_below _ _⟩
  · rw [decide_eq_false h, Bool.false_and] at hmb
    rw [hmb]
    clear hmb HO HV
    have d3 : (c.verb != 3) = true := by simp; omega
    have d4 : (c.verb != 4) = true := by simp; omega
    have d5 : (c.verb != 5) = true := by simp; omega
    have d6 : (c.verb != 6) = true := by simp; omega
    clear h
    go_enter Tryz.func34, Tryz.ntmps34
    go_wp2_with fail
    go_ret
    exact ⟨rfl, alloc_below _ _⟩
end
end
section
open Go.RowKit
set_option linter.unusedVariables false
def OZ : Om := fun _ => 0
theorem ext0_belowS {S : Nat → Prop} {w w' : World} {G : Om} (e : Ext S OZ w G w') : Below w.heap.size w w' :=
  e.wr.below (fun k _ h => absurd rfl h.2) (Nat.le_refl _)
theorem c_NewTakeBadS (t : Int) (w : World) (h : ¬ (0 ≤ t ∧ t < 64)) :
    Calls Tryz.prog 52 #[.int .i64 t] w fun e w' => e = .returned (.pointer (some ⟨w.heap.size, 0, none⟩)) ∧ w.alloc (.cells #[.int .i64 t, .int .u64 0, .bool false, .nilFunc] 210) = w' := by
  have hd : decide (0 ≤ t ∧ t < 64) = false := by simp; omega
  go_enter Tryz.func52, Tryz.ntmps52
  go_wp2_with fail
  refine (c_thread t _).mono ?_
  rintro e w' ⟨rfl, rfl⟩
  rw [hd]
  go_wp2
  go_ret
  exact ⟨rfl, rfl⟩
/-- A Store that is over and got nothing. -/
def VoidS (w : World) (v : Value) : Prop := v = .pointer none ∨ ∃ X, v = .pointer (some ⟨X, 0, none⟩) ∧ w.cell? ⟨X, 0, none⟩ = some .nilIface ∧ w.cell? ⟨X, 2, none⟩ = some .nilFunc ∧ w.cell? ⟨X, 14, none⟩ = some (.int .u8 0) ∧ w.cell? ⟨X, 15, none⟩ = some (.int .u64 0) ∧ w.cell? ⟨X, 16, none⟩ = some (.string ⟨#[]⟩) ∧ w.cell? ⟨X, 17, none⟩ = some (.string ⟨#[]⟩) ∧ w.cell? ⟨X, 18, none⟩ = some (.int .u32 0) ∧ w.cell? ⟨X, 19, none⟩ = some (.int .u64 0) ∧ w.cell? ⟨X, 20, none⟩ = some (.int .i64 0) ∧ w.cell? ⟨X, 21, none⟩ = some (.int .i64 0) ∧ w.cell? ⟨X, 22, none⟩ = some (.int .u64 0) ∧ w.cell? ⟨X, 23, none⟩ = some (.int .i64 0)
theorem VoidS.ptr {w : World} {v : Value} (h : VoidS w v) : ∃ a, v = .pointer a := by
  rcases h with rfl | ⟨X, rfl, -⟩
  · exact ⟨_, rfl⟩
  · exact ⟨_, rfl⟩
theorem VoidS.below {w w' : World} {v : Value} (h : VoidS w v) (hb : Below w.heap.size w w') : VoidS w' v := by
  rcases h with rfl | ⟨X, rfl, h⟩
  · exact .inl rfl
  · have hl := blk_lt h.1
    dsimp only at hl
    have k : ∀ j u, w.cell? ⟨X, j, none⟩ = some u → w'.cell? ⟨X, j, none⟩ = some u := fun j u hu => (hb.cell (p := ⟨X, j, none⟩) hl).trans hu
    obtain ⟨a, b, c, d, e, f, g, i, j, l, m, n⟩ := h
    exact .inr ⟨X, rfl, k _ _ a, k _ _ b, k _ _ c, k _ _ d, k _ _ e, k _ _ f, k _ _ g, k _ _ i, k _ _ j, k _ _ l, k _ _ m, k _ _ n⟩
theorem VoidS.of_ob {w : World} {G : Om} {k X : Nat} {c : Clm} (h : Ob w G k X (stCs .nilIface .nilFunc .nilFunc c sp20 0 0 0 0)) : VoidS w (.pointer (some ⟨X, 0, none⟩)) :=
  .inr ⟨X, rfl, h.c 0 _ rfl, h.c 2 _ rfl, h.c 14 _ rfl, h.c 15 _ rfl, h.c 16 _ rfl, h.c 17 _ rfl, h.c 18 _ rfl, h.c 19 _ rfl, h.c 20 _ rfl, h.c 21 _ rfl, h.c 22 _ rfl, h.c 23 _ rfl⟩
section
variable {w : World} {v : Value}
theorem c_vsOver (h : VoidS w v) : Calls Tryz.prog 36 #[v] w fun e w' => e = .returned (.bool true) ∧ w = w' := by
  rcases h with rfl | ⟨X, rfl, a, b, -⟩
  · go_enter Tryz.func36, Tryz.ntmps36
    go_wp2
    go_ret
    exact ⟨rfl, rfl⟩
  · exact c_StOver (.inl ⟨rfl, a, b⟩)
set_option maxRecDepth 100000 in
theorem c_vsStep (wv : Value) (h : VoidS w v) : Calls Tryz.prog 37 #[v, wv] w fun e w' => e = .returned (.bool true) ∧ w = w' := by
  have HO := Lib.hid (c_vsOver h)
  obtain ⟨a, rfl⟩ := h.ptr
  clear h
  go_enter Tryz.func37, Tryz.ntmps37
  go_wp2_with fail
  refine HO.out.mono ?_
  rintro e w' ⟨rfl, rfl⟩
  go_wp2_with fail
  refine HO.out.mono ?_
  rintro e w' ⟨rfl, rfl⟩
  go_wp2_with fail
  go_ret
  exact ⟨rfl, rfl⟩
theorem c_vsGot (h : VoidS w v) : Calls Tryz.prog 35 #[v] w fun e w' => e = .returned (.tuple #[ansV 0 0, .int .u64 0, .int .i64 0]) ∧ Below w.heap.size w w' := by
  rcases h with rfl | ⟨X, rfl, a, b, c, d, e, f, g, i, j, l, m, n⟩
  · exact c_StGotNil w
  · exact c_StGotC 0 0 0 0 (.inl ⟨rfl, a, b⟩) c d e f g i j l m n
set_option maxRecDepth 100000 in
/-- A Store that goes on, without a world. -/
theorem c_StStepNil {X : Nat} (h : Idle w X false) : Calls Tryz.prog 37 #[.pointer (some ⟨X, 0, none⟩), .pointer none] w fun e w' => e = .returned (.bool false) ∧ w = w' := by
  have HO := Lib.hid (c_StOver h)
  clear h
  go_enter Tryz.func37, Tryz.ntmps37
  go_wp2_with fail
  refine HO.out.mono ?_
  rintro e w' ⟨rfl, rfl⟩
  go_wp2_with fail
  refine HO.out.mono ?_
  rintro e w' ⟨rfl, rfl⟩
  go_wp2_with fail
  go_ret
  exact ⟨rfl, rfl⟩
set_option maxHeartbeats 4000000 in
set_option maxRecDepth 100000 in
theorem c_NewStoreV (t : Int) (c : Clm) (hbad : ¬ (0 ≤ t ∧ t < 64) ∨ mayB c = false) (hz : c.key.size ≤ maxLen) (hv : c.val.size ≤ maxLen) (w : World) :
    Calls Tryz.prog 33 #[.int .i64 t, clV c] w fun e w' => ∃ X, e = .returned (.pointer (some ⟨X, 0, none⟩)) ∧ Below w.heap.size w w' ∧ VoidS w' (.pointer (some ⟨X, 0, none⟩)) := by
  have HM := Lib.hid (fun W => c_StMay c W hz hv)
  obtain ⟨mb, hmb⟩ : ∃ b, b = mayB c := ⟨_, rfl⟩
  rw [← hmb] at HM hbad
  have HH := Lib.hid (fun W => c_Hash c.key W hz)
  rw [show fnvHash c.key.data.toList = kyH c.key from rfl] at HH
  unfold clV at HM ⊢
  have hhi : ∀ j, OZ j ≠ 0 → j < w.heap.size := fun j hj => absurd rfl hj
  have HI := Lib.hid hhi
  clear hhi hz hv hmb
  go_enter Tryz.func33, Tryz.ntmps33
  go_upto_region 1 with fail
  go_cut [5] (fun v wx => ∃ (bx X : Nat) (G : Om), v = PTR bx ∧ NewSt w OZ 10 c wx G X bx)
  case first =>
   go_region_held3 (fun w' => w'.cell? ⟨w.heap.size, 0, none⟩ = some (.int .u8 c.verb) ∧ w'.cell? ⟨w.heap.size, 1, none⟩ = some (.string c.key) ∧ w'.cell? ⟨w.heap.size, 2, none⟩ = some (.string c.val) ∧ w'.cell? ⟨w.heap.size, 3, none⟩ = some (.int .u32 c.fl) ∧ w'.cell? ⟨w.heap.size, 4, none⟩ = some (.int .i64 c.exp) ∧ w'.cell? ⟨w.heap.size, 5, none⟩ = some (.int .u64 c.id) ∧ w'.cell? ⟨w.heap.size, 6, none⟩ = some (.int .u64 c.by_)) (go_keep)
    (first
      | (go_at_call 29
         refine (HH.out _).mono ?_
         rintro e w' ⟨rfl, rfl⟩))
   all_goals
     go_wp2_with fail
     go_meet
     first
       | (obtain ⟨G, h⟩ := newStA (c := c) (k := 10) HI.out (.int .u64 (kyH c.key)) 26 155 102 95; exact ⟨_, _, G, rfl, h⟩)
       | (obtain ⟨G, h⟩ := newStB (c := c) (k := 10) HI.out (.int .u64 (kyH c.key)) 26 155 102 95; exact ⟨_, _, G, rfl, h⟩)
       | (obtain ⟨G, h⟩ := newStC (c := c) (k := 10) HI.out (.int .u64 (kyH c.key)) 26 155 102 95; exact ⟨_, _, G, rfl, h⟩)
  obtain ⟨bx, X, G, rfl, hN⟩ := hcut
  unfold PTR
  have HNT : Hid (∃ (b : Bool), (b = true ∨ (0 ≤ t ∧ t < 64)) ∧ Calls Tryz.prog 52 #[.int .i64 t] wc fun e w' => ∃ T dv, e = .returned (.pointer (some ⟨T, 0, none⟩)) ∧ ∃ G2, Ext (NX 10) G wc G2 w' ∧ Ob w' G2 10 X (stCs .nilIface .nilFunc .nilFunc c sp20 0 0 0 0) ∧ Bx w' G2 bx [.pointer (some ⟨X, 0, none⟩)] ∧ Bx w' G2 w.heap.size (clCs c) ∧ w'.cell? ⟨T, 3, none⟩ = some dv ∧ ((dv = .nilFunc ∧ b = true) ∨ (∃ f a c, dv = .func f a c ∧ b = false)) ∧ T < w'.heap.size) := Lib.hid (by
    by_cases ht : 0 ≤ t ∧ t < 64
    · refine ⟨false, .inr ht, (c_NewTakeE t wc G 11 (by decide) ht.1 ht.2 hN.e.hi).mono ?_⟩
      rintro e w2 ⟨T, rfl, G2, e2, t2⟩
      exact ⟨T, _, rfl, G2, e2.mono fun t _ ht => ⟨by omega, by omega⟩, hN.o.ext e2 (by omega), hN.b.ext e2, hN.c.ext e2, t2.c 3 _ rfl, .inr ⟨_, _, _, rfl, rfl⟩, t2.lt⟩
    · refine ⟨true, .inl rfl, (c_NewTakeBadS t wc ht).mono ?_⟩
      rintro e w2 ⟨rfl, rfl⟩
      have hb := alloc_below wc (.cells #[.int .i64 t, .int .u64 0, .bool false, .nilFunc] 210)
      exact ⟨_, .nilFunc, rfl, G, Ext.of_below hN.e.hi hb, hN.o.below hb, hN.b.below hb, hN.c.below hb, cell_newA wc #[.int .i64 t, .int .u64 0, .bool false, .nilFunc] _ _ rfl 3 _ rfl, .inl ⟨rfl, rfl⟩, by simp⟩)
  have HW := Lib.hid hN
  clear hN
  obtain ⟨b, hbt, hc⟩ := HNT.out
  have hbm : b = true ∨ mb = false := by
    rcases hbad with h | h
    · exact hbt.elim .inl (fun h2 => absurd h2 h)
    · exact .inr h
  have HC := Lib.hid hc
  clear hc HNT hbt hbad
  go_wp2_with fail
  refine HC.out.mono ?_
  rintro e w2 ⟨T, dv, rfl, G2, e2, o2, b2, c2, t3, hdv, hT⟩
  have q0 := c2.c 0 _ rfl
  have q1 := c2.c 1 _ rfl
  have q2 := c2.c 2 _ rfl
  have q3 := c2.c 3 _ rfl
  have q4 := c2.c 4 _ rfl
  have q5 := c2.c 5 _ rfl
  have q6 := c2.c 6 _ rfl
  have HJ := Lib.hid (And.intro (HW.out.e.trans e2) (And.intro o2 b2))
  have HT := Lib.hid (And.intro t3 (And.intro hdv hT))
  clear e2 o2 b2 c2 HW HC t3 hdv hT
  go_wp2_with fail
  refine (HM.out _).mono ?_
  rintro e w3 ⟨rfl, hb3⟩
  have HJ3 := Lib.hid (And.intro (HJ.out.1.below hb3) (And.intro (HJ.out.2.1.below hb3) (HJ.out.2.2.below hb3)))
  have HO := Lib.hid (c_TakeOver T dv w3 ((hb3.cell (p := ⟨T, 3, none⟩) HT.out.2.2).trans HT.out.1) b HT.out.2.1)
  have y0 := HJ3.out.2.2.c 0 _ rfl
  clear hb3 HJ HT
  cases mb with
  | false =>
    go_wp2_with fail
    go_ret
    exact ⟨X, rfl, ext0_belowS HJ3.out.1, VoidS.of_ob HJ3.out.2.1⟩
  | true =>
    obtain rfl : b = true := hbm.elim id (fun h => by cases h)
    go_wp2_with fail
    refine HO.out.mono ?_
    rintro e w' ⟨rfl, rfl⟩
    go_wp2_with fail
    go_ret
    exact ⟨X, rfl, ext0_belowS HJ3.out.1, VoidS.of_ob HJ3.out.2.1⟩
end
end
end Go.Proofs.YthpedifjclofoaaGreat
