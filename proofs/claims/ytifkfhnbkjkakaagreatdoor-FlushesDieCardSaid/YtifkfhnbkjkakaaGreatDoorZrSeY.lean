/- Layers 3, 25: which keys and values may be; which calls may be stored. Layer 25: a new Store; what it got. Layer 25: what a Store got; Stores that do nothing. Layers 14, 25: runs of a Store and of a Look by themselves. Layer 25: a call by itself. Layer 25: the chapter's examples. Layer 25: calls that may not be stored. Layer 25: Stores that do nothing. -/
import Derived.Test.YtifkfhnbkjkakaaGreatDoorZrBaB
import Derived.Test.YtifkfhnbkjkakaaGreatDoorZrSeR
import Derived.Test.YtifkfhnbkjkakaaGreatDoorZrLkA
import Derived.Test.YtifkfhnbkjkakaaGreatDoorZrBaH
namespace Go.Proofs.YtifkfhnbkjkakaaGreatDoor
set_option linter.unusedSimpArgs false
set_option linter.unusedVariables false
set_option maxHeartbeats 4000000
set_option maxRecDepth 100000
section
open Go.RowKit
def kyB (c : UInt8) : Bool := decide (32 < c.toNat) && decide (c.toNat ≠ 127)
def kyOk (k : ByteArray) : Bool := decide (k.size ≠ 0) && (decide (k.size ≤ 250) && k.data.toList.all kyB)
def kyVal (k : ByteArray) : Bool := decide (k.size ≤ 1024)
theorem byLoop (b : ByteArray) : ∀ (n i : Nat) (r : List UInt8), b.size - i = n → (ByteArray.toList.loop b i r).length = r.length + n := by
 intro n
 induction n with
 | zero =>
   intro i r h
   unfold ByteArray.toList.loop
   rw [if_neg (by omega)]
   simp
 | succ n ih =>
   intro i r h
   unfold ByteArray.toList.loop
   rw [if_pos (by omega), ih (i + 1) _ (by omega)]
   simp
   omega
theorem by_ne {b : ByteArray} (h : b.size ≠ 0) : b.toList.isEmpty = false := by
 rw [List.isEmpty_eq_false_iff]
 intro e
 have h1 := byLoop b b.size 0 [] (by omega)
 have h2 := congrArg List.length e
 unfold ByteArray.toList at h2
 rw [h1] at h2
 simp at h2
 exact h (by rw [h2]; rfl)
def KyLk (kd : IntKind) (s : ByteArray) (e : Ending) : Prop := ∃ f n, e = .returned (.tuple #[.int kd f, .int .i64 n]) ∧ (f == 0) = kyOk s
theorem all_take {l : List UInt8} {k : Nat} (h : k < l.length) (a : (l.take k).all kyB = true) (b : kyB l[k] = true) : (l.take (k + 1)).all kyB = true := by
 rw [List.take_succ_eq_append_getElem h, List.all_append, a]
 simp [b]
theorem all_not {l : List UInt8} {k : Nat} (h : k < l.length) (b : kyB l[k] = false) : l.all kyB = false := by
 rw [List.all_eq_false]
 exact ⟨l[k], List.getElem_mem h, by simp [b]⟩
section
theorem c_kyLook (s : ByteArray) (w : World) (hs : s.size ≤ maxLen) :
 Calls Tryz.prog 30 #[.string s] w fun e w' => KyLk .u8 s e ∧ w = w' := by
 unfold maxLen at hs
 by_cases h0 : s.size = 0
 · have he : s = ⟨#[]⟩ := by
    cases s with | mk d => cases d with | mk l => cases l with | nil => rfl | cons a l => simp [ByteArray.size] at h0
   subst he
   go_enter Tryz.func30, Tryz.ntmps30
   go_wp2
   exact bodyPost_ret (v := .tuple #[.int .u8 1, .int .i64 0]) (by simp [results, Tryz.results30, go_sem]) rfl ⟨⟨1, 0, rfl, rfl⟩, rfl⟩
 · have he3 : s.toList.isEmpty = false := by_ne h0
   by_cases h1 : 250 < s.size
   · have e1 : decide ((250 : Int) < (s.size : Int)) = true := by simp; omega
     have HK : Hid (kyOk s = false) := Lib.hid (by unfold kyOk; rw [decide_eq_false (show ¬ s.size ≤ 250 by omega)]; simp)
     go_enter Tryz.func30, Tryz.ntmps30
     go_wp2
     exact bodyPost_ret (v := .tuple #[.int .u8 2, .int .i64 0]) (by simp [results, Tryz.results30, go_sem]) rfl ⟨⟨2, 0, rfl, by rw [HK.out]; rfl⟩, rfl⟩
   · have e1 : decide ((250 : Int) < (s.size : Int)) = false := by simp; omega
     have HK : Hid (kyOk s = s.data.toList.all kyB) := Lib.hid (by unfold kyOk; rw [decide_eq_true (show s.size ≤ 250 by omega), decide_eq_true h0]; simp)
     clear h0 h1
     go_enter Tryz.func30, Tryz.ntmps30
     go_wp2
     go_loop [15] (fun i => ∃ k : Nat, k ≤ s.size ∧ i = .int .i64 k ∧ (s.data.toList.take k).all kyB = true) (fun i => s.size - (intOf i).toNat)
     case atStart => exact ⟨0, Nat.zero_le _, rfl, rfl⟩
     case round =>
      obtain ⟨k, hk, rfl, ha⟩ := hrel
      have HA := Lib.hid ha
      clear ha
      by_cases hlt : k < s.size
      · have hll : k < s.data.toList.length := by simpa using hlt
        have hg : s.data.toList[k] = s[k] := by simp; rfl
        have hc0 : (0 : Int) ≤ (s[k].toNat : Int) := by omega
        have hc1 : (s[k].toNat : Int) < 256 := by have := s[k].toNat_lt; omega
        by_cases hb1 : (s[k].toNat : Int) ≤ 32
        · have d1 : decide ((s[k].toNat : Int) ≤ 32) = true := by simp [hb1]
          have HN : Hid (s.data.toList.all kyB = false) := Lib.hid (all_not hll (by rw [hg]; unfold kyB; rw [decide_eq_false (by omega)]; rfl))
          clear hg
          go_wp2
          exact bodyPost_ret (v := .tuple #[.int .u8 3, .int .i64 k]) (by simp [results, Tryz.results30, go_sem]) rfl ⟨⟨3, k, rfl, by rw [HK.out, HN.out]; rfl⟩, rfl⟩
        · have d1 : decide ((s[k].toNat : Int) ≤ 32) = false := by simp; omega
          by_cases hb2 : (s[k].toNat : Int) = 127
          · have d2 : ((s[k].toNat : Int) == 127) = true := by simp [hb2]
            have HN : Hid (s.data.toList.all kyB = false) := Lib.hid (all_not hll (by rw [hg]; unfold kyB; rw [decide_eq_false (p := s[k].toNat ≠ 127) (by omega)]; simp))
            clear hg hb2
            go_wp2
            exact bodyPost_ret (v := .tuple #[.int .u8 3, .int .i64 k]) (by simp [results, Tryz.results30, go_sem]) rfl ⟨⟨3, k, rfl, by rw [HK.out, HN.out]; rfl⟩, rfl⟩
          · have d2 : ((s[k].toNat : Int) == 127) = false := by simp [hb2]
            have HN : Hid ((s.data.toList.take (k + 1)).all kyB = true) := Lib.hid (all_take hll HA.out (by rw [hg]; unfold kyB; rw [decide_eq_true (p := s[k].toNat ≠ 127) (by omega), decide_eq_true (by omega)]; rfl))
            clear hg hb2
            go_wp2
            go_round
            case rel => exact ⟨k + 1, by omega, by go_num, HN.out⟩
            case measure => simp [intOf]; omega
      · go_wp2
        exact bodyPost_ret (v := .tuple #[.int .u8 0, .int .i64 0]) (by simp [results, Tryz.results30, go_sem]) rfl ⟨⟨0, 0, rfl, by rw [HK.out]; have := HA.out; rw [List.take_of_length_le (by simp; omega)] at this; rw [this]; rfl⟩, rfl⟩
theorem c_kyOk (s : ByteArray) (w : World) (hs : s.size ≤ maxLen) : Calls Tryz.prog 8 #[.string s] w fun e w' => e = .returned (.bool (kyOk s)) ∧ w = w' := by
 have HC := Lib.hid (c_kyLook s w hs)
 go_enter Tryz.func8, Tryz.ntmps8
 go_wp2_with fail
 refine HC.out.mono ?_
 rintro e w' ⟨⟨f, n, rfl, hf⟩, rfl⟩
 have HF := Lib.hid hf
 clear hf
 go_wp2_with fail
 go_ret
 exact ⟨ret_bool HF.out, rfl⟩
theorem c_kyValue (s : ByteArray) (w : World) (hs : s.size ≤ maxLen) : Calls Tryz.prog 9 #[.string s] w fun e w' => e = .returned (.bool (kyVal s)) ∧ w = w' := by
 unfold maxLen at hs
 have HR : Hid (Calls Tryz.prog 31 #[.int .i64 s.size] w fun e w' => e = .returned (.bool (kyVal s)) ∧ w = w') := by
  refine Lib.hid ?_
  have d0 : decide ((0 : Int) ≤ (s.size : Int)) = true := by simp
  go_enter Tryz.func31, Tryz.ntmps31
  go_wp2
  go_ret
  exact ⟨ret_bool (by unfold kyVal; rw [Bool.eq_iff_iff]; simp; try omega), rfl⟩
 go_enter Tryz.func9, Tryz.ntmps9
 go_wp2_with fail
 refine HR.out.mono ?_
 rintro e w' ⟨rfl, rfl⟩
 go_wp2_with fail
 go_ret
 exact ⟨rfl, rfl⟩
end
end
section
open Go.RowKit
def clV (c : Clm) : Value := .agg #[.int .u8 c.verb, .string c.key, .string c.val, .int .u32 c.fl, .int .i64 c.exp, .int .u64 c.id, .int .u64 c.by_]
def mayB (c : Clm) : Bool := decide (c.verb = 3 ∨ c.verb = 4 ∨ c.verb = 5 ∨ c.verb = 6) && (kyOk c.key && kyVal c.val)
section
theorem c_StMay (c : Clm) (w : World) (hk : c.key.size ≤ maxLen) (hv : c.val.size ≤ maxLen) : Calls Tryz.prog 97 #[clV c] w fun e w' => e = .returned (.bool (mayB c)) ∧ Below w.heap.size w w' := by
 unfold clV
 have HO := Lib.hid (fun W => c_kyOk c.key W hk)
 have HV := Lib.hid (fun W => c_kyValue c.val W hv)
 obtain ⟨ko, hko⟩ : ∃ t, t = kyOk c.key := ⟨_, rfl⟩
 obtain ⟨vo, hvo⟩ : ∃ t, t = kyVal c.val := ⟨_, rfl⟩
 rw [← hko] at HO
 rw [← hvo] at HV
 have hmb : mayB c = (decide (c.verb = 3 ∨ c.verb = 4 ∨ c.verb = 5 ∨ c.verb = 6) && (ko && vo)) := by rw [hko, hvo]; rfl
 clear hko hvo
 by_cases h : c.verb = 3 ∨ c.verb = 4 ∨ c.verb = 5 ∨ c.verb = 6
 · rw [decide_eq_true h, Bool.true_and] at hmb
   rw [hmb]
   clear hmb
   have hc : (c.verb == 3) = true ∨ ((c.verb == 3) = false ∧ (c.verb == 4) = true) ∨ ((c.verb == 3) = false ∧ (c.verb == 4) = false ∧ (c.verb == 5) = true) ∨ ((c.verb == 3) = false ∧ (c.verb == 4) = false ∧ (c.verb == 5) = false ∧ (c.verb == 6) = true) := by
    simp only [beq_iff_eq, beq_eq_false_iff_ne]
    omega
   clear h
   rcases hc with d3 | ⟨d3, d4⟩ | ⟨d3, d4, d5⟩ | ⟨d3, d4, d5, d6⟩
   all_goals
    cases ko with
    | false =>
      go_enter Tryz.func97, Tryz.ntmps97
      go_wp2_with fail
      refine (HO.out _).mono ?_
      rintro e w' ⟨rfl, rfl⟩
      go_wp2_with fail
      go_ret
      exact ⟨rfl, alloc_below _ _⟩
    | true =>
      go_enter Tryz.func97, Tryz.ntmps97
      go_wp2_with fail
      refine (HO.out _).mono ?_
      rintro e w' ⟨rfl, rfl⟩
      go_wp2_with fail
      refine (HV.out _).mono ?_
      rintro e w' ⟨rfl, rfl⟩
      go_wp2_with fail
      go_ret
      exact ⟨rfl, alloc_below _ _⟩
 · rw [decide_eq_false h, Bool.false_and] at hmb
   rw [hmb]
   clear hmb HO HV
   have d3 : (c.verb == 3) = false := by simp; omega
   have d4 : (c.verb == 4) = false := by simp; omega
   have d5 : (c.verb == 5) = false := by simp; omega
   have d6 : (c.verb == 6) = false := by simp; omega
   clear h
   go_enter Tryz.func97, Tryz.ntmps97
   go_wp2_with fail
   go_ret
   exact ⟨rfl, alloc_below _ _⟩
end
def NX (k t : Nat) : Prop := k ≤ t ∧ t ≤ k + 30
theorem NX.one {k t : Nat} (h : t = k) : NX k t := ⟨by omega, by omega⟩
theorem NX.sx {k t : Nat} (h : NX k t) : SX k (k + 30) t := .inr h
section
variable {w : World} {O : Om} {B : Wb} {f : Cf} {s : AW} {k X t : Nat} {c : Clm}
structure NewSt (w : World) (O : Om) (k : Nat) (c : Clm) (wx : World) (G : Om) (X bx : Nat) : Prop where
 e : Ext (NX k) O w G wx
 o : Ob wx G k X (stCs .nilIface .nilFunc .nilFunc c sp20 0 0 0 0)
 b : Bx wx G bx [PTR X]
 c : Bx wx G w.heap.size (clCs c)
theorem newStA (hhi : ∀ j, O j ≠ 0 → j < w.heap.size) (h : Value) (t1 t2 t3 t4 : TypeId) : ∃ G, NewSt w O k c ((((w.alloc (.cells (clCs c).toArray t1)).alloc (.cells #[h] t2)).alloc (.cells (stCs .nilIface .nilFunc .nilFunc c sp20 0 0 0 0).toArray t3)).alloc (.cells #[PTR (w.heap.size + 1 + 1)] t4)).drew G (w.heap.size + 1 + 1) (w.heap.size + 1 + 1 + 1) := by
 have b1 := alloc_below w (.cells (clCs c).toArray t1)
 have b2 := alloc_below (w.alloc (.cells (clCs c).toArray t1)) (.cells #[h] t2)
 have b12 := b1.trans (b2.mono b1.size)
 obtain ⟨G, e, o, -⟩ := alloc_ob (hi_below hhi b12) k (stCs .nilIface .nilFunc .nilFunc c sp20 0 0 0 0).toArray t3 (w.heap.size + 1 + 1) (by simp)
 have b4 := (alloc_below (((w.alloc (.cells (clCs c).toArray t1)).alloc (.cells #[h] t2)).alloc (.cells (stCs .nilIface .nilFunc .nilFunc c sp20 0 0 0 0).toArray t3)) (.cells #[PTR (w.heap.size + 1 + 1)] t4)).drew
 exact ⟨G, ((Ext.of_below hhi b12).trans (e.mono fun t _ ht => NX.one ht)).below b4, o.below b4, (Bx.new e.hi #[PTR (w.heap.size + 1 + 1)] t4 _ (by simp)).below (drew_below _), (((Bx.new hhi (clCs c).toArray t1 _ rfl).below b2).ext e).below b4⟩
theorem newStB (hhi : ∀ j, O j ≠ 0 → j < w.heap.size) (h : Value) (t1 t2 t3 t4 : TypeId) : ∃ G, NewSt w O k c ((((w.alloc (.cells (clCs c).toArray t1)).alloc (.cells #[h] t2)).alloc (.cells #[PTR (w.heap.size + 1 + 1 + 1)] t4)).alloc (.cells (stCs .nilIface .nilFunc .nilFunc c sp20 0 0 0 0).toArray t3)).drew G (w.heap.size + 1 + 1 + 1) (w.heap.size + 1 + 1) := by
 have b1 := alloc_below w (.cells (clCs c).toArray t1)
 have b2 := alloc_below (w.alloc (.cells (clCs c).toArray t1)) (.cells #[h] t2)
 have b12 := b1.trans (b2.mono b1.size)
 have b3 := alloc_below ((w.alloc (.cells (clCs c).toArray t1)).alloc (.cells #[h] t2)) (.cells #[PTR (w.heap.size + 1 + 1 + 1)] t4)
 have b13 := b12.trans (b3.mono b12.size)
 obtain ⟨G, e, o, -⟩ := alloc_ob (hi_below hhi b13) k (stCs .nilIface .nilFunc .nilFunc c sp20 0 0 0 0).toArray t3 (w.heap.size + 1 + 1 + 1) (by simp)
 have bd := drew_below ((((w.alloc (.cells (clCs c).toArray t1)).alloc (.cells #[h] t2)).alloc (.cells #[PTR (w.heap.size + 1 + 1 + 1)] t4)).alloc (.cells (stCs .nilIface .nilFunc .nilFunc c sp20 0 0 0 0).toArray t3))
 exact ⟨G, ((Ext.of_below hhi b13).trans (e.mono fun t _ ht => NX.one ht)).below bd, o.below bd, ((Bx.new (hi_below hhi b12) #[PTR (w.heap.size + 1 + 1 + 1)] t4 _ (by simp)).ext e).below bd, ((((Bx.new hhi (clCs c).toArray t1 _ rfl).below b2).below b3).ext e).below bd⟩
theorem newStC (hhi : ∀ j, O j ≠ 0 → j < w.heap.size) (h : Value) (t1 t2 t3 t4 : TypeId) : ∃ G, NewSt w O k c ((((w.alloc (.cells (clCs c).toArray t1)).alloc (.cells #[PTR (w.heap.size + 1 + 1 + 1)] t4)).alloc (.cells #[h] t2)).alloc (.cells (stCs .nilIface .nilFunc .nilFunc c sp20 0 0 0 0).toArray t3)).drew G (w.heap.size + 1 + 1 + 1) (w.heap.size + 1) := by
 have b1 := alloc_below w (.cells (clCs c).toArray t1)
 have b2 := alloc_below (w.alloc (.cells (clCs c).toArray t1)) (.cells #[PTR (w.heap.size + 1 + 1 + 1)] t4)
 have b12 := b1.trans (b2.mono b1.size)
 have b3 := alloc_below ((w.alloc (.cells (clCs c).toArray t1)).alloc (.cells #[PTR (w.heap.size + 1 + 1 + 1)] t4)) (.cells #[h] t2)
 have b13 := b12.trans (b3.mono b12.size)
 obtain ⟨G, e, o, -⟩ := alloc_ob (hi_below hhi b13) k (stCs .nilIface .nilFunc .nilFunc c sp20 0 0 0 0).toArray t3 (w.heap.size + 1 + 1 + 1) (by simp)
 have bd := drew_below ((((w.alloc (.cells (clCs c).toArray t1)).alloc (.cells #[PTR (w.heap.size + 1 + 1 + 1)] t4)).alloc (.cells #[h] t2)).alloc (.cells (stCs .nilIface .nilFunc .nilFunc c sp20 0 0 0 0).toArray t3))
 exact ⟨G, ((Ext.of_below hhi b13).trans (e.mono fun t _ ht => NX.one ht)).below bd, o.below bd, (((Bx.new (hi_below hhi b1) #[PTR (w.heap.size + 1 + 1 + 1)] t4 _ (by simp)).below b3).ext e).below bd, ((((Bx.new hhi (clCs c).toArray t1 _ rfl).below b2).below b3).ext e).below bd⟩
theorem c_NewStore (t : Nat) (ht : t < 64) (hm : mayB c = true) (hz : c.key.size ≤ maxLen) (hv : c.val.size ≤ maxLen) (hk : 10 ≤ k) (hhi : ∀ j, O j ≠ 0 → j < w.heap.size) :
 Calls Tryz.prog 52 #[.int .i64 t, clV c] w fun e w' => ∃ X, RP (NX k) w O (PTR X) (fun W G => StAt W G k X t c stNew) e w' := by
 have HM := Lib.hid (fun W => c_StMay c W hz hv)
 rw [hm] at HM
 have HH := Lib.hid (fun W => c_Hash c.key W hz)
 rw [show fnvHash c.key.data.toList = kyH c.key from rfl] at HH
 unfold clV at HM ⊢
 have HI := Lib.hid hhi
 clear hm hhi hz hv
 go_enter Tryz.func52, Tryz.ntmps52
 go_upto_region 1 with fail
 go_cut [5] (fun v wx => ∃ (bx X : Nat) (G : Om), v = PTR bx ∧ NewSt w O k c wx G X bx)
 case first =>
  go_region_held3 (fun w' => w'.cell? ⟨w.heap.size, 0, none⟩ = some (.int .u8 c.verb) ∧ w'.cell? ⟨w.heap.size, 1, none⟩ = some (.string c.key) ∧ w'.cell? ⟨w.heap.size, 2, none⟩ = some (.string c.val) ∧ w'.cell? ⟨w.heap.size, 3, none⟩ = some (.int .u32 c.fl) ∧ w'.cell? ⟨w.heap.size, 4, none⟩ = some (.int .i64 c.exp) ∧ w'.cell? ⟨w.heap.size, 5, none⟩ = some (.int .u64 c.id) ∧ w'.cell? ⟨w.heap.size, 6, none⟩ = some (.int .u64 c.by_)) (go_keep)
   (first
     | (go_at_call 82
        refine (HH.out _).mono ?_
        rintro e w' ⟨rfl, rfl⟩))
  all_goals
   go_wp2_with fail
   go_meet
   first
    | (obtain ⟨G, h⟩ := newStA (c := c) (k := k) HI.out (.int .u64 (kyH c.key)) 26 264 214 134; exact ⟨_, _, G, rfl, h⟩)
    | (obtain ⟨G, h⟩ := newStB (c := c) (k := k) HI.out (.int .u64 (kyH c.key)) 26 264 214 134; exact ⟨_, _, G, rfl, h⟩)
    | (obtain ⟨G, h⟩ := newStC (c := c) (k := k) HI.out (.int .u64 (kyH c.key)) 26 264 214 134; exact ⟨_, _, G, rfl, h⟩)
 obtain ⟨bx, X, G, rfl, hN⟩ := hcut
 unfold PTR
 have HN := Lib.hid (c_NewTakeE t wc G (k + 1) (by omega) (by omega) (by omega) hN.e.hi)
 have HW := Lib.hid hN
 clear hN
 go_wp2_with fail
 refine HN.out.mono ?_
 rintro e w2 ⟨T, rfl, G2, e2, t2⟩
 have em := e2.mono (T := NX k) fun t _ ht => ⟨by omega, by omega⟩
 have o2 := HW.out.o.ext e2 (by omega)
 have b2 := HW.out.b.ext e2
 have c2 := HW.out.c.ext e2
 have q0 := c2.c 0 _ rfl
 have q1 := c2.c 1 _ rfl
 have q2 := c2.c 2 _ rfl
 have q3 := c2.c 3 _ rfl
 have q4 := c2.c 4 _ rfl
 have q5 := c2.c 5 _ rfl
 have q6 := c2.c 6 _ rfl
 have HJ := Lib.hid (And.intro (HW.out.e.trans em) (And.intro o2 (And.intro b2 t2)))
 clear e2 t2 em o2 b2 c2 HW
 go_wp2_with fail
 refine (HM.out _).mono ?_
 rintro e w3 ⟨rfl, hb3⟩
 replace HJ := Lib.hid (And.intro (HJ.out.1.below hb3) (And.intro (HJ.out.2.1.below hb3) (And.intro (HJ.out.2.2.1.below hb3) (HJ.out.2.2.2.below hb3))))
 have t3 := HJ.out.2.2.2.c 3 _ rfl
 clear hb3
 go_wp2_with fail
 refine (c_TakeOver T _ _ t3 false (.inr ⟨_, _, _, rfl, rfl⟩)).mono ?_
 rintro e w' ⟨rfl, rfl⟩
 have z0 := HJ.out.2.1.c 0 _ rfl
 have z1 := HJ.out.2.1.c 1 _ rfl
 have f0 := HJ.out.2.1.f 0
 have f1 := HJ.out.2.1.f 1
 have y0 : w3.cell? ⟨bx, 0, none⟩ = some (.pointer (some ⟨X, 0, none⟩)) := HJ.out.2.2.1.c 0 _ rfl
 have hne : ¬ bx = X := fun e => by have h1 := HJ.out.2.2.1.o; have h2 := HJ.out.2.1.o; rw [e] at h1; omega
 have hne2 : ¬ X = bx := fun e => hne e.symm
 clear t3
 go_wp2_with fail
 go_ret
 obtain ⟨E, o, b, tt⟩ := HJ.out
 have e4 := Ext.of_set (j := 0) (v := .iface 150 (PTR T)) (S := fun t => t = k) E.hi o.o (by omega) rfl
 have o4 := o.set 0 (.iface 150 (PTR T)) (by simp [stCs])
 have e5 := Ext.of_set (j := 1) (v := NEW1V bx) (S := fun t => t = k) e4.hi o4.o (by omega) rfl
 have o5 := o4.set 1 (NEW1V bx) (by simp [stCs, stTl])
 refine ⟨X, rfl, G2, (E.trans (e4.mono fun t _ ht => NX.one ht)).trans (e5.mono fun t _ ht => NX.one ht), _, _, _, o5, ?_⟩
 exact ⟨T, bx, rfl, rfl, (b.ext e4).ext e5, (tt.ext e4 (by omega)).ext e5 (by omega)⟩
end
end
section
open Go.RowKit
def ansV (an nu : Int) : Value := .agg #[.int .u8 an, .int .u64 nu, .string ⟨#[]⟩, .string ⟨#[]⟩, .int .u32 0, .int .u64 0, .int .i64 0, .int .i64 0]
section
variable {w : World} {O : Om} {B : Wb} {f : Cf} {s : AW} {k X t : Nat} {c : Clm} {z : Stm}
theorem c_StGotNil (w : World) : Calls Tryz.prog 53 #[.pointer none] w fun e w' => e = .returned (.tuple #[ansV 0 0, .int .u64 0, .int .i64 0]) ∧ Below w.heap.size w w' := by
 unfold ansV
 go_enter Tryz.func53, Tryz.ntmps53
 go_wp2_with fail
 exact bodyPost_ret (v := .tuple #[.agg #[.int .u8 0, .int .u64 0, .string ⟨#[]⟩, .string ⟨#[]⟩, .int .u32 0, .int .u64 0, .int .i64 0, .int .i64 0], .int .u64 0, .int .i64 0]) (by simp [results, Tryz.results53, go_sem]) rfl ⟨rfl, alloc_below _ _⟩
theorem c_StGotC (an nu ep pt : Int) (hI : Idle w X true) (q14 : w.cell? ⟨X, 14, none⟩ = some (.int .u8 an)) (q15 : w.cell? ⟨X, 15, none⟩ = some (.int .u64 nu)) (q16 : w.cell? ⟨X, 16, none⟩ = some (.string ⟨#[]⟩)) (q17 : w.cell? ⟨X, 17, none⟩ = some (.string ⟨#[]⟩)) (q18 : w.cell? ⟨X, 18, none⟩ = some (.int .u32 0)) (q19 : w.cell? ⟨X, 19, none⟩ = some (.int .u64 0)) (q20 : w.cell? ⟨X, 20, none⟩ = some (.int .i64 0)) (q21 : w.cell? ⟨X, 21, none⟩ = some (.int .i64 0)) (q22 : w.cell? ⟨X, 22, none⟩ = some (.int .u64 ep)) (q23 : w.cell? ⟨X, 23, none⟩ = some (.int .i64 pt)) :
 Calls Tryz.prog 53 #[.pointer (some ⟨X, 0, none⟩)] w fun e w' => e = .returned (.tuple #[ansV an nu, .int .u64 ep, .int .i64 pt]) ∧ Below w.heap.size w w' := by
 unfold ansV
 have hl := blk_lt q14
 dsimp only at hl
 have hne : ¬ X = w.heap.size := by omega
 have hne2 : ¬ w.heap.size = X := by omega
 have hI2 : Idle (w.alloc (.cells #[.int .u8 0, .int .u64 0, .string ⟨#[]⟩, .string ⟨#[]⟩, .int .u32 0, .int .u64 0, .int .i64 0, .int .i64 0] 36)) X true := by
  rcases hI with ⟨h, a, b⟩ | ⟨h, -⟩
  · exact .inl ⟨h, ((alloc_below w _).cell (p := ⟨X, 0, none⟩) hl).trans a, ((alloc_below w _).cell (p := ⟨X, 2, none⟩) hl).trans b⟩
  · cases h
 have HO := Lib.hid (c_goIdle hI2)
 clear hI hI2 hl
 go_enter Tryz.func53, Tryz.ntmps53
 go_wp2_with fail
 refine HO.out.mono ?_
 rintro e w' ⟨rfl, rfl⟩
 go_upto_region 3 with fail
 go_region_held3 (fun w' => w'.cell? ⟨X, 14, none⟩ = some (.int .u8 an) ∧ w'.cell? ⟨X, 15, none⟩ = some (.int .u64 nu) ∧ w'.cell? ⟨X, 16, none⟩ = some (.string ⟨#[]⟩) ∧ w'.cell? ⟨X, 17, none⟩ = some (.string ⟨#[]⟩) ∧ w'.cell? ⟨X, 18, none⟩ = some (.int .u32 0) ∧ w'.cell? ⟨X, 19, none⟩ = some (.int .u64 0) ∧ w'.cell? ⟨X, 20, none⟩ = some (.int .i64 0) ∧ w'.cell? ⟨X, 21, none⟩ = some (.int .i64 0) ∧ w'.cell? ⟨X, 22, none⟩ = some (.int .u64 ep) ∧ w'.cell? ⟨X, 23, none⟩ = some (.int .i64 pt)) (go_keep)
  (fail)
 rename_i hheld
 clear hheld
 go_wp2_with fail
 exact bodyPost_ret (v := .tuple #[.agg #[.int .u8 an, .int .u64 nu, .string ⟨#[]⟩, .string ⟨#[]⟩, .int .u32 0, .int .u64 0, .int .i64 0, .int .i64 0], .int .u64 ep, .int .i64 pt]) (by simp [results, Tryz.results53, go_sem]) rfl ⟨rfl, (alloc_below _ _).drew⟩
theorem c_StGot (h : StAt w O k X t c z) (hn : z.ln = 0) : Calls Tryz.prog 53 #[.pointer (some ⟨X, 0, none⟩)] w fun e w' => e = .returned (.tuple #[ansV z.an z.nu, .int .u64 z.ep, .int .i64 z.pt]) ∧ Below w.heap.size w w' := by
 have hi := h.idle
 rw [hn] at hi
 obtain ⟨op, th, ac, ho, -⟩ := h.ex
 exact c_StGotC z.an z.nu z.ep z.pt hi (ho.c 14 _ rfl) (ho.c 15 _ rfl) (ho.c 16 _ rfl) (ho.c 17 _ rfl) (ho.c 18 _ rfl) (ho.c 19 _ rfl) (ho.c 20 _ rfl) (ho.c 21 _ rfl) (ho.c 22 _ rfl) (ho.c 23 _ rfl)
end
end
section
open Go.RowKit
theorem m_StOver (a : Addr) (w : World) : (method 635 134 (.pointer (some a)) "Over").run Tryz.prog w = .ok (436, .pointer (some a)) w := by kernel_rfl
theorem m_StStep (a : Addr) (w : World) : (method 635 134 (.pointer (some a)) "Step").run Tryz.prog w = .ok (437, .pointer (some a)) w := by kernel_rfl
def goodN {Y : Type} (over : Y → Bool) (step : AW × Y → AW × Y) (pre : AW × Y → Bool) : Nat → AW × Y → Bool
 | 0, z => over z.2
 | n + 1, z => over z.2 || (pre z && goodN over step pre n (step z))
theorem goodN_step {Y : Type} {over : Y → Bool} {step : AW × Y → AW × Y} {pre : AW × Y → Bool} {n : Nat} {z : AW × Y} (h : goodN over step pre n z = true) (ho : over z.2 = false) : pre z = true ∧ ∃ m, goodN over step pre m (step z) = true := by
 cases n with
 | zero => unfold goodN at h; rw [ho] at h; cases h
 | succ n =>
   unfold goodN at h
   rw [ho, Bool.false_or, Bool.and_eq_true] at h
   exact ⟨h.1, n, h.2⟩
def On1 (s t : AW) : Prop := t.n ≤ s.n + 1 ∧ s.n ≤ t.n
theorem On1.load (a : Int) (s : AW) : On1 s (awLoad a s) := ⟨Int.le_refl _, by show s.n ≤ s.n + 1; omega⟩
theorem On1.store (a v : Int) (s : AW) : On1 s (awStore a v s) := ⟨Int.le_refl _, by show s.n ≤ s.n + 1; omega⟩
theorem On1.add (a v : Int) (s : AW) : On1 s (awAdd a v s) := ⟨Int.le_refl _, by show s.n ≤ s.n + 1; omega⟩
theorem On1.refl (s : AW) : On1 s s := ⟨by omega, by omega⟩
theorem On1.note {s t : AW} (a b c d e g : Int) (h : On1 s t) : On1 s (awNote a b c d e g t) := h
theorem On1.out (p : Spt) (s : AW) (o : Otm) : On1 s (outStep p s o).1 := by
 unfold outStep
 split
 · exact On1.load _ _
 · split
   · exact On1.store _ _ _
   · split
     · exact On1.store _ _ _
     · exact On1.refl _
theorem On1.put (p : Spt) (tg rf : Int) (s : AW) (o : Otm) : On1 s (putStep p tg rf s o).1 := by
 unfold putStep
 split
 · exact On1.store _ _ _
 · split
   · exact On1.load _ _
   · split
     · exact On1.store _ _ _
     · exact On1.refl _
theorem On1.wy (x : AW × Wym) : On1 x.1 (wyStep x).1 := by
 unfold wyStep
 split
 · exact On1.refl _
 · split
   · exact On1.load _ _
   · exact On1.load _ _
theorem On1.ho (x : AW × Hom) : On1 x.1 (hoStep x).1 := by
 unfold hoStep
 split
 · exact On1.load _ _
 · split
   · exact On1.load _ _
   · split
     · exact On1.add _ _ _
     · split
       · exact On1.out _ _ _
       · split
         · exact On1.put _ _ _ _ _
         · split
           · exact On1.add _ _ _
           · exact On1.refl _
theorem On1.rm (mo : Int) (x : AW × Rmm) : On1 x.1 (rmStep mo x).1 := by
 unfold rmStep
 split
 · exact On1.load _ _
 · split
   · exact On1.load _ _
   · split
     · split
       · dsimp only
         split
         · exact (On1.wy (x.1, x.2.wy)).note _ _ _ _ _ _
         · exact On1.wy (x.1, x.2.wy)
       · exact On1.wy (x.1, x.2.wy)
     · split
       · exact On1.ho (x.1, x.2.ho)
       · exact On1.refl _
theorem On1.tk (t : Nat) (s : AW) (x : Tkm) : On1 s (tkStep t s x).1 := by
 unfold tkStep
 split
 · exact ⟨Int.le_refl _, by show s.n ≤ s.n + 1; omega⟩
 · split
   · split
     · exact ⟨Int.le_refl _, by show s.n ≤ s.n + 1; omega⟩
     · exact ⟨Int.le_refl _, by show s.n ≤ s.n + 1; omega⟩
   · exact ⟨by dsimp only; omega, Int.le_refl _⟩
theorem On1.fd (key : ByteArray) (x : AW × Fdm) : On1 x.1 (fdStep key x).1 := by
 unfold fdStep
 split
 · exact On1.refl _
 · exact On1.load _ _
 · exact On1.load _ _
 · exact On1.load _ _
theorem On1.again (s s1 : AW) (z : Lkm) (h : On1 s s1) : On1 s (lkAgain s1 z).1 := by
 unfold lkAgain
 split
 · exact h
 · exact h.note _ _ _ _ _ _
theorem stStep_n (t : Nat) (c : Clm) (mo : Int) (x : AW × Stm) : (stStep t c mo x).1.n ≤ x.1.n + 1 ∧ x.1.n ≤ (stStep t c mo x).1.n := by
 show On1 x.1 (stStep t c mo x).1
 obtain ⟨s, z⟩ := x
 obtain ⟨ln, tk, fd, ml, rm, pu, p, ref, id, an, nu, ep, pt⟩ := z
 unfold stStep
 dsimp only
 split
 · exact On1.tk _ _ _
 · exact On1.load _ _
 · exact On1.fd _ (s, fd)
 · exact ⟨Int.le_refl _, by show s.n ≤ s.n + 1; omega⟩
 · exact On1.load _ _
 · exact ⟨Int.le_refl _, by show s.n ≤ s.n + 1; omega⟩
 · exact On1.store _ _ _
 · exact ⟨Int.le_refl _, by show s.n ≤ s.n + 1; omega⟩
 · exact ⟨Int.le_refl _, by show s.n ≤ s.n + 1; omega⟩
 · exact On1.load _ _
 · exact On1.load _ _
 · exact On1.load _ _
 · exact On1.rm mo (s, rm)
 · exact ⟨Int.le_refl _, by show s.n ≤ s.n + 1; omega⟩
 · exact On1.load _ _
 · exact ⟨Int.le_refl _, by show s.n ≤ s.n + 1; omega⟩
 · exact On1.put _ _ _ _ _
 · exact ⟨Int.le_refl _, by show s.n ≤ s.n + 1; omega⟩
 · exact On1.refl _
section
variable {w : World} {O : Om} {B : Wb} {f : Cf} {s : AW} {k X t : Nat} {c : Clm} {key : ByteArray}
theorem c_StRun (m N : Nat) (mo : Int) (z : Stm) (hP : PW w O B f s) (hX : StAt w O k X t c z) (hg : goodN stOver (stStep t c mo) (fun y => stPre c f.g y.1 y.2) N (s, z) = true) (ht : t < 64) (hex : -9223372036854775808 ≤ c.exp ∧ c.exp ≤ 9223372036854775807) (hkz : c.key.size ≤ maxLen) (hk : 10 ≤ k) (g0 : 1 ≤ f.g) (g1 : f.g ≤ 65536) (hhi : ∀ j, O j ≠ 0 → j < w.heap.size) (n0 : 0 ≤ s.n) (n1 : s.n + m ≤ 4611686018427387904) :
 Calls Tryz.prog 33 #[.pointer (some ⟨B.p, 0, none⟩), .iface 134 (.pointer (some ⟨X, 0, none⟩)), .int .i64 m] w (RP (SX k (k + 30)) w O (.int .i64 (runN stOver (stStep t c mo) m (s, z)).1) fun W G => PW W G B f (runN stOver (stStep t c mo) m (s, z)).2.1 ∧ StAt W G k X t c (runN stOver (stStep t c mo) m (s, z)).2.2) := by
 refine (c_RunG stOver (stStep t c mo) (SX k (k + 30)) (fun W G y => PW W G B f y.1 ∧ StAt W G k X t c y.2 ∧ ∃ N, goodN stOver (stStep t c mo) (fun y => stPre c f.g y.1 y.2) N y = true) B.p X 134 436 437 (m_StOver _) (m_StStep _)
  (run_enter Tryz.func436 (by kernel_rfl) (by kernel_rfl)) (run_enter Tryz.func437 (by kernel_rfl) (by kernel_rfl)) ?_ ?_ (stStep_n t c mo) w O m (s, z) ⟨hP, hX, N, hg⟩ hhi n0 n1).mono ?_
 · rintro W G ⟨s1, y⟩ ⟨h1, h2, h3⟩
   exact c_StOver h2.idle
 · rintro W G ⟨s1, y⟩ ⟨h1, h2, N1, h3⟩ ho hh q0 q1
   obtain ⟨hp, M, h4⟩ := goodN_step h3 ho
   have hz : y.ln ≠ 0 := fun e => by dsimp only at ho; unfold stOver at ho; rw [e] at ho; cases ho
   refine (c_StStep mo y h1 h2 hp hz ht hex hkz hk g0 g1 hh q0 q1).mono ?_
   intro e w' hp2
   exact ⟨_, RP.mono hp2 (fun _ _ h => h) fun W1 G1 h => ⟨h.1, h.2, M, h4⟩⟩
 · intro e w' hp2
   exact RP.mono hp2 (fun _ _ h => h) fun W1 G1 h => ⟨h.1, h.2.1⟩
end
end
section
open Go.RowKit
section
variable {w : World} {O : Om} {B : Wb} {f : Cf} {s : AW}
def a0Cs : List Value := [.int .u8 0, .int .u64 0, .string ⟨#[]⟩, .string ⟨#[]⟩, .int .u32 0, .int .u64 0, .int .i64 0, .int .i64 0]
def aCs (an nu : Int) : List Value := [.int .u8 an, .int .u64 nu, .string ⟨#[]⟩, .string ⟨#[]⟩, .int .u32 0, .int .u64 0, .int .i64 0, .int .i64 0]
theorem c_Does (t N : Nat) (c : Clm) (hP : PW w O B f s) (hg : goodN stOver (stStep t c 16) (fun y => stPre c f.g y.1 y.2) N (s, stNew) = true) (hv : (stRun t c s).2.2.ln = 0) (ht : t < 64) (hm : mayB c = true) (hex : -9223372036854775808 ≤ c.exp ∧ c.exp ≤ 9223372036854775807) (hkz : c.key.size ≤ maxLen) (hvz : c.val.size ≤ maxLen) (g0 : 1 ≤ f.g) (g1 : f.g ≤ 65536) (hhi : ∀ j, O j ≠ 0 → j < w.heap.size) (n0 : 0 ≤ s.n) (n1 : s.n + 200000 ≤ 4611686018427387904) :
 Calls Tryz.prog 18 #[.pointer (some ⟨B.p, 0, none⟩), .int .i64 t, clV c] w (RP (SX 10 41) w O (ansV (stRun t c s).2.2.an (stRun t c s).2.2.nu) fun W G => PW W G B f (stRun t c s).2.1) := by
 have b1 := alloc_below w (.cells (clCs c).toArray 26)
 obtain ⟨O2, e2, x2, -⟩ := alloc_ob (hi_below hhi b1) 41 a0Cs.toArray 36 (w.heap.size + 1) (by simp)
 have P2 := (hP.below hhi b1).ext e2 (by decide) (by decide) (by decide) (by decide)
 have E2 := (Ext.of_below (S := SX 10 41) hhi b1).trans (e2.mono fun t _ ht => .inr (by omega))
 have HN := Lib.hid (c_NewStore (w := (w.alloc (.cells (clCs c).toArray 26)).alloc (.cells a0Cs.toArray 36)) (O := O2) (k := 10) t ht hm hkz hvz (by decide) e2.hi)
 have HJ := Lib.hid (And.intro E2 (And.intro P2 x2))
 have HRN := Lib.hid (fun (W : World) (G : Om) (X : Nat) (hp : PW W G B f s) (hx : StAt W G 10 X t c stNew) (hh : ∀ j, G j ≠ 0 → j < W.heap.size) => c_StRun (k := 10) 200000 N 16 stNew hp hx hg ht hex hkz (by decide) g0 g1 hh n0 n1)
 have HST : Hid (runN stOver (stStep t c 16) 200000 (s, stNew) = stRun t c s) := Lib.hid rfl
 rw [HST.out] at HRN
 obtain ⟨r, hr⟩ : ∃ r, r = stRun t c s := ⟨_, rfl⟩
 rw [← hr] at HRN hv ⊢
 have HV := Lib.hid hv
 obtain ⟨an, han⟩ : ∃ v, v = r.2.2.an := ⟨_, rfl⟩
 obtain ⟨nu, hnu⟩ : ∃ v, v = r.2.2.nu := ⟨_, rfl⟩
 rw [← han, ← hnu]
 have HAN := Lib.hid (And.intro han hnu)
 clear han hnu
 clear hr hv HST b1 e2 P2 E2 x2 hP hg hhi n0 n1 hm hkz hvz hex g0 g1
 unfold clCs a0Cs at HN HJ
 unfold clV at HN ⊢
 unfold ansV
 go_enter Tryz.func18, Tryz.ntmps18
 go_wp2_with fail
 refine HN.out.mono ?_
 rintro e w3 ⟨X, rfl, G3, e3, h3⟩
 have m3 := e3.mono (T := SX 10 41) fun t _ ht => SX.mono (by decide) (by decide) ht.sx
 have p3 := HJ.out.2.1.ext e3 (by unfold NX; omega) (by unfold NX; omega) (by unfold NX; omega) (by unfold NX; omega)
 have x3 := HJ.out.2.2.ext e3 (by unfold NX; omega)
 have HJ3 := Lib.hid (And.intro (HJ.out.1.trans m3) x3)
 have HR3 := Lib.hid (HRN.out _ _ X p3 h3 e3.hi)
 clear m3 p3 x3 h3 e3 HN HRN HJ
 unfold PTR
 go_wp2_with fail
 refine HR3.out.mono ?_
 rintro e w4 ⟨rfl, G4, e4, p4, h4⟩
 have x4 := HJ3.out.2.ext e4 (by unfold SX; omega)
 have HG := Lib.hid (c_StGot h4 HV.out)
 have HJ4 := Lib.hid (And.intro (HJ3.out.1.trans (e4.mono (T := SX 10 41) fun t _ ht => SX.mono (by decide) (by decide) ht)) (And.intro x4 p4))
 clear x4 e4 p4 h4 HJ3 HR3
 unfold ansV at HG
 obtain ⟨ep, hep⟩ : ∃ v, v = r.2.2.ep := ⟨_, rfl⟩
 obtain ⟨pt, hpt⟩ : ∃ v, v = r.2.2.pt := ⟨_, rfl⟩
 rw [← HAN.out.1, ← HAN.out.2, ← hep, ← hpt] at HG
 clear hep hpt
 go_wp2_with fail
 refine HG.out.mono ?_
 rintro e w5 ⟨rfl, hb5⟩
 have b6 := hb5.trans ((alloc_below w5 (.cells (aCs an nu).toArray 36)).mono hb5.size)
 have HJ6 := Lib.hid (And.intro (HJ4.out.1.below b6) (And.intro (HJ4.out.2.1.below b6) (HJ4.out.2.2.below HJ4.out.1.hi b6)))
 unfold aCs at HJ6
 clear hb5 b6 HJ4 HG
 obtain ⟨w6, hw6⟩ : ∃ W, W = w5.alloc (.cells #[.int .u8 an, .int .u64 nu, .string ⟨#[]⟩, .string ⟨#[]⟩, .int .u32 0, .int .u64 0, .int .i64 0, .int .i64 0] 36) := ⟨_, rfl⟩
 rw [← hw6] at HJ6
 have hc : ∀ j u, [.int .u8 an, .int .u64 nu, .string ⟨#[]⟩, .string ⟨#[]⟩, .int .u32 0, .int .u64 0, .int .i64 0, .int .i64 0][j]? = some u → w6.cell? ⟨w5.heap.size, j, none⟩ = some u := fun j u hu => by
  rw [hw6]; exact cell_newA w5 #[.int .u8 an, .int .u64 nu, .string ⟨#[]⟩, .string ⟨#[]⟩, .int .u32 0, .int .u64 0, .int .i64 0, .int .i64 0] _ _ rfl j u (by simpa using hu)
 have y0 := hc 0 _ rfl
 have y1 := hc 1 _ rfl
 have y2 := hc 2 _ rfl
 have y3 := hc 3 _ rfl
 have y4 := hc 4 _ rfl
 have y5 := hc 5 _ rfl
 have y6 := hc 6 _ rfl
 have y7 := hc 7 _ rfl
 have x := HJ6.out.2.1
 have x0 := x.c 0 _ rfl
 have x1 := x.c 1 _ rfl
 have x2 := x.c 2 _ rfl
 have x3 := x.c 3 _ rfl
 have x4 := x.c 4 _ rfl
 have x5 := x.c 5 _ rfl
 have x6 := x.c 6 _ rfl
 have x7 := x.c 7 _ rfl
 have f0 := x.f 0
 have f1 := x.f 1
 have f2 := x.f 2
 have f3 := x.f 3
 have f4 := x.f 4
 have f5 := x.f 5
 have f6 := x.f 6
 have f7 := x.f 7
 clear hc x
 go_upto_region 4 with fail
 rw [← hw6]
 clear hw6
 go_wp2_with fail
 have M6 : Me 10 41 w O w6 G4 B f r.2.1 41 (w.heap.size + 1) [.int .u8 0, .int .u64 0, .string ⟨#[]⟩, .string ⟨#[]⟩, .int .u32 0, .int .u64 0, .int .i64 0, .int .i64 0] := ⟨HJ6.out.1, HJ6.out.2.2, HJ6.out.2.1⟩
 have M9 := (((((((M6.set (by decide) (by decide) (by decide) 0 (.int .u8 an) (by simp)).set (by decide) (by decide) (by decide) 1 (.int .u64 nu) (by simp)).set (by decide) (by decide) (by decide) 2 (.string ⟨#[]⟩) (by simp)).set (by decide) (by decide) (by decide) 3 (.string ⟨#[]⟩) (by simp)).set (by decide) (by decide) (by decide) 4 (.int .u32 0) (by simp)).set (by decide) (by decide) (by decide) 5 (.int .u64 0) (by simp)).set (by decide) (by decide) (by decide) 6 (.int .i64 0) (by simp)).set (by decide) (by decide) (by decide) 7 (.int .i64 0) (by simp)
 obtain ⟨w9, hw9⟩ : ∃ W, W = ((((((((w6.setCell ⟨w.heap.size + 1, 0, none⟩ (.int .u8 an)).setCell ⟨w.heap.size + 1, 1, none⟩ (.int .u64 nu)).setCell ⟨w.heap.size + 1, 2, none⟩ (.string ⟨#[]⟩)).setCell ⟨w.heap.size + 1, 3, none⟩ (.string ⟨#[]⟩)).setCell ⟨w.heap.size + 1, 4, none⟩ (.int .u32 0)).setCell ⟨w.heap.size + 1, 5, none⟩ (.int .u64 0)).setCell ⟨w.heap.size + 1, 6, none⟩ (.int .i64 0)).setCell ⟨w.heap.size + 1, 7, none⟩ (.int .i64 0)) := ⟨_, rfl⟩
 rw [← hw9] at M9 ⊢
 have z0 := M9.t.c 0 _ rfl
 have z1 := M9.t.c 1 _ rfl
 have z2 := M9.t.c 2 _ rfl
 have z3 := M9.t.c 3 _ rfl
 have z4 := M9.t.c 4 _ rfl
 have z5 := M9.t.c 5 _ rfl
 have z6 := M9.t.c 6 _ rfl
 have z7 := M9.t.c 7 _ rfl
 have HF := Lib.hid M9
 clear M9 M6 hw9 HJ6
 exact bodyPost_ret (v := .agg #[.int .u8 an, .int .u64 nu, .string ⟨#[]⟩, .string ⟨#[]⟩, .int .u32 0, .int .u64 0, .int .i64 0, .int .i64 0]) (by simp [results, Tryz.results18, go_sem, z0, z1, z2, z3, z4, z5, z6, z7]) rfl ⟨rfl, G4, HF.out.e, HF.out.p⟩
end
end
section
open Go.RowKit
def stG (c : Clm) (s : AW) : Bool := goodN stOver (stStep 3 c 16) (fun y => stPre c 8 y.1 y.2) 100 (s, stNew)
def nOk (s : AW) : Prop := 0 ≤ s.n ∧ s.n ≤ 1000
instance (s : AW) : Decidable (nOk s) := inferInstanceAs (Decidable (_ ∧ _))
end
section
open Go.RowKit
def OZ : Om := fun _ => 0
theorem ext0_belowS {S : Nat → Prop} {w w' : World} {G : Om} (e : Ext S OZ w G w') : Below w.heap.size w w' :=
 e.wr.below (fun k _ h => absurd rfl h.2) (Nat.le_refl _)
theorem c_NewTakeBadS (t : Int) (w : World) (h : ¬ (0 ≤ t ∧ t < 64)) :
 Calls Tryz.prog 63 #[.int .i64 t] w fun e w' => e = .returned (.pointer (some ⟨w.heap.size, 0, none⟩)) ∧ w.alloc (.cells #[.int .i64 t, .int .u64 0, .bool false, .nilFunc] 234) = w' := by
 have hd : decide (0 ≤ t ∧ t < 64) = false := by simp; omega
 go_enter Tryz.func63, Tryz.ntmps63
 go_wp2_with fail
 refine (c_thread t _).mono ?_
 rintro e w' ⟨rfl, rfl⟩
 rw [hd]
 go_wp2
 go_ret
 exact ⟨rfl, rfl⟩
def VoidS (w : World) (v : Value) : Prop := v = .pointer none ∨ ∃ X, v = .pointer (some ⟨X, 0, none⟩) ∧ w.cell? ⟨X, 0, none⟩ = some .nilIface ∧ w.cell? ⟨X, 2, none⟩ = some .nilFunc ∧ w.cell? ⟨X, 14, none⟩ = some (.int .u8 0) ∧ w.cell? ⟨X, 15, none⟩ = some (.int .u64 0) ∧ w.cell? ⟨X, 16, none⟩ = some (.string ⟨#[]⟩) ∧ w.cell? ⟨X, 17, none⟩ = some (.string ⟨#[]⟩) ∧ w.cell? ⟨X, 18, none⟩ = some (.int .u32 0) ∧ w.cell? ⟨X, 19, none⟩ = some (.int .u64 0) ∧ w.cell? ⟨X, 20, none⟩ = some (.int .i64 0) ∧ w.cell? ⟨X, 21, none⟩ = some (.int .i64 0) ∧ w.cell? ⟨X, 22, none⟩ = some (.int .u64 0) ∧ w.cell? ⟨X, 23, none⟩ = some (.int .i64 0)
theorem VoidS.below {w w' : World} {v : Value} (h : VoidS w v) (hb : Below w.heap.size w w') : VoidS w' v := by
 rcases h with rfl | ⟨X, rfl, h⟩
 · exact .inl rfl
 · have hl := blk_lt h.1
   dsimp only at hl
   have k : ∀ j u, w.cell? ⟨X, j, none⟩ = some u → w'.cell? ⟨X, j, none⟩ = some u := fun j u hu => (hb.cell (p := ⟨X, j, none⟩) hl).trans hu
   obtain ⟨a, b, c, d, e, f, g, i, j, l, m, n⟩ := h
   exact .inr ⟨X, rfl, k _ _ a, k _ _ b, k _ _ c, k _ _ d, k _ _ e, k _ _ f, k _ _ g, k _ _ i, k _ _ j, k _ _ l, k _ _ m, k _ _ n⟩
theorem VoidS.of_ob {w : World} {G : Om} {k X : Nat} {c : Clm} (h : Ob w G k X (stCs .nilIface .nilFunc .nilFunc c sp20 0 0 0 0)) : VoidS w (.pointer (some ⟨X, 0, none⟩)) :=
 .inr ⟨X, rfl, h.c 0 _ rfl, h.c 2 _ rfl, h.c 14 _ rfl, h.c 15 _ rfl, h.c 16 _ rfl, h.c 17 _ rfl, h.c 18 _ rfl, h.c 19 _ rfl, h.c 20 _ rfl, h.c 21 _ rfl, h.c 22 _ rfl, h.c 23 _ rfl⟩
section
variable {w : World} {v : Value}
theorem c_vsOver (h : VoidS w v) : Calls Tryz.prog 436 #[v] w fun e w' => e = .returned (.bool true) ∧ w = w' := by
 rcases h with rfl | ⟨X, rfl, a, b, -⟩
 · go_enter Tryz.func436, Tryz.ntmps436
   go_wp2
   go_ret
   exact ⟨rfl, rfl⟩
 · exact c_StOver (.inl ⟨rfl, a, b⟩)
theorem c_vsGot (h : VoidS w v) : Calls Tryz.prog 53 #[v] w fun e w' => e = .returned (.tuple #[ansV 0 0, .int .u64 0, .int .i64 0]) ∧ Below w.heap.size w w' := by
 rcases h with rfl | ⟨X, rfl, a, b, c, d, e, f, g, i, j, l, m, n⟩
 · exact c_StGotNil w
 · exact c_StGotC 0 0 0 0 (.inl ⟨rfl, a, b⟩) c d e f g i j l m n
theorem c_NewStoreV (t : Int) (c : Clm) (hbad : ¬ (0 ≤ t ∧ t < 64) ∨ mayB c = false) (hz : c.key.size ≤ maxLen) (hv : c.val.size ≤ maxLen) (w : World) :
 Calls Tryz.prog 52 #[.int .i64 t, clV c] w fun e w' => ∃ X, e = .returned (.pointer (some ⟨X, 0, none⟩)) ∧ Below w.heap.size w w' ∧ VoidS w' (.pointer (some ⟨X, 0, none⟩)) := by
 have HM := Lib.hid (fun W => c_StMay c W hz hv)
 obtain ⟨mb, hmb⟩ : ∃ b, b = mayB c := ⟨_, rfl⟩
 rw [← hmb] at HM hbad
 have HH := Lib.hid (fun W => c_Hash c.key W hz)
 rw [show fnvHash c.key.data.toList = kyH c.key from rfl] at HH
 unfold clV at HM ⊢
 have hhi : ∀ j, OZ j ≠ 0 → j < w.heap.size := fun j hj => absurd rfl hj
 have HI := Lib.hid hhi
 clear hhi hz hv hmb
 go_enter Tryz.func52, Tryz.ntmps52
 go_upto_region 1 with fail
 go_cut [5] (fun v wx => ∃ (bx X : Nat) (G : Om), v = PTR bx ∧ NewSt w OZ 10 c wx G X bx)
 case first =>
  go_region_held3 (fun w' => w'.cell? ⟨w.heap.size, 0, none⟩ = some (.int .u8 c.verb) ∧ w'.cell? ⟨w.heap.size, 1, none⟩ = some (.string c.key) ∧ w'.cell? ⟨w.heap.size, 2, none⟩ = some (.string c.val) ∧ w'.cell? ⟨w.heap.size, 3, none⟩ = some (.int .u32 c.fl) ∧ w'.cell? ⟨w.heap.size, 4, none⟩ = some (.int .i64 c.exp) ∧ w'.cell? ⟨w.heap.size, 5, none⟩ = some (.int .u64 c.id) ∧ w'.cell? ⟨w.heap.size, 6, none⟩ = some (.int .u64 c.by_)) (go_keep)
   (first
     | (go_at_call 82
        refine (HH.out _).mono ?_
        rintro e w' ⟨rfl, rfl⟩))
  all_goals
   go_wp2_with fail
   go_meet
   first
    | (obtain ⟨G, h⟩ := newStA (c := c) (k := 10) HI.out (.int .u64 (kyH c.key)) 26 264 214 134; exact ⟨_, _, G, rfl, h⟩)
    | (obtain ⟨G, h⟩ := newStB (c := c) (k := 10) HI.out (.int .u64 (kyH c.key)) 26 264 214 134; exact ⟨_, _, G, rfl, h⟩)
    | (obtain ⟨G, h⟩ := newStC (c := c) (k := 10) HI.out (.int .u64 (kyH c.key)) 26 264 214 134; exact ⟨_, _, G, rfl, h⟩)
 obtain ⟨bx, X, G, rfl, hN⟩ := hcut
 unfold PTR
 have HNT : Hid (∃ (b : Bool), (b = true ∨ (0 ≤ t ∧ t < 64)) ∧ Calls Tryz.prog 63 #[.int .i64 t] wc fun e w' => ∃ T dv, e = .returned (.pointer (some ⟨T, 0, none⟩)) ∧ ∃ G2, Ext (NX 10) G wc G2 w' ∧ Ob w' G2 10 X (stCs .nilIface .nilFunc .nilFunc c sp20 0 0 0 0) ∧ Bx w' G2 bx [.pointer (some ⟨X, 0, none⟩)] ∧ Bx w' G2 w.heap.size (clCs c) ∧ w'.cell? ⟨T, 3, none⟩ = some dv ∧ ((dv = .nilFunc ∧ b = true) ∨ (∃ f a c, dv = .func f a c ∧ b = false)) ∧ T < w'.heap.size) := Lib.hid (by
  by_cases ht : 0 ≤ t ∧ t < 64
  · refine ⟨false, .inr ht, (c_NewTakeE t wc G 11 (by decide) ht.1 ht.2 hN.e.hi).mono ?_⟩
    rintro e w2 ⟨T, rfl, G2, e2, t2⟩
    exact ⟨T, _, rfl, G2, e2.mono fun t _ ht => ⟨by omega, by omega⟩, hN.o.ext e2 (by omega), hN.b.ext e2, hN.c.ext e2, t2.c 3 _ rfl, .inr ⟨_, _, _, rfl, rfl⟩, t2.lt⟩
  · refine ⟨true, .inl rfl, (c_NewTakeBadS t wc ht).mono ?_⟩
    rintro e w2 ⟨rfl, rfl⟩
    have hb := alloc_below wc (.cells #[.int .i64 t, .int .u64 0, .bool false, .nilFunc] 234)
    exact ⟨_, .nilFunc, rfl, G, Ext.of_below hN.e.hi hb, hN.o.below hb, hN.b.below hb, hN.c.below hb, cell_newA wc #[.int .i64 t, .int .u64 0, .bool false, .nilFunc] _ _ rfl 3 _ rfl, .inl ⟨rfl, rfl⟩, by simp⟩)
 have HW := Lib.hid hN
 clear hN
 obtain ⟨b, hbt, hc⟩ := HNT.out
 have hbm : b = true ∨ mb = false := by
  rcases hbad with h | h
  · exact hbt.elim .inl (fun h2 => absurd h2 h)
  · exact .inr h
 have HC := Lib.hid hc
 clear hc HNT hbt hbad
 go_wp2_with fail
 refine HC.out.mono ?_
 rintro e w2 ⟨T, dv, rfl, G2, e2, o2, b2, c2, t3, hdv, hT⟩
 have q0 := c2.c 0 _ rfl
 have q1 := c2.c 1 _ rfl
 have q2 := c2.c 2 _ rfl
 have q3 := c2.c 3 _ rfl
 have q4 := c2.c 4 _ rfl
 have q5 := c2.c 5 _ rfl
 have q6 := c2.c 6 _ rfl
 have HJ := Lib.hid (And.intro (HW.out.e.trans e2) (And.intro o2 b2))
 have HT := Lib.hid (And.intro t3 (And.intro hdv hT))
 clear e2 o2 b2 c2 HW HC t3 hdv hT
 go_wp2_with fail
 refine (HM.out _).mono ?_
 rintro e w3 ⟨rfl, hb3⟩
 have HJ3 := Lib.hid (And.intro (HJ.out.1.below hb3) (And.intro (HJ.out.2.1.below hb3) (HJ.out.2.2.below hb3)))
 have HO := Lib.hid (c_TakeOver T dv w3 ((hb3.cell (p := ⟨T, 3, none⟩) HT.out.2.2).trans HT.out.1) b HT.out.2.1)
 have y0 := HJ3.out.2.2.c 0 _ rfl
 clear hb3 HJ HT
 cases mb with
 | false =>
   go_wp2_with fail
   go_ret
   exact ⟨X, rfl, ext0_belowS HJ3.out.1, VoidS.of_ob HJ3.out.2.1⟩
 | true =>
   obtain rfl : b = true := hbm.elim id (fun h => by cases h)
   go_wp2_with fail
   refine HO.out.mono ?_
   rintro e w' ⟨rfl, rfl⟩
   go_wp2_with fail
   go_ret
   exact ⟨X, rfl, ext0_belowS HJ3.out.1, VoidS.of_ob HJ3.out.2.1⟩
end
end
end Go.Proofs.YtifkfhnbkjkakaaGreatDoor
