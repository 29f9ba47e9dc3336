/- Layer 14, plain: what a Look computes. Layer 12: the stripes of places, however many. Layer 14: the program's Look: its struct; over, again, on, lines 3 and 5. Layer 14: the program's Look: line 1. Layer 14: the program's Look: lines 2 and 6. Layer 14: the program's Look: line 6. Layer 14: the program's Look: line 4: the tags of a place. Layer 14: the program's Look: line 4: the item of a slot. Layer 14: the program's Look: a step; what it got. -/
import Derived.Test.YthpedifjclofoaaGreatSp
import Derived.Test.YthpedifjclofoaaGreatGoA
import Derived.Test.YthpedifjclofoaaGreatFiA
namespace Go.Proofs.YthpedifjclofoaaGreat
set_option linter.unusedSimpArgs false
section
set_option linter.unusedVariables false
/-- The stripes of places, each once. -/
def ofAdd (out : List Int) (p : Int × Int) : List Int := if plVersion p.1 p.2 = 0 ∨ plVersion p.1 p.2 ∈ out then out else out ++ [plVersion p.1 p.2]
def ofL (l : List (Int × Int)) : List Int := l.foldl ofAdd []
structure Lkm where
  ln : Nat
  left : Int
  tab : Int
  all : List (Int × Int)
  vs : List (Int × Int)
  pos : Nat
  sl : List Int
  ref : Int
  ep : Int
  pt : Int
  fl : Bool
def lkNew (tries : Int) : Lkm := ⟨1, if 0 ≤ tries then tries else 0, 0, [], [], 0, [], 0, 0, 0, false⟩
def lkOver (z : Lkm) : Bool := z.ln == 0
def lkAgain (s : AW) (z : Lkm) : AW × Lkm :=
  if z.left = 0 then (s, { z with ln := 0, fl := true }) else (awNote 6 0 0 0 0 (z.left - 1) s, { z with left := z.left - 1, ln := 1 })
def lkOn (z : Lkm) : Lkm := if z.sl = [] then (if z.pos + 1 < z.all.length then { z with pos := z.pos + 1, ln := 4 } else { z with ln := 6 }) else { z with ln := 5 }
def lkP (z : Lkm) : Int × Int := z.all[z.pos]?.getD (0, 0)
def lkV (z : Lkm) : Int × Int := z.vs[z.pos]?.getD (0, 0)
def lkStep (key : ByteArray) (x : AW × Lkm) : AW × Lkm :=
  let s := x.1
  let z := x.2
  match z.ln with
  | 1 => (awLoad 2 s, { z with tab := s.M 2, all := plPlaces (kyH key) (s.M 2), vs := (ofL (plPlaces (kyH key) (s.M 2))).map fun a => (a, 0), pos := 0, ref := 0, ln := 2 })
  | 2 =>
    let a := (lkV z).1
    let y := { z with vs := z.vs.set z.pos (a, s.M a) }
    if s.M a % 2 = 1 then lkAgain (awLoad a s) y
    else (awLoad a s, { y with pos := z.pos + 1, ln := if z.pos + 1 = z.vs.length then 3 else 2 })
  | 3 => (awLoad 8 s, { z with ep := s.M 8, pos := 0, pt := s.n + 1, ln := 4 })
  | 4 => (awLoad (plTags (lkP z).1 (lkP z).2) s, lkOn { z with sl := twHas (s.M (plTags (lkP z).1 (lkP z).2)) (fnvTag (kyH key)) })
  | 5 =>
    let a := plItem (lkP z).1 (lkP z).2 (z.sl.headD 0)
    (awLoad a s, if fdHit s.it (s.M a) key then { z with sl := z.sl.tail, ref := s.M a, ln := 6 } else lkOn { z with sl := z.sl.tail })
  | 6 => if s.M 2 ≠ z.tab then lkAgain (awLoad 2 s) z else (awLoad 2 s, { z with pos := 0, ln := 7 })
  | 7 =>
    let a := (lkV z).1
    if s.M a ≠ (lkV z).2 then lkAgain (awLoad a s) z
    else (awLoad a s, { z with pos := z.pos + 1, ln := if z.pos + 1 = z.vs.length then 0 else 7 })
  | _ => x
/-- What a Look tells. -/
def lkGot (z : Lkm) : Int × Int × Int := if z.ln ≠ 0 ∨ z.fl = true then (0, 0, 0) else (z.ref, z.ep, z.pt)
end
section
open Go.RowKit
set_option linter.unusedVariables false
theorem u64s_snoc (l : List Int) (a : Int) : u64s (l ++ [a]) = u64s l ++ [.int .u64 a] := by unfold u64s; simp
theorem u64s_len (l : List Int) : (u64s l).length = l.length := by unfold u64s; simp
theorem u64s_get {l : List Int} {k : Nat} (h : k < l.length) : (u64s l)[k]? = some (.int .u64 l[k]) := by unfold u64s; rw [List.getElem?_map, List.getElem?_eq_getElem h]; rfl
theorem not_take {l : List Int} {k : Nat} {a : Int} (h : k < l.length) (h1 : a ∉ l.take k) (h2 : ¬ a = l[k]) : a ∉ l.take (k + 1) := by
  rw [List.take_succ_eq_append_getElem h, List.mem_append, List.mem_singleton]
  exact fun e => e.elim h1 h2
/-- What Index tells. -/
def IxPost (l : List Int) (a : Int) (e : Ending) : Prop := ∃ r : Int, e = .returned (.int .i64 r) ∧ decide (0 ≤ r) = decide (a ∈ l)
set_option maxHeartbeats 1000000 in
set_option maxRecDepth 100000 in
theorem c_IndexA (a : Int) (l : List Int) (v : Value) (w : World) (ha : Arr w v l.length 1 (u64s l)) (hl : l.length ≤ 1000) : Calls Tryz.prog 153 #[v, .int .u64 a] w fun e w' => IxPost l a e ∧ w = w' := by
  obtain ⟨ao, c, rfl, hc1, hc2⟩ := ha.shape
  unfold maxLen at hc2
  have HO : Hid (0 < l.length → ∃ b o, ao = some ⟨b, o, none⟩ ∧ ∀ k, (hk : k < l.length) → w.cell? ⟨b, o + k, none⟩ = some (.int .u64 l[k])) := Lib.hid (fun hn => by
    obtain ⟨b, o, c', he, -, -, -, hx⟩ := ha.open hn (by decide)
    cases he
    exact ⟨b, o, rfl, fun k hk => hx k _ (u64s_get hk)⟩)
  clear ha
  go_enter Tryz.func153, Tryz.ntmps153
  go_wp2
  go_loop [8] (fun i => ∃ k : Nat, k ≤ l.length ∧ i = .int .i64 k ∧ a ∉ l.take k) (fun i => l.length - (intOf i).toNat)
  case atStart => exact ⟨0, Nat.zero_le _, rfl, by simp⟩
  case round =>
    obtain ⟨k, hk, rfl, hn⟩ := hrel
    have HN := Lib.hid hn
    clear hn
    by_cases hlt : k < l.length
    · obtain ⟨b, o, rfl, hx⟩ := HO.out (by omega)
      have q := hx k hlt
      clear hx
      obtain ⟨x, hxx⟩ : ∃ x, x = l[k] := ⟨_, rfl⟩
      rw [← hxx] at q
      by_cases he : a = x
      · have d : (a == x) = true := by simp [he]
        have HM : Hid (a ∈ l) := Lib.hid (by rw [he, hxx]; exact List.getElem_mem hlt)
        clear he hxx
        go_wp2
        go_ret
        exact ⟨⟨k, rfl, by rw [decide_eq_true HM.out]; simp⟩, rfl⟩
      · have d : (a == x) = false := by simp [he]
        have HM := Lib.hid (not_take hlt HN.out (by rw [← hxx]; exact he))
        clear he hxx
        go_wp2
        go_round
        case rel => exact ⟨k + 1, by omega, by go_num, HM.out⟩
        case measure => simp [intOf]; omega
    · go_wp2
      go_ret
      exact ⟨⟨-1, rfl, by have := HN.out; rw [List.take_of_length_le (by omega)] at this; rw [decide_eq_false this]; rfl⟩, rfl⟩
theorem c_ContainsA (a : Int) (l : List Int) (v : Value) (w : World) (ha : Arr w v l.length 1 (u64s l)) (hl : l.length ≤ 1000) : Calls Tryz.prog 106 #[v, .int .u64 a] w fun e w' => e = .returned (.bool (decide (a ∈ l))) ∧ w = w' := by
  have HI := Lib.hid (c_IndexA a l v w ha hl)
  clear ha
  go_enter Tryz.func106, Tryz.ntmps106
  go_wp2_with fail
  refine HI.out.mono ?_
  rintro e w' ⟨⟨r, rfl, hr⟩, rfl⟩
  have HR := Lib.hid hr
  clear hr
  go_wp2_with fail
  go_ret
  exact ⟨ret_bool HR.out, rfl⟩
theorem ofL_snoc (l : List (Int × Int)) (p : Int × Int) : ofL (l ++ [p]) = ofAdd (ofL l) p := by unfold ofL; simp
theorem ofAdd_len (out : List Int) (p : Int × Int) : (ofAdd out p).length ≤ out.length + 1 := by unfold ofAdd; split <;> simp
theorem ofL_len (l : List (Int × Int)) : (ofL l).length ≤ l.length := by
  suffices h : ∀ (l : List (Int × Int)) (out : List Int), (l.foldl ofAdd out).length ≤ out.length + l.length by
    have := h l []
    unfold ofL
    simpa using this
  intro l
  induction l with
  | nil => intro out; simp
  | cons p r ih =>
    intro out
    rw [List.foldl_cons, List.length_cons]
    have := ih (ofAdd out p)
    have := ofAdd_len out p
    omega
theorem Sls.arr {w : World} {O : Om} {g size n : Nat} {v : Value} {xs : List Value} (h : Sls w O g size v n xs) (hs : 0 < size) : Arr w v n size xs := by
  obtain ⟨ao, c, rfl, h2, h3, h4, h5⟩ := h.ex
  refine ⟨h4, ao, c, rfl, h2, h3, fun j u hu => ?_⟩
  rcases h5 with ⟨rfl, rfl, rfl⟩ | ⟨b, o, cs, rfl, q1, q2, q3⟩
  · have := (List.getElem?_eq_some_iff.1 hu).1; omega
  · exact ⟨b, o, rfl, q1.lt, h.c j u hu⟩
theorem c_ClipA' (ao : Option Addr) (n c : Nat) (w : World) (hn : n ≤ c) (hc : c ≤ maxLen) (ha : ao = none → c = 0) :
    Calls Tryz.prog 107 #[.slice ao n c] w fun e w' => e = .returned (.slice ao n n) ∧ w = w' := by
  unfold maxLen at hc
  cases ao with
  | none =>
    obtain rfl := ha rfl
    obtain rfl : n = 0 := by omega
    go_enter Tryz.func107, Tryz.ntmps107
    go_wp2
    go_ret
    exact ⟨rfl, rfl⟩
  | some a =>
    go_enter Tryz.func107, Tryz.ntmps107
    go_wp2
    go_ret
    exact ⟨rfl, rfl⟩
/-- Places that are of tables. -/
def PlOk (p : Int × Int) : Prop := 1 ≤ p.1 ∧ p.1 ≤ 12 ∧ 0 ≤ p.2 ∧ p.2 < fnvSize p.1
set_option maxHeartbeats 4000000 in
set_option maxRecDepth 100000 in
theorem c_OfN (l : List (Int × Int)) (g : Nat) (hg : g ≠ 0) (v : Value) (w : World) (O : Om) (hv : Arr w v l.length 2 (rowOf plc l)) (hl : l.length ≤ 8) (hp : ∀ p ∈ l, PlOk p) (hob : ∀ b, v.ownBlock = some b → O b ≠ g) (hhi : ∀ j, O j ≠ 0 → j < w.heap.size) :
    Calls Tryz.prog 67 #[v] w fun e w' => ∃ v', RP (fun j => j = g) w O v' (fun W G => Sls W G g 1 v' (ofL l).length (u64s (ofL l))) e w' := by
  obtain ⟨i0, hi, hz0, hz1, hz2⟩ := info_parts infoAd
  have HI := Lib.hid (And.intro hi (And.intro hz0 (And.intro hz1 hz2)))
  clear hi hz0 hz1 hz2
  obtain ⟨ao, c, rfl, hc1, hc2⟩ := hv.shape
  unfold maxLen at hc2
  have HO : Hid (0 < l.length → ∃ b o, ao = some ⟨b, o, none⟩ ∧ b < w.heap.size ∧ O b ≠ g ∧ ∀ k, (hk : k < l.length) → w.cell? ⟨b, o + k * 2, none⟩ = some (.int .i64 l[k].1) ∧ w.cell? ⟨b, o + k * 2 + 1, none⟩ = some (.int .i64 l[k].2)) := Lib.hid (fun hn => by
    obtain ⟨b, o, c', he, -, -, hlt, hx⟩ := hv.open hn (by decide)
    cases he
    refine ⟨b, o, rfl, hlt, hob b rfl, fun k hk => ⟨?_, ?_⟩⟩
    · have := hx (k * 2 + 0) _ ((rowOf_get plc_len l k 0 hk (by decide)).trans rfl)
      exact this
    · have := hx (k * 2 + 1) _ ((rowOf_get plc_len l k 1 hk (by decide)).trans rfl)
      exact this)
  have HP := Lib.hid hp
  have HH := Lib.hid hhi
  clear hv hp hhi
  go_enter Tryz.func67, Tryz.ntmps67
  go_wp2_with fail
  go_loopw [2, 8] (fun o i wr => ∃ (k : Nat) (G : Om), k ≤ l.length ∧ i = .int .i64 k ∧ Ext (fun j => j = g) O w G wr ∧ Row wr G g 49 1 o (ofL (l.take k)).length (u64s (ofL (l.take k)))) (fun o i _ => l.length - (intOf i).toNat)
  case atStart => exact ⟨0, O, Nat.zero_le _, rfl, Ext.refl HH.out, Row.nil _ _ _ _ _⟩
  case round =>
    obtain ⟨k, G, hk, rfl, e1, r1⟩ := hrel
    obtain ⟨oo, cc, rfl, hd1, hd2⟩ := r1.sls.shape
    have HE := Lib.hid e1
    have HR := Lib.hid r1
    have hn8 := ofL_len (l.take k)
    rw [List.length_take] at hn8
    clear e1 r1
    by_cases hlt : k < l.length
    · obtain ⟨b, o, rfl, hbl, hbg, hx⟩ := HO.out (by omega)
      have q0 := (HE.out.cell (p := ⟨b, o + k * 2, none⟩) hbl hbg).trans (hx k hlt).1
      have q1 := (HE.out.cell (p := ⟨b, o + k * 2 + 1, none⟩) hbl hbg).trans (hx k hlt).2
      have hbr : b < wr.heap.size := Nat.lt_of_lt_of_le hbl HE.out.size
      have HOk := Lib.hid (HP.out l[k] (List.getElem_mem hlt))
      have HSn : Hid (ofL (l.take (k + 1)) = ofAdd (ofL (l.take k)) l[k]) := Lib.hid (by rw [List.take_succ_eq_append_getElem hlt, ofL_snoc])
      clear hx
      obtain ⟨⟨pb, pq⟩, hpp⟩ : ∃ x, x = l[k] := ⟨_, rfl⟩
      rw [← hpp] at q0 q1 HOk HSn
      clear hpp
      dsimp only at q0 q1
      obtain ⟨L, hL⟩ : ∃ L, L = ofL (l.take k) := ⟨_, rfl⟩
      rw [← hL] at HR HSn hn8 hd1 ⊢
      obtain ⟨o1, o2, o3, o4⟩ := HOk.out
      dsimp only at o1 o2 o3 o4
      have hsz := fnvSize_bd pb
      have HV := Lib.hid (fun W => c_Version pb pq W (by omega) (by omega) (by omega) (by omega))
      have hvr : plVersion pb pq ≠ 0 := by
        rw [plVersion_in ⟨o3, o4⟩]; have := fnvSize_pos o1 o2; unfold fnvStripe; rw [if_pos ⟨o3, o4⟩]; omega
      have HAdd : Hid (ofAdd L (pb, pq) = if plVersion pb pq ∈ L then L else L ++ [plVersion pb pq]) := Lib.hid (by unfold ofAdd; simp only [hvr, false_or])
      obtain ⟨ve, hve⟩ : ∃ x, x = plVersion pb pq := ⟨_, rfl⟩
      rw [← hve] at HV HAdd hvr
      have dv : (ve != 0) = true := by simp [hvr]
      clear hvr hve o1 o2 o3 o4 hL
      go_wp2_with fail
      refine (HV.out _).mono ?_
      rintro e w1 ⟨rfl, hb1⟩
      have HB1 : Hid (Below wr.heap.size wr w1) := Lib.hid (by first | exact ((Below.refl _ _).alloc (Nat.le_refl _) _).trans (hb1.mono (by simp)) | exact hb1)
      have R1 := HR.out.below HB1.out
      have HC := Lib.hid (c_ContainsA ve L _ w1 (Arr.of_own R1.own) (by omega))
      have HR1 := Lib.hid R1
      have E1 := Lib.hid (HE.out.below HB1.out)
      clear R1 hb1
      obtain ⟨t, ht⟩ : ∃ t, t = decide (ve ∈ L) := ⟨_, rfl⟩
      rw [← ht] at HC
      have HT := Lib.hid ht
      clear ht
      cases t
      · have HN : Hid (ofL (l.take (k + 1)) = L ++ [ve]) := Lib.hid (by rw [HSn.out, HAdd.out, if_neg (of_decide_eq_false HT.out.symm)])
        go_wp2_with fail
        refine (HC.out).mono ?_
        rintro e w' ⟨rfl, rfl⟩
        go_wp2_with (at_builtin; refine append_row w1 rfl _ _ 158 rfl 49 i0 (.int .u64 0) 1 8 Tryz.underlying158 HI.out.1 HI.out.2.1 HI.out.2.2.1 HI.out.2.2.2 rfl (by decide) (by decide) G g hg E1.out.hi (.slice oo L.length cc) L.length (u64s L) rfl HR1.out [.int .u64 ve] _ rfl rfl (by simp [Value.oneCell']) (by omega) ?_; intro gg cap w2 G2 e2 r2; have HR2 := Lib.hid r2; have E2 := Lib.hid (E1.out.trans e2); clear e2 r2)
        go_roundw
        case rel => exact ⟨k + 1, G2, by omega, by go_num, E2.out, by rw [HN.out, List.length_append, u64s_snoc]; exact HR2.out⟩
        case measure => simp [intOf]; omega
      · have HN : Hid (ofL (l.take (k + 1)) = L) := Lib.hid (by rw [HSn.out, HAdd.out, if_pos (of_decide_eq_true HT.out.symm)])
        go_wp2_with fail
        refine (HC.out).mono ?_
        rintro e w' ⟨rfl, rfl⟩
        go_wp2_with fail
        go_roundw
        case rel => exact ⟨k + 1, G, by omega, by go_num, E1.out, by rw [HN.out]; exact HR1.out⟩
        case measure => simp [intOf]; omega
    · obtain rfl : k = l.length := by omega
      have HS := HR.out.sls
      rw [List.take_length] at HS
      have hz := HS.none0
      have HSC := Lib.hid HS.clip
      have hL2 : (ofL (l.take l.length)) = ofL l := by rw [List.take_length]
      rw [hL2]
      clear HS hL2
      go_wp2_with fail
      refine (c_ClipA' _ _ _ _ hz.1 hz.2.1 hz.2.2).mono ?_
      rintro e w' ⟨rfl, rfl⟩
      go_wp2_with fail
      go_ret
      exact ⟨_, rfl, G, HE.out, HSC.out⟩
end
section
open Go.RowKit
set_option linter.unusedVariables false
def vrc (p : Int × Int) : List Value := [.int .u64 p.1, .int .u64 p.2]
theorem vrc_len (p : Int × Int) : (vrc p).length = 2 := rfl
def fnv (K : FuncId) : Value := .func (.func K) #[] #[]
/-- What comes next. -/
def lkDo : Nat → Value
  | 1 => fnv 90
  | 2 => fnv 144
  | 3 => fnv 191
  | 4 => fnv 223
  | 5 => fnv 265
  | 6 => fnv 266
  | 7 => fnv 282
  | _ => .nilFunc
def lkCs (key : ByteArray) (dv av vv sv : Value) (z : Lkm) : List Value := [.string key, .int .u64 (kyH key), .int .i64 z.left, dv, .int .u64 z.tab, av, vv, .int .i64 z.pos, sv, .int .i64 z.ref, .int .u64 z.ep, .int .i64 z.pt, .bool z.fl]
/-- A Look in block X. -/
structure LkAt (w : World) (O : Om) (k X : Nat) (key : ByteArray) (z : Lkm) : Prop where
  ex : ∃ av vv sv, Ob w O k X (lkCs key (lkDo z.ln) av vv sv z) ∧ An w O 0 2 av z.all.length (rowOf plc z.all) ∧ Sls w O (k + 1) 2 vv z.vs.length (rowOf vrc z.vs) ∧ An w O (k + 3) 1 sv z.sl.length (ints z.sl)
/-- Behind a line. -/
def LkR (k : Nat) (w0 : World) (O0 : Om) (w : World) (O : Om) (B : Wb) (f : Cf) (X : Nat) (key : ByteArray) (av vv sv : Value) (y : AW × Lkm) (e : Ending) (w' : World) : Prop :=
  e = .returned (.tuple #[]) ∧ ∃ G, Me k (k + 3) w0 O0 w' G B f y.1 k X (lkCs key (lkDo y.2.ln) av vv sv y.2) ∧ Ext (SX k k) O w G w'
theorem lkEq0 (W : World) : (Go.binOp .eql 189 .nilFunc .nilFunc).run Tryz.prog W = .ok (.bool true) W := by kernel_rfl
theorem lkEq1 (K : FuncId) (W : World) : (Go.binOp .eql 189 (.func (.func K) #[] #[]) .nilFunc).run Tryz.prog W = .ok (.bool false) W := by kernel_rfl
theorem lkNe0 (W : World) : (Go.binOp .neq 189 .nilFunc .nilFunc).run Tryz.prog W = .ok (.bool false) W := by kernel_rfl
theorem lkNe1 (K : FuncId) (W : World) : (Go.binOp .neq 189 (.func (.func K) #[] #[]) .nilFunc).run Tryz.prog W = .ok (.bool true) W := by kernel_rfl
section
variable {w w0 : World} {O O0 : Om} {B : Wb} {f : Cf} {s : AW} {k X : Nat} {key : ByteArray} {dv av vv sv : Value} {z : Lkm}
set_option maxRecDepth 100000 in
theorem c_LkOver0 (h : w.cell? ⟨X, 3, none⟩ = some .nilFunc) : Calls Tryz.prog 324 #[.pointer (some ⟨X, 0, none⟩)] w fun e w' => e = .returned (.bool true) ∧ w = w' := by
  have hE := lkEq0
  go_enter Tryz.func324, Tryz.ntmps324
  go_wp2_with fail
  go_ret
  exact ⟨rfl, rfl⟩
set_option maxRecDepth 100000 in
theorem c_LkOver1 (K : FuncId) (h : w.cell? ⟨X, 3, none⟩ = some (.func (.func K) #[] #[])) : Calls Tryz.prog 324 #[.pointer (some ⟨X, 0, none⟩)] w fun e w' => e = .returned (.bool false) ∧ w = w' := by
  have hE := lkEq1 K
  go_enter Tryz.func324, Tryz.ntmps324
  go_wp2_with fail
  go_ret
  exact ⟨rfl, rfl⟩
set_option maxHeartbeats 2000000 in
set_option maxRecDepth 100000 in
theorem c_LkAgain (M : Me k (k + 3) w0 O0 w O B f s k X (lkCs key dv av vv sv z)) (hk : 10 ≤ k) (l0 : 0 ≤ z.left) (l1 : z.left ≤ 9223372036854775807) :
    Calls Tryz.prog 190 #[.pointer (some ⟨X, 0, none⟩), .pointer (some ⟨B.p, 0, none⟩)] w (LkR k w0 O0 w O B f X key av vv sv (lkAgain s z)) := by
  have q2 := M.t.c 2 _ rfl
  have q3 := M.t.c 3 _ rfl
  have q12 := M.t.c 12 _ rfl
  have f2 := M.t.f 2
  have f3 := M.t.f 3
  have f12 := M.t.f 12
  have HM := Lib.hid M
  clear M
  obtain ⟨ln, left, tab, all, vs, pos, sl, ref, ep, pt, fl⟩ := z
  dsimp only at q2 q3 q12 l0 l1
  unfold lkAgain
  by_cases h0 : left = 0
  · rw [if_pos h0]
    subst h0
    have H2 := HM.out.set2 hk (Nat.le_refl _) (by omega) (i := 3) (j := 12) .nilFunc (.bool true) (by simp [lkCs]) (by simp [lkCs])
    have HQ := Lib.hid H2
    clear H2 HM
    go_enter Tryz.func190, Tryz.ntmps190
    go_wp2_with fail
    go_end0
    exact ⟨rfl, _, HQ.out.1, HQ.out.2.mono fun t _ ht => .inr (by omega)⟩
  · rw [if_neg h0]
    have d0 : (left == 0) = false := by simp [h0]
    have hw : IntKind.i64.wrap (left - 1) = left - 1 := by simp [IntKind.wrap, IntKind.bits, IntKind.signed]; omega
    have H2 := HM.out.set2 hk (Nat.le_refl _) (by omega) (i := 2) (j := 3) (.int .i64 (left - 1)) (fnv 90) (by simp [lkCs]) (by simp [lkCs])
    have HN := Lib.hid (c_WNote 6 0 0 0 0 (left - 1) H2.1.p H2.1.e.hi (by decide) (by decide))
    have HQ := Lib.hid H2
    unfold fnv at HN HQ
    clear H2 HM h0
    go_enter Tryz.func190, Tryz.ntmps190
    go_wp2_with fail
    refine HN.out.mono ?_
    rintro e w2 ⟨rfl, G2, e2, p2⟩
    have HF := Lib.hid (And.intro (HQ.out.1.world hk e2 p2) ((HQ.out.2.mono (T := SX k k) fun t _ ht => .inr (by omega)).trans (e2.mono fun t _ ht => SX.of_sw ht)))
    clear e2 p2
    go_wp2_with fail
    go_end0
    exact ⟨rfl, G2, HF.out⟩
set_option maxHeartbeats 2000000 in
set_option maxRecDepth 100000 in
theorem c_LkOn (M : Me k (k + 3) w0 O0 w O B f s k X (lkCs key dv av vv sv z)) (hk : 10 ≤ k) (hav : ∃ ao c, av = .slice ao z.all.length c) (hsv : ∃ ao c, sv = .slice ao z.sl.length c) (ha : z.all.length ≤ 8) (hp : z.pos ≤ 8) :
    Calls Tryz.prog 249 #[.pointer (some ⟨X, 0, none⟩)] w (LkR k w0 O0 w O B f X key av vv sv (s, lkOn z)) := by
  obtain ⟨ln, left, tab, all, vs, pos, sl, ref, ep, pt, fl⟩ := z
  obtain ⟨ao, ac, rfl⟩ := hav
  obtain ⟨so, sc, rfl⟩ := hsv
  have q3 := M.t.c 3 _ rfl
  have q5 := M.t.c 5 _ rfl
  have q7 := M.t.c 7 _ rfl
  have q8 := M.t.c 8 _ rfl
  have f3 := M.t.f 3
  have f7 := M.t.f 7
  have HM := Lib.hid M
  clear M
  dsimp only at q3 q5 q7 q8 ha hp
  unfold lkOn
  dsimp only
  obtain ⟨n, hn⟩ : ∃ n, n = all.length := ⟨_, rfl⟩
  obtain ⟨m, hm⟩ : ∃ m, m = sl.length := ⟨_, rfl⟩
  rw [← hn] at q5 ha HM ⊢
  rw [← hm] at q8 HM ⊢
  by_cases h0 : sl = []
  · rw [if_pos h0]
    obtain rfl : m = 0 := by rw [hm, h0]; rfl
    have hw : IntKind.i64.wrap ((pos : Int) + 1) = (pos : Int) + 1 := by simp [IntKind.wrap, IntKind.bits, IntKind.signed]; omega
    by_cases h1 : pos + 1 < n
    · rw [if_pos h1]
      have d1 : decide ((pos : Int) + 1 < n) = true := decide_eq_true (by omega)
      have HQ := Lib.hid (fun nq => (HM.out.below (below_drewN (Below.refl _ _) nq)).set2 hk (Nat.le_refl _) (by omega) (i := 7) (j := 3) (.int .i64 ((pos : Int) + 1)) (fnv 223) (by simp [lkCs]) (by simp [lkCs]))
      have HE := Lib.hid (fun nq => Ext.of_below (S := SX k k) HM.out.e.hi (below_drewN (Below.refl w.heap.size w) nq))
      unfold fnv at HQ
      clear HM h0 hn hm
      go_enter Tryz.func249, Tryz.ntmps249
      go_upto_region 3 with fail
      go_quiet (fail)
      go_wp2_with fail
      go_end0
      exact ⟨rfl, _, (HQ.out nq).1, (HE.out nq).trans ((HQ.out nq).2.mono fun t _ ht => .inr (by omega))⟩
    · rw [if_neg h1]
      have d1 : decide ((pos : Int) + 1 < n) = false := decide_eq_false (by omega)
      have HQ := Lib.hid (fun nq => (HM.out.below (below_drewN (Below.refl _ _) nq)).set hk (Nat.le_refl _) (by omega) 3 (fnv 266) (by simp [lkCs]))
      have HE := Lib.hid (fun nq => (Ext.of_below (S := SX k k) HM.out.e.hi (below_drewN (Below.refl w.heap.size w) nq)).trans ((Ext.of_set (j := 3) (v := fnv 266) (S := fun t => t = k) (HM.out.below (below_drewN (Below.refl _ _) nq)).e.hi (HM.out.below (below_drewN (Below.refl _ _) nq)).t.o (by omega) rfl).mono fun t _ ht => .inr (by omega)))
      unfold fnv at HQ HE
      clear HM h0 hn hm
      go_enter Tryz.func249, Tryz.ntmps249
      go_upto_region 3 with fail
      go_quiet (fail)
      go_wp2_with fail
      go_end0
      exact ⟨rfl, _, HQ.out nq, HE.out nq⟩
  · rw [if_neg h0]
    have hp0 : 0 < m := by rw [hm]; exact List.length_pos_iff.2 h0
    have e3 := Ext.of_set (j := 3) (v := fnv 265) (S := fun t => t = k) HM.out.e.hi HM.out.t.o (by omega) rfl
    have HQ := Lib.hid (And.intro (HM.out.set hk (Nat.le_refl _) (by omega) 3 (fnv 265) (by simp [lkCs])) e3)
    unfold fnv at HQ
    clear HM h0 hn hm e3
    go_enter Tryz.func249, Tryz.ntmps249
    go_wp2_with fail
    go_end0
    exact ⟨rfl, _, HQ.out.1, HQ.out.2.mono fun t _ ht => .inr (by omega)⟩
set_option maxHeartbeats 2000000 in
set_option maxRecDepth 100000 in
theorem c_LkThird (M : Me k (k + 3) w0 O0 w O B f s k X (lkCs key dv av vv sv z)) (hk : 10 ≤ k) (n0 : 0 ≤ s.n) (n1 : s.n ≤ 4611686018427387904) :
    Calls Tryz.prog 191 #[.pointer (some ⟨X, 0, none⟩), .pointer (some ⟨B.p, 0, none⟩)] w (LkR k w0 O0 w O B f X key av vv sv (awLoad 8 s, { z with ep := s.M 8, pos := 0, pt := s.n + 1, ln := 4 })) := by
  have HL := Lib.hid (c_LoadP 8 M.p M.e.hi (by decide) (by decide) n0 n1)
  have p0 := M.p.wo.c0
  have HM := Lib.hid M
  clear M
  go_enter Tryz.func191, Tryz.ntmps191
  go_wp2_with fail
  refine HL.out.mono ?_
  rintro e w1 ⟨rfl, G1, e1, p1⟩
  have m1 := HM.out.world hk e1 p1
  have q10 := m1.t.c 10 _ rfl
  have f10 := m1.t.f 10
  have es := Ext.of_set (j := 10) (v := .int .u64 (s.M 8)) (S := fun t => t = k) m1.e.hi m1.t.o (by omega) rfl
  have m2 := m1.set hk (Nat.le_refl _) (by omega) 10 (.int .u64 (s.M 8)) (by simp [lkCs])
  have HW := Lib.hid (c_WSteps _ _ _ _ _ m2.p)
  have HE := Lib.hid ((e1.mono (T := SX k k) fun t _ ht => .inl ht).trans (es.mono fun t _ ht => .inr (by omega)))
  obtain ⟨w2, hw2⟩ : ∃ w2, w2 = w1.setCell ⟨X, 10, none⟩ (.int .u64 (s.M 8)) := ⟨_, rfl⟩
  rw [← hw2] at m2 HW HE
  have HM2 := Lib.hid m2
  clear e1 p1 m1 es m2 HM
  go_wp2_with fail
  rw [← hw2]
  clear q10 f10 hw2
  refine HW.out.mono ?_
  rintro e w' ⟨rfl, rfl⟩
  have q7 := HM2.out.t.c 7 _ rfl
  have q11 := HM2.out.t.c 11 _ rfl
  have q3 := HM2.out.t.c 3 _ rfl
  have f7 := HM2.out.t.f 7
  have f11 := HM2.out.t.f 11
  have f3 := HM2.out.t.f 3
  have m3 := HM2.out.set2 hk (Nat.le_refl _) (by omega) (i := 7) (j := 11) (.int .i64 0) (.int .i64 (s.n + 1)) (by simp [lkCs]) (by simp [lkCs])
  have e4 := Ext.of_set (j := 3) (v := fnv 223) (S := fun t => t = k) m3.1.e.hi m3.1.t.o (by omega) rfl
  have HF := Lib.hid (And.intro (m3.1.set hk (Nat.le_refl _) (by omega) 3 (fnv 223) (by simp [lkCs])) ((HE.out.trans (m3.2.mono fun t _ ht => .inr (by omega))).trans (e4.mono fun t _ ht => .inr (by omega))))
  unfold fnv at HF
  clear m3 e4
  go_wp2_with fail
  go_end0
  exact ⟨rfl, G1, HF.out⟩
set_option maxHeartbeats 2000000 in
set_option maxRecDepth 100000 in
theorem c_LkFifth (M : Me k (k + 3) w0 O0 w O B f s k X (lkCs key dv av vv sv z)) (hk : 10 ≤ k) (n0 : 0 ≤ s.n) (n1 : s.n ≤ 4611686018427387904) (l0 : 0 ≤ z.left) (l1 : z.left ≤ 9223372036854775807) :
    Calls Tryz.prog 266 #[.pointer (some ⟨X, 0, none⟩), .pointer (some ⟨B.p, 0, none⟩)] w (LkR k w0 O0 w O B f X key av vv sv (if s.M 2 ≠ z.tab then lkAgain (awLoad 2 s) z else (awLoad 2 s, { z with pos := 0, ln := 7 }))) := by
  have HL := Lib.hid (c_LoadP 2 (M.below (drew_below w)).p (M.below (drew_below w)).e.hi (by decide) (by decide) n0 n1)
  have p0 := M.p.wo.c0
  have q4 := M.t.c 4 _ rfl
  have HM := Lib.hid (M.below (drew_below w))
  have HB := Lib.hid (Ext.of_below (S := SX k k) M.e.hi (drew_below w))
  clear M
  obtain ⟨y, hy⟩ : ∃ y, y = (if s.M 2 ≠ z.tab then lkAgain (awLoad 2 s) z else (awLoad 2 s, { z with pos := 0, ln := 7 })) := ⟨_, rfl⟩
  rw [← hy]
  have HY := Lib.hid hy
  clear hy
  go_enter Tryz.func266, Tryz.ntmps266
  go_upto_region 0 with fail
  go_region_held3 (fun w' => w'.cell? ⟨X, 4, none⟩ = some (.int .u64 z.tab) ∧ w'.cell? ⟨B.p, 0, none⟩ = some (.pointer (some ⟨B.c, 0, none⟩))) (go_keep)
    (first
      | (go_at_call 143
         refine HL.out.mono ?_
         rintro e w1 ⟨rfl, G1, e1, p1⟩
         have m1 := HM.out.world hk e1 p1
         have q4' : w1.cell? ⟨X, 4, none⟩ = some (.int .u64 z.tab) := m1.t.c 4 _ rfl
         have p0' := p1.wo.c0
         have HM1 := Lib.hid (And.intro m1 (HB.out.trans (e1.mono (T := SX k k) fun t _ ht => .inl ht)))
         clear e1 p1 m1))
  rename_i hheld
  clear hheld q4' p0'
  have HA := Lib.hid (c_LkAgain HM1.out.1 hk l0 l1)
  by_cases h : s.M 2 = z.tab
  · have hy := HY.out
    rw [if_neg (by rw [h]; exact fun e => e rfl)] at hy
    replace HY := Lib.hid hy
    clear hy
    have d : (s.M 2 != z.tab) = false := by simp [h]
    rw [d]
    have q7 := HM1.out.1.t.c 7 _ rfl
    have q3 := HM1.out.1.t.c 3 _ rfl
    have f7 := HM1.out.1.t.f 7
    have f3 := HM1.out.1.t.f 3
    have m3 := HM1.out.1.set2 hk (Nat.le_refl _) (by omega) (i := 7) (j := 3) (.int .i64 0) (fnv 282) (by simp [lkCs]) (by simp [lkCs])
    have HF := Lib.hid (And.intro m3.1 (HM1.out.2.trans (m3.2.mono fun t _ ht => .inr (by omega))))
    unfold fnv at HF
    clear m3 HM1 d h HA
    go_wp2_with fail
    go_end0
    rw [HY.out]
    exact ⟨rfl, G1, HF.out⟩
  · have hy := HY.out
    rw [if_pos h] at hy
    replace HY := Lib.hid hy
    clear hy
    have d : (s.M 2 != z.tab) = true := by simp [h]
    rw [d]
    clear h d
    go_wp2_with fail
    refine HA.out.mono ?_
    rintro e w2 ⟨rfl, G2, m2, e2⟩
    have HF := Lib.hid (And.intro m2 (HM1.out.2.trans e2))
    clear m2 e2
    go_wp2_with fail
    go_end0
    rw [HY.out]
    exact ⟨rfl, G2, HF.out⟩
end
end
section
open Go.RowKit
set_option linter.unusedVariables false
theorem infoVr : (Tryz.prog.info? 260).map (fun i => (i.zero, i.size, i.bytes)) = some (some (.agg #[.int .u64 0, .int .u64 0]), 2, 16) := by kernel_rfl
def vsOf (l : List Int) : List (Int × Int) := l.map fun a => (a, 0)
section
variable {w : World} {O : Om} {B : Wb} {f : Cf} {s : AW} {k X : Nat} {key : ByteArray} {z : Lkm}
set_option maxHeartbeats 2000000 in
set_option maxRecDepth 100000 in
theorem c_NewLook (t : Int) (hk : 10 ≤ k) (hz : key.size ≤ maxLen) (t0 : 0 ≤ t) (hhi : ∀ j, O j ≠ 0 → j < w.heap.size) : Calls Tryz.prog 41 #[.string key, .int .i64 t] w fun e w' => ∃ X, RP (fun t => t = k) w O (.pointer (some ⟨X, 0, none⟩)) (fun W G => LkAt W G k X key (lkNew t)) e w' := by
  have HH := Lib.hid (fun W => c_Hash key W hz)
  rw [show fnvHash key.data.toList = kyH key from rfl] at HH
  have b1 := alloc_below w (.cells #[.int .u64 (kyH key)] 155)
  obtain ⟨O1, e1, x1, -⟩ := alloc_ob (hi_below hhi b1) k (lkCs key (fnv 90) (.slice none 0 0) (.slice none 0 0) (.slice none 0 0) (lkNew t)).toArray 192 (w.heap.size + 1) (by simp)
  have hn := Lib.hid (And.intro ((Ext.of_below (S := fun t => t = k) hhi b1).trans e1) x1)
  unfold lkNew lkCs fnv at hn
  rw [if_pos t0] at hn
  have hm : (if t < 0 then (0 : Int) else t) = t := if_neg (by omega)
  have hm2 : max t 0 = t := by omega
  clear b1 e1 x1 hhi
  go_enter Tryz.func41, Tryz.ntmps41
  go_wp2_with fail
  refine (HH.out _).mono ?_
  rintro e w' ⟨rfl, rfl⟩
  go_wp2_with fail
  go_ret
  refine ⟨w.heap.size + 1, rfl, O1, hn.out.1, .slice none 0 0, .slice none 0 0, .slice none 0 0, ?_, An.nil _ _ _ _ _, Sls.nil _ _ _ _, An.nil _ _ _ _ _⟩
  have := hn.out.2
  unfold lkNew
  rw [if_pos t0]
  exact this
end
/-- The struct and the world, since a line began. -/
structure Lw (w0 : World) (O0 : Om) (wS : World) (OS : Om) (w : World) (O : Om) (B : Wb) (f : Cf) (s : AW) (k X : Nat) (cs : List Value) : Prop where
  m : Me k (k + 3) w0 O0 w O B f s k X cs
  x : Ext (SX k (k + 2)) OS wS O w
section
variable {w0 wS w w1 : World} {O0 OS O O1 : Om} {B : Wb} {f : Cf} {s s1 : AW} {k X : Nat} {cs : List Value}
theorem Lw.below (h : Lw w0 O0 wS OS w O B f s k X cs) (hb : Below w.heap.size w w1) : Lw w0 O0 wS OS w1 O B f s k X cs := ⟨h.m.below hb, h.x.below hb⟩
theorem Lw.world (h : Lw w0 O0 wS OS w O B f s k X cs) (hk : 10 ≤ k) (e : Ext SW O w O1 w1) (hp : PW w1 O1 B f s1) : Lw w0 O0 wS OS w1 O1 B f s1 k X cs := ⟨h.m.world hk e hp, h.x.trans (e.mono fun t _ ht => SX.of_sw ht)⟩
theorem Lw.set (h : Lw w0 O0 wS OS w O B f s k X cs) (hk : 10 ≤ k) (j : Nat) (v : Value) (hj : j < cs.length) : Lw w0 O0 wS OS (w.setCell ⟨X, j, none⟩ v) O B f s k X (cs.set j v) :=
  ⟨h.m.set hk (Nat.le_refl _) (by omega) j v hj, h.x.trans ((Ext.of_set (S := fun t => t = k) h.m.e.hi h.m.t.o (by omega) rfl).mono fun t _ ht => .inr (by omega))⟩
theorem Lw.own (h : Lw w0 O0 wS OS w O B f s k X cs) (hk : 10 ≤ k) {g : Nat} (e : Ext (fun j => j = g) O w O1 w1) (h1 : g = k + 1 ∨ g = k + 2) : Lw w0 O0 wS OS w1 O1 B f s k X cs :=
  ⟨⟨h.m.e.trans (e.mono fun t _ ht => .inr (by omega)), h.m.p.ext e (by omega) (by omega) (by omega) (by omega), h.m.t.ext e (by omega)⟩, h.x.trans (e.mono fun t _ ht => .inr (by omega))⟩
theorem Lw.up (h : Lw w0 O0 wS OS w O B f s k X cs) {c d : Nat} (e : Ext (SX c d) O w O1 w1) (hc : k ≤ c) (hd : d ≤ k + 2) (m : Me k (k + 3) w0 O0 w1 O1 B f s1 k X cs) : Lw w0 O0 wS OS w1 O1 B f s1 k X cs := ⟨m, h.x.trans (e.mono fun t _ ht => SX.mono hc hd ht)⟩
end
section
variable {w w0 : World} {O O0 : Om} {B : Wb} {f : Cf} {s : AW} {k X : Nat} {key : ByteArray} {dv av vv sv : Value} {z : Lkm}
set_option maxHeartbeats 8000000 in
set_option maxRecDepth 100000 in
theorem c_LkFirst (M : Me k (k + 3) w0 O0 w O B f s k X (lkCs key dv av vv sv z)) (hk : 10 ≤ k) (n0 : 0 ≤ s.n) (n1 : s.n ≤ 4611686018427387904) :
    Calls Tryz.prog 90 #[.pointer (some ⟨X, 0, none⟩), .pointer (some ⟨B.p, 0, none⟩)] w fun e w' => e = .returned (.tuple #[]) ∧ ∃ G av' vv', Lw w0 O0 w O w' G B f (awLoad 2 s) k X (lkCs key (lkDo 2) av' vv' sv { z with tab := s.M 2, all := plPlaces (kyH key) (s.M 2), vs := vsOf (ofL (plPlaces (kyH key) (s.M 2))), pos := 0, ref := 0, ln := 2 }) ∧ An w' G 0 2 av' (plPlaces (kyH key) (s.M 2)).length (rowOf plc (plPlaces (kyH key) (s.M 2))) ∧ Sls w' G (k + 1) 2 vv' (ofL (plPlaces (kyH key) (s.M 2))).length (rowOf vrc (vsOf (ofL (plPlaces (kyH key) (s.M 2))))) := by
  have HL := Lib.hid (c_LoadP 2 M.p M.e.hi (by decide) (by decide) n0 n1)
  have p0 := M.p.wo.c0
  have hbd := M.p.bd 2
  have hy : 0 ≤ kyH key ∧ kyH key < 18446744073709551616 := fnvHash_bd _
  have HPL := Lib.hid (fun W => c_Places (kyH key) (s.M 2) W hy.1 hy.2 hbd.1 hbd.2)
  have HM := Lib.hid (show Lw w0 O0 w O w O B f s k X (lkCs key dv av vv sv z) from ⟨M, Ext.refl M.e.hi⟩)
  obtain ⟨P, hPP⟩ : ∃ P, P = plPlaces (kyH key) (s.M 2) := ⟨_, rfl⟩
  have hP4 : P.length ≤ 4 := by rw [hPP]; exact plPlaces_le _ _
  have hP0 : 0 < P.length := by rw [hPP]; exact plPlaces_pos _ _
  have HPO : Hid (∀ p ∈ P, PlOk p) := Lib.hid (fun p hp => by rw [hPP] at hp; exact plPlaces_bd hy.1 hy.2 hp)
  rw [← hPP] at HPL ⊢
  obtain ⟨L, hL⟩ : ∃ L, L = ofL P := ⟨_, rfl⟩
  have hL4 : L.length ≤ 4 := by rw [hL]; exact Nat.le_trans (ofL_len P) hP4
  rw [← hL]
  have HLL := Lib.hid hL
  clear hL
  obtain ⟨v, hv⟩ : ∃ v, v = s.M 2 := ⟨_, rfl⟩
  rw [← hv] at HL HPL ⊢
  obtain ⟨hx, hhx⟩ : ∃ v, v = kyH key := ⟨_, rfl⟩
  rw [← hhx] at HPL
  obtain ⟨cs, hcs⟩ : ∃ cs, cs = lkCs key dv av vv sv z := ⟨_, rfl⟩
  have hc1 : cs[1]? = some (.int .u64 hx) := by rw [hcs, hhx]; rfl
  have hcl : cs.length = 13 := by rw [hcs]; rfl
  rw [← hcs] at HM
  have HC := Lib.hid hcs
  have HX := Lib.hid (And.intro hhx hv)
  clear hPP hv hhx hcs M hbd hy n0 n1
  go_enter Tryz.func90, Tryz.ntmps90
  go_wp2_with fail
  refine HL.out.mono ?_
  rintro e w1 ⟨rfl, G1, e1, p1⟩
  have m1 := HM.out.world hk e1 p1
  have q4 : w1.cell? ⟨X, 4, none⟩ = some (.int .u64 z.tab) := m1.m.t.c 4 _ (by rw [HC.out]; rfl)
  have f4 := m1.m.t.f 4
  have m2 := m1.set hk 4 (.int .u64 v) (by omega)
  obtain ⟨w2, hw2⟩ : ∃ w2, w2 = w1.setCell ⟨X, 4, none⟩ (.int .u64 v) := ⟨_, rfl⟩
  rw [← hw2] at m2
  have HJ := Lib.hid m2
  clear e1 p1 m1 m2 HM HL
  go_upto_region 1 with fail
  rw [← hw2]
  clear q4 f4 hw2 p0
  have q1 : w2.cell? ⟨X, 1, none⟩ = some (.int .u64 hx) := HJ.out.m.t.c 1 _ (by rw [List.getElem?_set_ne (by decide)]; exact hc1)
  have q4 : w2.cell? ⟨X, 4, none⟩ = some (.int .u64 v) := HJ.out.m.t.c 4 _ (List.getElem?_set_self (by omega))
  have HJ' := Lib.hid (HJ.out.below (drew_below _))
  clear HJ
  have HJ := HJ'
  clear HJ'
  go_region_held3 (fun w' => w'.cell? ⟨X, 1, none⟩ = some (.int .u64 hx) ∧ w'.cell? ⟨X, 4, none⟩ = some (.int .u64 v)) (go_keep)
    (first
      | (go_at_call 28
         refine (HPL.out _).mono ?_
         rintro e w4 ⟨⟨pv, rfl, hA, hF, po, rfl⟩, hb4⟩
         have HA := Lib.hid (An.of_fresh (O := G1) (g := 0) hA hF (fun j hj => own_new HJ.out.m.e.hi hj))
         replace HJ := Lib.hid (HJ.out.below hb4)
         clear hA hF hb4
         have q1 : w4.cell? ⟨X, 1, none⟩ = some (.int .u64 hx) := HJ.out.m.t.c 1 _ (by rw [List.getElem?_set_ne (by decide)]; exact hc1)
         have q4 : w4.cell? ⟨X, 4, none⟩ = some (.int .u64 v) := HJ.out.m.t.c 4 _ (List.getElem?_set_self (by omega))
         have q5 : w4.cell? ⟨X, 5, none⟩ = some av := HJ.out.m.t.c 5 _ (by rw [HC.out]; rfl)
         have f5 := HJ.out.m.t.f 5
         have f1 : (w4.setCell ⟨X, 5, none⟩ (.slice po P.length P.length)).cell? ⟨X, 1, none⟩ = some (.int .u64 hx) := (HJ.out.set hk 5 (.slice po P.length P.length) (by simp [hcl])).m.t.c 1 _ (by rw [List.getElem?_set_ne (by decide), List.getElem?_set_ne (by decide)]; exact hc1)
         have f4 : (w4.setCell ⟨X, 5, none⟩ (.slice po P.length P.length)).cell? ⟨X, 4, none⟩ = some (.int .u64 v) := (HJ.out.set hk 5 (.slice po P.length P.length) (by simp [hcl])).m.t.c 4 _ (by rw [List.getElem?_set_ne (by decide)]; exact List.getElem?_set_self (by omega))))
  rename_i hheld
  have m5 := HJ.out.set hk 5 (.slice po P.length P.length) (by simp [hcl])
  have A5 := HA.out.ext (Ext.of_set (j := 5) (v := .slice po P.length P.length) (S := fun t => t = k) HJ.out.m.e.hi HJ.out.m.t.o (by omega) rfl) (.inl rfl)
  obtain ⟨w5, hw5⟩ : ∃ w5, w5 = w4.setCell ⟨X, 5, none⟩ (.slice po P.length P.length) := ⟨_, rfl⟩
  rw [← hw5] at m5 A5 ⊢
  obtain ⟨ds, hds⟩ : ∃ ds, ds = (cs.set 4 (.int .u64 v)).set 5 (.slice po P.length P.length) := ⟨_, rfl⟩
  rw [← hds] at m5
  have hdl : ds.length = 13 := by rw [hds]; simp [hcl]
  have hd5 : ds[5]? = some (.slice po P.length P.length) := by rw [hds, HC.out]; rfl
  have HD := Lib.hid hds
  clear hheld hw5 hds f1 f4 f5 q1 q4 q5 HJ HA HPL hc1 hcl
  have q5 : w5.cell? ⟨X, 5, none⟩ = some (.slice po P.length P.length) := m5.m.t.c 5 _ hd5
  have q6 : w5.cell? ⟨X, 6, none⟩ = some vv := m5.m.t.c 6 _ (by rw [HD.out, HC.out]; rfl)
  have q7 : w5.cell? ⟨X, 7, none⟩ = some (.int .i64 z.pos) := m5.m.t.c 7 _ (by rw [HD.out, HC.out]; rfl)
  have q9 : w5.cell? ⟨X, 9, none⟩ = some (.int .i64 z.ref) := m5.m.t.c 9 _ (by rw [HD.out, HC.out]; rfl)
  have f6 := m5.m.t.f 6
  have f7 := m5.m.t.f 7
  have f9 := m5.m.t.f 9
  have m6 := ((m5.set hk 6 (.slice none 0 0) (by omega)).set hk 7 (.int .i64 0) (by simp [hdl])).set hk 9 (.int .i64 0) (by simp [hdl])
  have A6 := ((A5.ext (Ext.of_set (j := 6) (v := .slice none 0 0) (S := fun t => t = k) m5.m.e.hi m5.m.t.o (by omega) rfl) (.inl rfl)).ext (Ext.of_set (j := 7) (v := .int .i64 0) (S := fun t => t = k) (m5.set hk 6 (.slice none 0 0) (by omega)).m.e.hi m5.m.t.o (by omega) rfl) (.inl rfl)).ext (Ext.of_set (j := 9) (v := .int .i64 0) (S := fun t => t = k) ((m5.set hk 6 (.slice none 0 0) (by omega)).set hk 7 (.int .i64 0) (by simp [hdl])).m.e.hi m5.m.t.o (by omega) rfl) (.inl rfl)
  obtain ⟨w6, hw6⟩ : ∃ w6, w6 = (((w5.setCell ⟨X, 6, none⟩ (.slice none 0 0)).setCell ⟨X, 7, none⟩ (.int .i64 0)).setCell ⟨X, 9, none⟩ (.int .i64 0)) := ⟨_, rfl⟩
  rw [← hw6] at m6 A6
  obtain ⟨es, hes⟩ : ∃ es, es = ((ds.set 6 (.slice none 0 0)).set 7 (.int .i64 0)).set 9 (.int .i64 0) := ⟨_, rfl⟩
  rw [← hes] at m6
  have HE := Lib.hid hes
  have hel : es.length = 13 := by rw [hes]; simp [hdl]
  have HOF := Lib.hid (c_OfN P (k + 2) (by omega) _ w6 G1 A6.arr (by omega) HPO.out (fun b hb => by
    obtain ⟨b', o, c, he, -, -, -, hg, -⟩ := A6.open hP0 (by decide)
    rw [he] at hb
    obtain rfl : b' = b := by simpa [Value.ownBlock] using hb
    omega) m6.m.e.hi)
  rw [← HLL.out] at HOF
  have HJ := Lib.hid (And.intro m6 A6)
  clear m5 A5 m6 A6 hes
  go_wp2_with fail
  rw [← hw6]
  clear q5 q6 q7 q9 f6 f7 f9 hw6
  refine HOF.out.mono ?_
  rintro e w7 ⟨vo, rfl, G7, e7, s7⟩
  have A7 := HJ.out.2.ext e7 (.inl rfl)
  have m7 := HJ.out.1.own hk e7 (.inr rfl)
  obtain ⟨lo, lc, rfl, hl1, hl2⟩ := s7.shape
  have HO : Hid (0 < L.length → ∃ sb so, lo = some ⟨sb, so, none⟩ ∧ sb < w7.heap.size ∧ G7 sb = k + 2 ∧ ∀ j x, L[j]? = some x → w7.cell? ⟨sb, so + j, none⟩ = some (.int .u64 x)) := Lib.hid (fun hn => by
    obtain ⟨sb, so, c', he, -, -⟩ := s7.open hn
    cases he
    exact ⟨sb, so, rfl, s7.lt.1, s7.lt.2, fun j x hx => s7.c j _ (by unfold u64s; rw [List.getElem?_map, hx]; rfl)⟩)
  have HJ7 := Lib.hid (And.intro m7 A7)
  obtain ⟨i0, hi, hz0, hz1, hz2⟩ := info_parts infoVr
  have HI := Lib.hid (And.intro hi (And.intro hz0 (And.intro hz1 hz2)))
  clear e7 s7 A7 m7 HJ HOF hi hz0 hz1 hz2 hd5
  go_wp2_with fail
  go_loopw [41] (fun i wr => ∃ (j : Nat) (G : Om) (o : Value), j ≤ L.length ∧ i = .int .i64 j ∧ Ext (SX k (k + 1)) G7 w7 G wr ∧ Lw w0 O0 w O wr G B f (awLoad 2 s) k X (es.set 6 o) ∧ An wr G 0 2 (.slice po P.length P.length) P.length (rowOf plc P) ∧ Row wr G (k + 1) 260 2 o j (rowOf vrc (vsOf (L.take j)))) (fun i _ => L.length - (intOf i).toNat)
  case atStart => exact ⟨0, G7, .slice none 0 0, Nat.zero_le _, rfl, Ext.refl HJ7.out.1.m.e.hi, by rw [show es.set 6 (.slice none 0 0) = es by rw [HE.out, HD.out, HC.out]; rfl]; exact HJ7.out.1, HJ7.out.2, Row.nil _ _ _ _ _⟩
  case round =>
    obtain ⟨j, G, o, hj, rfl, hE, hT, hA, hR⟩ := hrel
    obtain ⟨oo, oc, rfl, ho1, ho2⟩ := hR.sls.shape
    have HA := Lib.hid hA
    have HR := Lib.hid hR
    have HT := Lib.hid hT
    have HEE := Lib.hid hE
    clear hE hT hA hR
    by_cases hlt : j < L.length
    · obtain ⟨sb, so, rfl, hsb, hsg, hsx⟩ := HO.out (by omega)
      obtain ⟨x, hx⟩ : ∃ x, L[j]? = some x := ⟨_, List.getElem?_eq_getElem hlt⟩
      have q0 := (HEE.out.cell (p := ⟨sb, so + j, none⟩) hsb (by rw [show G7 (⟨sb, so + j, none⟩ : Addr).block = G7 sb from rfl, hsg]; unfold SX; omega)).trans (hsx j x hx)
      have hsr : sb < wr.heap.size := Nat.lt_of_lt_of_le hsb HEE.out.size
      have HX2 : Hid (rowOf vrc (vsOf (L.take (j + 1))) = rowOf vrc (vsOf (L.take j)) ++ [.int .u64 x, .int .u64 0]) := Lib.hid (by
        obtain ⟨h1, h2⟩ := List.getElem?_eq_some_iff.1 hx
        rw [List.take_succ_eq_append_getElem h1, h2]
        unfold vsOf
        rw [List.map_append, rowOf_append]; rfl)
      have q6 : wr.cell? ⟨X, 6, none⟩ = some (.slice oo j oc) := HT.out.m.t.c 6 _ (List.getElem?_set_self (by omega))
      have hXl := HT.out.m.t.lt
      clear hsx hx hsg
      obtain ⟨ys, hys⟩ : ∃ ys, ys = rowOf vrc (vsOf (L.take j)) := ⟨_, rfl⟩
      rw [← hys] at HR HX2
      clear hys
      go_wp2_with (at_builtin; refine append_row wr rfl _ _ 190 rfl 260 i0 (.agg #[.int .u64 0, .int .u64 0]) 2 16 Tryz.underlying190 HI.out.1 HI.out.2.1 HI.out.2.2.1 HI.out.2.2.2 rfl (by decide) (by decide) G (k + 1) (by omega) HT.out.m.e.hi (.slice oo j oc) j ys rfl HR.out [.int .u64 x, .int .u64 0] _ rfl rfl (by simp [Value.oneCell']) (by omega) ?_; intro gg cap w8 G8 e8 r8; have t8 := HT.out.own hk e8 (.inl rfl); have y6 := t8.m.t.c 6 _ (List.getElem?_set_self (by omega)); have g6 := t8.m.t.f 6; have HR8 := Lib.hid (And.intro e8 (And.intro r8 t8)); clear e8 r8 t8)
      have HF : Hid (Ext (SX k (k + 1)) G7 w7 G8 (w8.setCell ⟨X, 6, none⟩ (.slice (some ⟨gg, 0, none⟩) (j + 1) cap)) ∧ Lw w0 O0 w O (w8.setCell ⟨X, 6, none⟩ (.slice (some ⟨gg, 0, none⟩) (j + 1) cap)) G8 B f (awLoad 2 s) k X (es.set 6 (.slice (some ⟨gg, 0, none⟩) (j + 1) cap)) ∧ An (w8.setCell ⟨X, 6, none⟩ (.slice (some ⟨gg, 0, none⟩) (j + 1) cap)) G8 0 2 (.slice po P.length P.length) P.length (rowOf plc P) ∧ Row (w8.setCell ⟨X, 6, none⟩ (.slice (some ⟨gg, 0, none⟩) (j + 1) cap)) G8 (k + 1) 260 2 (.slice (some ⟨gg, 0, none⟩) (j + 1) cap) (j + 1) (ys ++ [.int .u64 x, .int .u64 0])) := Lib.hid (by
        obtain ⟨e8, r8, t8⟩ := HR8.out
        have es6 := Ext.of_set (j := 6) (v := .slice (some ⟨gg, 0, none⟩) (j + 1) cap) (S := fun t => t = k) t8.m.e.hi t8.m.t.o (by omega) rfl
        refine ⟨(HEE.out.trans (e8.mono fun t _ ht => .inr (by omega))).trans (es6.mono fun t _ ht => .inr (by omega)), ?_, (HA.out.ext e8 (.inl rfl)).ext es6 (.inl rfl), r8.ext es6 (by omega)⟩
        have := t8.set hk 6 (.slice (some ⟨gg, 0, none⟩) (j + 1) cap) (by simp [hel])
        rwa [List.set_set] at this)
      rw [← HX2.out] at HF
      go_roundw
      case rel => exact ⟨j + 1, G8, _, by omega, by go_num, HF.out⟩
      case measure => simp [intOf]; omega
    · obtain rfl : j = L.length := by omega
      have q3 : wr.cell? ⟨X, 3, none⟩ = some dv := HT.out.m.t.c 3 _ (by rw [HE.out, HD.out, HC.out]; rfl)
      have f3 := HT.out.m.t.f 3
      have HF : Hid (Lw w0 O0 w O (wr.setCell ⟨X, 3, none⟩ (lkDo 2)) G B f (awLoad 2 s) k X ((es.set 6 (.slice oo L.length oc)).set 3 (lkDo 2)) ∧ An (wr.setCell ⟨X, 3, none⟩ (lkDo 2)) G 0 2 (.slice po P.length P.length) P.length (rowOf plc P) ∧ Sls (wr.setCell ⟨X, 3, none⟩ (lkDo 2)) G (k + 1) 2 (.slice oo L.length oc) L.length (rowOf vrc (vsOf L))) := Lib.hid (by
        have es3 := Ext.of_set (j := 3) (v := lkDo 2) (S := fun t => t = k) HT.out.m.e.hi HT.out.m.t.o (by omega) rfl
        have r := HR.out
        rw [List.take_length] at r
        exact ⟨HT.out.set hk 3 (lkDo 2) (by simp [hel]), HA.out.ext es3 (.inl rfl), r.sls.ext es3 (by omega)⟩)
      unfold lkDo fnv at HF
      clear HT HA HR HEE
      go_wp2_with fail
      go_end0
      refine ⟨rfl, G, _, _, ?_, HF.out.2⟩
      have h := HF.out.1
      rw [HE.out, HD.out, HC.out] at h
      exact h
end
end
section
open Go.RowKit
set_option linter.unusedVariables false
theorem Sls.set {w : World} {O : Om} {g size n cp b o : Nat} {xs : List Value} (h : Sls w O g size (.slice (some ⟨b, o, none⟩) n cp) n xs) (j : Nat) (u : Value) (hj : j < xs.length) : Sls (w.setCell ⟨b, o + j, none⟩ u) O g size (.slice (some ⟨b, o, none⟩) n cp) n (xs.set j u) := by
  obtain ⟨ao, c, he, h2, h3, h4, h5⟩ := h.ex
  cases he
  rcases h5 with ⟨hn, -⟩ | ⟨b', o', cs, e, q1, q2, q3⟩
  · cases hn
  · cases e
    have hm : n * size ≤ cp * size := Nat.mul_le_mul_right _ h2
    refine ⟨_, cp, rfl, h2, h3, by rw [List.length_set]; exact h4, .inr ⟨b, o, cs.set (o + j) u, rfl, q1.set _ _ (by omega), by rw [List.length_set]; exact q2, ?_⟩⟩
    rw [List.drop_set, if_neg (by omega), List.take_set, q3, Nat.add_sub_cancel_left]
theorem vrc_set (a x y : Int) : ∀ (vs : List (Int × Int)) (p : Nat), vs[p]? = some (a, y) → rowOf vrc (vs.set p (a, x)) = (rowOf vrc vs).set (p * 2 + 1) (.int .u64 x) := by
  intro vs
  induction vs with
  | nil => intro p h; simp at h
  | cons v vs ih =>
    intro p h
    cases p with
    | zero => simp at h; subst h; rfl
    | succ p =>
      rw [List.getElem?_cons_succ] at h
      have := ih p h
      rw [List.set_cons_succ]
      unfold rowOf at this ⊢
      rw [List.flatMap_cons, List.flatMap_cons, this, show (p + 1) * 2 + 1 = (p * 2 + 1) + 1 + 1 by omega]
      rfl
theorem c_OddV (v : Int) (w : World) (v0 : 0 ≤ v) (v1 : v < 18446744073709551616) : Calls Tryz.prog 189 #[.int .u64 v] w fun e w' => e = .returned (.bool (decide (v % 2 = 1))) ∧ w = w' := by
  have h := u64_mark v v0 v1
  go_enter Tryz.func189, Tryz.ntmps189
  go_wp2
  go_ret
  exact ⟨ret_bool (by rw [Bool.eq_iff_iff]; simp), rfl⟩
section
variable {w w0 : World} {O O0 : Om} {B : Wb} {f : Cf} {s : AW} {k X : Nat} {key : ByteArray} {dv av vv sv : Value} {z : Lkm}
set_option maxHeartbeats 4000000 in
set_option maxRecDepth 100000 in
theorem c_LkSecond {a y : Int} (M : Me k (k + 3) w0 O0 w O B f s k X (lkCs key dv av vv sv z)) (hS : Sls w O (k + 1) 2 vv z.vs.length (rowOf vrc z.vs)) (hv : z.vs[z.pos]? = some (a, y)) (hdv : dv = lkDo 2) (hl : z.vs.length ≤ 8) (a0 : 0 ≤ a) (a1 : a < 256) (hk : 10 ≤ k) (n0 : 0 ≤ s.n) (n1 : s.n ≤ 4611686018427387904) (l0 : 0 ≤ z.left) (l1 : z.left ≤ 9223372036854775807) :
    Calls Tryz.prog 144 #[.pointer (some ⟨X, 0, none⟩), .pointer (some ⟨B.p, 0, none⟩)] w fun e w' => e = .returned (.tuple #[]) ∧ ∃ G, Lw w0 O0 w O w' G B f (if s.M a % 2 = 1 then lkAgain (awLoad a s) { z with vs := z.vs.set z.pos (a, s.M a) } else (awLoad a s, { z with vs := z.vs.set z.pos (a, s.M a), pos := z.pos + 1, ln := if z.pos + 1 = z.vs.length then 3 else 2 })).1 k X (lkCs key (lkDo (if s.M a % 2 = 1 then lkAgain (awLoad a s) { z with vs := z.vs.set z.pos (a, s.M a) } else (awLoad a s, { z with vs := z.vs.set z.pos (a, s.M a), pos := z.pos + 1, ln := if z.pos + 1 = z.vs.length then 3 else 2 })).2.ln) av vv sv (if s.M a % 2 = 1 then lkAgain (awLoad a s) { z with vs := z.vs.set z.pos (a, s.M a) } else (awLoad a s, { z with vs := z.vs.set z.pos (a, s.M a), pos := z.pos + 1, ln := if z.pos + 1 = z.vs.length then 3 else 2 })).2) ∧ Sls w' G (k + 1) 2 vv z.vs.length (rowOf vrc (z.vs.set z.pos (a, s.M a))) := by
  obtain ⟨r, hr⟩ : ∃ r, r = (if s.M a % 2 = 1 then lkAgain (awLoad a s) { z with vs := z.vs.set z.pos (a, s.M a) } else (awLoad a s, { z with vs := z.vs.set z.pos (a, s.M a), pos := z.pos + 1, ln := if z.pos + 1 = z.vs.length then 3 else 2 })) := ⟨_, rfl⟩
  rw [← hr]
  have HR := Lib.hid hr
  have HDV := Lib.hid hdv
  clear hdv
  have hbd := M.p.bd a
  have hpl : z.pos < z.vs.length := (List.getElem?_eq_some_iff.1 hv).1
  obtain ⟨vb, vo, vc, rfl, hv1, hv2⟩ := hS.open (by omega)
  have hc0 : (rowOf vrc z.vs)[z.pos * 2]? = some (.int .u64 a) := by
    obtain ⟨h1, h2⟩ := List.getElem?_eq_some_iff.1 hv
    have := rowOf_get vrc_len z.vs z.pos 0 h1 (by decide)
    rw [h2] at this
    exact this
  have hc1 : (rowOf vrc z.vs)[z.pos * 2 + 1]? = some (.int .u64 y) := by
    obtain ⟨h1, h2⟩ := List.getElem?_eq_some_iff.1 hv
    have := rowOf_get vrc_len z.vs z.pos 1 h1 (by decide)
    rw [h2] at this
    exact this
  have HVS := Lib.hid (vrc_set a (s.M a) y z.vs z.pos hv)
  have HLN := Lib.hid (List.getElem?_eq_some_iff.1 hc1).1
  have q6 : w.cell? ⟨X, 6, none⟩ = some (.slice (some ⟨vb, vo, none⟩) z.vs.length vc) := M.t.c 6 _ rfl
  have q7 : w.cell? ⟨X, 7, none⟩ = some (.int .i64 z.pos) := M.t.c 7 _ rfl
  have HO := Lib.hid (fun W => c_OddV (s.M a) W hbd.1 hbd.2)
  have HLO := Lib.hid (fun (W : World) (G : Om) (hp : PW W G B f s) (hh : ∀ j, G j ≠ 0 → j < W.heap.size) => c_LoadP a hp hh a0 (by omega) n0 n1)
  have HJ0 := Lib.hid (And.intro (show Lw w0 O0 w O w O B f s k X (lkCs key dv av (.slice (some ⟨vb, vo, none⟩) z.vs.length vc) sv z) from ⟨M, Ext.refl M.e.hi⟩) hS)
  obtain ⟨n, hn⟩ : ∃ n, n = z.vs.length := ⟨_, rfl⟩
  rw [← hn] at q6 hpl hl HJ0 hv1 ⊢
  obtain ⟨ps, hps⟩ : ∃ n, n = z.pos := ⟨_, rfl⟩
  rw [← hps] at q7 hpl hc0 hc1 HVS HLN ⊢
  have HN := Lib.hid (And.intro hn hps)
  clear hn hps hv hr hbd M hS
  go_enter Tryz.func144, Tryz.ntmps144
  go_upto_region 0 with fail
  go_quiet (fail)
  obtain ⟨wq, hwq⟩ : ∃ W, W = w.drewN nq := ⟨_, rfl⟩
  have hbq : Below w.heap.size w wq := by rw [hwq]; exact below_drewN (Below.refl _ _) nq
  rw [← hwq]
  have HJ := Lib.hid (And.intro (HJ0.out.1.below hbq) (HJ0.out.2.below hbq))
  clear hbq hwq HJ0 q6 q7
  have p0 := HJ.out.1.m.p.wo.c0
  have q0 : wq.cell? ⟨vb, vo + ps * 2, none⟩ = some (.int .u64 a) := HJ.out.2.c _ _ hc0
  have HJ' := Lib.hid (And.intro (HJ.out.1.below (drew_below _)) (HJ.out.2.below (drew_below _)))
  clear HJ
  have HJ := HJ'
  clear HJ'
  go_upto_region 1 with fail
  go_region_held3 (fun w' => w'.cell? ⟨vb, vo + ps * 2, none⟩ = some (.int .u64 a) ∧ w'.cell? ⟨B.p, 0, none⟩ = some (.pointer (some ⟨B.c, 0, none⟩))) (go_keep)
    (first
      | (go_at_call 143
         refine (HLO.out _ _ HJ.out.1.m.p HJ.out.1.m.e.hi).mono ?_
         rintro e w1 ⟨rfl, G1, e1, p1⟩
         replace HJ := Lib.hid (And.intro (HJ.out.1.world hk e1 p1) (HJ.out.2.ext e1 (fun h => by have := h.2; omega)))
         clear e1 p1
         have p0 := HJ.out.1.m.p.wo.c0
         have q0 : w1.cell? ⟨vb, vo + ps * 2, none⟩ = some (.int .u64 a) := HJ.out.2.c _ _ hc0
         have q1 : w1.cell? ⟨vb, vo + ps * 2 + 1, none⟩ = some (.int .u64 y) := HJ.out.2.c (ps * 2 + 1) _ hc1
         have f1 := HJ.out.2.f (vo + ps * 2 + 1)
         have e8 := Ext.of_set (j := vo + ps * 2 + 1) (v := .int .u64 (s.M a)) (S := fun t => t = k + 1) HJ.out.1.m.e.hi HJ.out.2.lt.2 (by omega) rfl
         have HJ8 := Lib.hid (And.intro (HJ.out.1.own hk e8 (.inl rfl)) (HJ.out.2.set (ps * 2 + 1) (.int .u64 (s.M a)) HLN.out))
         clear e8
         rw [show vo + (ps * 2 + 1) = vo + ps * 2 + 1 by omega] at HJ8
         have y0 := HJ8.out.2.c (ps * 2) _ (by rw [List.getElem?_set_ne (by omega)]; exact hc0)
         have y1 := HJ8.out.1.m.p.wo.c0))
  rw [← HVS.out] at HJ8
  obtain ⟨w8, hw8⟩ : ∃ W, W = w1.setCell ⟨vb, vo + ps * 2 + 1, none⟩ (.int .u64 (s.M a)) := ⟨_, rfl⟩
  rw [← hw8] at HJ8 ⊢
  rename_i hheld
  clear hheld p0 q0 q1 f1 y0 y1 hw8 HJ
  have q1 : w8.cell? ⟨vb, vo + ps * 2 + 1, none⟩ = some (.int .u64 (s.M a)) := HJ8.out.2.c (ps * 2 + 1) _ (by rw [HVS.out]; exact List.getElem?_set_self HLN.out)
  obtain ⟨t, ht⟩ : ∃ t, t = decide (s.M a % 2 = 1) := ⟨_, rfl⟩
  rw [← ht] at HO
  have HT := Lib.hid ht
  clear ht
  go_wp2_with fail
  refine (HO.out _).mono ?_
  rintro e w' ⟨rfl, rfl⟩
  cases t with
  | true =>
    have hr := HR.out
    rw [if_pos (of_decide_eq_true HT.out.symm)] at hr
    have HA := Lib.hid (c_LkAgain (z := { z with vs := z.vs.set z.pos (a, s.M a) }) (show Me k (k + 3) w0 O0 w8 G1 B f (awLoad a s) k X (lkCs key dv av (.slice (some ⟨vb, vo, none⟩) n vc) sv { z with vs := z.vs.set z.pos (a, s.M a) }) from HJ8.out.1.m) hk l0 l1)
    replace HR := Lib.hid hr
    clear hr
    go_wp2_with fail
    refine HA.out.mono ?_
    rintro e w9 ⟨rfl, G9, m9, e9⟩
    have HF := Lib.hid (And.intro (And.intro m9 (HJ8.out.1.x.trans (e9.mono fun t _ ht => SX.mono (Nat.le_refl _) (by omega) ht))) (HJ8.out.2.ext e9 (fun h => by unfold SX at h; omega)))
    clear m9 e9
    go_wp2_with fail
    refine bodyPost_ret (v := .tuple #[]) (results_none (by rfl) _ _ _) rfl ?_
    rw [HR.out]
    exact ⟨rfl, G9, ⟨HF.out.1.1, HF.out.1.2⟩, HF.out.2⟩
  | false =>
    have hr := HR.out
    rw [if_neg (of_decide_eq_false HT.out.symm)] at hr
    replace HR := Lib.hid hr
    clear hr
    have q7 := HJ8.out.1.m.t.c 7 _ rfl
    rw [← HN.out.2] at q7
    have f7 := HJ8.out.1.m.t.f 7
    have hw : IntKind.i64.wrap ((ps : Int) + 1) = (ps : Int) + 1 := by simp [IntKind.wrap, IntKind.bits, IntKind.signed]; omega
    have e9 := Ext.of_set (j := 7) (v := .int .i64 ((ps : Int) + 1)) (S := fun t => t = k) HJ8.out.1.m.e.hi HJ8.out.1.m.t.o (by omega) rfl
    have HJ9 := Lib.hid (And.intro (HJ8.out.1.set hk 7 (.int .i64 ((ps : Int) + 1)) (by simp [lkCs])) (HJ8.out.2.ext e9 (by omega)))
    obtain ⟨w9, hw9⟩ : ∃ W, W = w8.setCell ⟨X, 7, none⟩ (.int .i64 ((ps : Int) + 1)) := ⟨_, rfl⟩
    rw [← hw9] at HJ9
    clear e9
    go_upto_region 5 with fail
    rw [← hw9]
    clear hw9 q7 f7 HJ8 hw q1
    have q6 : w9.cell? ⟨X, 6, none⟩ = some (.slice (some ⟨vb, vo, none⟩) n vc) := HJ9.out.1.m.t.c 6 _ rfl
    have q7 : w9.cell? ⟨X, 7, none⟩ = some (.int .i64 ((ps : Int) + 1)) := HJ9.out.1.m.t.c 7 _ rfl
    go_quiet (fail)
    have HJQ := Lib.hid (And.intro (HJ9.out.1.below (below_drewN (Below.refl _ _) nq)) (HJ9.out.2.below (below_drewN (Below.refl _ _) nq)))
    obtain ⟨wq, hwq⟩ : ∃ W, W = w9.drewN nq := ⟨_, rfl⟩
    rw [← hwq] at HJQ ⊢
    clear q6 q7 hwq HJ9
    have q3 : wq.cell? ⟨X, 3, none⟩ = some dv := HJQ.out.1.m.t.c 3 _ rfl
    have f3 := HJQ.out.1.m.t.f 3
    have e10 := Ext.of_set (j := 3) (v := fnv 191) (S := fun t => t = k) HJQ.out.1.m.e.hi HJQ.out.1.m.t.o (by omega) rfl
    have HJ3 := Lib.hid (And.intro (HJQ.out.1.set hk 3 (fnv 191) (by simp [lkCs])) (HJQ.out.2.ext e10 (by omega)))
    unfold fnv at HJ3
    clear e10
    by_cases he : ps + 1 = n
    · have d : ((ps : Int) + 1 == n) = true := by simp; omega
      rw [d]
      have he2 : z.pos + 1 = z.vs.length := by rw [← HN.out.1, ← HN.out.2]; exact he
      have hr := HR.out
      rw [if_pos he2] at hr
      replace HR := Lib.hid hr
      clear hr d he he2
      go_wp2_with fail
      go_end0
      rw [HR.out]
      refine ⟨rfl, G1, ?_, HJ3.out.2⟩
      have h := HJ3.out.1
      rw [HN.out.2] at h
      exact h
    · have d : ((ps : Int) + 1 == n) = false := by simp; omega
      rw [d]
      have he2 : ¬ z.pos + 1 = z.vs.length := by rw [← HN.out.1, ← HN.out.2]; exact he
      have hr := HR.out
      rw [if_neg he2] at hr
      replace HR := Lib.hid hr
      clear hr d he he2
      go_wp2_with fail
      go_end0
      rw [HR.out]
      refine ⟨rfl, G1, ?_, HJQ.out.2⟩
      have h := HJQ.out.1
      rw [HN.out.2, HDV.out] at h
      exact h
end
end
section
open Go.RowKit
set_option linter.unusedVariables false
section
variable {w w0 : World} {O O0 : Om} {B : Wb} {f : Cf} {s : AW} {k X : Nat} {key : ByteArray} {dv av vv sv : Value} {z : Lkm}
set_option maxHeartbeats 4000000 in
set_option maxRecDepth 100000 in
theorem c_LkSixth {a y : Int} (M : Me k (k + 3) w0 O0 w O B f s k X (lkCs key dv av vv sv z)) (hS : Sls w O (k + 1) 2 vv z.vs.length (rowOf vrc z.vs)) (hv : z.vs[z.pos]? = some (a, y)) (hdv : dv = lkDo 7) (hl : z.vs.length ≤ 8) (a0 : 0 ≤ a) (a1 : a < 256) (hk : 10 ≤ k) (n0 : 0 ≤ s.n) (n1 : s.n ≤ 4611686018427387904) (l0 : 0 ≤ z.left) (l1 : z.left ≤ 9223372036854775807) :
    Calls Tryz.prog 282 #[.pointer (some ⟨X, 0, none⟩), .pointer (some ⟨B.p, 0, none⟩)] w fun e w' => e = .returned (.tuple #[]) ∧ ∃ G, Lw w0 O0 w O w' G B f (if s.M a ≠ y then lkAgain (awLoad a s) z else (awLoad a s, { z with pos := z.pos + 1, ln := if z.pos + 1 = z.vs.length then 0 else 7 })).1 k X (lkCs key (lkDo (if s.M a ≠ y then lkAgain (awLoad a s) z else (awLoad a s, { z with pos := z.pos + 1, ln := if z.pos + 1 = z.vs.length then 0 else 7 })).2.ln) av vv sv (if s.M a ≠ y then lkAgain (awLoad a s) z else (awLoad a s, { z with pos := z.pos + 1, ln := if z.pos + 1 = z.vs.length then 0 else 7 })).2) ∧ Sls w' G (k + 1) 2 vv z.vs.length (rowOf vrc z.vs) := by
  obtain ⟨r, hr⟩ : ∃ r, r = (if s.M a ≠ y then lkAgain (awLoad a s) z else (awLoad a s, { z with pos := z.pos + 1, ln := if z.pos + 1 = z.vs.length then 0 else 7 })) := ⟨_, rfl⟩
  rw [← hr]
  have HR := Lib.hid hr
  have HDV := Lib.hid hdv
  clear hdv
  have hbd := M.p.bd a
  have hpl : z.pos < z.vs.length := (List.getElem?_eq_some_iff.1 hv).1
  obtain ⟨vb, vo, vc, rfl, hv1, hv2⟩ := hS.open (by omega)
  have hc0 : (rowOf vrc z.vs)[z.pos * 2]? = some (.int .u64 a) := by
    obtain ⟨h1, h2⟩ := List.getElem?_eq_some_iff.1 hv
    have := rowOf_get vrc_len z.vs z.pos 0 h1 (by decide)
    rw [h2] at this
    exact this
  have hc1 : (rowOf vrc z.vs)[z.pos * 2 + 1]? = some (.int .u64 y) := by
    obtain ⟨h1, h2⟩ := List.getElem?_eq_some_iff.1 hv
    have := rowOf_get vrc_len z.vs z.pos 1 h1 (by decide)
    rw [h2] at this
    exact this
  have q6 : w.cell? ⟨X, 6, none⟩ = some (.slice (some ⟨vb, vo, none⟩) z.vs.length vc) := M.t.c 6 _ rfl
  have q7 : w.cell? ⟨X, 7, none⟩ = some (.int .i64 z.pos) := M.t.c 7 _ rfl
  have q0 : w.cell? ⟨vb, vo + z.pos * 2, none⟩ = some (.int .u64 a) := hS.c _ _ hc0
  have q1 : w.cell? ⟨vb, vo + z.pos * 2 + 1, none⟩ = some (.int .u64 y) := hS.c (z.pos * 2 + 1) _ hc1
  have hXl := M.t.lt
  have hVl := hS.lt.1
  have HLO := Lib.hid (fun (W : World) (G : Om) (hp : PW W G B f s) (hh : ∀ j, G j ≠ 0 → j < W.heap.size) => c_LoadP a hp hh a0 (by omega) n0 n1)
  have HJ0 := Lib.hid (And.intro (show Lw w0 O0 w O w O B f s k X (lkCs key dv av (.slice (some ⟨vb, vo, none⟩) z.vs.length vc) sv z) from ⟨M, Ext.refl M.e.hi⟩) hS)
  obtain ⟨n, hn⟩ : ∃ n, n = z.vs.length := ⟨_, rfl⟩
  rw [← hn] at q6 hpl hl HJ0 hv1 ⊢
  obtain ⟨ps, hps⟩ : ∃ n, n = z.pos := ⟨_, rfl⟩
  rw [← hps] at q7 hpl hc0 hc1 q0 q1
  have HN := Lib.hid (And.intro hn hps)
  clear hn hps hv hr hbd M hS hc0 hc1
  go_enter Tryz.func282, Tryz.ntmps282
  go_upto_region 0 with fail
  go_region_held3 (fun w' => w'.cell? ⟨X, 6, none⟩ = some (.slice (some ⟨vb, vo, none⟩) n vc) ∧ w'.cell? ⟨X, 7, none⟩ = some (.int .i64 ps) ∧ w'.cell? ⟨vb, vo + ps * 2, none⟩ = some (.int .u64 a) ∧ w'.cell? ⟨vb, vo + ps * 2 + 1, none⟩ = some (.int .u64 y)) (go_keep)
    (fail)
  rename_i hheld
  clear hheld
  have hbA : Below w.heap.size w ((w.alloc (.cells #[.int .u64 a, .int .u64 y] 260)).drew) := (alloc_below w _).drew
  have BXA := (Bx.new HJ0.out.1.m.e.hi #[.int .u64 a, .int .u64 y] 260 w.heap.size rfl).below (drew_below _)
  obtain ⟨wA, hwA⟩ : ∃ W, W = (w.alloc (.cells #[.int .u64 a, .int .u64 y] 260)).drew := ⟨_, rfl⟩
  rw [← hwA] at hbA BXA ⊢
  obtain ⟨bl, hbl⟩ : ∃ n, n = w.heap.size := ⟨_, rfl⟩
  rw [← hbl] at BXA ⊢
  have p0 := (HJ0.out.1.below hbA).m.p.wo.c0
  have l0' := BXA.c 0 _ rfl
  have l1' := BXA.c 1 _ rfl
  have HJ := Lib.hid (And.intro ((HJ0.out.1.below hbA).below (drew_below _)) (And.intro ((HJ0.out.2.below hbA).below (drew_below _)) (BXA.below (drew_below _))))
  clear hbA BXA hwA hbl HJ0 q6 q7 q0 q1 hXl hVl
  go_upto_region 1 with fail
  go_region_held3 (fun w' => w'.cell? ⟨bl, 0, none⟩ = some (.int .u64 a) ∧ w'.cell? ⟨bl, 1, none⟩ = some (.int .u64 y) ∧ w'.cell? ⟨B.p, 0, none⟩ = some (.pointer (some ⟨B.c, 0, none⟩))) (go_keep)
    (first
      | (go_at_call 143
         refine (HLO.out _ _ HJ.out.1.m.p HJ.out.1.m.e.hi).mono ?_
         rintro e w1 ⟨rfl, G1, e1, p1⟩
         replace HJ := Lib.hid (And.intro (HJ.out.1.world hk e1 p1) (And.intro (HJ.out.2.1.ext e1 (fun h => by have := h.2; omega)) (HJ.out.2.2.ext e1)))
         clear e1 p1
         have p0 := HJ.out.1.m.p.wo.c0
         have l0' := HJ.out.2.2.c 0 _ rfl
         have l1' := HJ.out.2.2.c 1 _ rfl))
  rename_i hheld
  clear hheld p0 l0' l1'
  by_cases h : s.M a = y
  · have hr := HR.out
    rw [if_neg (by rw [h]; exact fun e => e rfl)] at hr
    replace HR := Lib.hid hr
    clear hr
    have d : (s.M a != y) = false := by simp [h]
    rw [d]
    clear h d
    have q7 := HJ.out.1.m.t.c 7 _ rfl
    rw [← HN.out.2] at q7
    have f7 := HJ.out.1.m.t.f 7
    have hw : IntKind.i64.wrap ((ps : Int) + 1) = (ps : Int) + 1 := by simp [IntKind.wrap, IntKind.bits, IntKind.signed]; omega
    have e9 := Ext.of_set (j := 7) (v := .int .i64 ((ps : Int) + 1)) (S := fun t => t = k) HJ.out.1.m.e.hi HJ.out.1.m.t.o (by omega) rfl
    have HJ9 := Lib.hid (And.intro (HJ.out.1.set hk 7 (.int .i64 ((ps : Int) + 1)) (by simp [lkCs])) (HJ.out.2.1.ext e9 (by omega)))
    obtain ⟨w9, hw9⟩ : ∃ W, W = w1.setCell ⟨X, 7, none⟩ (.int .i64 ((ps : Int) + 1)) := ⟨_, rfl⟩
    rw [← hw9] at HJ9
    clear e9
    go_upto_region 4 with fail
    rw [← hw9]
    clear hw9 q7 f7 HJ hw
    have q6 : w9.cell? ⟨X, 6, none⟩ = some (.slice (some ⟨vb, vo, none⟩) n vc) := HJ9.out.1.m.t.c 6 _ rfl
    have q7 : w9.cell? ⟨X, 7, none⟩ = some (.int .i64 ((ps : Int) + 1)) := HJ9.out.1.m.t.c 7 _ rfl
    go_quiet (fail)
    have HJQ := Lib.hid (And.intro (HJ9.out.1.below (below_drewN (Below.refl _ _) nq)) (HJ9.out.2.below (below_drewN (Below.refl _ _) nq)))
    obtain ⟨wq, hwq⟩ : ∃ W, W = w9.drewN nq := ⟨_, rfl⟩
    rw [← hwq] at HJQ ⊢
    clear q6 q7 hwq HJ9
    have q3 : wq.cell? ⟨X, 3, none⟩ = some dv := HJQ.out.1.m.t.c 3 _ rfl
    have f3 := HJQ.out.1.m.t.f 3
    have e10 := Ext.of_set (j := 3) (v := .nilFunc) (S := fun t => t = k) HJQ.out.1.m.e.hi HJQ.out.1.m.t.o (by omega) rfl
    have HJ3 := Lib.hid (And.intro (HJQ.out.1.set hk 3 .nilFunc (by simp [lkCs])) (HJQ.out.2.ext e10 (by omega)))
    clear e10
    by_cases he : ps + 1 = n
    · have d : ((ps : Int) + 1 == n) = true := by simp; omega
      rw [d]
      have he2 : z.pos + 1 = z.vs.length := by rw [← HN.out.1, ← HN.out.2]; exact he
      have hr := HR.out
      rw [if_pos he2] at hr
      replace HR := Lib.hid hr
      clear hr d he he2
      go_wp2_with fail
      go_end0
      rw [HR.out]
      refine ⟨rfl, G1, ?_, HJ3.out.2⟩
      have h := HJ3.out.1
      rw [HN.out.2] at h
      exact h
    · have d : ((ps : Int) + 1 == n) = false := by simp; omega
      rw [d]
      have he2 : ¬ z.pos + 1 = z.vs.length := by rw [← HN.out.1, ← HN.out.2]; exact he
      have hr := HR.out
      rw [if_neg he2] at hr
      replace HR := Lib.hid hr
      clear hr d he he2
      go_wp2_with fail
      go_end0
      rw [HR.out]
      refine ⟨rfl, G1, ?_, HJQ.out.2⟩
      have h := HJQ.out.1
      rw [HN.out.2, HDV.out] at h
      exact h
  · have hr := HR.out
    rw [if_pos h] at hr
    replace HR := Lib.hid hr
    clear hr
    have d : (s.M a != y) = true := by simp [h]
    rw [d]
    clear h d
    have HA := Lib.hid (c_LkAgain HJ.out.1.m hk l0 l1)
    go_wp2_with fail
    refine HA.out.mono ?_
    rintro e w9 ⟨rfl, G9, m9, e9⟩
    have HF := Lib.hid (And.intro (And.intro m9 (HJ.out.1.x.trans (e9.mono fun t _ ht => SX.mono (Nat.le_refl _) (by omega) ht))) (HJ.out.2.1.ext e9 (fun h => by unfold SX at h; omega)))
    clear m9 e9
    go_wp2_with fail
    refine bodyPost_ret (v := .tuple #[]) (results_none (by rfl) _ _ _) rfl ?_
    rw [HR.out]
    exact ⟨rfl, G9, ⟨HF.out.1.1, HF.out.1.2⟩, HF.out.2⟩
end
end
section
open Go.RowKit
set_option linter.unusedVariables false
/-- The struct, the versions, the places. -/
structure Tw (w0 : World) (O0 : Om) (w : World) (O : Om) (B : Wb) (f : Cf) (s : AW) (k X : Nat) (cs : List Value) (av vv : Value) (z : Lkm) : Prop where
  m : Me k (k + 3) w0 O0 w O B f s k X cs
  a : An w O 0 2 av z.all.length (rowOf plc z.all)
  v : Sls w O (k + 1) 2 vv z.vs.length (rowOf vrc z.vs)
section
variable {w0 w w1 : World} {O0 O O1 : Om} {B : Wb} {f : Cf} {s s1 : AW} {k X : Nat} {cs : List Value} {av vv : Value} {z : Lkm}
theorem Tw.below (h : Tw w0 O0 w O B f s k X cs av vv z) (hb : Below w.heap.size w w1) : Tw w0 O0 w1 O B f s k X cs av vv z := ⟨h.m.below hb, h.a.below hb, h.v.below hb⟩
theorem Tw.world (h : Tw w0 O0 w O B f s k X cs av vv z) (hk : 10 ≤ k) (e : Ext SW O w O1 w1) (hp : PW w1 O1 B f s1) : Tw w0 O0 w1 O1 B f s1 k X cs av vv z := ⟨h.m.world hk e hp, h.a.ext e (.inl rfl), h.v.ext e (fun h => by have := h.2; omega)⟩
theorem Tw.set (h : Tw w0 O0 w O B f s k X cs av vv z) (hk : 10 ≤ k) (j : Nat) (v : Value) (hj : j < cs.length) : Tw w0 O0 (w.setCell ⟨X, j, none⟩ v) O B f s k X (cs.set j v) av vv z := by
  have e := Ext.of_set (j := j) (v := v) (S := fun t => t = k) h.m.e.hi h.m.t.o (by omega) rfl
  exact ⟨h.m.set hk (Nat.le_refl _) (by omega) j v hj, h.a.ext e (.inl rfl), h.v.ext e (by omega)⟩
theorem Tw.own (h : Tw w0 O0 w O B f s k X cs av vv z) (hk : 10 ≤ k) (e : Ext (fun j => j = k + 3) O w O1 w1) : Tw w0 O0 w1 O1 B f s k X cs av vv z :=
  ⟨⟨h.m.e.trans (e.mono fun t _ ht => .inr (by omega)), h.m.p.ext e (by omega) (by omega) (by omega) (by omega), h.m.t.ext e (by omega)⟩, h.a.ext e (.inl rfl), h.v.ext e (by omega)⟩
end
section
variable {w w0 : World} {O O0 : Om} {B : Wb} {f : Cf} {s : AW} {k X : Nat} {key : ByteArray} {dv av vv sv : Value} {z : Lkm}
set_option maxHeartbeats 8000000 in
set_option maxRecDepth 100000 in
theorem c_LkTags {b q : Int} (M : Tw w0 O0 w O B f s k X (lkCs key dv av vv sv z) av vv z) (hv : z.all[z.pos]? = some (b, q)) (hpk : PlOk (b, q)) (hl : z.all.length ≤ 8) (hk : 10 ≤ k) (n0 : 0 ≤ s.n) (n1 : s.n ≤ 4611686018427387904) :
    Calls Tryz.prog 223 #[.pointer (some ⟨X, 0, none⟩), .pointer (some ⟨B.p, 0, none⟩)] w fun e w' => e = .returned (.tuple #[]) ∧ ∃ G sv', Tw w0 O0 w' G B f (awLoad (plTags b q) s) k X (lkCs key (lkDo (lkOn { z with sl := twHas (s.M (plTags b q)) (fnvTag (kyH key)) }).ln) av vv sv' (lkOn { z with sl := twHas (s.M (plTags b q)) (fnvTag (kyH key)) })) av vv z ∧ An w' G (k + 3) 1 sv' (twHas (s.M (plTags b q)) (fnvTag (kyH key))).length (ints (twHas (s.M (plTags b q)) (fnvTag (kyH key)))) := by
  have hb : 1 ≤ b ∧ b ≤ 12 := ⟨hpk.1, hpk.2.1⟩
  have hq : 0 ≤ q ∧ q < fnvSize b := hpk.2.2
  have hs := fnvSize_bd b
  have hts : 4096 ≤ plTags b q ∧ plTags b q < 18446744073709551616 := by rw [plTags_in hq]; omega
  have hbd := M.m.p.bd (plTags b q)
  have hy : 0 ≤ kyH key ∧ kyH key < 18446744073709551616 := fnvHash_bd _
  have htg := fnvTag_bd (kyH key) hy.1 hy.2
  have HTS := Lib.hid (fun W => c_Tags b q W (by omega) (by omega) (by omega) (by omega))
  have HTG := Lib.hid (fun W => c_fTag (kyH key) W hy.1 hy.2)
  have HHAS := Lib.hid (fun (W : World) (G : Om) (hh : ∀ j, G j ≠ 0 → j < W.heap.size) => c_Has (s.M (plTags b q)) (fnvTag (kyH key)) (k + 3) (by omega) W G hbd.1 hbd.2 htg.1 htg.2 hh)
  have HLO := Lib.hid (fun (W : World) (G : Om) (hp : PW W G B f s) (hh : ∀ j, G j ≠ 0 → j < W.heap.size) => c_LoadP (plTags b q) hp hh (by omega) hts.2 n0 n1)
  have hpl : z.pos < z.all.length := (List.getElem?_eq_some_iff.1 hv).1
  obtain ⟨L, hLL⟩ : ∃ L, L = twHas (s.M (plTags b q)) (fnvTag (kyH key)) := ⟨_, rfl⟩
  have hL4 : L.length ≤ 4 := by rw [hLL]; exact twHas_len _ _
  rw [← hLL] at HHAS ⊢
  obtain ⟨a, ha⟩ : ∃ a, a = plTags b q := ⟨_, rfl⟩
  rw [← ha] at HTS HLO HHAS ⊢
  obtain ⟨v, hv2⟩ : ∃ v, v = s.M a := ⟨_, rfl⟩
  rw [← hv2] at HLO HHAS
  obtain ⟨tg, htg2⟩ : ∃ v, v = fnvTag (kyH key) := ⟨_, rfl⟩
  rw [← htg2] at HTG HHAS
  obtain ⟨ab, ao, ac, rfl, ha1, ha2, -, -, hax⟩ := M.a.open (by omega) (by decide)
  have hr0 : (rowOf plc z.all)[z.pos * 2]? = some (.int .i64 b) := by
    obtain ⟨h1, h2⟩ := List.getElem?_eq_some_iff.1 hv
    have := rowOf_get plc_len z.all z.pos 0 h1 (by decide)
    rw [h2] at this
    exact this
  have hr1 : (rowOf plc z.all)[z.pos * 2 + 1]? = some (.int .i64 q) := by
    obtain ⟨h1, h2⟩ := List.getElem?_eq_some_iff.1 hv
    have := rowOf_get plc_len z.all z.pos 1 h1 (by decide)
    rw [h2] at this
    exact this
  have HAX : Hid (∀ (W : World) (G : Om) (S : AW) (cs : List Value), Tw w0 O0 W G B f S k X cs (.slice (some ⟨ab, ao, none⟩) z.all.length ac) vv z → W.cell? ⟨ab, ao + z.pos * 2, none⟩ = some (.int .i64 b) ∧ W.cell? ⟨ab, ao + z.pos * 2 + 1, none⟩ = some (.int .i64 q)) := Lib.hid (fun W G S cs h => by
    obtain ⟨b', o', c', he, -, -, -, -, hx⟩ := h.a.open (by omega) (by decide)
    cases he
    exact ⟨hx _ _ hr0, hx _ _ hr1⟩)
  obtain ⟨cs, hcs⟩ : ∃ cs, cs = lkCs key dv (.slice (some ⟨ab, ao, none⟩) z.all.length ac) vv sv z := ⟨_, rfl⟩
  obtain ⟨hx, hhx⟩ : ∃ v, v = kyH key := ⟨_, rfl⟩
  rw [← hhx] at HTG
  have hc1 : cs[1]? = some (.int .u64 hx) := by rw [hcs, hhx]; rfl
  have hc5 : cs[5]? = some (.slice (some ⟨ab, ao, none⟩) z.all.length ac) := by rw [hcs]; rfl
  have hc7 : cs[7]? = some (.int .i64 z.pos) := by rw [hcs]; rfl
  have hc8 : cs[8]? = some sv := by rw [hcs]; rfl
  have hcl : cs.length = 13 := by rw [hcs]; rfl
  rw [← hcs] at M
  have HC := Lib.hid hcs
  have HJ := Lib.hid (M.below (drew_below w))
  have q1 := M.m.t.c 1 _ hc1
  have q5 := M.m.t.c 5 _ hc5
  have q7 := M.m.t.c 7 _ hc7
  have p0 := M.m.p.wo.c0
  obtain ⟨x0, x1⟩ := HAX.out _ _ _ _ M
  obtain ⟨n, hn⟩ : ∃ n, n = z.all.length := ⟨_, rfl⟩
  rw [← hn] at hc5 q5 hpl hl HAX HJ ha1 HC
  obtain ⟨ps, hps⟩ : ∃ n, n = z.pos := ⟨_, rfl⟩
  rw [← hps] at hc7 q7 hpl HAX x0 x1
  have HN := Lib.hid (And.intro hn hps)
  have HY := Lib.hid (And.intro hLL (And.intro ha (And.intro hv2 (And.intro htg2 hhx))))
  rw [← hn]
  clear hLL ha hv2 htg2 hhx hcs hn hps hr0 hr1 hax hv hpk hb hq hs hts hbd hy htg n0 n1 M
  go_enter Tryz.func223, Tryz.ntmps223
  go_upto_region 0 with fail
  go_region_held3 (fun w' => w'.cell? ⟨X, 1, none⟩ = some (.int .u64 hx) ∧ w'.cell? ⟨X, 5, none⟩ = some (.slice (some ⟨ab, ao, none⟩) n ac) ∧ w'.cell? ⟨X, 7, none⟩ = some (.int .i64 ps) ∧ w'.cell? ⟨B.p, 0, none⟩ = some (.pointer (some ⟨B.c, 0, none⟩)) ∧ w'.cell? ⟨ab, ao + ps * 2, none⟩ = some (.int .i64 b) ∧ w'.cell? ⟨ab, ao + ps * 2 + 1, none⟩ = some (.int .i64 q)) (go_keep)
      (first
        | (go_at_call 92
           refine (HTS.out _).mono ?_
           rintro e w1 ⟨rfl, hb1⟩
           replace HJ := Lib.hid (HJ.out.below hb1)
           clear hb1
           have q1 := HJ.out.m.t.c 1 _ hc1
           have q5 := HJ.out.m.t.c 5 _ hc5
           have q7 := HJ.out.m.t.c 7 _ hc7
           have p0 := HJ.out.m.p.wo.c0
           obtain ⟨x0, x1⟩ := HAX.out _ _ _ _ HJ.out)
        | (go_at_call 47
           refine (HTG.out _).mono ?_
           rintro e w1 ⟨rfl, rfl⟩)
        | (go_at_call 143
           refine (HLO.out _ _ HJ.out.m.p HJ.out.m.e.hi).mono ?_
           rintro e w1 ⟨rfl, G1, E1, P1⟩
           replace HJ := Lib.hid (HJ.out.world hk E1 P1)
           clear E1 P1
           have q1 := HJ.out.m.t.c 1 _ hc1
           have q5 := HJ.out.m.t.c 5 _ hc5
           have q7 := HJ.out.m.t.c 7 _ hc7
           have p0 := HJ.out.m.p.wo.c0
           obtain ⟨x0, x1⟩ := HAX.out _ _ _ _ HJ.out)
        | (go_at_call 227
           refine (HHAS.out _ _ HJ.out.m.e.hi).mono ?_
           rintro e w1 ⟨vv1, rfl, G1, E1, S1⟩
           obtain ⟨so, sc, rfl, hd1, hd2⟩ := S1.shape
           replace HJ := Lib.hid (HJ.out.own hk E1)
           have HS := Lib.hid S1
           clear E1 S1
           have q1 := HJ.out.m.t.c 1 _ hc1
           have q5 := HJ.out.m.t.c 5 _ hc5
           have q7 := HJ.out.m.t.c 7 _ hc7
           have p0 := HJ.out.m.p.wo.c0
           have q8 := HJ.out.m.t.c 8 _ hc8
           have f8 := HJ.out.m.t.f 8
           obtain ⟨x0, x1⟩ := HAX.out _ _ _ _ HJ.out
           have HJ9 := Lib.hid (HJ.out.set hk 8 (.slice so L.length sc) (by omega))
           have y1 := HJ9.out.m.t.c 1 _ (by rw [List.getElem?_set_ne (by decide)]; exact hc1)
           have y5 := HJ9.out.m.t.c 5 _ (by rw [List.getElem?_set_ne (by decide)]; exact hc5)
           have y7 := HJ9.out.m.t.c 7 _ (by rw [List.getElem?_set_ne (by decide)]; exact hc7)
           have y0 := HJ9.out.m.p.wo.c0
           obtain ⟨z0, z1⟩ := HAX.out _ _ _ _ HJ9.out))
  rename_i hheld
  clear hheld
  have hcz : cs.set 8 (.slice so L.length sc) = lkCs key dv (.slice (some ⟨ab, ao, none⟩) n ac) vv (.slice so L.length sc) { z with sl := L } := by rw [HC.out]; rfl
  have HS9 := Lib.hid (HS.out.ext (Ext.of_set (j := 8) (v := .slice so L.length sc) (S := fun t => t = k) HJ.out.m.e.hi HJ.out.m.t.o (by omega) rfl) (by omega))
  rw [hcz] at HJ9
  have HON := Lib.hid (c_LkOn (z := { z with sl := L }) HJ9.out.m hk ⟨_, _, by rw [HN.out.1]⟩ ⟨_, _, rfl⟩ (by show z.all.length ≤ 8; rw [← HN.out.1]; exact hl) (by show z.pos ≤ 8; rw [← HN.out.2]; omega))
  obtain ⟨w9, hw9⟩ : ∃ W, W = w1.setCell ⟨X, 8, none⟩ (.slice so L.length sc) := ⟨_, rfl⟩
  rw [← hw9] at HJ9 HS9 HON ⊢
  clear hw9 hcz HJ HS y0 y1 y5 y7 q8 f8 x0 x1 q1 q5 q7 p0 z0 z1 hc1 hc5 hc7 hc8 hcl
  go_wp2_with fail
  refine HON.out.mono ?_
  rintro e w2 ⟨rfl, G2, m2, e2⟩
  have HF := Lib.hid (And.intro (show Tw w0 O0 w2 G2 B f (awLoad a s) k X _ (.slice (some ⟨ab, ao, none⟩) n ac) vv z from ⟨m2, HJ9.out.a.ext e2 (.inl rfl), HJ9.out.v.ext e2 (fun h => by unfold SX at h; omega)⟩) (An.of_sls (HS9.out.ext e2 (fun h => by unfold SX at h; omega))))
  clear m2 e2
  go_wp2_with fail
  go_end0
  exact ⟨rfl, G2, _, HF.out.1, HF.out.2⟩
end
end
section
open Go.RowKit
set_option linter.unusedVariables false
section
variable {w w0 : World} {O O0 : Om} {B : Wb} {f : Cf} {s : AW} {k X : Nat} {key : ByteArray} {dv av vv sv : Value} {z : Lkm}
def lkIt (key : ByteArray) (s : AW) (a : Int) (tl : List Int) (z : Lkm) : Lkm := if fdHit s.it (s.M a) key then { z with sl := tl, ref := s.M a, ln := 6 } else lkOn { z with sl := tl }
set_option maxHeartbeats 8000000 in
set_option maxRecDepth 100000 in
theorem c_LkItem {b q s0 : Int} {tl : List Int} (M : Tw w0 O0 w O B f s k X (lkCs key dv av vv sv z) av vv z) (hA : An w O (k + 3) 1 sv z.sl.length (ints z.sl)) (hsl : z.sl = s0 :: tl) (hs0 : 0 ≤ s0 ∧ s0 ≤ 3) (hv : z.all[z.pos]? = some (b, q)) (hpk : PlOk (b, q)) (hl : z.all.length ≤ 8) (hk : 10 ≤ k) (hil : s.it.length ≤ 1000000) (n0 : 0 ≤ s.n) (n1 : s.n ≤ 4611686018427387904) :
    Calls Tryz.prog 265 #[.pointer (some ⟨X, 0, none⟩), .pointer (some ⟨B.p, 0, none⟩)] w fun e w' => e = .returned (.tuple #[]) ∧ ∃ G sv', Tw w0 O0 w' G B f (awLoad (plItem b q s0) s) k X (lkCs key (lkDo (lkIt key s (plItem b q s0) tl z).ln) av vv sv' (lkIt key s (plItem b q s0) tl z)) av vv z ∧ An w' G (k + 3) 1 sv' tl.length (ints tl) := by
  have hb : 1 ≤ b ∧ b ≤ 12 := ⟨hpk.1, hpk.2.1⟩
  have hq : 0 ≤ q ∧ q < fnvSize b := hpk.2.2
  have hsz := fnvSize_bd b
  have hp : (⟨b, q, s0⟩ : Spt).ok := ⟨hb.1, hb.2, hq.1, hq.2, hs0.1, hs0.2⟩
  have ht := hp.item
  rw [show (⟨b, q, s0⟩ : Spt).item = plItem b q s0 from rfl] at ht
  have HIT := Lib.hid (fun W => c_Item b q s0 W (by omega) (by omega) (by omega) (by omega) (by omega) (by omega))
  have HLO := Lib.hid (fun (W : World) (G : Om) (hp : PW W G B f s) (hh : ∀ j, G j ≠ 0 → j < W.heap.size) => c_LoadP (plItem b q s0) hp hh (by omega) (by omega) n0 n1)
  have hpl : z.pos < z.all.length := (List.getElem?_eq_some_iff.1 hv).1
  obtain ⟨a, ha⟩ : ∃ a, a = plItem b q s0 := ⟨_, rfl⟩
  rw [← ha] at HIT HLO ⊢
  obtain ⟨y, hy⟩ : ∃ y, y = lkIt key s a tl z := ⟨_, rfl⟩
  rw [← hy]
  have HY := Lib.hid hy
  obtain ⟨ab, ao, ac, rfl, ha1, ha2, -, -, hax⟩ := M.a.open (by omega) (by decide)
  have hm : z.sl.length = tl.length + 1 := by rw [hsl]; rfl
  rw [hm] at hA
  obtain ⟨sb, so, cp, rfl, hc1', hc2', -, -, -⟩ := hA.open (by omega) (by decide)
  have hi0 : (ints z.sl)[0]? = some (.int .i64 s0) := by rw [hsl]; rfl
  have hr0 : (rowOf plc z.all)[z.pos * 2]? = some (.int .i64 b) := by
    obtain ⟨h1, h2⟩ := List.getElem?_eq_some_iff.1 hv
    have := rowOf_get plc_len z.all z.pos 0 h1 (by decide)
    rw [h2] at this
    exact this
  have hr1 : (rowOf plc z.all)[z.pos * 2 + 1]? = some (.int .i64 q) := by
    obtain ⟨h1, h2⟩ := List.getElem?_eq_some_iff.1 hv
    have := rowOf_get plc_len z.all z.pos 1 h1 (by decide)
    rw [h2] at this
    exact this
  have HAX : Hid (∀ (W : World) (G : Om) (S : AW) (cs : List Value), Tw w0 O0 W G B f S k X cs (.slice (some ⟨ab, ao, none⟩) z.all.length ac) vv z ∧ An W G (k + 3) 1 (.slice (some ⟨sb, so, none⟩) (tl.length + 1) cp) (tl.length + 1) (ints z.sl) → W.cell? ⟨ab, ao + z.pos * 2, none⟩ = some (.int .i64 b) ∧ W.cell? ⟨ab, ao + z.pos * 2 + 1, none⟩ = some (.int .i64 q) ∧ W.cell? ⟨sb, so, none⟩ = some (.int .i64 s0)) := Lib.hid (fun W G S cs h => by
    obtain ⟨b', o', c', he, -, -, -, -, hx⟩ := h.1.a.open (by omega) (by decide)
    obtain ⟨b2, o2, c2, he2, -, -, -, -, hx2⟩ := h.2.open (by omega) (by decide)
    cases he
    cases he2
    exact ⟨hx _ _ hr0, hx _ _ hr1, hx2 0 _ hi0⟩)
  obtain ⟨cs, hcs⟩ : ∃ cs, cs = lkCs key dv (.slice (some ⟨ab, ao, none⟩) z.all.length ac) vv (.slice (some ⟨sb, so, none⟩) (tl.length + 1) cp) z := ⟨_, rfl⟩
  have hc5 : cs[5]? = some (.slice (some ⟨ab, ao, none⟩) z.all.length ac) := by rw [hcs]; rfl
  have hc7 : cs[7]? = some (.int .i64 z.pos) := by rw [hcs]; rfl
  have hc8 : cs[8]? = some (.slice (some ⟨sb, so, none⟩) (tl.length + 1) cp) := by rw [hcs]; rfl
  have hcl : cs.length = 13 := by rw [hcs]; rfl
  rw [← hcs] at M
  have HC := Lib.hid hcs
  have HJ := Lib.hid (And.intro (M.below (drew_below w)) (hA.below (drew_below w)))
  have q5 := M.m.t.c 5 _ hc5
  have q7 := M.m.t.c 7 _ hc7
  have q8 := M.m.t.c 8 _ hc8
  have p0 := M.m.p.wo.c0
  obtain ⟨x0, x1, x2⟩ := HAX.out _ _ _ _ ⟨M, hA⟩
  obtain ⟨n, hn⟩ : ∃ n, n = z.all.length := ⟨_, rfl⟩
  rw [← hn] at hc5 q5 hpl hl HAX HJ ha1 HC
  obtain ⟨ps, hps⟩ : ∃ n, n = z.pos := ⟨_, rfl⟩
  rw [← hps] at hc7 q7 hpl HAX x0 x1
  obtain ⟨m, hmm⟩ : ∃ n, n = tl.length := ⟨_, rfl⟩
  rw [← hmm] at HAX HJ HC hc8 q8 hc1' ⊢
  have HN := Lib.hid (And.intro hn (And.intro hps (And.intro hmm (And.intro hsl ha))))
  rw [← hn]
  unfold maxLen at hc2'
  clear ha hcs hn hps hr0 hr1 hax hv hpk hb hq hs0 hsz hy hp ht n0 n1 M hA hm hsl hi0 hmm
  go_enter Tryz.func265, Tryz.ntmps265
  go_upto_region 0 with fail
  go_region_held3 (fun w' => w'.cell? ⟨X, 5, none⟩ = some (.slice (some ⟨ab, ao, none⟩) n ac) ∧ w'.cell? ⟨X, 7, none⟩ = some (.int .i64 ps) ∧ w'.cell? ⟨X, 8, none⟩ = some (.slice (some ⟨sb, so, none⟩) (m + 1) cp) ∧ w'.cell? ⟨B.p, 0, none⟩ = some (.pointer (some ⟨B.c, 0, none⟩)) ∧ w'.cell? ⟨ab, ao + ps * 2, none⟩ = some (.int .i64 b) ∧ w'.cell? ⟨ab, ao + ps * 2 + 1, none⟩ = some (.int .i64 q) ∧ w'.cell? ⟨sb, so, none⟩ = some (.int .i64 s0)) (go_keep)
      (first
        | (go_at_call 93
           refine (HIT.out _).mono ?_
           rintro e w1 ⟨rfl, hb1⟩
           replace HJ := Lib.hid (And.intro (HJ.out.1.below hb1) (HJ.out.2.below hb1))
           clear hb1
           have q5 := HJ.out.1.m.t.c 5 _ hc5
           have q7 := HJ.out.1.m.t.c 7 _ hc7
           have q8 := HJ.out.1.m.t.c 8 _ hc8
           have p0 := HJ.out.1.m.p.wo.c0
           obtain ⟨x0, x1, x2⟩ := HAX.out _ _ _ _ HJ.out)
        | (go_at_call 143
           refine (HLO.out _ _ HJ.out.1.m.p HJ.out.1.m.e.hi).mono ?_
           rintro e w1 ⟨rfl, G1, E1, P1⟩
           replace HJ := Lib.hid (And.intro (HJ.out.1.world hk E1 P1) (HJ.out.2.ext E1 (.inr (fun h => by have := h.2; omega))))
           clear E1 P1
           have q5 := HJ.out.1.m.t.c 5 _ hc5
           have q7 := HJ.out.1.m.t.c 7 _ hc7
           have q8 := HJ.out.1.m.t.c 8 _ hc8
           have p0 := HJ.out.1.m.p.wo.c0
           obtain ⟨x0, x1, x2⟩ := HAX.out _ _ _ _ HJ.out))
  rename_i hheld
  clear hheld
  have hdr : (ints z.sl).drop 1 = ints tl := by rw [HN.out.2.2.2.1]; rfl
  obtain ⟨o', c', hcase⟩ : ∃ (o' c' : Nat), (cp = 1 ∧ m = 0 ∧ o' = so ∧ c' = 0) ∨ (¬ cp - 1 = 0 ∧ o' = so + 1 ∧ c' = cp - 1) := by
    by_cases h1 : cp = 1
    · exact ⟨so, 0, .inl ⟨h1, by omega, rfl, rfl⟩⟩
    · exact ⟨so + 1, cp - 1, .inr ⟨by omega, rfl, rfl⟩⟩
  have hA1 : An w1 G1 (k + 3) 1 (.slice (some ⟨sb, o', none⟩) m c') m (ints tl) := by
    have h := HJ.out.2.tail (o' := o') (by rcases hcase with ⟨h1, h2, h3, h4⟩ | ⟨h1, h2, h3⟩; exact .inr ⟨h1, h3⟩; exact .inl h2)
    rw [hdr] at h
    rcases hcase with ⟨h1, h2, h3, h4⟩ | ⟨h1, h2, h3⟩
    · rw [show c' = cp - 1 by omega]; exact h
    · rw [h3]; exact h
  have HJ2 := Lib.hid (And.intro (HJ.out.1.set hk 8 (.slice (some ⟨sb, o', none⟩) m c') (by omega)) (hA1.ext (Ext.of_set (j := 8) (v := .slice (some ⟨sb, o', none⟩) m c') (S := fun t => t = k) HJ.out.1.m.e.hi HJ.out.1.m.t.o (by omega) rfl) (.inr (by omega))))
  have hcz : cs.set 8 (.slice (some ⟨sb, o', none⟩) m c') = lkCs key dv (.slice (some ⟨ab, ao, none⟩) n ac) vv (.slice (some ⟨sb, o', none⟩) m c') { z with sl := tl } := by rw [HC.out]; rfl
  rw [hcz] at HJ2
  have f8 := HJ.out.1.m.t.f 8
  have g4 := HJ.out.1.m.p.wo.c1
  have hne1 : ¬ B.p = X := fun e => by have h1 := HJ.out.1.m.p.o; have h2 := HJ.out.1.m.t.o; rw [e] at h1; omega
  have hne2 : ¬ X = B.p := fun e => hne1 e.symm
  have hbd := HJ.out.1.m.p.bd a
  obtain ⟨w2, hw2⟩ : ∃ W, W = w1.setCell ⟨X, 8, none⟩ (.slice (some ⟨sb, o', none⟩) m c') := ⟨_, rfl⟩
  rw [← hw2] at HJ2
  have HAr := Lib.hid HJ2.out.1.m.p.ar
  have HON := Lib.hid (fun (W : World) (hb : Below w2.heap.size w2 W) => c_LkOn (z := { z with sl := tl }) (HJ2.out.1.below hb).m hk ⟨_, _, by rw [HN.out.1]⟩ ⟨_, _, by rw [HN.out.2.2.1]⟩ (by show z.all.length ≤ 8; rw [← HN.out.1]; exact hl) (by show z.pos ≤ 8; rw [← HN.out.2.1]; omega))
  have HFIN : Hid (∀ (W : World) (hb : Below w2.heap.size w2 W) (G9 : Om) (w9 : World) (ds : List Value), Me k (k + 3) w0 O0 w9 G9 B f (awLoad a s) k X ds → Ext (SX k k) G1 W G9 w9 → Tw w0 O0 w9 G9 B f (awLoad a s) k X ds (.slice (some ⟨ab, ao, none⟩) n ac) vv z ∧ An w9 G9 (k + 3) 1 (.slice (some ⟨sb, o', none⟩) m c') m (ints tl)) := Lib.hid (fun W hb G9 w9 ds m9 e9 =>
    ⟨⟨m9, (HJ2.out.1.below hb).a.ext e9 (.inl rfl), (HJ2.out.1.below hb).v.ext e9 (fun h => by unfold SX at h; omega)⟩, (HJ2.out.2.below hb).ext e9 (.inr (fun h => by unfold SX at h; omega))⟩)
  clear hcz hdr HJ x0 x1 x2 q5 q7 p0 HLO HIT HAX hc5 hc7 hc8 hcl hA1
  have HC2 := Lib.hid (fdHit_at s.it (s.M a) hbd.1 hbd.2 hil)
  obtain ⟨mm, hmm⟩ : ∃ m, m = s.M a := ⟨_, rfl⟩
  rw [← hmm] at HC2 ⊢
  have HMm := Lib.hid hmm
  clear hmm hbd
  rcases HC2.out with ⟨i, x, hx, hmi, hw, hh⟩ | ⟨hn, hh⟩
  · have HAt := Lib.hid (c_IAt_yes mm i x HAr.out hil hx hmi)
    rw [hw]
    have Hh := Lib.hid (hh key)
    obtain ⟨t, ht⟩ : ∃ t, t = decide (x.key = key) := ⟨_, rfl⟩
    rw [← ht] at Hh
    have hbq : (x.key.toList == key.toList) = t := (by_beq _ _).trans ht.symm
    clear hx hmi hw hh ht HC2
    rcases hcase with ⟨rfl, rfl, rfl, rfl⟩ | ⟨hc2, rfl, rfl⟩
    all_goals
     go_wp2_with fail
     rw [← hw2]
     clear hw2 q8 f8 g4
     refine HAt.out.mono ?_
     rintro e w3 ⟨rfl, hb3⟩
     have hbb := hb3.trans ((alloc_below w3 (.cells #[.string x.key, .string x.val, .int .u32 x.fl, .int .u64 x.id, .int .i64 x.dies, .int .i64 x.gen] 32)).mono hb3.size)
     have x0 := (HJ2.out.1.below hbb).m.t.c 0 _ rfl
     clear hb3 HAt
     go_upto_region 3 with fail
     go_quiet (fail)
     cases t with
     | false =>
      go_wp2_with fail
      refine (HON.out _ (hbb.trans (below_drewN (Below.refl _ _) nq))).mono ?_
      rintro e w9 ⟨rfl, G9, m9, e9⟩
      have HF := Lib.hid (HFIN.out _ (hbb.trans (below_drewN (Below.refl _ _) nq)) G9 _ _ m9 e9)
      clear m9 e9
      go_wp2_with fail
      go_end0
      have hy := HY.out
      unfold lkIt at hy
      rw [← HMm.out, Hh.out, if_neg (by decide)] at hy
      rw [hy]
      exact ⟨rfl, G9, _, HF.out.1, HF.out.2⟩
     | true =>
      have hB := hbb.trans (below_drewN (Below.refl _ _) nq)
      have HJ3 := Lib.hid (And.intro (HJ2.out.1.below hB) (HJ2.out.2.below hB))
      obtain ⟨w5, hw5⟩ : ∃ W, W = (w3.alloc (.cells #[.string x.key, .string x.val, .int .u32 x.fl, .int .u64 x.id, .int .i64 x.dies, .int .i64 x.gen] 32)).drewN nq := ⟨_, rfl⟩
      rw [← hw5] at HJ3 ⊢
      clear hw5 hB hbb
      have q9 := HJ3.out.1.m.t.c 9 _ rfl
      have f9 := HJ3.out.1.m.t.f 9
      have q3 := HJ3.out.1.m.t.c 3 _ rfl
      have f3 := HJ3.out.1.m.t.f 3
      have e9 := Ext.of_set (j := 9) (v := .int .i64 mm) (S := fun t => t = k) HJ3.out.1.m.e.hi HJ3.out.1.m.t.o (by omega) rfl
      have t9 := HJ3.out.1.set hk 9 (.int .i64 mm) (by simp [lkCs])
      have e3 := Ext.of_set (j := 3) (v := fnv 266) (S := fun t => t = k) t9.m.e.hi t9.m.t.o (by omega) rfl
      have HF := Lib.hid (And.intro (t9.set hk 3 (fnv 266) (by simp [lkCs])) ((HJ3.out.2.ext e9 (.inr (by omega))).ext e3 (.inr (by omega))))
      unfold fnv at HF
      clear e9 t9 e3 HJ3
      go_wp2_with fail
      refine bodyPost_ret (v := .tuple #[]) (results_none (by rfl) _ _ _) rfl ?_
      have hy := HY.out
      unfold lkIt at hy
      rw [← HMm.out, Hh.out, if_pos rfl] at hy
      rw [hy]
      exact ⟨rfl, G1, _, HF.out.1, HF.out.2⟩
  · have HAt := Lib.hid (c_IAt_no _ HAr.out hil hn)
    obtain ⟨r, hr⟩ : ∃ r, r = IntKind.i64.wrap mm := ⟨_, rfl⟩
    rw [← hr] at HAt ⊢
    have Hh := Lib.hid (hh key)
    clear hn hh hr HC2
    rcases hcase with ⟨rfl, rfl, rfl, rfl⟩ | ⟨hc2, rfl, rfl⟩
    all_goals
      go_wp2_with fail
      rw [← hw2]
      clear hw2 q8 f8 g4
      refine HAt.out.mono ?_
      rintro e w3 ⟨rfl, hb3⟩
      have hbb := hb3.trans ((alloc_below w3 (.cells #[.string ⟨#[]⟩, .string ⟨#[]⟩, .int .u32 0, .int .u64 0, .int .i64 0, .int .i64 0] 32)).mono hb3.size)
      clear hb3 HAt
      go_upto_region 3 with fail
      go_quiet (fail)
      go_wp2_with fail
      refine (HON.out _ (hbb.trans (below_drewN (Below.refl _ _) nq))).mono ?_
      rintro e w9 ⟨rfl, G9, m9, e9⟩
      have HF := Lib.hid (HFIN.out _ (hbb.trans (below_drewN (Below.refl _ _) nq)) G9 _ _ m9 e9)
      clear m9 e9
      go_wp2_with fail
      go_end0
      have hy := HY.out
      unfold lkIt at hy
      rw [← HMm.out, Hh.out, if_neg (by decide)] at hy
      rw [hy]
      exact ⟨rfl, G9, _, HF.out.1, HF.out.2⟩
end
end
section
open Go.RowKit
set_option linter.unusedVariables false
theorem lkDo_cases {n : Nat} (h : n ≤ 7) : (n = 0 ∧ lkDo n = .nilFunc) ∨ (n ≠ 0 ∧ ∃ K, lkDo n = .func (.func K) #[] #[]) := by
  match n, h with
  | 0, _ => exact .inl ⟨rfl, rfl⟩
  | 1, _ => exact .inr ⟨by decide, _, rfl⟩
  | 2, _ => exact .inr ⟨by decide, _, rfl⟩
  | 3, _ => exact .inr ⟨by decide, _, rfl⟩
  | 4, _ => exact .inr ⟨by decide, _, rfl⟩
  | 5, _ => exact .inr ⟨by decide, _, rfl⟩
  | 6, _ => exact .inr ⟨by decide, _, rfl⟩
  | 7, _ => exact .inr ⟨by decide, _, rfl⟩
section
variable {w : World} {O : Om} {B : Wb} {f : Cf} {s : AW} {k X : Nat} {key : ByteArray} {z : Lkm}
theorem c_LkOver {n : Nat} (h : w.cell? ⟨X, 3, none⟩ = some (lkDo n)) (hn : n ≤ 7) : Calls Tryz.prog 324 #[.pointer (some ⟨X, 0, none⟩)] w fun e w' => e = .returned (.bool (n == 0)) ∧ w = w' := by
  rcases lkDo_cases hn with ⟨rfl, e⟩ | ⟨h0, K, e⟩
  · rw [e] at h
    exact c_LkOver0 h
  · rw [e] at h
    rw [show (n == 0) = false by simp [h0]]
    exact c_LkOver1 K h
set_option maxRecDepth 100000 in
theorem c_LkStepBy {K : FuncId} {wp : Addr} {n : Nat} {R : World → Prop} (q3 : w.cell? ⟨X, 3, none⟩ = some (.func (.func K) #[] #[])) (hK : enters K) (hn : n ≤ 7) (HC : Calls Tryz.prog K #[.pointer (some ⟨X, 0, none⟩), .pointer (some wp)] w fun e w' => e = .returned (.tuple #[]) ∧ R w') (hR : ∀ W, R W → W.cell? ⟨X, 3, none⟩ = some (lkDo n)) :
    Calls Tryz.prog 325 #[.pointer (some ⟨X, 0, none⟩), .pointer (some wp)] w fun e w' => e = .returned (.bool (n == 0)) ∧ R w' := by
  unfold enters at hK
  have HCH := Lib.hid HC
  have HRH := Lib.hid hR
  have HO := Lib.hid (c_LkOver1 K q3)
  obtain ⟨t, ht⟩ : ∃ t, t = (n == 0) := ⟨_, rfl⟩
  rw [← ht]
  have HT := Lib.hid ht
  clear HC hR ht
  go_enter Tryz.func325, Tryz.ntmps325
  go_wp2_with fail
  refine HO.out.mono ?_
  rintro e w' ⟨rfl, rfl⟩
  go_wp2_with fail
  refine HCH.out.mono ?_
  rintro e w1 ⟨rfl, hr⟩
  have HR1 := Lib.hid hr
  have HO1 := Lib.hid (c_LkOver (HRH.out _ hr) hn)
  clear hr
  rw [← HT.out] at HO1
  go_wp2_with fail
  refine HO1.out.mono ?_
  rintro e w' ⟨rfl, rfl⟩
  go_wp2_with fail
  go_ret
  exact ⟨rfl, HR1.out⟩
end
/-- What a step of a Look wants. -/
def lkB (s : AW) (z : Lkm) : Bool := decide (0 ≤ z.left ∧ z.left ≤ 1000000) && match z.ln with
  | 1 => true
  | 2 => decide (z.vs.length ≤ 8 ∧ z.pos < z.vs.length ∧ 0 ≤ (lkV z).1 ∧ (lkV z).1 < 256)
  | 3 => true
  | 4 => decide (z.all.length ≤ 8 ∧ z.pos < z.all.length) && decide (1 ≤ (lkP z).1 ∧ (lkP z).1 ≤ 12 ∧ 0 ≤ (lkP z).2 ∧ (lkP z).2 < fnvSize (lkP z).1)
  | 5 => decide (z.all.length ≤ 8 ∧ z.pos < z.all.length) && (decide (1 ≤ (lkP z).1 ∧ (lkP z).1 ≤ 12 ∧ 0 ≤ (lkP z).2 ∧ (lkP z).2 < fnvSize (lkP z).1) && (decide (s.it.length ≤ 1000000) && (!z.sl.isEmpty && decide (0 ≤ z.sl.headD 0 ∧ z.sl.headD 0 ≤ 3))))
  | 6 => true
  | 7 => decide (z.vs.length ≤ 8 ∧ z.pos < z.vs.length ∧ 0 ≤ (lkV z).1 ∧ (lkV z).1 < 256)
  | _ => false
theorem lkAgain_f (s : AW) (z : Lkm) : (lkAgain s z).2.all = z.all ∧ (lkAgain s z).2.vs = z.vs ∧ (lkAgain s z).2.sl = z.sl ∧ (lkAgain s z).2.ln ≤ 7 := by
  unfold lkAgain
  split
  · exact ⟨rfl, rfl, rfl, Nat.zero_le _⟩
  · exact ⟨rfl, rfl, rfl, Nat.le_of_ble_eq_true rfl⟩
theorem lkOn_f (z : Lkm) : (lkOn z).all = z.all ∧ (lkOn z).vs = z.vs ∧ (lkOn z).sl = z.sl ∧ (lkOn z).ln ≤ 7 := by
  unfold lkOn
  split
  · split
    · exact ⟨rfl, rfl, rfl, Nat.le_of_ble_eq_true rfl⟩
    · exact ⟨rfl, rfl, rfl, Nat.le_of_ble_eq_true rfl⟩
  · exact ⟨rfl, rfl, rfl, Nat.le_of_ble_eq_true rfl⟩
theorem lk2_f (s : AW) (z : Lkm) (a : Int) (V : List (Int × Int)) (p : Prop) [Decidable p] : (if s.M a % 2 = 1 then lkAgain (awLoad a s) { z with vs := V } else (awLoad a s, { z with vs := V, pos := z.pos + 1, ln := if p then 3 else 2 })).2.all = z.all ∧ (if s.M a % 2 = 1 then lkAgain (awLoad a s) { z with vs := V } else (awLoad a s, { z with vs := V, pos := z.pos + 1, ln := if p then 3 else 2 })).2.vs = V ∧ (if s.M a % 2 = 1 then lkAgain (awLoad a s) { z with vs := V } else (awLoad a s, { z with vs := V, pos := z.pos + 1, ln := if p then 3 else 2 })).2.sl = z.sl ∧ (if s.M a % 2 = 1 then lkAgain (awLoad a s) { z with vs := V } else (awLoad a s, { z with vs := V, pos := z.pos + 1, ln := if p then 3 else 2 })).2.ln ≤ 7 := by
  by_cases h : s.M a % 2 = 1
  · rw [if_pos h]
    exact lkAgain_f (awLoad a s) { z with vs := V }
  · rw [if_neg h]
    refine ⟨rfl, rfl, rfl, ?_⟩
    dsimp only
    split <;> exact Nat.le_of_ble_eq_true rfl
theorem lk7_f (s : AW) (z : Lkm) (a y : Int) (p : Prop) [Decidable p] : (if s.M a ≠ y then lkAgain (awLoad a s) z else (awLoad a s, { z with pos := z.pos + 1, ln := if p then 0 else 7 })).2.all = z.all ∧ (if s.M a ≠ y then lkAgain (awLoad a s) z else (awLoad a s, { z with pos := z.pos + 1, ln := if p then 0 else 7 })).2.vs = z.vs ∧ (if s.M a ≠ y then lkAgain (awLoad a s) z else (awLoad a s, { z with pos := z.pos + 1, ln := if p then 0 else 7 })).2.sl = z.sl ∧ (if s.M a ≠ y then lkAgain (awLoad a s) z else (awLoad a s, { z with pos := z.pos + 1, ln := if p then 0 else 7 })).2.ln ≤ 7 := by
  by_cases h : s.M a = y
  · rw [if_neg (fun e => e h)]
    refine ⟨rfl, rfl, rfl, ?_⟩
    dsimp only
    split <;> exact Nat.le_of_ble_eq_true rfl
  · rw [if_pos h]
    exact lkAgain_f (awLoad a s) z
theorem lk6_f (s : AW) (z : Lkm) : (if s.M 2 ≠ z.tab then lkAgain (awLoad 2 s) z else (awLoad 2 s, { z with pos := 0, ln := 7 })).2.all = z.all ∧ (if s.M 2 ≠ z.tab then lkAgain (awLoad 2 s) z else (awLoad 2 s, { z with pos := 0, ln := 7 })).2.vs = z.vs ∧ (if s.M 2 ≠ z.tab then lkAgain (awLoad 2 s) z else (awLoad 2 s, { z with pos := 0, ln := 7 })).2.sl = z.sl ∧ (if s.M 2 ≠ z.tab then lkAgain (awLoad 2 s) z else (awLoad 2 s, { z with pos := 0, ln := 7 })).2.ln ≤ 7 := by
  by_cases h : s.M 2 = z.tab
  · rw [if_neg (fun e => e h)]
    exact ⟨rfl, rfl, rfl, Nat.le_of_ble_eq_true rfl⟩
  · rw [if_pos h]
    exact lkAgain_f (awLoad 2 s) z
theorem lk5_f (key : ByteArray) (s : AW) (a : Int) (tl : List Int) (z : Lkm) : (lkIt key s a tl z).all = z.all ∧ (lkIt key s a tl z).vs = z.vs ∧ (lkIt key s a tl z).sl = tl ∧ (lkIt key s a tl z).ln ≤ 7 := by
  unfold lkIt
  split
  · exact ⟨rfl, rfl, rfl, Nat.le_of_ble_eq_true rfl⟩
  · exact lkOn_f { z with sl := tl }
theorem lkV_at {z : Lkm} (h : z.pos < z.vs.length) : z.vs[z.pos]? = some ((lkV z).1, (lkV z).2) := by
  unfold lkV
  rw [List.getElem?_eq_getElem h]; rfl
theorem lkP_at {z : Lkm} (h : z.pos < z.all.length) : z.all[z.pos]? = some ((lkP z).1, (lkP z).2) := by
  unfold lkP
  rw [List.getElem?_eq_getElem h]; rfl
/-- Behind a step. -/
def LkY (k : Nat) (w : World) (O : Om) (B : Wb) (f : Cf) (X : Nat) (key : ByteArray) (y : AW × Lkm) (W : World) : Prop := ∃ G, Ext (SX k (k + 3)) O w G W ∧ PW W G B f y.1 ∧ LkAt W G k X key y.2
section
variable {w : World} {O : Om} {B : Wb} {f : Cf} {s : AW} {k X : Nat} {key : ByteArray} {z : Lkm}
theorem LkAt.c3 (h : LkAt w O k X key z) : w.cell? ⟨X, 3, none⟩ = some (lkDo z.ln) := by
  obtain ⟨av, vv, sv, ho, -⟩ := h.ex
  exact ho.c 3 _ rfl
theorem LkAt.ext {S : Nat → Prop} {O' : Om} {w' : World} (h : LkAt w O k X key z) (e : Ext S O w O' w') (h0 : ¬ S k) (h1 : ¬ S (k + 1)) (h3 : ¬ S (k + 3)) : LkAt w' O' k X key z := by
  obtain ⟨av, vv, sv, a, b, c, d⟩ := h.ex
  exact ⟨av, vv, sv, a.ext e h0, b.ext e (.inl rfl), c.ext e h1, d.ext e (.inr h3)⟩
theorem LkAt.below {w' : World} (h : LkAt w O k X key z) (hb : Below w.heap.size w w') : LkAt w' O k X key z := by
  obtain ⟨av, vv, sv, a, b, c, d⟩ := h.ex
  exact ⟨av, vv, sv, a.below hb, b.below hb, c.below hb, d.below hb⟩
theorem c_LkStepY {K : FuncId} {y : AW × Lkm} (hd : w.cell? ⟨X, 3, none⟩ = some (.func (.func K) #[] #[])) (hK : enters K) (hn : y.2.ln ≤ 7) (HC : Calls Tryz.prog K #[.pointer (some ⟨X, 0, none⟩), .pointer (some ⟨B.p, 0, none⟩)] w fun e w' => e = .returned (.tuple #[]) ∧ LkY k w O B f X key y w') :
    Calls Tryz.prog 325 #[.pointer (some ⟨X, 0, none⟩), .pointer (some ⟨B.p, 0, none⟩)] w (RP (SX k (k + 3)) w O (.bool (y.2.ln == 0)) fun W G => PW W G B f y.1 ∧ LkAt W G k X key y.2) :=
  (c_LkStepBy hd hK hn HC fun W h => by obtain ⟨G, -, -, h⟩ := h; exact h.c3).mono fun e w' h => ⟨h.1, h.2⟩
set_option maxHeartbeats 2000000 in
theorem c_LkStep (hP : PW w O B f s) (hX : LkAt w O k X key z) (hB : lkB s z = true) (hk : 10 ≤ k) (hz : key.size ≤ maxLen) (hhi : ∀ j, O j ≠ 0 → j < w.heap.size) (n0 : 0 ≤ s.n) (n1 : s.n ≤ 4611686018427387904) :
    Calls Tryz.prog 325 #[.pointer (some ⟨X, 0, none⟩), .pointer (some ⟨B.p, 0, none⟩)] w (RP (SX k (k + 3)) w O (.bool ((lkStep key (s, z)).2.ln == 0)) fun W G => PW W G B f (lkStep key (s, z)).1 ∧ LkAt W G k X key (lkStep key (s, z)).2) := by
  have h3 := hX.c3
  obtain ⟨av, vv, sv, ho, ha, hv, hs⟩ := hX.ex
  have M := Me.start (a := k) (b := k + 3) hhi hP ho
  unfold lkB at hB
  rw [Bool.and_eq_true, decide_eq_true_eq] at hB
  obtain ⟨⟨l0, l1⟩, hB⟩ := hB
  obtain ⟨ln, left, tab, all, vs, pos, sl, ref, ep, pt, fl⟩ := z
  dsimp only at hB h3 l0 l1
  match ln, h3, hB, M, ho, ha, hv, hs with
  | 1, h3, _, M, _, _, _, hs =>
    refine c_LkStepY h3 (run_enter Tryz.func90 (by kernel_rfl) (by kernel_rfl)) (Nat.le_of_ble_eq_true rfl) ((c_LkFirst M hk n0 n1).mono ?_)
    rintro e w' ⟨rfl, G, av', vv', L, A, S⟩
    refine ⟨rfl, G, L.m.e, L.m.p, av', vv', sv, L.m.t, A, ?_, hs.ext L.x (.inr (fun h => by unfold SX at h; omega))⟩
    have hl : (vsOf (ofL (plPlaces (kyH key) (s.M 2)))).length = (ofL (plPlaces (kyH key) (s.M 2))).length := by unfold vsOf; simp
    rw [← hl] at S
    exact S
  | 2, h3, hB, M, _, ha, hv, hs =>
    obtain ⟨b1, b2, b3, b4⟩ := of_decide_eq_true hB
    have hq := c_LkSecond M hv (lkV_at (z := ⟨2, left, tab, all, vs, pos, sl, ref, ep, pt, fl⟩) b2) rfl b1 b3 b4 hk n0 n1 l0 (by dsimp only; omega)
    have hf := lk2_f s ⟨2, left, tab, all, vs, pos, sl, ref, ep, pt, fl⟩ (lkV ⟨2, left, tab, all, vs, pos, sl, ref, ep, pt, fl⟩).1 (vs.set pos ((lkV ⟨2, left, tab, all, vs, pos, sl, ref, ep, pt, fl⟩).1, s.M (lkV ⟨2, left, tab, all, vs, pos, sl, ref, ep, pt, fl⟩).1)) (pos + 1 = vs.length)
    have hlk : lkStep key (s, ⟨2, left, tab, all, vs, pos, sl, ref, ep, pt, fl⟩) = (if s.M (lkV ⟨2, left, tab, all, vs, pos, sl, ref, ep, pt, fl⟩).1 % 2 = 1 then lkAgain (awLoad (lkV ⟨2, left, tab, all, vs, pos, sl, ref, ep, pt, fl⟩).1 s) ⟨2, left, tab, all, vs.set pos ((lkV ⟨2, left, tab, all, vs, pos, sl, ref, ep, pt, fl⟩).1, s.M (lkV ⟨2, left, tab, all, vs, pos, sl, ref, ep, pt, fl⟩).1), pos, sl, ref, ep, pt, fl⟩ else (awLoad (lkV ⟨2, left, tab, all, vs, pos, sl, ref, ep, pt, fl⟩).1 s, ⟨if pos + 1 = vs.length then 3 else 2, left, tab, all, vs.set pos ((lkV ⟨2, left, tab, all, vs, pos, sl, ref, ep, pt, fl⟩).1, s.M (lkV ⟨2, left, tab, all, vs, pos, sl, ref, ep, pt, fl⟩).1), pos + 1, sl, ref, ep, pt, fl⟩)) := rfl
    dsimp only at hf hq
    rw [← hlk] at hf hq
    obtain ⟨g1, g2, g3, g4⟩ := hf
    refine c_LkStepY h3 (run_enter Tryz.func144 (by kernel_rfl) (by kernel_rfl)) g4 (hq.mono ?_)
    rintro e w' ⟨rfl, G, L, S⟩
    refine ⟨rfl, G, L.m.e, L.m.p, av, vv, sv, L.m.t, ?_, ?_, ?_⟩
    · rw [g1]; exact ha.ext L.x (.inl rfl)
    · rw [g2, List.length_set]; exact S
    · rw [g3]; exact hs.ext L.x (.inr (fun h => by unfold SX at h; omega))
  | 3, h3, _, M, _, ha, hv, hs =>
    refine c_LkStepY h3 (run_enter Tryz.func191 (by kernel_rfl) (by kernel_rfl)) (Nat.le_of_ble_eq_true rfl) ((c_LkThird M hk n0 n1).mono ?_)
    rintro e w' ⟨rfl, G, m, x⟩
    exact ⟨rfl, G, m.e, m.p, av, vv, sv, m.t, ha.ext x (.inl rfl), hv.ext x (fun h => by unfold SX at h; omega), hs.ext x (.inr (fun h => by unfold SX at h; omega))⟩
  | 4, h3, hB, M, _, ha, hv, hs =>
    change (decide _ && decide _) = true at hB
    rw [Bool.and_eq_true, decide_eq_true_eq, decide_eq_true_eq] at hB
    obtain ⟨⟨b1, b2⟩, b3⟩ := hB
    have hf := lkOn_f { (⟨4, left, tab, all, vs, pos, sl, ref, ep, pt, fl⟩ : Lkm) with sl := twHas (s.M (plTags (lkP ⟨4, left, tab, all, vs, pos, sl, ref, ep, pt, fl⟩).1 (lkP ⟨4, left, tab, all, vs, pos, sl, ref, ep, pt, fl⟩).2)) (fnvTag (kyH key)) }
    have hq := c_LkTags (z := ⟨4, left, tab, all, vs, pos, sl, ref, ep, pt, fl⟩) ⟨M, ha, hv⟩ (lkP_at b2) b3 b1 hk n0 n1
    refine c_LkStepY h3 (run_enter Tryz.func223 (by kernel_rfl) (by kernel_rfl)) hf.2.2.2 (hq.mono ?_)
    rintro e w' ⟨rfl, G, sv', T, A⟩
    refine ⟨rfl, G, T.m.e, T.m.p, av, vv, sv', T.m.t, ?_, ?_, ?_⟩
    · have := T.a; show An w' G 0 2 av (lkOn _).all.length (rowOf plc (lkOn _).all); rw [hf.1]; exact this
    · have := T.v; show Sls w' G (k + 1) 2 vv (lkOn _).vs.length (rowOf vrc (lkOn _).vs); rw [hf.2.1]; exact this
    · show An w' G (k + 3) 1 sv' (lkOn _).sl.length (ints (lkOn _).sl); rw [hf.2.2.1]; exact A
  | 5, h3, hB, M, _, ha, hv, hs =>
    change (decide _ && (decide _ && (decide _ && (!_ && decide _)))) = true at hB
    rw [Bool.and_eq_true, Bool.and_eq_true, Bool.and_eq_true, Bool.and_eq_true, decide_eq_true_eq, decide_eq_true_eq, decide_eq_true_eq, decide_eq_true_eq] at hB
    obtain ⟨⟨b1, b2⟩, b3, b4, b5, b6⟩ := hB
    cases sl with
    | nil => cases b5
    | cons s0 tl =>
      have hf := lk5_f key s (plItem (lkP ⟨5, left, tab, all, vs, pos, s0 :: tl, ref, ep, pt, fl⟩).1 (lkP ⟨5, left, tab, all, vs, pos, s0 :: tl, ref, ep, pt, fl⟩).2 s0) tl ⟨5, left, tab, all, vs, pos, s0 :: tl, ref, ep, pt, fl⟩
      have hq := c_LkItem (z := ⟨5, left, tab, all, vs, pos, s0 :: tl, ref, ep, pt, fl⟩) ⟨M, ha, hv⟩ hs rfl b6 (lkP_at b2) b3 b1 hk b4 n0 n1
      have hlk : lkStep key (s, ⟨5, left, tab, all, vs, pos, s0 :: tl, ref, ep, pt, fl⟩) = (awLoad (plItem (lkP ⟨5, left, tab, all, vs, pos, s0 :: tl, ref, ep, pt, fl⟩).1 (lkP ⟨5, left, tab, all, vs, pos, s0 :: tl, ref, ep, pt, fl⟩).2 s0) s, lkIt key s (plItem (lkP ⟨5, left, tab, all, vs, pos, s0 :: tl, ref, ep, pt, fl⟩).1 (lkP ⟨5, left, tab, all, vs, pos, s0 :: tl, ref, ep, pt, fl⟩).2 s0) tl ⟨5, left, tab, all, vs, pos, s0 :: tl, ref, ep, pt, fl⟩) := rfl
      rw [hlk]
      refine c_LkStepY h3 (run_enter Tryz.func265 (by kernel_rfl) (by kernel_rfl)) hf.2.2.2 (hq.mono ?_)
      rintro e w' ⟨rfl, G, sv', T, A⟩
      refine ⟨rfl, G, T.m.e, T.m.p, av, vv, sv', T.m.t, ?_, ?_, ?_⟩
      · have := T.a; dsimp only; rw [hf.1]; exact this
      · have := T.v; dsimp only; rw [hf.2.1]; exact this
      · dsimp only; rw [hf.2.2.1]; exact A
  | 6, h3, _, M, _, ha, hv, hs =>
    have hf := lk6_f s ⟨6, left, tab, all, vs, pos, sl, ref, ep, pt, fl⟩
    have hq := c_LkFifth M hk n0 n1 l0 (by dsimp only; omega)
    have hlk : lkStep key (s, ⟨6, left, tab, all, vs, pos, sl, ref, ep, pt, fl⟩) = (if s.M 2 ≠ tab then lkAgain (awLoad 2 s) ⟨6, left, tab, all, vs, pos, sl, ref, ep, pt, fl⟩ else (awLoad 2 s, ⟨7, left, tab, all, vs, 0, sl, ref, ep, pt, fl⟩)) := rfl
    dsimp only at hf hq
    rw [← hlk] at hf hq
    obtain ⟨g1, g2, g3, g4⟩ := hf
    refine c_LkStepY h3 (run_enter Tryz.func266 (by kernel_rfl) (by kernel_rfl)) g4 (hq.mono ?_)
    rintro e w' ⟨rfl, G, m, x⟩
    refine ⟨rfl, G, m.e, m.p, av, vv, sv, m.t, ?_, ?_, ?_⟩
    · rw [g1]; exact ha.ext x (.inl rfl)
    · rw [g2]; exact hv.ext x (fun h => by unfold SX at h; omega)
    · rw [g3]; exact hs.ext x (.inr (fun h => by unfold SX at h; omega))
  | 7, h3, hB, M, _, ha, hv, hs =>
    obtain ⟨b1, b2, b3, b4⟩ := of_decide_eq_true hB
    have hq := c_LkSixth M hv (lkV_at (z := ⟨7, left, tab, all, vs, pos, sl, ref, ep, pt, fl⟩) b2) rfl b1 b3 b4 hk n0 n1 l0 (by dsimp only; omega)
    have hf := lk7_f s ⟨7, left, tab, all, vs, pos, sl, ref, ep, pt, fl⟩ (lkV ⟨7, left, tab, all, vs, pos, sl, ref, ep, pt, fl⟩).1 (lkV ⟨7, left, tab, all, vs, pos, sl, ref, ep, pt, fl⟩).2 (pos + 1 = vs.length)
    have hlk : lkStep key (s, ⟨7, left, tab, all, vs, pos, sl, ref, ep, pt, fl⟩) = (if s.M (lkV ⟨7, left, tab, all, vs, pos, sl, ref, ep, pt, fl⟩).1 ≠ (lkV ⟨7, left, tab, all, vs, pos, sl, ref, ep, pt, fl⟩).2 then lkAgain (awLoad (lkV ⟨7, left, tab, all, vs, pos, sl, ref, ep, pt, fl⟩).1 s) ⟨7, left, tab, all, vs, pos, sl, ref, ep, pt, fl⟩ else (awLoad (lkV ⟨7, left, tab, all, vs, pos, sl, ref, ep, pt, fl⟩).1 s, ⟨if pos + 1 = vs.length then 0 else 7, left, tab, all, vs, pos + 1, sl, ref, ep, pt, fl⟩)) := rfl
    dsimp only at hf hq
    rw [← hlk] at hf hq
    obtain ⟨g1, g2, g3, g4⟩ := hf
    refine c_LkStepY h3 (run_enter Tryz.func282 (by kernel_rfl) (by kernel_rfl)) g4 (hq.mono ?_)
    rintro e w' ⟨rfl, G, L, S⟩
    refine ⟨rfl, G, L.m.e, L.m.p, av, vv, sv, L.m.t, ?_, ?_, ?_⟩
    · rw [g1]; exact ha.ext L.x (.inl rfl)
    · rw [g2]; exact S
    · rw [g3]; exact hs.ext L.x (.inr (fun h => by unfold SX at h; omega))
theorem c_LkGot0 (hX : LkAt w O k X key z) (hn : z.ln = 0) (hf : z.fl = false) : Calls Tryz.prog 42 #[.pointer (some ⟨X, 0, none⟩)] w fun e w' => e = .returned (.tuple #[.int .i64 z.ref, .int .u64 z.ep, .int .i64 z.pt]) ∧ Below w.heap.size w w' := by
  have h3 := hX.c3
  rw [hn] at h3
  change w.cell? ⟨X, 3, none⟩ = some .nilFunc at h3
  obtain ⟨av, vv, sv, ho, -⟩ := hX.ex
  have q9 := ho.c 9 _ rfl
  have q10 := ho.c 10 _ rfl
  have q11 := ho.c 11 _ rfl
  have q12 : w.cell? ⟨X, 12, none⟩ = some (.bool false) := by rw [← hf]; exact ho.c 12 _ rfl
  have hE := lkNe0
  clear ho hX hn hf
  go_enter Tryz.func42, Tryz.ntmps42
  go_upto_region 3 with fail
  go_quiet (fail)
  go_wp2_with fail
  refine bodyPost_ret (v := .tuple #[.int .i64 z.ref, .int .u64 z.ep, .int .i64 z.pt]) (by simp [results, Tryz.results42, go_sem]) rfl ?_
  exact ⟨rfl, below_drewN (Below.refl _ _) nq⟩
end
end
end Go.Proofs.YthpedifjclofoaaGreat
