/- Layer 16: the map of a Way: buckets to where they were reached from. Layer 18: the program's Room: its object; a new one; a look into a bucket that has a free slot. Layer 18: the program's Room: a new one; a look into a bucket that has a free slot; what it got. Layer 18: a step of a Room that finds a free slot, what it got. -/
import Derived.Test.YtifkfhnbkjkakaaGreatDoorZrBaE
import Derived.Test.YtifkfhnbkjkakaaGreatDoorZrWyA
import Derived.Test.YtifkfhnbkjkakaaGreatDoorZrFwA
import Derived.Test.YtifkfhnbkjkakaaGreatDoorZrBaH
import Derived.Laws.EntriesVeiled
import Derived.Maps.OwnSet
import Derived.Shelf.Lay
namespace Go.Proofs.YtifkfhnbkjkakaaGreatDoor
set_option linter.unusedSimpArgs false
set_option linter.unusedVariables false
set_option maxHeartbeats 4000000
set_option maxRecDepth 100000
section
open Go.RowKit Go.Maps
def frElem : Value → Option (DataW Unit × List MemPlace)
 | .agg cs => match cs.toList with
   | [.int .i64 a, .int .i64 b] => some (.agg [.lit (.int .i64 a), .lit (.int .i64 b)], [])
   | _ => none
 | _ => none
def frD (x : Int × Int) : DataW Unit := .agg [.lit (.int .i64 x.1), .lit (.int .i64 x.2)]
theorem frElem_mk (a b : Int) : frElem (.agg #[.int .i64 a, .int .i64 b]) = some (frD (a, b), []) := rfl
theorem frElem_inv {v : Value} {z : DataW Unit × List MemPlace} (h : frElem v = some z) : ∃ a b, v = .agg #[.int .i64 a, .int .i64 b] ∧ z.1 = frD (a, b) := by
 unfold frElem at h
 split at h
 · rename_i cs
   split at h
   · rename_i a b hc
     cases h
     refine ⟨a, b, ?_, rfl⟩
     rw [show cs = #[.int .i64 a, .int .i64 b] from by rw [← Array.toList_inj, hc]]
   · cases h
 · cases h
def mapD (L : List (Int × Int × Int)) : DataW Unit := L.foldl (fun D x => D.put (.int .i64 x.1) (frD x.2)) (.map [])
theorem mapD_snoc (L : List (Int × Int × Int)) (x : Int × Int × Int) : mapD (L ++ [x]) = (mapD L).put (.int .i64 x.1) (frD x.2) := by
 unfold mapD; rw [List.foldl_append]; rfl
theorem isMap_mapD (L : List (Int × Int × Int)) : IsMap (mapD L) := by
 unfold mapD
 have : ∀ (L : List (Int × Int × Int)) (D : DataW Unit), IsMap D → IsMap (L.foldl (fun D x => D.put (.int .i64 x.1) (frD x.2)) D) := by
  intro L
  induction L with
  | nil => intro D h; exact h
  | cons x L ih => intro D h; exact ih _ (h.put _ _)
 exact this L _ isMap_empty
theorem rev_ind {α : Type} {p : List α → Prop} (h0 : p []) (h1 : ∀ l x, p l → p (l ++ [x])) (l : List α) : p l := by
 have : ∀ n (l : List α), l.length = n → p l := by
  intro n
  induction n with
  | zero => intro l h; rw [List.eq_nil_of_length_eq_zero h]; exact h0
  | succ n ih =>
    intro l h
    have hne : l ≠ [] := by intro e; rw [e] at h; cases h
    rw [← List.dropLast_concat_getLast hne]
    exact h1 _ _ (ih _ (by rw [List.length_dropLast, h]; rfl))
 exact this _ l rfl
theorem at_mapD (z : DataW Unit) (L : List (Int × Int × Int)) (hn : (L.map (·.1)).Nodup) (x : Int × Int × Int) (hx : x ∈ L) : (mapD L).atKey (.int .i64 x.1) z = frD x.2 := by
 revert hn hx
 refine rev_ind (p := fun L => (L.map (·.1)).Nodup → x ∈ L → (mapD L).atKey (.int .i64 x.1) z = frD x.2) (fun _ h => by cases h) (fun l y ih hn hx => ?_) L
 rw [List.map_append, List.nodup_append] at hn
 rw [mapD_snoc]
 by_cases h : y.1 = x.1
 · rcases List.mem_append.1 hx with g | g
   · exact absurd h.symm (hn.2.2 _ (List.mem_map_of_mem g) _ (by simp))
   · rw [List.mem_singleton.1 g, atKey_put_same (isMap_mapD l) (by trivial)]
 · rw [atKey_put_other (fun e => h (by injection e with _ e; exact e.symm))]
   refine ih hn.1 ?_
   rcases List.mem_append.1 hx with g | g
   · exact g
   · exact absurd (by rw [List.mem_singleton.1 g]) h
def MapF (w : World) (m : Nat) (L : List (Int × Int × Int)) : Prop := w.ownsMap Tryz.prog 3 frElem m L.length (mapD L)
theorem MapF.lt {w : World} {m : Nat} {L : List (Int × Int × Int)} (h : MapF w m L) : m < w.heap.size := World.ownsMap.lt h
theorem MapF.block {w w' : World} {m : Nat} {L : List (Int × Int × Int)} (h : MapF w m L) (hb : w'.heap[m]? = w.heap[m]?) : MapF w' m L := by
 obtain ⟨es, clk, h1, h2⟩ := h
 exact ⟨es, clk, hb.trans h1, h2⟩
theorem MapF.made (w : World) : MapF (w.alloc (.map #[] 0)) w.heap.size [] := World.ownsMap_made _ _ _ _
theorem keyW : Keyed Tryz.prog 3 := int_keyed Tryz.underlying3
theorem wf_i64 {a : Int} (h0 : -9223372036854775808 ≤ a) (h1 : a ≤ 9223372036854775807) : (Lit.int .i64 a).wf = true := by
 simp [Lit.wf]; exact ⟨h0, h1⟩
theorem zero_from (w : World) : (zeroValue 418).run Tryz.prog w = .ok (.agg #[.int .i64 0, .int .i64 0]) w := by kernel_rfl
section
variable {w : World} {m : Nat} {L : List (Int × Int × Int)} {q : Int}
theorem MapF.look (h : MapF w m L) (hn : (L.map (·.1)).Nodup) (x : Int × Int × Int) (hx : x ∈ L) (q0 : -9223372036854775808 ≤ x.1) (q1 : x.1 ≤ 9223372036854775807) :
 (Instr.lookup 414 (.map (some m)) (.int .i64 x.1) false).run Tryz.prog w = .ok (.agg #[.int .i64 x.2.1, .int .i64 x.2.2]) w := by
 obtain ⟨v, ps, hrun, hv⟩ := World.ownsMap.lookup h keyW Tryz.underlying414 (zero_from w) (frElem_mk 0 0) (keyOf_int_mk Tryz.underlying3 (wf_i64 q0 q1))
 obtain ⟨a, b, rfl, hab⟩ := frElem_inv hv
 rw [at_mapD _ L hn x hx] at hab
 have : x.2.1 = a ∧ x.2.2 = b := by
  unfold frD at hab
  injection hab with e
  injection e with e1 e2
  injection e1 with e1
  injection e1 with _ e1
  injection e2 with e2
  injection e2 with e2
  injection e2 with _ e2
  exact ⟨e1, e2⟩
 rw [this.1, this.2]
 exact hrun
theorem MapF.store {O : Om} {g : Nat} (h : MapF w m L) (hl : L.length < 8192) (q0 : -9223372036854775808 ≤ q) (q1 : q ≤ 9223372036854775807) (a b : Int) (hg : g ≠ 0) (hO : O m = g) (hhi : ∀ j, O j ≠ 0 → j < w.heap.size) :
 ∃ w', (Instr.mapUpdate 414 (.map (some m)) (.int .i64 q) (.agg #[.int .i64 a, .int .i64 b])).run Tryz.prog w = .ok () w' ∧ MapF w' m (L ++ [(q, a, b)]) ∧ Ext (fun t => t = g) O w O w' := by
 obtain ⟨w', hrun, r1, r2⟩ := World.ownsMap.store h keyW Tryz.underlying414 (by unfold maxLen; omega) (keyOf_int_mk Tryz.underlying3 (wf_i64 q0 q1)) (frElem_mk a b)
 refine ⟨w', hrun, ?_, ?_⟩
 · unfold MapF
   rw [mapD_snoc, List.length_append]
   exact r1
 · have hw : Wrote (fun j => j = m) w w' := (Wrote.refl _ _).grown r2.grown fun k hk _ => by cases hk; rfl
   refine ⟨fun j _ => rfl, fun j hj => Nat.lt_of_lt_of_le (hhi j hj) hw.size, fun j hj hn => absurd (hhi j hn) (by omega), hw.mono fun j _ e => ?_⟩
   subst e
   exact ⟨hO, by rw [hO]; exact hg⟩
end
end
section
open Go.RowKit Go.Shelf
theorem c_TwFree (x : Int) (w : World) (x0 : 0 ≤ x) (x1 : x < 18446744073709551616) : Calls Tryz.prog 311 #[.int .u64 x] w fun e w' => e = .returned (.int .i64 (twFree x)) ∧ Below w.heap.size w w' := by
 have HP := Lib.hid (fun W => c_TwParts x W x0 x1)
 unfold twFree
 obtain ⟨t0, e0⟩ : ∃ t, t = twTag x 0 := ⟨_, rfl⟩
 obtain ⟨t1, e1⟩ : ∃ t, t = twTag x 1 := ⟨_, rfl⟩
 obtain ⟨t2, e2⟩ : ∃ t, t = twTag x 2 := ⟨_, rfl⟩
 obtain ⟨t3, e3⟩ : ∃ t, t = twTag x 3 := ⟨_, rfl⟩
 rw [← e0, ← e1, ← e2, ← e3] at HP
 rw [← e0, ← e1, ← e2, ← e3]
 have h0 : ∀ W, (Instr.index 310 (.agg #[.int .i64 t0, .int .i64 t1, .int .i64 t2, .int .i64 t3]) (.int .i64 0)).run Tryz.prog W = .ok (.int .i64 t0) W := fun W => by kernel_rfl
 have h1 : ∀ W, (Instr.index 310 (.agg #[.int .i64 t0, .int .i64 t1, .int .i64 t2, .int .i64 t3]) (.int .i64 1)).run Tryz.prog W = .ok (.int .i64 t1) W := fun W => by kernel_rfl
 have h2 : ∀ W, (Instr.index 310 (.agg #[.int .i64 t0, .int .i64 t1, .int .i64 t2, .int .i64 t3]) (.int .i64 2)).run Tryz.prog W = .ok (.int .i64 t2) W := fun W => by kernel_rfl
 have h3 : ∀ W, (Instr.index 310 (.agg #[.int .i64 t0, .int .i64 t1, .int .i64 t2, .int .i64 t3]) (.int .i64 3)).run Tryz.prog W = .ok (.int .i64 t3) W := fun W => by kernel_rfl
 clear e0 e1 e2 e3
 obtain ⟨r, hr⟩ : ∃ r, r = (if t0 = 0 then (0 : Int) else if t1 = 0 then 1 else if t2 = 0 then 2 else if t3 = 0 then 3 else -1) := ⟨_, rfl⟩
 rw [← hr]
 by_cases c0 : t0 = 0
 · have hr2 : r = 0 := by rw [hr, if_pos c0]
   clear hr
   subst hr2
   have d0 : (t0 == 0) = true := by simp [c0]
   clear c0
   go_enter Tryz.func311, Tryz.ntmps311
   go_wp2_with fail
   refine (HP.out _).mono ?_
   rintro e w' ⟨rfl, hb⟩
   go_wp2_with fail
   refine wp_loop_rounds 1 ?_
   rw [rounds_succ]
   go_wp2_with fail
   go_ret
   exact ⟨rfl, hb⟩
 · have d0 : (t0 == 0) = false := by simp [c0]
   by_cases c1 : t1 = 0
   · have hr2 : r = 1 := by rw [hr, if_neg c0, if_pos c1]
     clear hr
     subst hr2
     have d1 : (t1 == 0) = true := by simp [c1]
     clear c0 c1
     go_enter Tryz.func311, Tryz.ntmps311
     go_wp2_with fail
     refine (HP.out _).mono ?_
     rintro e w' ⟨rfl, hb⟩
     go_wp2_with fail
     refine wp_loop_rounds 2 ?_
     rw [rounds_succ]
     go_wp2_with fail
     rw [rounds_succ]
     go_wp2_with fail
     go_ret
     exact ⟨rfl, hb⟩
   · have d1 : (t1 == 0) = false := by simp [c1]
     by_cases c2 : t2 = 0
     · have hr2 : r = 2 := by rw [hr, if_neg c0, if_neg c1, if_pos c2]
       clear hr
       subst hr2
       have d2 : (t2 == 0) = true := by simp [c2]
       clear c0 c1 c2
       go_enter Tryz.func311, Tryz.ntmps311
       go_wp2_with fail
       refine (HP.out _).mono ?_
       rintro e w' ⟨rfl, hb⟩
       go_wp2_with fail
       refine wp_loop_rounds 3 ?_
       rw [rounds_succ]
       go_wp2_with fail
       rw [rounds_succ]
       go_wp2_with fail
       rw [rounds_succ]
       go_wp2_with fail
       go_ret
       exact ⟨rfl, hb⟩
     · have d2 : (t2 == 0) = false := by simp [c2]
       by_cases c3 : t3 = 0
       · have hr2 : r = 3 := by rw [hr, if_neg c0, if_neg c1, if_neg c2, if_pos c3]
         clear hr
         subst hr2
         have d3 : (t3 == 0) = true := by simp [c3]
         clear c0 c1 c2 c3
         go_enter Tryz.func311, Tryz.ntmps311
         go_wp2_with fail
         refine (HP.out _).mono ?_
         rintro e w' ⟨rfl, hb⟩
         go_wp2_with fail
         refine wp_loop_rounds 4 ?_
         rw [rounds_succ]
         go_wp2_with fail
         rw [rounds_succ]
         go_wp2_with fail
         rw [rounds_succ]
         go_wp2_with fail
         rw [rounds_succ]
         go_wp2_with fail
         go_ret
         exact ⟨rfl, hb⟩
       · have hr2 : r = -1 := by rw [hr, if_neg c0, if_neg c1, if_neg c2, if_neg c3]
         clear hr
         subst hr2
         have d3 : (t3 == 0) = false := by simp [c3]
         clear c0 c1 c2 c3
         go_enter Tryz.func311, Tryz.ntmps311
         go_wp2_with fail
         refine (HP.out _).mono ?_
         rintro e w' ⟨rfl, hb⟩
         go_wp2_with fail
         refine wp_loop_rounds 5 ?_
         rw [rounds_succ]
         go_wp2_with fail
         rw [rounds_succ]
         go_wp2_with fail
         rw [rounds_succ]
         go_wp2_with fail
         rw [rounds_succ]
         go_wp2_with fail
         rw [rounds_succ]
         go_wp2_with fail
         go_ret
         exact ⟨rfl, hb⟩
def spl (p : Spt) : List Value := [.int .i64 p.b, .int .i64 p.q, .int .i64 p.s]
def wyEnt (n : Wnd) : Int × Int × Int := (n.q, n.fr, if n.fr < 0 then -1 else n.sl)
structure WyAt (W : World) (G : Om) (k X : Nat) (z : Wym) : Prop where
 ex : ∃ (bv mv wv : Value) (ov md : Bool), Ob W G k X [.int .i64 z.b, .int .i64 z.mo, bv, mv, .int .i64 z.i, wv, .bool ov, .bool md] ∧ (z.ln = 1 → ov = false ∧ md = true) ∧ (z.ln = 0 → ov = true ∨ md = false) ∧
  (z.ln = 1 → Sls W G (k + 1) 1 bv z.l.length (z.l.map fun n => .int .i64 n.q)) ∧ (z.ln = 1 → ∃ m, mv = .map (some m) ∧ G m = k + 2 ∧ MapF W m (z.l.map wyEnt)) ∧ Sls W G (k + 3) 3 wv z.way.length (z.way.flatMap spl)
theorem WyAt.ext {S : Nat → Prop} {O O' : Om} {w w' : World} {k X : Nat} {z : Wym} (h : WyAt w O k X z) (e : Ext S O w O' w') (hs : ∀ t, k ≤ t → t < k + 4 → ¬ S t) : WyAt w' O' k X z := by
 obtain ⟨bv, mv, wv, ov, md, h1, h2, h3, h4, h5, h6⟩ := h.ex
 refine ⟨bv, mv, wv, ov, md, h1.ext e (hs _ (by omega) (by omega)), h2, h3, fun g => (h4 g).ext e (hs _ (by omega) (by omega)), fun g => ?_, h6.ext e (hs _ (by omega) (by omega))⟩
 obtain ⟨m, q1, q2, q3⟩ := h5 g
 exact ⟨m, q1, (e.lo _ q3.lt).trans q2, q3.block (e.wr.block m q3.lt fun hh => hs (k + 2) (by omega) (by omega) (by have := hh.1; rwa [q2] at this))⟩
theorem WyAt.below {O : Om} {w w' : World} {k X : Nat} {z : Wym} (h : WyAt w O k X z) (e : Below w.heap.size w w') : WyAt w' O k X z := by
 obtain ⟨bv, mv, wv, ov, md, h1, h2, h3, h4, h5, h6⟩ := h.ex
 refine ⟨bv, mv, wv, ov, md, h1.below e, h2, h3, fun g => (h4 g).below e, fun g => ?_, h6.below e⟩
 obtain ⟨m, q1, q2, q3⟩ := h5 g
 exact ⟨m, q1, q2, q3.block (e.block m q3.lt)⟩
def PvAt (W : World) (G : Om) (k U : Nat) (p : Spt) (tg rf : Int) (o : Otm) : Prop :=
 (1 ≤ tg ∧ tg ≤ 255 ∧ 1 ≤ rf → PutAt W G k U p tg rf o) ∧ (¬ (1 ≤ tg ∧ tg ≤ 255 ∧ 1 ≤ rf) → Ob W G k U [.int .u64 0, .int .u64 0, .int .i64 0, .int .u64 0, .int .i64 0, .int .i64 0, .int .i64 0])
theorem PvAt.ext {S : Nat → Prop} {O O' : Om} {w w' : World} {k U : Nat} {p : Spt} {tg rf : Int} {o : Otm} (h : PvAt w O k U p tg rf o) (e : Ext S O w O' w') (hs : ¬ S k) : PvAt w' O' k U p tg rf o := ⟨fun g => (h.1 g).ext e hs, fun g => (h.2 g).ext e hs⟩
theorem PvAt.below {O : Om} {w w' : World} {k U : Nat} {p : Spt} {tg rf : Int} {o : Otm} (h : PvAt w O k U p tg rf o) (e : Below w.heap.size w w') : PvAt w' O k U p tg rf o := ⟨fun g => (h.1 g).below e, fun g => (h.2 g).below e⟩
def IMark (m : Nat) : Value := .iface 246 (.pointer (some ⟨m, 0, none⟩))
def IOut (m : Nat) : Value := .iface 288 (.pointer (some ⟨m, 0, none⟩))
def IPut (m : Nat) : Value := .iface 403 (.pointer (some ⟨m, 0, none⟩))
structure HoAt (W : World) (G : Om) (k X : Nat) (z : Hom) : Prop where
 ex : ∃ (wv dv : Value) (ld : Bool), Ob W G k X [wv, .int .i64 (max (z.k + 1) 0), .int .i64 z.tag, .bool ld, dv] ∧ (z.ln ≠ 0 → Sls W G (k + 1) 3 wv z.way.length (z.way.flatMap spl)) ∧ (z.ln = 1 → ld = false) ∧ (2 ≤ z.ln → ld = true) ∧
  (z.ln ≤ 2 → ∃ n, Sls W G (k + 2) 1 dv 0 [] ∧ n = 0) ∧
  (3 ≤ z.ln → ∃ m1 u p m2, Sls W G (k + 2) 1 dv (7 - z.ln).toNat ([IMark m1, IOut u, IPut p, IMark m2].drop (z.ln - 3).toNat) ∧ (z.ln = 3 → MkAt W G (k + 3) m1 z.m1) ∧ (z.ln ≤ 4 → OutAt W G (k + 5) u z.s z.o) ∧ (z.ln ≤ 5 → PvAt W G (k + 6) p z.t z.tag z.ref z.u) ∧ (z.ln ≤ 6 → MkAt W G (k + 7) m2 z.m2))
theorem HoAt.ext {S : Nat → Prop} {O O' : Om} {w w' : World} {k X : Nat} {z : Hom} (h : HoAt w O k X z) (e : Ext S O w O' w') (hs : ∀ t, k ≤ t → t < k + 9 → ¬ S t) : HoAt w' O' k X z := by
 obtain ⟨wv, dv, ld, h1, h2, h3, h4, h5, h6⟩ := h.ex
 refine ⟨wv, dv, ld, h1.ext e (hs _ (by omega) (by omega)), fun g => (h2 g).ext e (hs _ (by omega) (by omega)), h3, h4, fun g => ?_, fun g => ?_⟩
 · obtain ⟨n, q1, q2⟩ := h5 g; exact ⟨n, q1.ext e (hs _ (by omega) (by omega)), q2⟩
 · obtain ⟨m1, u, p, m2, q1, q2, q3, q4, q5⟩ := h6 g
   exact ⟨m1, u, p, m2, q1.ext e (hs _ (by omega) (by omega)), fun g => (q2 g).ext e (hs _ (by omega) (by omega)) (hs _ (by omega) (by omega)), fun g => (q3 g).ext e (hs _ (by omega) (by omega)), fun g => (q4 g).ext e (hs _ (by omega) (by omega)), fun g => (q5 g).ext e (hs _ (by omega) (by omega)) (hs _ (by omega) (by omega))⟩
theorem HoAt.below {O : Om} {w w' : World} {k X : Nat} {z : Hom} (h : HoAt w O k X z) (e : Below w.heap.size w w') : HoAt w' O k X z := by
 obtain ⟨wv, dv, ld, h1, h2, h3, h4, h5, h6⟩ := h.ex
 refine ⟨wv, dv, ld, h1.below e, fun g => (h2 g).below e, h3, h4, fun g => ?_, fun g => ?_⟩
 · obtain ⟨n, q1, q2⟩ := h5 g; exact ⟨n, q1.below e, q2⟩
 · obtain ⟨m1, u, p, m2, q1, q2, q3, q4, q5⟩ := h6 g
   exact ⟨m1, u, p, m2, q1.below e, fun g => (q2 g).below e, fun g => (q3 g).below e, fun g => (q4 g).below e, fun g => (q5 g).below e⟩
def rmCs (b : Int) (bv : Value) (a c : Int) (dv wv hv : Value) (p : Spt) (is : Bool) : List Value := [.int .i64 b, bv, .int .i64 a, .int .i64 c, dv, wv, hv, .int .i64 p.b, .int .i64 p.q, .int .i64 p.s, .bool is]
def LOOKR : Value := .func (.func 294) #[] #[]
def SEARCHR : Value := .func (.func 314) #[] #[]
def HOPR : Value := .func (.func 325) #[] #[]
def rmDo (ln : Int) : Value := if ln = 0 then .nilFunc else if ln ≤ 2 then LOOKR else if ln = 3 then SEARCHR else HOPR
def rmLeft (z : Rmm) : List Int := if z.ln = 1 then (if z.c = z.a then [z.a] else [z.a, z.c]) else if z.ln = 2 then [z.c] else []
structure RoomAt (W : World) (G : Om) (k X : Nat) (z : Rmm) : Prop where
 ex : ∃ (bv wv hv : Value), Ob W G k X (rmCs z.b bv z.a z.c (rmDo z.ln) wv hv z.p z.is) ∧ (z.ln = 1 ∨ z.ln = 2 → Sls W G (k + 1) 1 bv (rmLeft z).length ((rmLeft z).map (Value.int .i64))) ∧ (z.ln = 3 → ∃ Y, wv = .pointer (some ⟨Y, 0, none⟩) ∧ WyAt W G (k + 2) Y z.wy) ∧ (z.ln = 4 → ∃ Y, hv = .pointer (some ⟨Y, 0, none⟩) ∧ HoAt W G (k + 6) Y z.ho)
theorem RoomAt.ext {S : Nat → Prop} {O O' : Om} {w w' : World} {k X : Nat} {z : Rmm} (h : RoomAt w O k X z) (e : Ext S O w O' w') (hs : ∀ t, k ≤ t → t < k + 15 → ¬ S t) : RoomAt w' O' k X z := by
 obtain ⟨bv, wv, hv, h1, h2, h3, h4⟩ := h.ex
 refine ⟨bv, wv, hv, h1.ext e (hs _ (by omega) (by omega)), fun g => (h2 g).ext e (hs _ (by omega) (by omega)), fun g => ?_, fun g => ?_⟩
 · obtain ⟨Y, q1, q2⟩ := h3 g; exact ⟨Y, q1, q2.ext e fun t a b => hs t (by omega) (by omega)⟩
 · obtain ⟨Y, q1, q2⟩ := h4 g; exact ⟨Y, q1, q2.ext e fun t a b => hs t (by omega) (by omega)⟩
theorem RoomAt.below {O : Om} {w w' : World} {k X : Nat} {z : Rmm} (h : RoomAt w O k X z) (e : Below w.heap.size w w') : RoomAt w' O k X z := by
 obtain ⟨bv, wv, hv, h1, h2, h3, h4⟩ := h.ex
 refine ⟨bv, wv, hv, h1.below e, fun g => (h2 g).below e, fun g => ?_, fun g => ?_⟩
 · obtain ⟨Y, q1, q2⟩ := h3 g; exact ⟨Y, q1, q2.below e⟩
 · obtain ⟨Y, q1, q2⟩ := h4 g; exact ⟨Y, q1, q2.below e⟩
theorem RoomAt.c4 {O : Om} {w : World} {k X : Nat} {z : Rmm} (h : RoomAt w O k X z) : w.cell? ⟨X, 4, none⟩ = some (rmDo z.ln) := by
 obtain ⟨bv, wv, hv, h1, -⟩ := h.ex
 exact h1.c 4 _ rfl
@[go_sem] theorem eql_fr (w : World) (f : Fn) (a c : Array Value) : (binOp .eql 378 (.func f a c) .nilFunc).run Tryz.prog w = .ok (.bool false) w := run_eql_func_nil w _ _ _ _ f a c Tryz.underlying378
@[go_sem] theorem eql_fr0 (w : World) : (binOp .eql 378 .nilFunc .nilFunc).run Tryz.prog w = .ok (.bool true) w := run_eql_nil_nil w _ _ _ _ Tryz.underlying378
theorem c_RmOver (X : Nat) (dv : Value) (w : World) (hc : w.cell? ⟨X, 4, none⟩ = some dv) (b : Bool) (hb : (dv = .nilFunc ∧ b = true) ∨ (∃ f a c, dv = .func f a c ∧ b = false)) :
 Calls Tryz.prog 469 #[.pointer (some ⟨X, 0, none⟩)] w fun e w' => e = .returned (.bool b) ∧ w = w' := by
 rcases hb with ⟨rfl, rfl⟩ | ⟨f, a, c, rfl, rfl⟩
 · go_enter Tryz.func469, Tryz.ntmps469
   go_wp2
   go_ret
   exact ⟨rfl, rfl⟩
 · go_enter Tryz.func469, Tryz.ntmps469
   go_wp2
   go_ret
   exact ⟨rfl, rfl⟩
theorem rmDo_cases (ln : Int) : (rmDo ln = .nilFunc ∧ (ln == 0) = true) ∨ (∃ f a c, rmDo ln = .func f a c ∧ (ln == 0) = false) := by
 unfold rmDo
 by_cases h : ln = 0
 · rw [if_pos h]; exact .inl ⟨rfl, by simp [h]⟩
 · rw [if_neg h]
   have d : (ln == 0) = false := by simp [h]
   split
   · exact .inr ⟨_, _, _, rfl, d⟩
   · split
     · exact .inr ⟨_, _, _, rfl, d⟩
     · exact .inr ⟨_, _, _, rfl, d⟩
theorem c_RmOver' {O : Om} {w : World} {k X : Nat} {z : Rmm} (h : RoomAt w O k X z) : Calls Tryz.prog 469 #[.pointer (some ⟨X, 0, none⟩)] w fun e w' => e = .returned (.bool (z.ln == 0)) ∧ w = w' := c_RmOver X _ w h.c4 _ (rmDo_cases z.ln)
end
section
open Go.RowKit Go.Shelf
section
variable {X : Nat} {w : World} {O : Om} {B : Wb} {f : Cf} {s : AW} {k : Nat}
theorem c_NewRoom (b h : Int) (b0 : -9223372036854775808 ≤ b) (b1 : b ≤ 9223372036854775807) (h0 : 0 ≤ h) (h1 : h < 18446744073709551616) (hk : 10 ≤ k) (hhi : ∀ j, O j ≠ 0 → j < w.heap.size) :
 Calls Tryz.prog 267 #[.int .i64 b, .int .u64 h] w fun e w' => ∃ R, RP (fun t => t = k ∨ t = k + 1) w O (.pointer (some ⟨R, 0, none⟩)) (fun W G => RoomAt W G k R (rmNew b h)) e w' := by
 obtain ⟨z, hz⟩ : ∃ z, z = rmNew b h := ⟨_, rfl⟩
 rw [← hz]
 unfold rmNew at hz
 have HS := Lib.hid (fun W => c_Size b W b0 b1)
 have HB := Lib.hid (fun W => c_fBucket h b W h0 h1 b0 b1)
 have HT := Lib.hid (fun W => c_fTag h W h0 h1)
 have ht := fnvTag_bd h h0 h1
 have HH := Lib.hid hhi
 by_cases hb : 1 ≤ b ∧ b ≤ 12
 · rw [if_pos hb] at hz
   have hs := fnvSize_pos hb.1 hb.2
   have hd : (fnvSize b == 0) = false := by simp; omega
   have hbk := fnvBucket_bd (h := h) hb.1 hb.2
   have hsz := fnvSize_bd b
   have HO := Lib.hid (fun W => c_fOther (fnvBucket h b) (fnvTag h) b W (by omega) (by omega) (by omega) (by omega) b0 b1)
   obtain ⟨bk, hbk2⟩ : ∃ x, x = fnvBucket h b := ⟨_, rfl⟩
   rw [← hbk2] at HB HO hz
   obtain ⟨tg, htg⟩ : ∃ x, x = fnvTag h := ⟨_, rfl⟩
   rw [← htg] at HT HO hz
   obtain ⟨ot, hot⟩ : ∃ x, x = fnvOther bk tg b := ⟨_, rfl⟩
   rw [← hot] at HO hz
   obtain ⟨sz, hsz2⟩ : ∃ x, x = fnvSize b := ⟨_, rfl⟩
   rw [← hsz2] at HS hd
   have HZ := Lib.hid hz
   clear ht hs hbk hsz hbk2 htg hot hsz2 hz hhi hb b0 b1 h0 h1
   obtain ⟨G1, e1, a1, k1⟩ := alloc_ob HH.out (k + 1) #[.int .i64 bk] 3 w.heap.size rfl
   obtain ⟨G2, e2, x2, k2⟩ := alloc_ob e1.hi k #[.int .i64 b, .slice (some ⟨w.heap.size, 0, none⟩) 1 1, .int .i64 bk, .int .i64 ot, LOOKR, .pointer none, .pointer none, .int .i64 0, .int .i64 0, .int .i64 0, .bool false] 382 (w.heap.size + 1) (by simp)
   have HE := Lib.hid (And.intro ((e1.mono (T := fun t => t = k ∨ t = k + 1) fun t _ h => .inr h).trans (e2.mono fun t _ h => .inl h)) (And.intro x2 (k2 _ _ _ a1)))
   clear e1 a1 k1 e2 x2 k2
   by_cases hq : ot = bk
   · have dq : (ot != bk) = false := by simp [hq]
     have HQ := Lib.hid hq
     clear hq
     go_enter Tryz.func267, Tryz.ntmps267
     go_wp2_with fail
     refine (HS.out _).mono ?_
     rintro e w' ⟨rfl, rfl⟩
     go_wp2_with fail
     refine (HB.out _).mono ?_
     rintro e w' ⟨rfl, rfl⟩
     go_wp2_with fail
     refine (HT.out _).mono ?_
     rintro e w' ⟨rfl, rfl⟩
     go_wp2_with fail
     refine (HO.out _).mono ?_
     rintro e w' ⟨rfl, rfl⟩
     go_wp2_with fail
     go_ret
     rw [HZ.out]
     refine ⟨_, rfl, G2, HE.out.1, _, _, _, HE.out.2.1, fun _ => ?_, fun g => absurd g (by dsimp only; omega), fun g => absurd g (by dsimp only; omega)⟩
     unfold rmLeft
     dsimp only
     rw [if_pos rfl, if_pos HQ.out]
     exact Sls.of_ob HE.out.2.2 rfl (by unfold maxLen; decide)
   · have dq : (ot != bk) = true := by simp [hq]
     have HQ := Lib.hid hq
     obtain ⟨i0, hi, hz0, hz1, hz2⟩ := info_parts infoInt
     have HI := Lib.hid (And.intro hi (And.intro hz0 (And.intro hz1 hz2)))
     clear hq hi hz0 hz1 hz2
     go_enter Tryz.func267, Tryz.ntmps267
     go_wp2_with fail
     refine (HS.out _).mono ?_
     rintro e w' ⟨rfl, rfl⟩
     go_wp2_with fail
     refine (HB.out _).mono ?_
     rintro e w' ⟨rfl, rfl⟩
     go_wp2_with fail
     refine (HT.out _).mono ?_
     rintro e w' ⟨rfl, rfl⟩
     go_wp2_with fail
     refine (HO.out _).mono ?_
     rintro e w' ⟨rfl, rfl⟩
     go_upto_region 7 with fail
     obtain ⟨W, hW⟩ : ∃ W, W = (w.alloc (.cells #[.int .i64 bk] 3)).alloc (.cells #[.int .i64 b, .slice (some ⟨w.heap.size, 0, none⟩) 1 1, .int .i64 bk, .int .i64 ot, LOOKR, .pointer none, .pointer none, .int .i64 0, .int .i64 0, .int .i64 0, .bool false] 382) := ⟨_, rfl⟩
     rw [← hW] at HE
     obtain ⟨N, hN⟩ : ∃ N, N = w.heap.size := ⟨_, rfl⟩
     rw [← hN] at HE
     have hL : LOOKR = .func (.func 294) #[] #[] := rfl
     rw [hL] at hW
     rw [← hN] at hW ⊢
     rw [← hW]
     clear hL hW hN
     have x1 := HE.out.2.1.c 1 _ rfl
     have f1 := HE.out.2.1.f 1
     have S1 := Lib.hid (Sls.of_ob (n := 1) (size := 1) HE.out.2.2 rfl (by unfold maxLen; decide))
     go_wp2_with (at_builtin; refine append_sls W rfl _ _ 106 rfl 3 i0 (.int .i64 0) 1 8 Tryz.underlying106 HI.out.1 HI.out.2.1 HI.out.2.2.1 HI.out.2.2.2 rfl (by decide) G2 (k + 1) (by omega) HE.out.1.hi (.slice (some ⟨N, 0, none⟩) 1 1) 1 [.int .i64 bk] rfl S1.out 1 (by decide) [.int .i64 ot] _ rfl rfl (by simp [Value.oneCell']) (by unfold maxLen; decide) (by decide) ?_; intro b3 o3 c3 w3 G3 e3 s3; have HE3 := Lib.hid (And.intro e3 s3); have x13 := (HE.out.2.1.ext e3 (by omega)).c 1 _ rfl; have f13 := (HE.out.2.1.ext e3 (by omega)).f 1; clear e3 s3)
     go_ret
     rw [HZ.out]
     have y3 := HE.out.2.1.ext HE3.out.1 (by omega)
     have e4 := ext_set (j := 1) (v := .slice (some ⟨b3, o3, none⟩) (1 + 1) c3) HE3.out.1.hi y3 hk
     refine ⟨_, rfl, G3, (HE.out.1.trans (HE3.out.1.mono fun t _ h => .inr h)).trans (e4.mono fun t _ h => .inl h), _, .pointer none, .pointer none, y3.set 1 (.slice (some ⟨b3, o3, none⟩) (1 + 1) c3) (by simp), fun _ => ?_, fun g => absurd g (by dsimp only; omega), fun g => absurd g (by dsimp only; omega)⟩
     unfold rmLeft
     dsimp only
     rw [if_pos rfl, if_neg HQ.out]
     exact HE3.out.2.ext e4 (by omega)
 · rw [if_neg hb] at hz
   have hs : fnvSize b = 0 := fnvSize_out (by omega)
   rw [hs] at HS
   obtain ⟨G, e2, x2, -⟩ := alloc_ob hhi k #[.int .i64 0, .slice none 0 0, .int .i64 0, .int .i64 0, .nilFunc, .pointer none, .pointer none, .int .i64 0, .int .i64 0, .int .i64 0, .bool false] 382 w.heap.size rfl
   have HE := Lib.hid (And.intro e2 x2)
   have HZ := Lib.hid hz
   clear e2 x2 hz hhi hb hs ht
   go_enter Tryz.func267, Tryz.ntmps267
   go_wp2_with fail
   refine (HS.out _).mono ?_
   rintro e w' ⟨rfl, rfl⟩
   go_wp2_with fail
   go_ret
   rw [HZ.out]
   exact ⟨_, rfl, G, HE.out.1.mono fun t _ h => .inl h, _, _, _, HE.out.2, fun g => absurd g (by dsimp only; omega), fun g => absurd g (by dsimp only; omega), fun g => absurd g (by dsimp only; omega)⟩
theorem c_RmEnds (bv dv wv hv : Value) (b a c : Int) (p0 p : Spt) (is : Bool) (hx : Ob w O k X (rmCs b bv a c dv wv hv p0 is)) (hk : 10 ≤ k) (hhi : ∀ j, O j ≠ 0 → j < w.heap.size) :
 Calls Tryz.prog 312 #[.pointer (some ⟨X, 0, none⟩), .agg #[.int .i64 p.b, .int .i64 p.q, .int .i64 p.s]] w (RP (fun t => t = k) w O (.tuple #[]) fun W G => Ob W G k X (rmCs b bv a c .nilFunc wv hv p true)) := by
 have E0 := Ext.of_below (S := fun t => t = k) hhi ((Below.refl _ w).alloc (Nat.le_refl _) (.cells #[.int .i64 p.b, .int .i64 p.q, .int .i64 p.s] 75))
 have X0 := hx.below ((Below.refl _ w).alloc (Nat.le_refl _) (.cells #[.int .i64 p.b, .int .i64 p.q, .int .i64 p.s] 75))
 obtain ⟨W, hW⟩ : ∃ W, W = w.alloc (.cells #[.int .i64 p.b, .int .i64 p.q, .int .i64 p.s] 75) := ⟨_, rfl⟩
 have c0 : W.cell? ⟨w.heap.size, 0, none⟩ = some (.int .i64 p.b) := by rw [hW]; simp
 have c1 : W.cell? ⟨w.heap.size, 1, none⟩ = some (.int .i64 p.q) := by rw [hW]; simp
 have c2 : W.cell? ⟨w.heap.size, 2, none⟩ = some (.int .i64 p.s) := by rw [hW]; simp
 rw [← hW] at E0 X0
 have hne : ¬ w.heap.size = X := by have := hx.lt; omega
 obtain ⟨n, hn⟩ : ∃ n, n = w.heap.size := ⟨_, rfl⟩
 rw [← hn] at c0 c1 c2 hne
 have y4 := X0.c 4 _ rfl
 have y7 := X0.c 7 _ rfl
 have y8 := X0.c 8 _ rfl
 have y9 := X0.c 9 _ rfl
 have y10 := X0.c 10 _ rfl
 have q4 := X0.f 4
 have q7 := X0.f 7
 have q8 := X0.f 8
 have q9 := X0.f 9
 have q10 := X0.f 10
 have HN := Lib.hid (And.intro hn hW)
 have HX := Lib.hid (And.intro E0 X0)
 clear hx E0 X0 hn hW hhi
 go_enter Tryz.func312, Tryz.ntmps312
 go_upto_region 1 with fail
 rw [← HN.out.1, ← HN.out.2]
 go_wp2_with fail
 go_end0
 have r7 := HX.out.2.set 7 (.int .i64 p.b) (by simp [rmCs])
 have e7 := ext_set (j := 7) (v := .int .i64 p.b) HX.out.1.hi HX.out.2 hk
 have r8 := r7.set 8 (.int .i64 p.q) (by simp [rmCs])
 have e8 := ext_set (j := 8) (v := .int .i64 p.q) e7.hi r7 hk
 have r9 := r8.set 9 (.int .i64 p.s) (by simp [rmCs])
 have e9 := ext_set (j := 9) (v := .int .i64 p.s) e8.hi r8 hk
 have r10 := r9.set 10 (.bool true) (by simp [rmCs])
 have e10 := ext_set (j := 10) (v := .bool true) e9.hi r9 hk
 have r4 := r10.set 4 (.nilFunc) (by simp [rmCs])
 have e4 := ext_set (j := 4) (v := .nilFunc) e10.hi r10 hk
 exact ⟨rfl, O, HX.out.1.trans (e7.trans (e8.trans (e9.trans (e10.trans e4)))), r4⟩
theorem c_RmLookFree (b q a c : Int) (l : List Int) (bv wv hv : Value) (p : Spt) (is : Bool) (hP : PW w O B f s) (hx : Ob w O k X (rmCs b bv a c LOOKR wv hv p is)) (hS : Sls w O (k + 1) 1 bv (l.length + 1) ((q :: l).map (Value.int .i64)))
 (hb : 1 ≤ b ∧ b ≤ 12) (hq : 0 ≤ q ∧ q < fnvSize b) (hf : 0 ≤ twFree (s.M (plTags b q))) (hk : 10 ≤ k) (hhi : ∀ j, O j ≠ 0 → j < w.heap.size) (n0 : 0 ≤ s.n) (n1 : s.n ≤ 4611686018427387904) :
 Calls Tryz.prog 294 #[.pointer (some ⟨X, 0, none⟩), .pointer (some ⟨B.p, 0, none⟩)] w (RP (SX k (k + 1)) w O (.tuple #[]) fun W G => PW W G B f (awLoad (plTags b q) s) ∧ ∃ bv', Ob W G k X (rmCs b bv' a c .nilFunc wv hv ⟨b, q, twFree (s.M (plTags b q))⟩ true)) := by
 obtain ⟨A, o, cp, rfl, hc1, hc2⟩ := hS.open (by omega)
 have a0 := hS.c 0 _ rfl
 rw [Nat.add_zero] at a0
 have hT := hS.tail (o' := if cp = 1 then o else o + 1) (by by_cases h : cp = 1; rw [if_pos h]; exact .inr ⟨h, rfl⟩; rw [if_neg h]; exact .inl rfl)
 have hsz := fnvSize_bd b
 have ht := plTags_in hq
 have HT := Lib.hid (fun W => c_Tags b q W (by omega) (by omega) (by omega) (by omega))
 have hbd := hP.bd (plTags b q)
 have HF := Lib.hid (fun W => c_TwFree (s.M (plTags b q)) W hbd.1 hbd.2)
 have hta : 0 ≤ plTags b q ∧ plTags b q < 18446744073709551616 := by omega
 have HM : Hid (Me k (k + 1) w O w O B f s k X (rmCs b (.slice (some ⟨A, o, none⟩) (l.length + 1) cp) a c LOOKR wv hv p is)) := Lib.hid (Me.start hhi hP hx)
 obtain ⟨ta, hta2⟩ : ∃ x, x = plTags b q := ⟨_, rfl⟩
 rw [← hta2] at HT HF hta hf ⊢
 obtain ⟨fr, hfr⟩ : ∃ x, x = twFree (s.M ta) := ⟨_, rfl⟩
 rw [← hfr] at HF hf ⊢
 have HTA := Lib.hid hta
 have HL := Lib.hid hS
 have x0 := hx.c 0 _ rfl
 have x1 := hx.c 1 _ rfl
 have f1 := hx.f 1
 have pp := hP.wo.c0
 have hXA : ¬ A = X := fun e => by have h1 := hx.o; have h2 := hS.lt.2; rw [← e, h2] at h1; omega
 have hXB : ¬ B.p = X := hP.ne_obj hx hk
 have dfr : decide (0 ≤ fr) = true := by simp [hf]
 have hXl := hx.lt
 have hAl := hS.lt.1
 have hBl := hP.wo.lt
 have hl0 : (0 : Int) < (l.length : Int) + 1 := by omega
 obtain ⟨e1, t1⟩ := alloc_nbH (S := SX k (k + 1)) hhi #[.int .i64 b, .int .i64 q] 73 w.heap.size rfl
 have hbw : Below w.heap.size w ((w.alloc (.cells #[.int .i64 b, .int .i64 q] 73)).drew) := ((Below.refl _ w).alloc (Nat.le_refl _) _).drew
 have T1 := Lib.hid (t1.below (drew_below _))
 have M1 := Lib.hid (HM.out.below hbw)
 have hXN : ¬ X = w.heap.size := by omega
 have hl1 : (1 : Int) ≤ (l.length : Int) + 1 := by omega
 clear hP hx hS hT hhi hta hta2 hfr hf hbd ht hsz e1 t1 hbw
 by_cases hcp : cp = 1
 · subst hcp
   go_enter Tryz.func294, Tryz.ntmps294
   go_wp2_with fail
   go_region
   all_goals
    obtain ⟨W1, hW1⟩ : ∃ W, W = (w.alloc (.cells #[.int .i64 b, .int .i64 q] 73)).drew := ⟨_, rfl⟩
    rw [← hW1] at M1 T1 ⊢
    obtain ⟨N, hN⟩ : ∃ N, N = w.heap.size := ⟨_, rfl⟩
    rw [← hN] at T1 hXN ⊢
    clear hW1 hN x0 x1 f1 a0 pp
    have x1 := M1.out.t.c 1 _ rfl
    have f1 := M1.out.t.f 1
    go_upto_region 2 with fail
    obtain ⟨V, hV⟩ : ∃ V : Value, V = .slice (some ⟨A, o, none⟩) 0 0 := ⟨_, rfl⟩
    rw [← hV]
    have M2 := Lib.hid (M1.out.set hk (Nat.le_refl _) (by omega) 1 V (by simp [rmCs]))
    have T2 := Lib.hid (T1.out.other (b2 := X) (j := 1) (v := V) hXN)
    obtain ⟨W2, hW2⟩ : ∃ W, W = W1.setCell ⟨X, 1, none⟩ V := ⟨_, rfl⟩
    rw [← hW2] at M2 T2 ⊢
    clear hW2 x1 f1 hV
    have p0 := M2.out.p.wo.c0
    have t0 := T2.out.c 0 _ rfl
    have t1 := T2.out.c 1 _ rfl
    go_region_held3 (fun w' => w'.cell? ⟨B.p, 0, none⟩ = some (.pointer (some ⟨B.c, 0, none⟩)) ∧ w'.cell? ⟨N, 0, none⟩ = some (.int .i64 b) ∧ w'.cell? ⟨N, 1, none⟩ = some (.int .i64 q)) (go_keep)
     ((first
       | (go_at_call 153
          refine (HT.out _).mono ?_
          rintro e w3 ⟨rfl, hb3⟩
          have M3 := Lib.hid (M2.out.drew.below hb3)
          have T3 := Lib.hid ((T2.out.below (drew_below _)).below hb3)
          have p03 := M3.out.p.wo.c0
          have t03 := T3.out.c 0 _ rfl
          have t13 := T3.out.c 1 _ rfl
          clear hb3)
       | (go_at_call 172
          refine (c_LoadP ta M3.out.p M3.out.e.hi HTA.out.1 HTA.out.2 n0 n1).mono ?_
          rintro e w4 ⟨rfl, G4, e4, P4⟩
          have M4 := Lib.hid (M3.out.world hk e4 P4)
          have T4 := Lib.hid (T3.out.ext e4 sw0)
          have p04 := M4.out.p.wo.c0
          have t04 := T4.out.c 0 _ rfl
          have t14 := T4.out.c 1 _ rfl
          clear e4 P4)
       | (go_at_call 311
          refine (HF.out _).mono ?_
          rintro e w5 ⟨rfl, hb5⟩
          have M5 := Lib.hid (M4.out.below hb5)
          have T5 := Lib.hid (T4.out.below hb5)
          have p05 := M5.out.p.wo.c0
          have t05 := T5.out.c 0 _ rfl
          have t15 := T5.out.c 1 _ rfl
          clear hb5)))
    all_goals
     clear p0 t0 t1 p03 t03 t13 p04 t04 t14
     have HEN := Lib.hid (c_RmEnds _ _ _ _ _ _ _ p ⟨b, q, fr⟩ is M5.out.t hk M5.out.e.hi)
     go_wp2_with fail
     refine HEN.out.mono ?_
     rintro e w6 ⟨rfl, G6, e6, x6⟩
     have P6 := M5.out.p.ext e6 (by omega) (by omega) (by omega) (by omega)
     have HX := Lib.hid (And.intro (M5.out.e.trans (e6.mono fun t _ h => .inr (by omega))) (And.intro P6 x6))
     clear e6 x6 P6 HEN
     go_wp2
     go_end0
     exact ⟨rfl, G6, HX.out.1, HX.out.2.1, V, HX.out.2.2⟩
 ·
  go_enter Tryz.func294, Tryz.ntmps294
  go_wp2_with fail
  go_region
  all_goals
   obtain ⟨W1, hW1⟩ : ∃ W, W = (w.alloc (.cells #[.int .i64 b, .int .i64 q] 73)).drew := ⟨_, rfl⟩
   rw [← hW1] at M1 T1 ⊢
   obtain ⟨N, hN⟩ : ∃ N, N = w.heap.size := ⟨_, rfl⟩
   rw [← hN] at T1 hXN ⊢
   clear hW1 hN x0 x1 f1 a0 pp
   have x1 := M1.out.t.c 1 _ rfl
   have f1 := M1.out.t.f 1
   go_upto_region 2 with fail
   obtain ⟨V, hV⟩ : ∃ V : Value, V = .slice (some ⟨A, o + 1, none⟩) l.length (cp - 1) := ⟨_, rfl⟩
   rw [← hV]
   have M2 := Lib.hid (M1.out.set hk (Nat.le_refl _) (by omega) 1 V (by simp [rmCs]))
   have T2 := Lib.hid (T1.out.other (b2 := X) (j := 1) (v := V) hXN)
   obtain ⟨W2, hW2⟩ : ∃ W, W = W1.setCell ⟨X, 1, none⟩ V := ⟨_, rfl⟩
   rw [← hW2] at M2 T2 ⊢
   clear hW2 x1 f1 hV
   have p0 := M2.out.p.wo.c0
   have t0 := T2.out.c 0 _ rfl
   have t1 := T2.out.c 1 _ rfl
   go_region_held3 (fun w' => w'.cell? ⟨B.p, 0, none⟩ = some (.pointer (some ⟨B.c, 0, none⟩)) ∧ w'.cell? ⟨N, 0, none⟩ = some (.int .i64 b) ∧ w'.cell? ⟨N, 1, none⟩ = some (.int .i64 q)) (go_keep)
    ((first
      | (go_at_call 153
         refine (HT.out _).mono ?_
         rintro e w3 ⟨rfl, hb3⟩
         have M3 := Lib.hid (M2.out.drew.below hb3)
         have T3 := Lib.hid ((T2.out.below (drew_below _)).below hb3)
         have p03 := M3.out.p.wo.c0
         have t03 := T3.out.c 0 _ rfl
         have t13 := T3.out.c 1 _ rfl
         clear hb3)
      | (go_at_call 172
         refine (c_LoadP ta M3.out.p M3.out.e.hi HTA.out.1 HTA.out.2 n0 n1).mono ?_
         rintro e w4 ⟨rfl, G4, e4, P4⟩
         have M4 := Lib.hid (M3.out.world hk e4 P4)
         have T4 := Lib.hid (T3.out.ext e4 sw0)
         have p04 := M4.out.p.wo.c0
         have t04 := T4.out.c 0 _ rfl
         have t14 := T4.out.c 1 _ rfl
         clear e4 P4)
      | (go_at_call 311
         refine (HF.out _).mono ?_
         rintro e w5 ⟨rfl, hb5⟩
         have M5 := Lib.hid (M4.out.below hb5)
         have T5 := Lib.hid (T4.out.below hb5)
         have p05 := M5.out.p.wo.c0
         have t05 := T5.out.c 0 _ rfl
         have t15 := T5.out.c 1 _ rfl
         clear hb5)))
   all_goals
    clear p0 t0 t1 p03 t03 t13 p04 t04 t14
    have HEN := Lib.hid (c_RmEnds _ _ _ _ _ _ _ p ⟨b, q, fr⟩ is M5.out.t hk M5.out.e.hi)
    go_wp2_with fail
    refine HEN.out.mono ?_
    rintro e w6 ⟨rfl, G6, e6, x6⟩
    have P6 := M5.out.p.ext e6 (by omega) (by omega) (by omega) (by omega)
    have HX := Lib.hid (And.intro (M5.out.e.trans (e6.mono fun t _ h => .inr (by omega))) (And.intro P6 x6))
    clear e6 x6 P6 HEN
    go_wp2
    go_end0
    exact ⟨rfl, G6, HX.out.1, HX.out.2.1, V, HX.out.2.2⟩
end
end
section
open Go.RowKit Go.Shelf
section
variable {X : Nat} {w : World} {O : Om} {B : Wb} {f : Cf} {s : AW} {k : Nat}
theorem c_RmStepFree {z : Rmm} {q : Int} {l : List Int} (hP : PW w O B f s) (hR : RoomAt w O k X z) (hl : z.ln = 1 ∨ z.ln = 2) (hql : rmLeft z = q :: l) (hb : 1 ≤ z.b ∧ z.b ≤ 12) (hq : 0 ≤ q ∧ q < fnvSize z.b) (hf : 0 ≤ twFree (s.M (plTags z.b q))) (hk : 10 ≤ k) (hhi : ∀ j, O j ≠ 0 → j < w.heap.size) (n0 : 0 ≤ s.n) (n1 : s.n ≤ 4611686018427387904) :
 Calls Tryz.prog 470 #[.pointer (some ⟨X, 0, none⟩), .pointer (some ⟨B.p, 0, none⟩)] w (RP (SX k (k + 14)) w O (.bool true) fun W G => PW W G B f (awLoad (plTags z.b q) s) ∧ RoomAt W G k X (rmIn z ⟨z.b, q, twFree (s.M (plTags z.b q))⟩)) := by
 obtain ⟨bv, wv, hv, h1, h2, -, -⟩ := hR.ex
 have hS := h2 hl
 rw [hql] at hS
 have hdo : rmDo z.ln = LOOKR := by unfold rmDo; rw [if_neg (by omega), if_pos (by omega)]
 rw [hdo] at h1
 have HL := Lib.hid (c_RmLookFree z.b q z.a z.c l bv wv hv z.p z.is hP h1 hS hb hq hf hk hhi n0 n1)
 have x4 := h1.c 4 _ rfl
 have hOv0 : Calls Tryz.prog 469 #[.pointer (some ⟨X, 0, none⟩)] w fun e w' => e = .returned (.bool false) ∧ w = w' := c_RmOver X LOOKR w x4 false (.inr ⟨_, _, _, rfl, rfl⟩)
 have HO0 := Lib.hid hOv0
 have hKL : ∀ args W, (callFunc 294 args).run Tryz.prog W = .ok (.enter 294 args) W := enters_of Tryz.func294 (by kernel_rfl) rfl
 have x4' : w.cell? ⟨X, 4, none⟩ = some (.func (.func 294) #[] #[]) := x4
 obtain ⟨zb, hzb⟩ : ∃ b, b = z.b := ⟨_, rfl⟩
 clear hP hR hl hql hb hq hf hhi h1 h2 hS hdo hOv0 x4
 go_enter Tryz.func470, Tryz.ntmps470
 go_wp2_with fail
 refine HO0.out.mono ?_
 rintro e w' ⟨rfl, rfl⟩
 go_wp2_with fail
 refine HL.out.mono ?_
 rintro e w1 ⟨rfl, G1, e1, P1, bv1, x1⟩
 have y4 := x1.c 4 _ rfl
 have HE := Lib.hid (And.intro e1 (And.intro P1 x1))
 have HO1 := Lib.hid (c_RmOver X .nilFunc w1 y4 true (.inl ⟨rfl, rfl⟩))
 clear e1 P1 x1 y4 x4' hKL HL HO0
 go_wp2_with fail
 refine HO1.out.mono ?_
 rintro e w' ⟨rfl, rfl⟩
 go_wp2_with fail
 go_ret
 exact ⟨rfl, G1, HE.out.1.mono fun t _ ht => SX.mono (by omega) (by omega) ht, HE.out.2.1, bv1, wv, hv, HE.out.2.2, fun h => absurd h (by unfold rmIn; dsimp only; omega), fun h => absurd h (by unfold rmIn; dsimp only; omega), fun h => absurd h (by unfold rmIn; dsimp only; omega)⟩
theorem c_RmGot {z : Rmm} (hR : RoomAt w O k X z) : Calls Tryz.prog 270 #[.pointer (some ⟨X, 0, none⟩)] w fun e w' => e = .returned (.tuple #[.agg #[.int .i64 (if z.is = true then z.p.b else 0), .int .i64 (if z.is = true then z.p.q else 0), .int .i64 (if z.is = true then z.p.s else 0)], .bool z.is]) ∧ Below w.heap.size w w' := by
 obtain ⟨bv, wv, hv, h1, -⟩ := hR.ex
 have x7 := h1.c 7 _ rfl
 have x8 := h1.c 8 _ rfl
 have x9 := h1.c 9 _ rfl
 have x10 := h1.c 10 _ rfl
 have hl := h1.lt
 have hne : ¬ X = w.heap.size := by omega
 have hne2 : ¬ w.heap.size = X := by omega
 obtain ⟨b, hb⟩ : ∃ b, b = z.is := ⟨_, rfl⟩
 obtain ⟨pb, hpb⟩ : ∃ b, b = z.p.b := ⟨_, rfl⟩
 obtain ⟨pq, hpq⟩ : ∃ b, b = z.p.q := ⟨_, rfl⟩
 obtain ⟨ps, hps⟩ : ∃ b, b = z.p.s := ⟨_, rfl⟩
 rw [← hb] at x10
 rw [← hb, ← hpb, ← hpq, ← hps]
 rw [← hpb] at x7
 rw [← hpq] at x8
 rw [← hps] at x9
 clear h1 hR hb hpb hpq hps
 cases b with
 | true =>
   simp only [if_true]
   go_enter Tryz.func270, Tryz.ntmps270
   go_wp2_with fail
   exact bodyPost_ret (v := .tuple #[.agg #[.int .i64 pb, .int .i64 pq, .int .i64 ps], .bool true]) (by simp [results, Tryz.results270, go_sem]) rfl ⟨rfl, by first | exact (Below.refl _ _).alloc (Nat.le_refl _) _ | exact ((((Below.refl _ _).alloc (Nat.le_refl _) _).setCell (p := ⟨w.heap.size, 0, none⟩) (Nat.le_refl _) _).setCell (p := ⟨w.heap.size, 1, none⟩) (Nat.le_refl _) _).setCell (p := ⟨w.heap.size, 2, none⟩) (Nat.le_refl _) _⟩
 | false =>
   simp only [Bool.false_eq_true, if_false]
   go_enter Tryz.func270, Tryz.ntmps270
   go_wp2_with fail
   exact bodyPost_ret (v := .tuple #[.agg #[.int .i64 0, .int .i64 0, .int .i64 0], .bool false]) (by simp [results, Tryz.results270, go_sem]) rfl ⟨rfl, by first | exact (Below.refl _ _).alloc (Nat.le_refl _) _ | exact ((((Below.refl _ _).alloc (Nat.le_refl _) _).setCell (p := ⟨w.heap.size, 0, none⟩) (Nat.le_refl _) _).setCell (p := ⟨w.heap.size, 1, none⟩) (Nat.le_refl _) _).setCell (p := ⟨w.heap.size, 2, none⟩) (Nat.le_refl _) _⟩
end
end
end Go.Proofs.YtifkfhnbkjkakaaGreatDoor
