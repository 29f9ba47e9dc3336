/- Parts of the walk. -/
import Derived.Test.YthbodknlhkapdaaGreatBaE
import Derived.Test.YthbodknlhkapdaaGreatG1
import Derived.Test.YthbodknlhkapdaaGreatBaH
import Derived.Laws.EntriesVeiled
import Derived.Maps.OwnSet
import Derived.Shelf.Lay
namespace Go.Proofs.YthbodknlhkapdaaGreat
set_option linter.unusedVariables false
set_option linter.unusedSimpArgs false
set_option maxHeartbeats 4000000
set_option maxRecDepth 100000
section
section
open Go.RowKit Go.Maps
def Ao6 : Value → Option (DataW Unit × List MemPlace)
 | .agg cs => match cs.toList with
   | [.int .i64 a, .int .i64 b] => some (.agg [.lit (.int .i64 a), .lit (.int .i64 b)], [])
   | _ => none
 | _ => none
def frD (x : Int × Int) : DataW Unit := .agg [.lit (.int .i64 x.1), .lit (.int .i64 x.2)]
theorem Aif (a b : Int) : Ao6 (.agg #[.int .i64 a, .int .i64 b]) = some (frD (a, b), []) := rfl
theorem Ajs {v : Value} {z : DataW Unit × List MemPlace} (h : Ao6 v = some z) : ∃ a b, v = .agg #[.int .i64 a, .int .i64 b] ∧ z.1 = frD (a, b) := by
 unfold Ao6 at h
 split at h
 · rename_i cs
   split at h
   · rename_i a b hc
     cases h
     refine ⟨a, b, ?_, rfl⟩
     rw [show cs = #[.int .i64 a, .int .i64 b] from by rw [← Array.toList_inj, hc]]
   cases h
 cases h
def Auf (L : List (Int × Int × Int)) : DataW Unit := L.foldl (fun D x => D.put (.int .i64 x.1) (frD x.2)) (.map [])
theorem Aic (L : List (Int × Int × Int)) (x : Int × Int × Int) : Auf (L ++ [x]) = (Auf L).put (.int .i64 x.1) (frD x.2) := by
 unfold Auf; rw [List.foldl_append]; rfl
theorem Ajr (L : List (Int × Int × Int)) : IsMap (Auf L) := by
 unfold Auf
 have : ∀ (L : List (Int × Int × Int)) (D : DataW Unit), IsMap D → IsMap (L.foldl (fun D x => D.put (.int .i64 x.1) (frD x.2)) D) := by
  intro L
  induction L with
  | nil => intro D h; exact h
  | cons x L ih => intro D h; exact ih _ (h.put _ _)
 exact this L _ isMap_empty
theorem Art {α : Type} {p : List α → Prop} (h0 : p []) (h1 : ∀ l x, p l → p (l ++ [x])) (l : List α) : p l := by
 have : ∀ n (l : List α), l.length = n → p l := by
  intro n
  induction n with
  | zero => intro l h; rw [List.eq_nil_of_length_eq_zero h]; exact h0
  | succ n ih =>
    intro l h
    have hne : l ≠ [] := by intro e; rw [e] at h; cases h
    rw [← List.dropLast_concat_getLast hne]
    exact h1 _ _ (ih _ (by rw [List.length_dropLast, h]; rfl))
 exact this _ l rfl
theorem Avg (q : Int) (L : List (Int × Int × Int)) : has (Auf L) (.int .i64 q) = L.any fun x => x.1 == q := by
 refine Art (p := fun L => has (Auf L) (.int .i64 q) = L.any fun x => x.1 == q) rfl (fun l x ih => ?_) L
 rw [Aic, List.any_append, List.any_cons, List.any_nil, Bool.or_false]
 by_cases h : x.1 = q
 · rw [← h, has_put_same (Ajr l) (by trivial)]; simp
 rw [has_put_other (fun e => h (by injection e with _ e; exact e.symm)), ih]; simp [h]
theorem Azk (z : DataW Unit) (L : List (Int × Int × Int)) (hn : (L.map (·.1)).Nodup) (x : Int × Int × Int) (hx : x ∈ L) : (Auf L).atKey (.int .i64 x.1) z = frD x.2 := by
 revert hn hx
 refine Art (p := fun L => (L.map (·.1)).Nodup → x ∈ L → (Auf L).atKey (.int .i64 x.1) z = frD x.2) (fun _ h => by cases h) (fun l y ih hn hx => ?_) L
 rw [List.map_append, List.nodup_append] at hn
 rw [Aic]
 by_cases h : y.1 = x.1
 · rcases List.mem_append.1 hx with g | g
   · exact absurd h.symm (hn.2.2 _ (List.mem_map_of_mem g) _ (by simp))
   rw [List.mem_singleton.1 g, atKey_put_same (Ajr l) (by trivial)]
 rw [atKey_put_other (fun e => h (by injection e with _ e; exact e.symm))]
 refine ih hn.1 ?_
 rcases List.mem_append.1 hx with g | g
 · exact g
 exact absurd (by rw [List.mem_singleton.1 g]) h
def Agc (w : World) (m : Nat) (L : List (Int × Int × Int)) : Prop := w.ownsMap Tryz.prog 3 Ao6 m L.length (Auf L)
theorem Agc.lt {w : World} {m : Nat} {L : List (Int × Int × Int)} (h : Agc w m L) : m < w.heap.size := World.ownsMap.lt h
theorem Agc.block {w w' : World} {m : Nat} {L : List (Int × Int × Int)} (h : Agc w m L) (hb : w'.heap[m]? = w.heap[m]?) : Agc w' m L := by
 obtain ⟨es, clk, h1, h2⟩ := h
 exact ⟨es, clk, hb.trans h1, h2⟩
theorem Agc.made (w : World) : Agc (w.alloc (.map #[] 0)) w.heap.size [] := World.ownsMap_made _ _ _ _
theorem Bcb : Keyed Tryz.prog 3 := int_keyed Tryz.underlying3
theorem Arl {a : Int} (h0 : -9223372036854775808 ≤ a) (h1 : a ≤ 9223372036854775807) : (Lit.int .i64 a).wf = true := by
 simp [Lit.wf]; exact ⟨h0, h1⟩
theorem Ale (w : World) : (zeroValue 306).run Tryz.prog w = .ok (.agg #[.int .i64 0, .int .i64 0]) w := by kernel_rfl
section
variable {w : World} {m : Nat} {L : List (Int × Int × Int)} {q : Int}
theorem Agc.look_ok (h : Agc w m L) (q0 : -9223372036854775808 ≤ q) (q1 : q ≤ 9223372036854775807) :
 ∃ a b, (Instr.lookup 302 (.map (some m)) (.int .i64 q) true).run Tryz.prog w = .ok (.tuple #[.agg #[.int .i64 a, .int .i64 b], .bool (L.any fun x => x.1 == q)]) w := by
 obtain ⟨v, ps, hrun, hv⟩ := World.ownsMap.look_ok h Bcb Tryz.underlying302 (Ale w) (Aif 0 0) (keyOf_int_mk Tryz.underlying3 (Arl q0 q1))
 obtain ⟨a, b, rfl, -⟩ := Ajs hv
 rw [Avg] at hrun
 exact ⟨a, b, hrun⟩
theorem Agc.look (h : Agc w m L) (hn : (L.map (·.1)).Nodup) (x : Int × Int × Int) (hx : x ∈ L) (q0 : -9223372036854775808 ≤ x.1) (q1 : x.1 ≤ 9223372036854775807) :
 (Instr.lookup 302 (.map (some m)) (.int .i64 x.1) false).run Tryz.prog w = .ok (.agg #[.int .i64 x.2.1, .int .i64 x.2.2]) w := by
 obtain ⟨v, ps, hrun, hv⟩ := World.ownsMap.lookup h Bcb Tryz.underlying302 (Ale w) (Aif 0 0) (keyOf_int_mk Tryz.underlying3 (Arl q0 q1))
 obtain ⟨a, b, rfl, hab⟩ := Ajs hv
 rw [Azk _ L hn x hx] at hab
 have : x.2.1 = a ∧ x.2.2 = b := by
  unfold frD at hab
  injection hab with e
  injection e with e1 e2
  injection e1 with e1
  injection e1 with _ e1
  injection e2 with e2
  injection e2 with e2
  injection e2 with _ e2
  exact ⟨e1, e2⟩
 rw [this.1, this.2]
 exact hrun
theorem Agc.store {O : Om} {g : Nat} (h : Agc w m L) (hl : L.length < 8192) (q0 : -9223372036854775808 ≤ q) (q1 : q ≤ 9223372036854775807) (a b : Int) (hg : g ≠ 0) (hO : O m = g) (hhi : Hh O w) :
 ∃ w', (Instr.mapUpdate 302 (.map (some m)) (.int .i64 q) (.agg #[.int .i64 a, .int .i64 b])).run Tryz.prog w = .ok () w' ∧ Agc w' m (L ++ [(q, a, b)]) ∧ Ext (fun t => t = g) O w O w' := by
 obtain ⟨w', hrun, r1, r2⟩ := World.ownsMap.store h Bcb Tryz.underlying302 (by unfold maxLen; omega) (keyOf_int_mk Tryz.underlying3 (Arl q0 q1)) (Aif a b)
 refine ⟨w', hrun, ?_, ?_⟩
 · unfold Agc
   rw [Aic, List.length_append]
   exact r1
 have hw : Aag (fun j => j = m) w w' := (Aag.refl _ _).grown r2.grown fun k hk _ => by cases hk; rfl
 refine ⟨fun j _ => rfl, fun j hj => Nat.lt_of_lt_of_le (hhi j hj) hw.size, fun j hj hn => absurd (hhi j hn) (by omega), hw.mono fun j _ e => ?_⟩
 subst e
 exact ⟨hO, by rw [hO]; exact hg⟩
end
end
section
open Go.RowKit Go.Shelf
theorem Ak4 (x : Int) (w : World) (x0 : 0 ≤ x) (x1 : x < 18446744073709551616) : Calls Tryz.prog 182 #[.int .u64 x] w fun e w' => e = .returned (.int .i64 (Aa5 x)) ∧ Below w.heap.size w w' := by
 have HP := hQd (fun W => Aml x W x0 x1)
 unfold Aa5
 obtain ⟨t0, e0⟩ := exq (Aay x 0)
 obtain ⟨t1, e1⟩ := exq (Aay x 1)
 obtain ⟨t2, e2⟩ := exq (Aay x 2)
 obtain ⟨t3, e3⟩ := exq (Aay x 3)
 rw [← e0, ← e1, ← e2, ← e3] at HP
 rw [← e0, ← e1, ← e2, ← e3]
 have h0 : ∀ W, (Instr.index 261 (.agg #[.int .i64 t0, .int .i64 t1, .int .i64 t2, .int .i64 t3]) (.int .i64 0)).run Tryz.prog W = .ok (.int .i64 t0) W := fun W => by kernel_rfl
 have h1 : ∀ W, (Instr.index 261 (.agg #[.int .i64 t0, .int .i64 t1, .int .i64 t2, .int .i64 t3]) (.int .i64 1)).run Tryz.prog W = .ok (.int .i64 t1) W := fun W => by kernel_rfl
 have h2 : ∀ W, (Instr.index 261 (.agg #[.int .i64 t0, .int .i64 t1, .int .i64 t2, .int .i64 t3]) (.int .i64 2)).run Tryz.prog W = .ok (.int .i64 t2) W := fun W => by kernel_rfl
 have h3 : ∀ W, (Instr.index 261 (.agg #[.int .i64 t0, .int .i64 t1, .int .i64 t2, .int .i64 t3]) (.int .i64 3)).run Tryz.prog W = .ok (.int .i64 t3) W := fun W => by kernel_rfl
 clear e0 e1 e2 e3
 obtain ⟨r, hr⟩ := exq (if t0 = 0 then (0 : Int) else if t1 = 0 then 1 else if t2 = 0 then 2 else if t3 = 0 then 3 else -1)
 rw [← hr]
 by_cases c0 : t0 = 0
 · have hr2 : r = 0 := by rw [hr, if_pos c0]
   clear hr
   subst hr2
   have d0 : (t0 == 0) = true := by simp [c0]
   clear c0
   go_enter Tryz.func182, Tryz.ntmps182
   go_wp2_with fail
   refine (HP.out _).mono ?_
   rintro e w' ⟨rfl, hb⟩
   go_wp2_with fail
   refine wp_loop_rounds 1 ?_
   rw [rounds_succ]
   go_wp2_with fail
   go_ret
   exact ⟨rfl, hb⟩
 have d0 : (t0 == 0) = false := by simp [c0]
 by_cases c1 : t1 = 0
 · have hr2 : r = 1 := by rw [hr, if_neg c0, if_pos c1]
   clear hr
   subst hr2
   have d1 : (t1 == 0) = true := by simp [c1]
   clear c0 c1
   go_enter Tryz.func182, Tryz.ntmps182
   go_wp2_with fail
   refine (HP.out _).mono ?_
   rintro e w' ⟨rfl, hb⟩
   go_wp2_with fail
   refine wp_loop_rounds 2 ?_
   rw [rounds_succ]
   go_wp2_with fail
   rw [rounds_succ]
   go_wp2_with fail
   go_ret
   exact ⟨rfl, hb⟩
 have d1 : (t1 == 0) = false := by simp [c1]
 by_cases c2 : t2 = 0
 · have hr2 : r = 2 := by rw [hr, if_neg c0, if_neg c1, if_pos c2]
   clear hr
   subst hr2
   have d2 : (t2 == 0) = true := by simp [c2]
   clear c0 c1 c2
   go_enter Tryz.func182, Tryz.ntmps182
   go_wp2_with fail
   refine (HP.out _).mono ?_
   rintro e w' ⟨rfl, hb⟩
   go_wp2_with fail
   refine wp_loop_rounds 3 ?_
   rw [rounds_succ]
   go_wp2_with fail
   rw [rounds_succ]
   go_wp2_with fail
   rw [rounds_succ]
   go_wp2_with fail
   go_ret
   exact ⟨rfl, hb⟩
 have d2 : (t2 == 0) = false := by simp [c2]
 by_cases c3 : t3 = 0
 · have hr2 : r = 3 := by rw [hr, if_neg c0, if_neg c1, if_neg c2, if_pos c3]
   clear hr
   subst hr2
   have d3 : (t3 == 0) = true := by simp [c3]
   clear c0 c1 c2 c3
   go_enter Tryz.func182, Tryz.ntmps182
   go_wp2_with fail
   refine (HP.out _).mono ?_
   rintro e w' ⟨rfl, hb⟩
   go_wp2_with fail
   refine wp_loop_rounds 4 ?_
   rw [rounds_succ]
   go_wp2_with fail
   rw [rounds_succ]
   go_wp2_with fail
   rw [rounds_succ]
   go_wp2_with fail
   rw [rounds_succ]
   go_wp2_with fail
   go_ret
   exact ⟨rfl, hb⟩
 have hr2 : r = -1 := by rw [hr, if_neg c0, if_neg c1, if_neg c2, if_neg c3]
 clear hr
 subst hr2
 have d3 : (t3 == 0) = false := by simp [c3]
 clear c0 c1 c2 c3
 go_enter Tryz.func182, Tryz.ntmps182
 go_wp2_with fail
 refine (HP.out _).mono ?_
 rintro e w' ⟨rfl, hb⟩
 go_wp2_with fail
 refine wp_loop_rounds 5 ?_
 rw [rounds_succ]
 go_wp2_with fail
 rw [rounds_succ]
 go_wp2_with fail
 rw [rounds_succ]
 go_wp2_with fail
 rw [rounds_succ]
 go_wp2_with fail
 rw [rounds_succ]
 go_wp2_with fail
 go_ret
 exact ⟨rfl, hb⟩
def spl (p : Spt) : List Value := [.int .i64 p.b, .int .i64 p.q, .int .i64 p.s]
def Ac7 (n : Wnd) : Int × Int × Int := (n.q, n.fr, if n.fr < 0 then -1 else n.sl)
structure Am3 (W : World) (G : Om) (k X : Nat) (z : Wym) : Prop where
 ex : ∃ (bv mv wv : Value) (ov md : Bool), Ob W G k X [.int .i64 z.b, .int .i64 z.mo, bv, mv, .int .i64 z.i, wv, .bool ov, .bool md] ∧ (z.ln = 1 → ov = false ∧ md = true) ∧ (z.ln = 0 → ov = true ∨ md = false) ∧
  (z.ln = 1 → Sls W G (k + 1) 1 bv z.l.length (z.l.map fun n => .int .i64 n.q)) ∧ (z.ln = 1 → ∃ m, mv = .map (some m) ∧ G m = k + 2 ∧ Agc W m (z.l.map Ac7)) ∧ Sls W G (k + 3) 3 wv z.way.length (z.way.flatMap spl)
theorem Am3.ext {S : Nat → Prop} {O O' : Om} {w w' : World} {k X : Nat} {z : Wym} (h : Am3 w O k X z) (e : Ext S O w O' w') (hs : ∀ t, k ≤ t → t < k + 4 → ¬ S t) : Am3 w' O' k X z := by
 obtain ⟨bv, mv, wv, ov, md, h1, h2, h3, h4, h5, h6⟩ := h.ex
 refine ⟨bv, mv, wv, ov, md, h1.ext e (hs _ (by omega) (by omega)), h2, h3, fun g => (h4 g).ext e (hs _ (by omega) (by omega)), fun g => ?_, h6.ext e (hs _ (by omega) (by omega))⟩
 obtain ⟨m, q1, q2, q3⟩ := h5 g
 exact ⟨m, q1, (e.lo _ q3.lt).trans q2, q3.block (e.wr.block m q3.lt fun hh => hs (k + 2) (by omega) (by omega) (by have := hh.1; rwa [q2] at this))⟩
theorem Am3.below {O : Om} {w w' : World} {k X : Nat} {z : Wym} (h : Am3 w O k X z) (e : Below w.heap.size w w') : Am3 w' O k X z := by
 obtain ⟨bv, mv, wv, ov, md, h1, h2, h3, h4, h5, h6⟩ := h.ex
 refine ⟨bv, mv, wv, ov, md, h1.below e, h2, h3, fun g => (h4 g).below e, fun g => ?_, h6.below e⟩
 obtain ⟨m, q1, q2, q3⟩ := h5 g
 exact ⟨m, q1, q2, q3.block (e.block m q3.lt)⟩
def Ai6 (W : World) (G : Om) (k U : Nat) (p : Spt) (tg rf : Int) (o : Otm) : Prop :=
 (1 ≤ tg ∧ tg ≤ 255 ∧ 1 ≤ rf → Adu W G k U p tg rf o) ∧ (¬ (1 ≤ tg ∧ tg ≤ 255 ∧ 1 ≤ rf) → Ob W G k U [.int .u64 0, .int .u64 0, .int .i64 0, .int .u64 0, .int .i64 0, .int .i64 0, .int .i64 0])
theorem Ai6.ext {S : Nat → Prop} {O O' : Om} {w w' : World} {k U : Nat} {p : Spt} {tg rf : Int} {o : Otm} (h : Ai6 w O k U p tg rf o) (e : Ext S O w O' w') (hs : ¬ S k := by omega) : Ai6 w' O' k U p tg rf o := ⟨fun g => (h.1 g).ext e hs, fun g => (h.2 g).ext e hs⟩
theorem Ai6.below {O : Om} {w w' : World} {k U : Nat} {p : Spt} {tg rf : Int} {o : Otm} (h : Ai6 w O k U p tg rf o) (e : Below w.heap.size w w') : Ai6 w' O k U p tg rf o := ⟨fun g => (h.1 g).below e, fun g => (h.2 g).below e⟩
def Abb (m : Nat) : Value := .iface 318 (.pointer (some ⟨m, 0, none⟩))
def Ak9 (m : Nat) : Value := .iface 321 (.pointer (some ⟨m, 0, none⟩))
def Aht (m : Nat) : Value := .iface 323 (.pointer (some ⟨m, 0, none⟩))
structure Amx (W : World) (G : Om) (k X : Nat) (z : Hom) : Prop where
 ex : ∃ (wv dv : Value) (ld : Bool), Ob W G k X [wv, .int .i64 (max (z.k + 1) 0), .int .i64 z.tag, .bool ld, dv] ∧ (z.ln ≠ 0 → Sls W G (k + 1) 3 wv z.way.length (z.way.flatMap spl)) ∧ (z.ln = 1 → ld = false) ∧ (2 ≤ z.ln → ld = true) ∧
  (z.ln ≤ 2 → ∃ n, Sls W G (k + 2) 1 dv 0 [] ∧ n = 0) ∧
  (3 ≤ z.ln → ∃ m1 u p m2, Sls W G (k + 2) 1 dv (7 - z.ln).toNat ([Abb m1, Ak9 u, Aht p, Abb m2].drop (z.ln - 3).toNat) ∧ (z.ln = 3 → Ada W G (k + 3) m1 z.m1) ∧ (z.ln ≤ 4 → Abx W G (k + 5) u z.s z.o) ∧ (z.ln ≤ 5 → Ai6 W G (k + 6) p z.t z.tag z.ref z.u) ∧ (z.ln ≤ 6 → Ada W G (k + 7) m2 z.m2))
theorem Amx.ext {S : Nat → Prop} {O O' : Om} {w w' : World} {k X : Nat} {z : Hom} (h : Amx w O k X z) (e : Ext S O w O' w') (hs : ∀ t, k ≤ t → t < k + 9 → ¬ S t) : Amx w' O' k X z := by
 obtain ⟨wv, dv, ld, h1, h2, h3, h4, h5, h6⟩ := h.ex
 refine ⟨wv, dv, ld, h1.ext e (hs _ (by omega) (by omega)), fun g => (h2 g).ext e (hs _ (by omega) (by omega)), h3, h4, fun g => ?_, fun g => ?_⟩
 · obtain ⟨n, q1, q2⟩ := h5 g; exact ⟨n, q1.ext e (hs _ (by omega) (by omega)), q2⟩
 obtain ⟨m1, u, p, m2, q1, q2, q3, q4, q5⟩ := h6 g
 exact ⟨m1, u, p, m2, q1.ext e (hs _ (by omega) (by omega)), fun g => (q2 g).ext e (hs _ (by omega) (by omega)) (hs _ (by omega) (by omega)), fun g => (q3 g).ext e (hs _ (by omega) (by omega)), fun g => (q4 g).ext e (hs _ (by omega) (by omega)), fun g => (q5 g).ext e (hs _ (by omega) (by omega)) (hs _ (by omega) (by omega))⟩
theorem Amx.below {O : Om} {w w' : World} {k X : Nat} {z : Hom} (h : Amx w O k X z) (e : Below w.heap.size w w') : Amx w' O k X z := by
 obtain ⟨wv, dv, ld, h1, h2, h3, h4, h5, h6⟩ := h.ex
 refine ⟨wv, dv, ld, h1.below e, fun g => (h2 g).below e, h3, h4, fun g => ?_, fun g => ?_⟩
 · obtain ⟨n, q1, q2⟩ := h5 g; exact ⟨n, q1.below e, q2⟩
 obtain ⟨m1, u, p, m2, q1, q2, q3, q4, q5⟩ := h6 g
 exact ⟨m1, u, p, m2, q1.below e, fun g => (q2 g).below e, fun g => (q3 g).below e, fun g => (q4 g).below e, fun g => (q5 g).below e⟩
def Afd (b : Int) (bv : Value) (a c : Int) (dv wv hv : Value) (p : Spt) (is : Bool) : List Value := [.int .i64 b, bv, .int .i64 a, .int .i64 c, dv, wv, hv, .int .i64 p.b, .int .i64 p.q, .int .i64 p.s, .bool is]
def Ahg : Value := .func (.func 168) #[] #[]
def Aef : Value := .func (.func 185) #[] #[]
def Aw7 : Value := .func (.func 194) #[] #[]
def Ani (ln : Int) : Value := if ln = 0 then .nilFunc else if ln ≤ 2 then Ahg else if ln = 3 then Aef else Aw7
def Add (z : Rmm) : List Int := if z.ln = 1 then (if z.c = z.a then [z.a] else [z.a, z.c]) else if z.ln = 2 then [z.c] else []
structure Aa1 (W : World) (G : Om) (k X : Nat) (z : Rmm) : Prop where
 ex : ∃ (bv wv hv : Value), Ob W G k X (Afd z.b bv z.a z.c (Ani z.ln) wv hv z.p z.is) ∧ (z.ln = 1 ∨ z.ln = 2 → Sls W G (k + 1) 1 bv (Add z).length ((Add z).map (Value.int .i64))) ∧ (z.ln = 3 → ∃ Y, wv = .pointer (some ⟨Y, 0, none⟩) ∧ Am3 W G (k + 2) Y z.wy) ∧ (z.ln = 4 → ∃ Y, hv = .pointer (some ⟨Y, 0, none⟩) ∧ Amx W G (k + 6) Y z.ho)
theorem Aa1.ext {S : Nat → Prop} {O O' : Om} {w w' : World} {k X : Nat} {z : Rmm} (h : Aa1 w O k X z) (e : Ext S O w O' w') (hs : ∀ t, k ≤ t → t < k + 15 → ¬ S t) : Aa1 w' O' k X z := by
 obtain ⟨bv, wv, hv, h1, h2, h3, h4⟩ := h.ex
 refine ⟨bv, wv, hv, h1.ext e (hs _ (by omega) (by omega)), fun g => (h2 g).ext e (hs _ (by omega) (by omega)), fun g => ?_, fun g => ?_⟩
 · obtain ⟨Y, q1, q2⟩ := h3 g; exact ⟨Y, q1, q2.ext e fun t a b => hs t (by omega) (by omega)⟩
 obtain ⟨Y, q1, q2⟩ := h4 g; exact ⟨Y, q1, q2.ext e fun t a b => hs t (by omega) (by omega)⟩
theorem Aa1.below {O : Om} {w w' : World} {k X : Nat} {z : Rmm} (h : Aa1 w O k X z) (e : Below w.heap.size w w') : Aa1 w' O k X z := by
 obtain ⟨bv, wv, hv, h1, h2, h3, h4⟩ := h.ex
 refine ⟨bv, wv, hv, h1.below e, fun g => (h2 g).below e, fun g => ?_, fun g => ?_⟩
 · obtain ⟨Y, q1, q2⟩ := h3 g; exact ⟨Y, q1, q2.below e⟩
 obtain ⟨Y, q1, q2⟩ := h4 g; exact ⟨Y, q1, q2.below e⟩
theorem Aa1.c4 {O : Om} {w : World} {k X : Nat} {z : Rmm} (h : Aa1 w O k X z) : w.cell? ⟨X, 4, none⟩ = some (Ani z.ln) := by
 obtain ⟨bv, wv, hv, h1, -⟩ := h.ex
 exact h1.c 4 _ rfl
@[go_sem] theorem eql_fr (w : World) (f : Fn) (a c : Array Value) : (binOp .eql 276 (.func f a c) .nilFunc).run Tryz.prog w = .ok (.bool false) w := Aeh w _ _ _ _ f a c Tryz.underlying276
@[go_sem] theorem Bci (w : World) : (binOp .eql 276 .nilFunc .nilFunc).run Tryz.prog w = .ok (.bool true) w := Aep w _ _ _ _ Tryz.underlying276
theorem Ahr (X : Nat) (dv : Value) (w : World) (hc : w.cell? ⟨X, 4, none⟩ = some dv) (b : Bool) (hb : (dv = .nilFunc ∧ b = true) ∨ (∃ f a c, dv = .func f a c ∧ b = false)) :
 C1 236 X w fun e w' => e = .returned (.bool b) ∧ w = w' := by
 rcases hb with ⟨rfl, rfl⟩ | ⟨f, a, c, rfl, rfl⟩
 · go_enter Tryz.func236, Tryz.ntmps236
   go_wp2
   go_ret
   exact ⟨rfl, rfl⟩
 go_enter Tryz.func236, Tryz.ntmps236
 go_wp2
 go_ret
 exact ⟨rfl, rfl⟩
theorem Ap5 (ln : Int) : (Ani ln = .nilFunc ∧ (ln == 0) = true) ∨ (∃ f a c, Ani ln = .func f a c ∧ (ln == 0) = false) := by
 unfold Ani
 by_cases h : ln = 0
 · rw [if_pos h]; exact .inl ⟨rfl, by simp [h]⟩
 rw [if_neg h]
 have d : (ln == 0) = false := by simp [h]
 split
 · exact .inr ⟨_, _, _, rfl, d⟩
 split
 · exact .inr ⟨_, _, _, rfl, d⟩
 exact .inr ⟨_, _, _, rfl, d⟩
theorem Amn {O : Om} {w : World} {k X : Nat} {z : Rmm} (h : Aa1 w O k X z) : C1 236 X w fun e w' => e = .returned (.bool (z.ln == 0)) ∧ w = w' := Ahr X _ w h.c4 _ (Ap5 z.ln)
end
section
open Go.RowKit Go.Shelf
section
variable {X : Nat} {w : World} {O : Om} {B : Wb} {f : Cf} {s : AW} {k : Nat}
theorem Aty (b h : Int) (b0 : -9223372036854775808 ≤ b) (b1 : b ≤ 9223372036854775807) (h0 : 0 ≤ h) (h1 : h < 18446744073709551616) (hk : 10 ≤ k) (hhi : Hh O w) :
 Calls Tryz.prog 156 #[.int .i64 b, .int .u64 h] w fun e w' => ∃ R, RP (fun t => t = k ∨ t = k + 1) w O (.pointer (some ⟨R, 0, none⟩)) (fun W G => Aa1 W G k R (Afc b h)) e w' := by
 obtain ⟨z, hz⟩ := exq (Afc b h)
 rw [← hz]
 unfold Afc at hz
 have HS := hQd (fun W => Acc b W b0 b1)
 have HB := hQd (fun W => Asy h b W h0 h1 b0 b1)
 have HT := hQd (fun W => Ba6 h W h0 h1)
 have ht := Ad0 h h0 h1
 have HH := hQd hhi
 by_cases hb : 1 ≤ b ∧ b ≤ 12
 · rw [if_pos hb] at hz
   have hs := Abf hb.1 hb.2
   have hd : (Aac b == 0) = false := by simp; omega
   have hbk := Aby (h := h) hb.1 hb.2
   have hsz := Aah b
   have HO := hQd (fun W => Aph (Aat h b) (Ab3 h) b W (by omega) (by omega) (by omega) (by omega) b0 b1)
   obtain ⟨bk, hbk2⟩ := exq (Aat h b)
   rw [← hbk2] at HB HO hz
   obtain ⟨tg, htg⟩ := exq (Ab3 h)
   rw [← htg] at HT HO hz
   obtain ⟨ot, hot⟩ := exq (Aa8 bk tg b)
   rw [← hot] at HO hz
   obtain ⟨sz, hsz2⟩ := exq (Aac b)
   rw [← hsz2] at HS hd
   have HZ := hQd hz
   clear ht hs hbk hsz hbk2 htg hot hsz2 hz hhi hb b0 b1 h0 h1
   obtain ⟨G1, e1, a1, k1⟩ := Aar HH.out (k + 1) #[.int .i64 bk] 3 w.heap.size rfl
   obtain ⟨G2, e2, x2, k2⟩ := Aar e1.hi k #[.int .i64 b, .slice (some ⟨w.heap.size, 0, none⟩) 1 1, .int .i64 bk, .int .i64 ot, Ahg, .pointer none, .pointer none, .int .i64 0, .int .i64 0, .int .i64 0, .bool false] 280 (w.heap.size + 1) (by simp)
   have HE := hQd (aN ((e1.mono (T := fun t => t = k ∨ t = k + 1) fun t _ h => .inr h).trans (e2.mono fun t _ h => .inl h)) (aN x2 (k2 _ _ _ a1)))
   clear e1 a1 k1 e2 x2 k2
   by_cases hq : ot = bk
   · have dq : (ot != bk) = false := by simp [hq]
     have HQ := hQd hq
     clear hq
     go_enter Tryz.func156, Tryz.ntmps156
     go_wp2_with fail
     refine (HS.out _).mono ?_
     rintro e w' ⟨rfl, rfl⟩
     go_wp2_with fail
     refine (HB.out _).mono ?_
     rintro e w' ⟨rfl, rfl⟩
     go_wp2_with fail
     refine (HT.out _).mono ?_
     rintro e w' ⟨rfl, rfl⟩
     go_wp2_with fail
     refine (HO.out _).mono ?_
     rintro e w' ⟨rfl, rfl⟩
     go_wp2_with fail
     go_ret
     rw [HZ.out]
     refine ⟨_, rfl, G2, HE.out.1, _, _, _, HE.out.2.1, fun _ => ?_, nnn, nnn⟩
     unfold Add
     dsimp only
     rw [if_pos rfl, if_pos HQ.out]
     exact Sls.of_ob HE.out.2.2 rfl (by unfold maxLen; decide)
   have dq : (ot != bk) = true := by simp [hq]
   have HQ := hQd hq
   obtain ⟨i0, hi, hz0, hz1, hz2⟩ := info_parts Ase
   have HI := hQd (aN hi (aN hz0 (aN hz1 hz2)))
   clear hq hi hz0 hz1 hz2
   go_enter Tryz.func156, Tryz.ntmps156
   go_wp2_with fail
   refine (HS.out _).mono ?_
   rintro e w' ⟨rfl, rfl⟩
   go_wp2_with fail
   refine (HB.out _).mono ?_
   rintro e w' ⟨rfl, rfl⟩
   go_wp2_with fail
   refine (HT.out _).mono ?_
   rintro e w' ⟨rfl, rfl⟩
   go_wp2_with fail
   refine (HO.out _).mono ?_
   rintro e w' ⟨rfl, rfl⟩
   go_upto_region 7 with fail
   obtain ⟨W, hW⟩ := exq ((w.alloc (.cells #[.int .i64 bk] 3)).alloc (.cells #[.int .i64 b, .slice (some ⟨w.heap.size, 0, none⟩) 1 1, .int .i64 bk, .int .i64 ot, Ahg, .pointer none, .pointer none, .int .i64 0, .int .i64 0, .int .i64 0, .bool false] 280))
   rw [← hW] at HE
   obtain ⟨N, hN⟩ := exq w.heap.size
   rw [← hN] at HE
   have hL : Ahg = .func (.func 168) #[] #[] := rfl
   rw [hL] at hW
   rw [← hN] at hW ⊢
   rw [← hW]
   clear hL hW hN
   have x1 := HE.out.2.1.c 1 _ rfl
   have f1 := HE.out.2.1.f 1
   have S1 := hQd (Sls.of_ob (n := 1) (size := 1) HE.out.2.2 rfl (by unfold maxLen; decide))
   go_wp2_with (at_builtin; refine Ad3 W rfl _ _ 217 rfl 3 i0 (.int .i64 0) 1 8 Tryz.underlying217 HI.out.1 HI.out.2.1 HI.out.2.2.1 HI.out.2.2.2 rfl (by decide) G2 (k + 1) (by omega) HE.out.1.hi (.slice (some ⟨N, 0, none⟩) 1 1) 1 [.int .i64 bk] rfl S1.out 1 (by decide) [.int .i64 ot] _ rfl rfl (by simp [Value.oneCell']) (by unfold maxLen; decide) (by decide) ?_; intro b3 o3 c3 w3 G3 e3 s3; have HE3 := hQd (aN e3 s3); have x13 := (HE.out.2.1.ext e3).c 1 _ rfl; have f13 := (HE.out.2.1.ext e3).f 1; clear e3 s3)
   go_ret
   rw [HZ.out]
   have y3 := HE.out.2.1.ext HE3.out.1
   have e4 := Aaf (j := 1) (v := .slice (some ⟨b3, o3, none⟩) (1 + 1) c3) HE3.out.1.hi y3 hk
   refine ⟨_, rfl, G3, (HE.out.1.trans (HE3.out.1.mono fun t _ h => .inr h)).trans (e4.mono fun t _ h => .inl h), _, .pointer none, .pointer none, y3.set 1 (.slice (some ⟨b3, o3, none⟩) (1 + 1) c3) (by simp), fun _ => ?_, nnn, nnn⟩
   unfold Add
   dsimp only
   rw [if_pos rfl, if_neg HQ.out]
   exact HE3.out.2.ext e4
 rw [if_neg hb] at hz
 have hs : Aac b = 0 := Acm (by omega)
 rw [hs] at HS
 obtain ⟨G, e2, x2, -⟩ := Aar hhi k #[.int .i64 0, .slice none 0 0, .int .i64 0, .int .i64 0, .nilFunc, .pointer none, .pointer none, .int .i64 0, .int .i64 0, .int .i64 0, .bool false] 280 w.heap.size rfl
 have HE := hQd (aN e2 x2)
 have HZ := hQd hz
 clear e2 x2 hz hhi hb hs ht
 go_enter Tryz.func156, Tryz.ntmps156
 go_wp2_with fail
 refine (HS.out _).mono ?_
 rintro e w' ⟨rfl, rfl⟩
 go_wp2_with fail
 go_ret
 rw [HZ.out]
 exact ⟨_, rfl, G, HE.out.1.mono fun t _ h => .inl h, _, _, _, HE.out.2, nnn, nnn, nnn⟩
theorem Ahs (bv dv wv hv : Value) (b a c : Int) (p0 p : Spt) (is : Bool) (hx : Ob w O k X (Afd b bv a c dv wv hv p0 is)) (hk : 10 ≤ k) (hhi : Hh O w) :
 Calls Tryz.prog 183 #[.pointer (some ⟨X, 0, none⟩), .agg #[.int .i64 p.b, .int .i64 p.q, .int .i64 p.s]] w (RP (fun t => t = k) w O (.tuple #[]) fun W G => Ob W G k X (Afd b bv a c .nilFunc wv hv p true)) := by
 have E0 := Ext.of_below (S := fun t => t = k) hhi ((Below.refl _ w).alloc (Nat.le_refl _) (.cells #[.int .i64 p.b, .int .i64 p.q, .int .i64 p.s] 95))
 have X0 := hx.below ((Below.refl _ w).alloc (Nat.le_refl _) (.cells #[.int .i64 p.b, .int .i64 p.q, .int .i64 p.s] 95))
 obtain ⟨W, hW⟩ := exq (w.alloc (.cells #[.int .i64 p.b, .int .i64 p.q, .int .i64 p.s] 95))
 have c0 : W.cell? ⟨w.heap.size, 0, none⟩ = some (.int .i64 p.b) := by rw [hW]; simp
 have c1 : W.cell? ⟨w.heap.size, 1, none⟩ = some (.int .i64 p.q) := by rw [hW]; simp
 have c2 : W.cell? ⟨w.heap.size, 2, none⟩ = some (.int .i64 p.s) := by rw [hW]; simp
 rw [← hW] at E0 X0
 have hne : ¬ w.heap.size = X := by have := hx.lt; omega
 obtain ⟨n, hn⟩ := exq w.heap.size
 rw [← hn] at c0 c1 c2 hne
 obtain ⟨-, -, -, -, y4, -, -, y7, y8, y9⟩ := X0.c10
 have y10 := X0.c 10 _ rfl
 have q4 := X0.f 4
 have q7 := X0.f 7
 have q8 := X0.f 8
 have q9 := X0.f 9
 have q10 := X0.f 10
 have HN := hQd (aN hn hW)
 have HX := hQd (aN E0 X0)
 clear hx E0 X0 hn hW hhi
 go_enter Tryz.func183, Tryz.ntmps183
 go_upto_region 1 with fail
 rw [← HN.out.1, ← HN.out.2]
 go_wp2_with fail
 go_end0
 have r7 := HX.out.2.set 7 (.int .i64 p.b) (by simp [Afd])
 have e7 := Aaf (j := 7) (v := .int .i64 p.b) HX.out.1.hi HX.out.2 hk
 have r8 := r7.set 8 (.int .i64 p.q) (by simp [Afd])
 have e8 := Aaf (j := 8) (v := .int .i64 p.q) e7.hi r7 hk
 have r9 := r8.set 9 (.int .i64 p.s) (by simp [Afd])
 have e9 := Aaf (j := 9) (v := .int .i64 p.s) e8.hi r8 hk
 have r10 := r9.set 10 (.bool true) (by simp [Afd])
 have e10 := Aaf (j := 10) (v := .bool true) e9.hi r9 hk
 have r4 := r10.set 4 (.nilFunc) (by simp [Afd])
 have e4 := Aaf (j := 4) (v := .nilFunc) e10.hi r10 hk
 exact ⟨rfl, O, HX.out.1.trans (e7.trans (e8.trans (e9.trans (e10.trans e4)))), r4⟩
theorem Amo (b q a c : Int) (l : List Int) (bv wv hv : Value) (p : Spt) (is : Bool) (hP : PW w O B f s) (hx : Ob w O k X (Afd b bv a c Ahg wv hv p is)) (hS : Sls w O (k + 1) 1 bv (l.length + 1) ((q :: l).map (Value.int .i64)))
 (hb : 1 ≤ b ∧ b ≤ 12) (hq : 0 ≤ q ∧ q < Aac b) (hf : 0 ≤ Aa5 (s.M (Aai b q))) (hk : 10 ≤ k) (hhi : Hh O w) (n0 : 0 ≤ s.n) (n1 : s.n ≤ 4611686018427387904) :
 C2 168 X B.p w (RP (SX k (k + 1)) w O (.tuple #[]) fun W G => PW W G B f (Aan (Aai b q) s) ∧ ∃ bv', Ob W G k X (Afd b bv' a c .nilFunc wv hv ⟨b, q, Aa5 (s.M (Aai b q))⟩ true)) := by
 obtain ⟨A, o, cp, rfl, hc1, hc2⟩ := hS.open (by omega)
 have a0 := hS.c 0 _ rfl
 rw [Nat.add_zero] at a0
 have hT := hS.tail (o' := if cp = 1 then o else o + 1) (by by_cases h : cp = 1; rw [if_pos h]; exact .inr ⟨h, rfl⟩; rw [if_neg h]; exact .inl rfl)
 have hsz := Aah b
 have ht := Ab2 hq
 have HT := hQd (fun W => Aiu b q W (by omega) (by omega) (by omega) (by omega))
 have hbd := hP.bd (Aai b q)
 have HF := hQd (fun W => Ak4 (s.M (Aai b q)) W hbd.1 hbd.2)
 have hta : 0 ≤ Aai b q ∧ Aai b q < 18446744073709551616 := by omega
 have HM : Hid (Me k (k + 1) w O w O B f s k X (Afd b (.slice (some ⟨A, o, none⟩) (l.length + 1) cp) a c Ahg wv hv p is)) := hQd (Me.start hhi hP hx)
 obtain ⟨ta, hta2⟩ := exq (Aai b q)
 rw [← hta2] at HT HF hta hf ⊢
 obtain ⟨fr, hfr⟩ := exq (Aa5 (s.M ta))
 rw [← hfr] at HF hf ⊢
 have HTA := hQd hta
 have HL := hQd hS
 obtain ⟨x0, x1⟩ := hx.c2
 have f1 := hx.f 1
 have pp := hP.wo.c0
 have hXA : ¬ A = X := fun e => by have h1 := hx.o; have h2 := hS.lt.2; rw [← e, h2] at h1; omega
 have hXB : ¬ B.p = X := hP.ne_obj hx hk
 have dfr : decide (0 ≤ fr) = true := by simp [hf]
 have hXl := hx.lt
 have hAl := hS.lt.1
 have hBl := hP.wo.lt
 have hl0 : (0 : Int) < (l.length : Int) + 1 := by omega
 obtain ⟨e1, t1⟩ := Aau (S := SX k (k + 1)) hhi #[.int .i64 b, .int .i64 q] 93 w.heap.size rfl
 have hbw : Below w.heap.size w ((w.alloc (.cells #[.int .i64 b, .int .i64 q] 93)).drew) := ((Below.refl _ w).alloc (Nat.le_refl _) _).drew
 have T1 := hQd (t1.below (Aaa _))
 have M1 := hQd (HM.out.below hbw)
 have hXN : ¬ X = w.heap.size := by omega
 have hl1 : (1 : Int) ≤ (l.length : Int) + 1 := by omega
 clear hP hx hS hT hhi hta hta2 hfr hf hbd ht hsz e1 t1 hbw
 by_cases hcp : cp = 1
 · subst hcp
   go_enter Tryz.func168, Tryz.ntmps168
   go_wp2_with fail
   go_region
   all_goals
    obtain ⟨W1, hW1⟩ := exq ((w.alloc (.cells #[.int .i64 b, .int .i64 q] 93)).drew)
    rw [← hW1] at M1 T1 ⊢
    obtain ⟨N, hN⟩ := exq w.heap.size
    rw [← hN] at T1 hXN ⊢
    clear hW1 hN x0 x1 f1 a0 pp
    have x1 := M1.out.t.c 1 _ rfl
    have f1 := M1.out.t.f 1
    go_upto_region 2 with fail
    obtain ⟨V, hV⟩ : ∃ V : Value, V = .slice (some ⟨A, o, none⟩) 0 0 := ⟨_, rfl⟩
    rw [← hV]
    have M2 := hQd (M1.out.set hk (Nat.le_refl _) (by omega) 1 V (by simp [Afd]))
    have T2 := hQd (T1.out.other (b2 := X) (j := 1) (v := V) hXN)
    obtain ⟨W2, hW2⟩ := exq (W1.setCell ⟨X, 1, none⟩ V)
    rw [← hW2] at M2 T2 ⊢
    clear hW2 x1 f1 hV
    have p0 := M2.out.p.wo.c0
    obtain ⟨t0, t1⟩ := T2.out.c2
    go_region_held3 (fun w' => w'.cell? ⟨B.p, 0, none⟩ = some (.pointer (some ⟨B.c, 0, none⟩)) ∧ w'.cell? ⟨N, 0, none⟩ = some (.int .i64 b) ∧ w'.cell? ⟨N, 1, none⟩ = some (.int .i64 q)) (go_keep)
     ((first
       | (go_at_call 124
          refine (HT.out _).mono ?_
          rintro e w3 ⟨rfl, hb3⟩
          have M3 := hQd (M2.out.drew.below hb3)
          have T3 := hQd ((T2.out.below (Aaa _)).below hb3)
          have p03 := M3.out.p.wo.c0
          obtain ⟨t03, t13⟩ := T3.out.c2
          clear hb3)
       | (go_at_call 37
          refine (Ac9 ta M3.out.p M3.out.e.hi HTA.out.1 HTA.out.2 n0 n1).mono ?_
          rintro e w4 ⟨rfl, G4, e4, P4⟩
          have M4 := hQd (M3.out.world hk e4 P4)
          have T4 := hQd (T3.out.ext e4 sw0)
          have p04 := M4.out.p.wo.c0
          obtain ⟨t04, t14⟩ := T4.out.c2
          clear e4 P4)
       | (go_at_call 182
          refine (HF.out _).mono ?_
          rintro e w5 ⟨rfl, hb5⟩
          have M5 := hQd (M4.out.below hb5)
          have T5 := hQd (T4.out.below hb5)
          have p05 := M5.out.p.wo.c0
          obtain ⟨t05, t15⟩ := T5.out.c2
          clear hb5)))
    all_goals
     clear p0 t0 t1 p03 t03 t13 p04 t04 t14
     have HEN := hQd (Ahs _ _ _ _ _ _ _ p ⟨b, q, fr⟩ is M5.out.t hk M5.out.e.hi)
     go_wp2_with fail
     refine HEN.out.mono ?_
     rintro e w6 ⟨rfl, G6, e6, x6⟩
     have P6 := M5.out.p.ext e6
     have HX := hQd (aN (M5.out.e.trans (e6.mono fun t _ h => .inr (by omega))) (aN P6 x6))
     clear e6 x6 P6 HEN
     go_wp2
     go_end0
     exact ⟨rfl, G6, HX.out.1, HX.out.2.1, V, HX.out.2.2⟩
 ·
  go_enter Tryz.func168, Tryz.ntmps168
  go_wp2_with fail
  go_region
  all_goals
   obtain ⟨W1, hW1⟩ := exq ((w.alloc (.cells #[.int .i64 b, .int .i64 q] 93)).drew)
   rw [← hW1] at M1 T1 ⊢
   obtain ⟨N, hN⟩ := exq w.heap.size
   rw [← hN] at T1 hXN ⊢
   clear hW1 hN x0 x1 f1 a0 pp
   have x1 := M1.out.t.c 1 _ rfl
   have f1 := M1.out.t.f 1
   go_upto_region 2 with fail
   obtain ⟨V, hV⟩ : ∃ V : Value, V = .slice (some ⟨A, o + 1, none⟩) l.length (cp - 1) := ⟨_, rfl⟩
   rw [← hV]
   have M2 := hQd (M1.out.set hk (Nat.le_refl _) (by omega) 1 V (by simp [Afd]))
   have T2 := hQd (T1.out.other (b2 := X) (j := 1) (v := V) hXN)
   obtain ⟨W2, hW2⟩ := exq (W1.setCell ⟨X, 1, none⟩ V)
   rw [← hW2] at M2 T2 ⊢
   clear hW2 x1 f1 hV
   have p0 := M2.out.p.wo.c0
   obtain ⟨t0, t1⟩ := T2.out.c2
   go_region_held3 (fun w' => w'.cell? ⟨B.p, 0, none⟩ = some (.pointer (some ⟨B.c, 0, none⟩)) ∧ w'.cell? ⟨N, 0, none⟩ = some (.int .i64 b) ∧ w'.cell? ⟨N, 1, none⟩ = some (.int .i64 q)) (go_keep)
    ((first
      | (go_at_call 124
         refine (HT.out _).mono ?_
         rintro e w3 ⟨rfl, hb3⟩
         have M3 := hQd (M2.out.drew.below hb3)
         have T3 := hQd ((T2.out.below (Aaa _)).below hb3)
         have p03 := M3.out.p.wo.c0
         obtain ⟨t03, t13⟩ := T3.out.c2
         clear hb3)
      | (go_at_call 37
         refine (Ac9 ta M3.out.p M3.out.e.hi HTA.out.1 HTA.out.2 n0 n1).mono ?_
         rintro e w4 ⟨rfl, G4, e4, P4⟩
         have M4 := hQd (M3.out.world hk e4 P4)
         have T4 := hQd (T3.out.ext e4 sw0)
         have p04 := M4.out.p.wo.c0
         obtain ⟨t04, t14⟩ := T4.out.c2
         clear e4 P4)
      | (go_at_call 182
         refine (HF.out _).mono ?_
         rintro e w5 ⟨rfl, hb5⟩
         have M5 := hQd (M4.out.below hb5)
         have T5 := hQd (T4.out.below hb5)
         have p05 := M5.out.p.wo.c0
         obtain ⟨t05, t15⟩ := T5.out.c2
         clear hb5)))
   all_goals
    clear p0 t0 t1 p03 t03 t13 p04 t04 t14
    have HEN := hQd (Ahs _ _ _ _ _ _ _ p ⟨b, q, fr⟩ is M5.out.t hk M5.out.e.hi)
    go_wp2_with fail
    refine HEN.out.mono ?_
    rintro e w6 ⟨rfl, G6, e6, x6⟩
    have P6 := M5.out.p.ext e6
    have HX := hQd (aN (M5.out.e.trans (e6.mono fun t _ h => .inr (by omega))) (aN P6 x6))
    clear e6 x6 P6 HEN
    go_wp2
    go_end0
    exact ⟨rfl, G6, HX.out.1, HX.out.2.1, V, HX.out.2.2⟩
end
end
section
open Go.RowKit Go.Shelf
section
variable {X : Nat} {w : World} {O : Om} {B : Wb} {f : Cf} {s : AW} {k : Nat}
theorem Aex {z : Rmm} {q : Int} {l : List Int} (hP : PW w O B f s) (hR : Aa1 w O k X z) (hl : z.ln = 1 ∨ z.ln = 2) (hql : Add z = q :: l) (hb : 1 ≤ z.b ∧ z.b ≤ 12) (hq : 0 ≤ q ∧ q < Aac z.b) (hf : 0 ≤ Aa5 (s.M (Aai z.b q))) (hk : 10 ≤ k) (hhi : Hh O w) (n0 : 0 ≤ s.n) (n1 : s.n ≤ 4611686018427387904) :
 C2 237 X B.p w (RP (SX k (k + 14)) w O (.bool true) fun W G => PW W G B f (Aan (Aai z.b q) s) ∧ Aa1 W G k X (Am2 z ⟨z.b, q, Aa5 (s.M (Aai z.b q))⟩)) := by
 obtain ⟨bv, wv, hv, h1, h2, -, -⟩ := hR.ex
 have hS := h2 hl
 rw [hql] at hS
 have hdo : Ani z.ln = Ahg := by unfold Ani; rw [if_neg (by omega), if_pos (by omega)]
 rw [hdo] at h1
 have HL := hQd (Amo z.b q z.a z.c l bv wv hv z.p z.is hP h1 hS hb hq hf hk hhi n0 n1)
 have x4 := h1.c 4 _ rfl
 have hOv0 : C1 236 X w fun e w' => e = .returned (.bool false) ∧ w = w' := Ahr X Ahg w x4 false (.inr ⟨_, _, _, rfl, rfl⟩)
 have HO0 := hQd hOv0
 have hKL : ∀ args W, (callFunc 168 args).run Tryz.prog W = .ok (.enter 168 args) W := enters_of Tryz.func168 (by kernel_rfl) rfl
 have x4' : w.cell? ⟨X, 4, none⟩ = some (.func (.func 168) #[] #[]) := x4
 obtain ⟨zb, hzb⟩ := exq z.b
 clear hP hR hl hql hb hq hf hhi h1 h2 hS hdo hOv0 x4
 go_enter Tryz.func237, Tryz.ntmps237
 go_wp2_with fail
 refine HO0.out.mono ?_
 rintro e w' ⟨rfl, rfl⟩
 go_wp2_with fail
 refine HL.out.mono ?_
 rintro e w1 ⟨rfl, G1, e1, P1, bv1, x1⟩
 have y4 := x1.c 4 _ rfl
 have HE := hQd (aN e1 (aN P1 x1))
 have HO1 := hQd (Ahr X .nilFunc w1 y4 true (.inl ⟨rfl, rfl⟩))
 clear e1 P1 x1 y4 x4' hKL HL HO0
 go_wp2_with fail
 refine HO1.out.mono ?_
 rintro e w' ⟨rfl, rfl⟩
 go_wp2_with fail
 go_ret
 exact ⟨rfl, G1, HE.out.1.mono fun t _ ht => SX.mono (by omega) (by omega) ht, HE.out.2.1, bv1, wv, hv, HE.out.2.2, fun h => absurd h (by unfold Am2; dsimp only; omega), fun h => absurd h (by unfold Am2; dsimp only; omega), fun h => absurd h (by unfold Am2; dsimp only; omega)⟩
theorem Att {z : Rmm} (hR : Aa1 w O k X z) : C1 241 X w fun e w' => e = .returned (.tuple #[.agg #[.int .i64 (if z.is = true then z.p.b else 0), .int .i64 (if z.is = true then z.p.q else 0), .int .i64 (if z.is = true then z.p.s else 0)], .bool z.is]) ∧ Below w.heap.size w w' := by
 obtain ⟨bv, wv, hv, h1, -⟩ := hR.ex
 obtain ⟨-, -, -, -, -, -, -, x7, x8, x9⟩ := h1.c10
 have x10 := h1.c 10 _ rfl
 have hl := h1.lt
 have hne : ¬ X = w.heap.size := by omega
 have hne2 : ¬ w.heap.size = X := by omega
 obtain ⟨b, hb⟩ := exq z.is
 obtain ⟨pb, hpb⟩ := exq z.p.b
 obtain ⟨pq, hpq⟩ := exq z.p.q
 obtain ⟨ps, hps⟩ := exq z.p.s
 rw [← hb] at x10
 rw [← hb, ← hpb, ← hpq, ← hps]
 rw [← hpb] at x7
 rw [← hpq] at x8
 rw [← hps] at x9
 clear h1 hR hb hpb hpq hps
 cases b with
 | true =>
   simp only [if_true]
   go_enter Tryz.func241, Tryz.ntmps241
   go_wp2_with fail
   exact bodyPost_ret (v := .tuple #[.agg #[.int .i64 pb, .int .i64 pq, .int .i64 ps], .bool true]) (by simp [results, Tryz.results241, go_sem]) rfl ⟨rfl, by first | exact bal _ _ | exact (((bal _ _).setCell (p := ⟨w.heap.size, 0, none⟩) (Nat.le_refl _) _).setCell (p := ⟨w.heap.size, 1, none⟩) (Nat.le_refl _) _).setCell (p := ⟨w.heap.size, 2, none⟩) (Nat.le_refl _) _⟩
 | false =>
   simp only [Bool.false_eq_true, if_false]
   go_enter Tryz.func241, Tryz.ntmps241
   go_wp2_with fail
   exact bodyPost_ret (v := .tuple #[.agg #[.int .i64 0, .int .i64 0, .int .i64 0], .bool false]) (by simp [results, Tryz.results241, go_sem]) rfl ⟨rfl, by first | exact bal _ _ | exact (((bal _ _).setCell (p := ⟨w.heap.size, 0, none⟩) (Nat.le_refl _) _).setCell (p := ⟨w.heap.size, 1, none⟩) (Nat.le_refl _) _).setCell (p := ⟨w.heap.size, 2, none⟩) (Nat.le_refl _) _⟩
end
end
end
section
open Go.RowKit Go.Shelf
def Ac6 (now : Int) (p : Spt) (lv : Value) (tag ref lost : Int) : List Value := [.int .i64 now, .int .i64 p.b, .int .i64 p.q, .int .i64 p.s, lv, .int .i64 tag, .int .i64 ref, .int .i64 lost]
def Afo (d : Nat) : Value := .iface 184 (.pointer (some ⟨d, 0, none⟩))
def Aeg (d : Nat) : Value := .iface 265 (.pointer (some ⟨d, 0, none⟩))
def Amw (u : Nat) (ref : Int) (p : Spt) : Value := .iface 354 (.agg #[.pointer (some ⟨u, 0, none⟩), .int .i64 ref, .int .i64 p.b, .int .i64 p.q, .int .i64 p.s])
def At6 (X : Nat) : Value := .func (.func 87) #[.pointer (some ⟨X, 0, none⟩)] #[]
def Awh (X : Nat) : Value := .func (.func 125) #[.pointer (some ⟨X, 0, none⟩)] #[]
def Aud (X : Nat) : Value := .func (.func 242) #[.pointer (some ⟨X, 0, none⟩)] #[]
def Agu (W : World) (G : Om) (k X : Nat) (z : Mvm) (lv : Value) : Prop :=
 (z.ln = 0 → Sls W G (k + 1) 1 lv 0 []) ∧
 (z.ln = 1 → ∃ d, Sls W G (k + 1) 1 lv 1 [Afo d] ∧ Ob W G (k + 2) d [At6 X, .bool false]) ∧
 (z.ln = 2 → ∃ d, Sls W G (k + 1) 1 lv 1 [Afo d] ∧ Ob W G (k + 2) d [Awh X, .bool false]) ∧
 (z.ln = 3 → ∃ d R, Sls W G (k + 1) 1 lv 1 [Aeg d] ∧ Ob W G (k + 3) d [.pointer (some ⟨X, 0, none⟩), .pointer (some ⟨R, 0, none⟩)] ∧ Aa1 W G (k + 4) R z.rm) ∧
 (4 ≤ z.ln ∧ z.ln ≤ 7 → ∃ m1 u p m2, Sls W G (k + 1) 1 lv (8 - z.ln).toNat ([Abb m1, Ak9 u, Aht p, Abb m2].drop (z.ln - 4).toNat) ∧ (z.ln = 4 → Ada W G (k + 19) m1 z.m) ∧ (z.ln ≤ 5 → Abx W G (k + 21) u z.p z.o) ∧ (z.ln ≤ 6 → Ai6 W G (k + 22) p z.d z.tag z.ref z.u) ∧ Ada W G (k + 23) m2 (if z.ln = 7 then z.m else mk2 z.p z.d)) ∧
 (8 ≤ z.ln → ∃ m1 u m2 d, Sls W G (k + 1) 1 lv (12 - z.ln).toNat ([Abb m1, Amw u z.ref z.p, Abb m2, Afo d].drop (z.ln - 8).toNat) ∧ (z.ln = 8 → Ada W G (k + 19) m1 [z.p.ver]) ∧ (z.ln ≤ 9 → Abx W G (k + 21) u z.p z.o) ∧ (z.ln ≤ 10 → Ada W G (k + 23) m2 [z.p.ver]) ∧ Ob W G (k + 2) d [Aud X, .bool false])
theorem Agu.ext {S : Nat → Prop} {O O' : Om} {w w' : World} {k X : Nat} {z : Mvm} {lv : Value} (h : Agu w O k X z lv) (e : Ext S O w O' w') (hs : ∀ t, k < t → t < k + 25 → ¬ S t) : Agu w' O' k X z lv := by
 obtain ⟨h0, h1, h2, h3, h4, h5⟩ := h
 refine ⟨fun g => (h0 g).ext e (hs _ (by omega) (by omega)), fun g => ?_, fun g => ?_, fun g => ?_, fun g => ?_, fun g => ?_⟩
 · obtain ⟨d, a, b⟩ := h1 g; exact ⟨d, a.ext e (hs _ (by omega) (by omega)), b.ext e (hs _ (by omega) (by omega))⟩
 · obtain ⟨d, a, b⟩ := h2 g; exact ⟨d, a.ext e (hs _ (by omega) (by omega)), b.ext e (hs _ (by omega) (by omega))⟩
 · obtain ⟨d, R, a, b, c⟩ := h3 g; exact ⟨d, R, a.ext e (hs _ (by omega) (by omega)), b.ext e (hs _ (by omega) (by omega)), c.ext e fun t q1 q2 => hs t (by omega) (by omega)⟩
 · obtain ⟨m1, u, p, m2, a, b, c, d, q⟩ := h4 g
   exact ⟨m1, u, p, m2, a.ext e (hs _ (by omega) (by omega)), fun g => (b g).ext e (hs _ (by omega) (by omega)) (hs _ (by omega) (by omega)), fun g => (c g).ext e (hs _ (by omega) (by omega)), fun g => (d g).ext e (hs _ (by omega) (by omega)), q.ext e (hs _ (by omega) (by omega)) (hs _ (by omega) (by omega))⟩
 obtain ⟨m1, u, m2, d, a, b, c, q, r⟩ := h5 g
 exact ⟨m1, u, m2, d, a.ext e (hs _ (by omega) (by omega)), fun g => (b g).ext e (hs _ (by omega) (by omega)) (hs _ (by omega) (by omega)), fun g => (c g).ext e (hs _ (by omega) (by omega)), fun g => (q g).ext e (hs _ (by omega) (by omega)) (hs _ (by omega) (by omega)), r.ext e (hs _ (by omega) (by omega))⟩
structure Adl (W : World) (G : Om) (k X : Nat) (z : Mvm) : Prop where
 ex : ∃ p lv, Ob W G k X (Ac6 z.now p lv z.tag z.ref z.lost) ∧ (z.ln ≠ 0 → p = z.p) ∧ Agu W G k X z lv
theorem Adl.ext {S : Nat → Prop} {O O' : Om} {w w' : World} {k X : Nat} {z : Mvm} (h : Adl w O k X z) (e : Ext S O w O' w') (hs : ∀ t, k ≤ t → t < k + 25 → ¬ S t) : Adl w' O' k X z := by
 obtain ⟨p, lv, h1, h2, h3⟩ := h.ex
 exact ⟨p, lv, h1.ext e (hs _ (by omega) (by omega)), h2, h3.ext e fun t q1 q2 => hs t (by omega) q2⟩
theorem Adl.below {O : Om} {w w' : World} {k X : Nat} {z : Mvm} (h : Adl w O k X z) (hhi : Hh O w) (hb : Below w.heap.size w w') : Adl w' O k X z := h.ext (S := fun _ => False) (Ext.of_below hhi hb) fun _ _ _ => id
section
variable {X : Nat} {w : World} {O : Om} {B : Wb} {f : Cf} {s : AW} {k : Nat}
theorem Ai1 {ao : Option Addr} {n c : Nat} (h : w.cell? ⟨X, 4, none⟩ = some (.slice ao n c)) : C1 88 X w fun e w' => e = .returned (.bool (n == 0)) ∧ w = w' := by
 go_enter Tryz.func88, Tryz.ntmps88
 go_wp2
 go_ret
 exact ⟨Adp (by rw [Bool.eq_iff_iff]; simp), rfl⟩
theorem Agu.shape {z : Mvm} {lv : Value} (h : Agu w O k X z lv) (h0 : 0 ≤ z.ln) (h1 : z.ln ≤ 11) : ∃ ao n c, lv = .slice ao n c ∧ (n == 0) = (z.ln == 0) := by
 obtain ⟨q0, q1, q2, q3, q4, q5⟩ := h
 have key : ∀ (n : Nat) xs, Sls w O (k + 1) 1 lv n xs → (n == 0) = (z.ln == 0) → ∃ ao n c, lv = .slice ao n c ∧ (n == 0) = (z.ln == 0) := by
  intro n xs hs hn
  obtain ⟨ao, c, e, -⟩ := hs.shape
  exact ⟨ao, n, c, e, hn⟩
 have hc : z.ln = 0 ∨ z.ln = 1 ∨ z.ln = 2 ∨ z.ln = 3 ∨ (4 ≤ z.ln ∧ z.ln ≤ 7) ∨ 8 ≤ z.ln := by omega
 rcases hc with g | g | g | g | g | g
 · exact key _ _ (q0 g) (by simp [g])
 · obtain ⟨d, a, -⟩ := q1 g; exact key _ _ a (by simp [g])
 · obtain ⟨d, a, -⟩ := q2 g; exact key _ _ a (by simp [g])
 · obtain ⟨d, R, a, -⟩ := q3 g; exact key _ _ a (by simp [g])
 · obtain ⟨m1, u, p, m2, a, -⟩ := q4 g; exact key _ _ a (by rw [Bool.eq_iff_iff]; simp; omega)
 obtain ⟨m1, u, m2, d, a, -⟩ := q5 g; exact key _ _ a (by rw [Bool.eq_iff_iff]; simp; omega)
theorem Av9 {z : Mvm} (h : Adl w O k X z) (h0 : 0 ≤ z.ln) (h1 : z.ln ≤ 11) : C1 88 X w fun e w' => e = .returned (.bool (Abg z)) ∧ w = w' := by
 obtain ⟨p, lv, q1, q2, q3⟩ := h.ex
 obtain ⟨ao, n, c, rfl, hn⟩ := q3.shape h0 h1
 have := Ai1 (q1.c 4 _ rfl)
 rw [hn] at this
 exact this
theorem Atz (t q : Int) (t0 : 0 ≤ t) (t1 : t < 18446744073709551616) (q0 : -9223372036854775808 ≤ q) (q1 : q ≤ 9223372036854775807) (hk : 10 ≤ k) (hhi : Hh O w) :
 Calls Tryz.prog 40 #[.int .u64 t, .int .i64 q] w fun e w' => ∃ R, RP (fun t => t = k ∨ t = k + 1 ∨ t = k + 2) w O (.pointer (some ⟨R, 0, none⟩)) (fun W G => Adl W G k R (Af1 t q)) e w' := by
 obtain ⟨z, hz⟩ := exq (Af1 t q)
 rw [← hz]
 unfold Af1 at hz
 have HA := hQd (fun W => Awx t W t0 t1)
 have ho := Ae2 t
 have hn := Akc t
 have HS := hQd (fun W => Acc (Aaz t) W (by omega) (by omega))
 have hsz := Aah (Aaz t)
 obtain ⟨old, hold⟩ := exq (Aaz t)
 obtain ⟨now, hnow⟩ := exq (Aav t)
 rw [← hold] at HA HS hz hsz ho
 rw [← hnow] at HA hz hn
 obtain ⟨sz, hsz2⟩ := exq (Aac old)
 rw [← hsz2] at HS hz hsz
 have HH := hQd hhi
 obtain ⟨G1, e1, x1, k1⟩ := Aar HH.out k #[.int .i64 now, .int .i64 old, .int .i64 q, .int .i64 0, .slice none 0 0, .int .i64 0, .int .i64 0, .int .i64 0] 183 w.heap.size rfl
 have H1 := hQd (aN e1 x1)
 clear hold hnow hsz2 hhi e1 x1 k1
 by_cases c : now = 0 ∨ q < 0 ∨ sz ≤ q
 · rw [if_pos c] at hz
   have HZ := hQd hz
   clear hz
   have fin : ∃ R, RP (fun t => t = k ∨ t = k + 1 ∨ t = k + 2) w O (.pointer (some ⟨R, 0, none⟩)) (fun W G => Adl W G k R z) (.returned (.pointer (some ⟨w.heap.size, 0, none⟩))) (w.alloc (.cells #[.int .i64 now, .int .i64 old, .int .i64 q, .int .i64 0, .slice none 0 0, .int .i64 0, .int .i64 0, .int .i64 0] 183)) := by
    rw [HZ.out]
    exact ⟨_, rfl, G1, H1.out.1.mono fun t _ h => .inl h, ⟨old, q, 0⟩, _, H1.out.2, fun g => absurd rfl g, ⟨fun _ => Sls.nil _ _ _ _, nnn, nnn, nnn, nnn, nnn⟩⟩
   have FIN := hQd fin
   clear fin
   by_cases c1 : now = 0
   · subst c1
     clear c
     go_enter Tryz.func40, Tryz.ntmps40
     go_wp2_with fail
     refine (HA.out _).mono ?_
     rintro e w' ⟨rfl, rfl⟩
     go_wp2_with fail
     go_ret
     exact FIN.out
   have d1 : (now != 0) = true := by simp [c1]
   by_cases c2 : q < 0
   · have d2 : decide (0 ≤ q) = false := by simp; omega
     clear c c1
     go_enter Tryz.func40, Tryz.ntmps40
     go_wp2_with fail
     refine (HA.out _).mono ?_
     rintro e w' ⟨rfl, rfl⟩
     go_wp2_with fail
     go_ret
     exact FIN.out
   have d2 : decide (0 ≤ q) = true := by simp; omega
   have d3 : decide (q < sz) = false := by simp; omega
   clear c c1
   go_enter Tryz.func40, Tryz.ntmps40
   go_wp2_with fail
   refine (HA.out _).mono ?_
   rintro e w' ⟨rfl, rfl⟩
   go_wp2_with fail
   refine (HS.out _).mono ?_
   rintro e w' ⟨rfl, rfl⟩
   go_wp2_with fail
   go_ret
   exact FIN.out
 rw [if_neg c] at hz
 have HZ := hQd hz
 have d1 : (now != 0) = true := by simp; omega
 have d2 : decide (0 ≤ q) = true := by simp; omega
 have d3 : decide (q < sz) = true := by simp; omega
 obtain ⟨G1, e1, x1, k1⟩ := Aar HH.out k #[.int .i64 now, .int .i64 old, .int .i64 q, .int .i64 0, .slice (some ⟨w.heap.size + 1 + 1, 0, none⟩) 1 1, .int .i64 0, .int .i64 0, .int .i64 0] 183 w.heap.size rfl
 obtain ⟨G2, e2, a2, k2⟩ := Aar e1.hi (k + 2) #[At6 w.heap.size, .bool false] 187 (w.heap.size + 1) (by simp)
 obtain ⟨G3, e3, a3, k3⟩ := Aar e2.hi (k + 1) #[Afo (w.heap.size + 1)] 188 (w.heap.size + 1 + 1) (by simp)
 have H4 := hQd (aN ((e1.mono (T := fun t => t = k ∨ t = k + 1 ∨ t = k + 2) fun t _ h => .inl h).trans ((e2.mono fun t _ h => .inr (.inr h)).trans (e3.mono fun t _ h => .inr (.inl h)))) (aN (k3 _ _ _ (k2 _ _ _ x1)) (aN a3 (k3 _ _ _ a2))))
 clear c hz e1 x1 k1 e2 a2 k2 e3 a3 k3
 go_enter Tryz.func40, Tryz.ntmps40
 go_wp2_with fail
 refine (HA.out _).mono ?_
 rintro e w' ⟨rfl, rfl⟩
 go_wp2_with fail
 refine (HS.out _).mono ?_
 rintro e w' ⟨rfl, rfl⟩
 go_wp2_with fail
 go_ret
 rw [HZ.out]
 refine ⟨w.heap.size, rfl, G3, H4.out.1, ⟨old, q, 0⟩, _, H4.out.2.1, fun _ => rfl, ⟨nnn, fun _ => ⟨_, Sls.of_ob H4.out.2.2.1 rfl (by unfold maxLen; decide), H4.out.2.2.2⟩, nnn, nnn, nnn, nnn⟩⟩
end
end
section
open Go.RowKit Go.Shelf
def Aa4 (w : World) (O : Om) (k : Nat) (v : Value) (b : Bool) : Prop :=
 ∃ ty r r' fO, v = .iface ty r ∧ (∀ W, (method 464 ty r "Over").run Tryz.prog W = .ok (fO, r') W) ∧ (∀ args W, (callFunc fO args).run Tryz.prog W = .ok (.enter fO args) W) ∧ ∀ W, Ext (fun t => t = k) O w O W → Calls Tryz.prog fO #[r'] W fun e w' => e = .returned (.bool b) ∧ Below W.heap.size W w'
section
variable {X : Nat} {w : World} {O : Om} {B : Wb} {f : Cf} {s : AW} {k : Nat}
theorem Aa4.on {O1 : Om} {w1 : World} {v : Value} {b : Bool} (h : Aa4 w O k v b) (e : Ext (fun t => t = k) O w O w1) : Aa4 w1 O k v b := by
 obtain ⟨ty, r, r', fO, h1, h2, h3, h4⟩ := h
 exact ⟨ty, r, r', fO, h1, h2, h3, fun W hW => h4 W (e.trans hW)⟩
theorem Aqq {now tag ref lost : Int} {p : Spt} {lv : Value} {v0 : Value} {l : List Value} (hx : Ob w O k X (Ac6 now p lv tag ref lost)) (hS : Sls w O (k + 1) 1 lv (l.length + 1) (v0 :: l)) (h0 : Aa4 w O k v0 false) (hk : 10 ≤ k) (hhi : Hh O w) :
 C1 89 X w fun e w' => e = .returned (.tuple #[]) ∧ Below w.heap.size w w' := by
 obtain ⟨A, o, cp, rfl, hc1, hc2⟩ := hS.open (by omega)
 have a0 := hS.c 0 _ rfl
 rw [Nat.add_zero] at a0
 have x4 := hx.c 4 _ rfl
 have hXl := hx.lt
 obtain ⟨ty, r, r', fO, rfl, hm, hK, hC⟩ := h0
 have HC := hQd (hC w (Ext.refl hhi))
 have hl0 : (0 : Int) < (l.length : Int) + 1 := by omega
 have dl : ((l.length : Int) + 1 == 0) = false := by simp; omega
 clear hx hS hC hhi
 go_enter Tryz.func89, Tryz.ntmps89
 go_wp2_with fail
 refine wp_loop_rounds 1 ?_
 rw [rounds_succ]
 go_wp2_with fail
 refine HC.out.mono ?_
 rintro e w1 ⟨rfl, hb⟩
 have x41 := (hb.cell (p := ⟨X, 4, none⟩) hXl).trans x4
 have HB := hQd hb
 clear hb x4 a0 hm hK
 go_wp2_with fail
 go_end0
 exact ⟨rfl, HB.out⟩
theorem Ajb {now tag ref lost : Int} {p : Spt} {lv : Value} {v0 v1 : Value} {l : List Value} (hx : Ob w O k X (Ac6 now p lv tag ref lost)) (hS : Sls w O (k + 1) 1 lv (l.length + 1 + 1) (v0 :: v1 :: l)) (h0 : Aa4 w O k v0 true) (h1 : Aa4 w O k v1 false) (hk : 10 ≤ k) (hhi : Hh O w) :
 C1 89 X w (RP (fun t => t = k) w O (.tuple #[]) fun W G => G = O ∧ ∃ lv', Ob W G k X (Ac6 now p lv' tag ref lost) ∧ Sls W G (k + 1) 1 lv' (l.length + 1) (v1 :: l)) := by
 obtain ⟨A, o, cp, rfl, hc1, hc2⟩ := hS.open (by omega)
 have a0 := hS.c 0 _ rfl
 have a1 := hS.c 1 _ rfl
 rw [Nat.add_zero] at a0
 have hT1 := hS.tail (o' := o + 1) (.inl rfl)
 have x4 := hx.c 4 _ rfl
 have hXl := hx.lt
 have hAl := hS.lt.1
 have hAX : ¬ A = X := fun e => by have h1 := hx.o; have h2 := hS.lt.2; rw [← e, h2] at h1; omega
 have hXA : ¬ X = A := fun e => hAX e.symm
 obtain ⟨ty0, r0, r0', f0, rfl, hm0, hK0, hC0⟩ := h0
 have HC0 := hQd hC0
 obtain ⟨ty1, r1, r1', f1, rfl, hm1, hK1, hC1⟩ := h1
 have HC1 := hQd hC1
 have hl0 : (0 : Int) < (l.length : Int) + 1 + 1 := by omega
 have hl1 : (0 : Int) < (l.length : Int) + 1 := by omega
 have hs0 : (1 : Int) ≤ (l.length : Int) + 1 + 1 := by omega
 have dl : ((l.length : Int) + 1 == 0) = false := by simp; omega
 have hcp : ¬ cp = 1 := by omega
 have HX := hQd (aN hx hT1)
 have HH := hQd hhi
 clear hx hS hC0 hC1 hhi hT1
 go_enter Tryz.func89, Tryz.ntmps89
 go_wp2_with fail
 refine wp_loop_rounds 2 ?_
 rw [rounds_succ]
 go_wp2_with fail
 refine (HC0.out w (Ext.refl HH.out)).mono ?_
 rintro e w1 ⟨rfl, hb⟩
 have X1 := hQd (HX.out.1.below hb)
 have T1 := hQd (HX.out.2.below hb)
 have E1 := hQd (Ext.of_below (S := fun t => t = k) HH.out hb)
 have y0 := X1.out.c 4 _ rfl
 have yf0 := X1.out.f 4
 have b01 := (hb.cell (p := ⟨A, o + 1, none⟩) hAl).trans a1
 have hAl1 := Nat.lt_of_lt_of_le hAl hb.size
 clear hb x4 a0 a1
 go_wp2_with fail
 have X2 := hQd (X1.out.set 4 (.slice (some ⟨A, o + 1, none⟩) (l.length + 1) (cp - 1)) (by simp [Ac6]))
 have E2 := hQd (E1.out.trans (Aaf (j := 4) (v := .slice (some ⟨A, o + 1, none⟩) (l.length + 1) (cp - 1)) E1.out.hi X1.out hk))
 have T2 := hQd (T1.out.ext (Aaf (j := 4) (v := .slice (some ⟨A, o + 1, none⟩) (l.length + 1) (cp - 1)) E1.out.hi X1.out hk))
 have c01 : (w1.setCell ⟨X, 4, none⟩ (.slice (some ⟨A, o + 1, none⟩) (l.length + 1) (cp - 1))).cell? ⟨A, o + 1, none⟩ = some (.iface ty1 r1) := (World.cell?_setCell_other _ _ _ _ (by simp; try omega)).trans b01
 have hAl2 : A < (w1.setCell ⟨X, 4, none⟩ (.slice (some ⟨A, o + 1, none⟩) (l.length + 1) (cp - 1))).heap.size := by simpa using hAl1
 obtain ⟨w2, hw⟩ := exq (w1.setCell ⟨X, 4, none⟩ (.slice (some ⟨A, o + 1, none⟩) (l.length + 1) (cp - 1)))
 rw [← hw] at X2 E2 T2 hAl2 c01 ⊢
 clear hw y0 yf0 b01 hAl1
 have z0 := X2.out.c 4 _ rfl
 rw [rounds_succ]
 go_wp2_with fail
 refine (HC1.out w2 E2.out).mono ?_
 rintro e w3 ⟨rfl, hb⟩
 have X3 := hQd (X2.out.below hb)
 have T3 := hQd (T2.out.below hb)
 have E3 := hQd (E2.out.below hb)
 have y1 := X3.out.c 4 _ rfl
 have yf1 := X3.out.f 4
 clear hb z0 c01
 go_wp2_with fail
 go_end0
 exact ⟨rfl, O, E3.out, rfl, _, X3.out, T3.out⟩
theorem Bco {now tag ref lost : Int} {p : Spt} {lv : Value} {v0 v1 v2 : Value} {l : List Value} (hx : Ob w O k X (Ac6 now p lv tag ref lost)) (hS : Sls w O (k + 1) 1 lv (l.length + 1 + 1 + 1) (v0 :: v1 :: v2 :: l)) (h0 : Aa4 w O k v0 true) (h1 : Aa4 w O k v1 true) (h2 : Aa4 w O k v2 false) (hk : 10 ≤ k) (hhi : Hh O w) :
 C1 89 X w (RP (fun t => t = k) w O (.tuple #[]) fun W G => G = O ∧ ∃ lv', Ob W G k X (Ac6 now p lv' tag ref lost) ∧ Sls W G (k + 1) 1 lv' (l.length + 1) (v2 :: l)) := by
 obtain ⟨A, o, cp, rfl, hc1, hc2⟩ := hS.open (by omega)
 have a0 := hS.c 0 _ rfl
 have a1 := hS.c 1 _ rfl
 have a2 := hS.c 2 _ rfl
 rw [Nat.add_zero] at a0
 have hT1 := hS.tail (o' := o + 1) (.inl rfl)
 have hT2 := hT1.tail (o' := o + 2) (.inl rfl)
 have x4 := hx.c 4 _ rfl
 have hXl := hx.lt
 have hAl := hS.lt.1
 have hAX : ¬ A = X := fun e => by have h1 := hx.o; have h2 := hS.lt.2; rw [← e, h2] at h1; omega
 have hXA : ¬ X = A := fun e => hAX e.symm
 obtain ⟨ty0, r0, r0', f0, rfl, hm0, hK0, hC0⟩ := h0
 have HC0 := hQd hC0
 obtain ⟨ty1, r1, r1', f1, rfl, hm1, hK1, hC1⟩ := h1
 have HC1 := hQd hC1
 obtain ⟨ty2, r2, r2', f2, rfl, hm2, hK2, hC2⟩ := h2
 have HC2 := hQd hC2
 have hl0 : (0 : Int) < (l.length : Int) + 1 + 1 + 1 := by omega
 have hl1 : (0 : Int) < (l.length : Int) + 1 + 1 := by omega
 have hl2 : (0 : Int) < (l.length : Int) + 1 := by omega
 have hs0 : (1 : Int) ≤ (l.length : Int) + 1 + 1 + 1 := by omega
 have hs1 : (1 : Int) ≤ (l.length : Int) + 1 + 1 := by omega
 have dl : ((l.length : Int) + 1 == 0) = false := by simp; omega
 have hcp : ¬ cp = 1 := by omega
 have hcp2 : ¬ cp - 1 = 1 := by omega
 have HX := hQd (aN hx hT2)
 have HH := hQd hhi
 clear hx hS hC0 hC1 hC2 hhi hT1 hT2
 go_enter Tryz.func89, Tryz.ntmps89
 go_wp2_with fail
 refine wp_loop_rounds 3 ?_
 rw [rounds_succ]
 go_wp2_with fail
 refine (HC0.out w (Ext.refl HH.out)).mono ?_
 rintro e w1 ⟨rfl, hb⟩
 have X1 := hQd (HX.out.1.below hb)
 have T1 := hQd (HX.out.2.below hb)
 have E1 := hQd (Ext.of_below (S := fun t => t = k) HH.out hb)
 have y0 := X1.out.c 4 _ rfl
 have yf0 := X1.out.f 4
 have b01 := (hb.cell (p := ⟨A, o + 1, none⟩) hAl).trans a1
 have b02 := (hb.cell (p := ⟨A, o + 2, none⟩) hAl).trans a2
 have hAl1 := Nat.lt_of_lt_of_le hAl hb.size
 clear hb x4 a0 a1 a2
 go_wp2_with fail
 have X2 := hQd (X1.out.set 4 (.slice (some ⟨A, o + 1, none⟩) (l.length + 1 + 1) (cp - 1)) (by simp [Ac6]))
 have E2 := hQd (E1.out.trans (Aaf (j := 4) (v := .slice (some ⟨A, o + 1, none⟩) (l.length + 1 + 1) (cp - 1)) E1.out.hi X1.out hk))
 have T2 := hQd (T1.out.ext (Aaf (j := 4) (v := .slice (some ⟨A, o + 1, none⟩) (l.length + 1 + 1) (cp - 1)) E1.out.hi X1.out hk))
 have c01 : (w1.setCell ⟨X, 4, none⟩ (.slice (some ⟨A, o + 1, none⟩) (l.length + 1 + 1) (cp - 1))).cell? ⟨A, o + 1, none⟩ = some (.iface ty1 r1) := (World.cell?_setCell_other _ _ _ _ (by simp; try omega)).trans b01
 have c02 : (w1.setCell ⟨X, 4, none⟩ (.slice (some ⟨A, o + 1, none⟩) (l.length + 1 + 1) (cp - 1))).cell? ⟨A, o + 2, none⟩ = some (.iface ty2 r2) := (World.cell?_setCell_other _ _ _ _ (by simp; try omega)).trans b02
 have hAl2 : A < (w1.setCell ⟨X, 4, none⟩ (.slice (some ⟨A, o + 1, none⟩) (l.length + 1 + 1) (cp - 1))).heap.size := by simpa using hAl1
 obtain ⟨w2, hw⟩ := exq (w1.setCell ⟨X, 4, none⟩ (.slice (some ⟨A, o + 1, none⟩) (l.length + 1 + 1) (cp - 1)))
 rw [← hw] at X2 E2 T2 hAl2 c01 c02 ⊢
 clear hw y0 yf0 b01 b02 hAl1
 have z0 := X2.out.c 4 _ rfl
 rw [rounds_succ]
 go_wp2_with fail
 refine (HC1.out w2 E2.out).mono ?_
 rintro e w3 ⟨rfl, hb⟩
 have X3 := hQd (X2.out.below hb)
 have T3 := hQd (T2.out.below hb)
 have E3 := hQd (E2.out.below hb)
 have y1 := X3.out.c 4 _ rfl
 have yf1 := X3.out.f 4
 have b12 := (hb.cell (p := ⟨A, o + 2, none⟩) hAl2).trans c02
 have hAl3 := Nat.lt_of_lt_of_le hAl2 hb.size
 clear hb z0 c01 c02
 go_wp2_with fail
 have X4 := hQd (X3.out.set 4 (.slice (some ⟨A, o + 2, none⟩) (l.length + 1) (cp - 1 - 1)) (by simp [Ac6]))
 have E4 := hQd (E3.out.trans (Aaf (j := 4) (v := .slice (some ⟨A, o + 2, none⟩) (l.length + 1) (cp - 1 - 1)) E3.out.hi X3.out hk))
 have T4 := hQd (T3.out.ext (Aaf (j := 4) (v := .slice (some ⟨A, o + 2, none⟩) (l.length + 1) (cp - 1 - 1)) E3.out.hi X3.out hk))
 have c12 : (w3.setCell ⟨X, 4, none⟩ (.slice (some ⟨A, o + 2, none⟩) (l.length + 1) (cp - 1 - 1))).cell? ⟨A, o + 2, none⟩ = some (.iface ty2 r2) := (World.cell?_setCell_other _ _ _ _ (by simp; try omega)).trans b12
 have hAl4 : A < (w3.setCell ⟨X, 4, none⟩ (.slice (some ⟨A, o + 2, none⟩) (l.length + 1) (cp - 1 - 1))).heap.size := by simpa using hAl3
 obtain ⟨w4, hw⟩ := exq (w3.setCell ⟨X, 4, none⟩ (.slice (some ⟨A, o + 2, none⟩) (l.length + 1) (cp - 1 - 1)))
 rw [← hw] at X4 E4 T4 hAl4 c12 ⊢
 clear hw y1 yf1 b12 hAl3
 have z1 := X4.out.c 4 _ rfl
 rw [rounds_succ]
 go_wp2_with fail
 refine (HC2.out w4 E4.out).mono ?_
 rintro e w5 ⟨rfl, hb⟩
 have X5 := hQd (X4.out.below hb)
 have T5 := hQd (T4.out.below hb)
 have E5 := hQd (E4.out.below hb)
 have y2 := X5.out.c 4 _ rfl
 have yf2 := X5.out.f 4
 clear hb z1 c12
 go_wp2_with fail
 go_end0
 exact ⟨rfl, O, E5.out, rfl, _, X5.out, T5.out⟩
theorem Bcn {now tag ref lost : Int} {p : Spt} {lv : Value} {v0 : Value} (hx : Ob w O k X (Ac6 now p lv tag ref lost)) (hS : Sls w O (k + 1) 1 lv 1 [v0]) (h0 : Aa4 w O k v0 true) (hs : p.s < 3) (hs0 : 0 ≤ p.s) (hs1 : p.s ≤ 3) (hk : 10 ≤ k) (hhi : Hh O w) :
 C1 89 X w (RP (fun t => t = k ∨ t = k + 1 ∨ t = k + 2) w O (.tuple #[]) fun W G => ∃ lv' d, Ob W G k X (Ac6 now ⟨p.b, p.q, p.s + 1⟩ lv' tag ref lost) ∧ Sls W G (k + 1) 1 lv' 1 [Afo d] ∧ Ob W G (k + 2) d [At6 X, .bool false]) := by
 obtain ⟨A, o, cp, rfl, hc1, hc2⟩ := hS.open (by omega)
 have a0 := hS.c 0 _ rfl
 rw [Nat.add_zero] at a0
 have x4 := hx.c 4 _ rfl
 have hXl := hx.lt
 have hAl := hS.lt.1
 have hAX : ¬ A = X := fun e => by have h1 := hx.o; have h2 := hS.lt.2; rw [← e, h2] at h1; omega
 have hXA : ¬ X = A := fun e => hAX e.symm
 obtain ⟨ty0, r0, r0', f0, rfl, hm0, hK0, hC0⟩ := h0
 have HC0 := hQd hC0
 obtain ⟨pb, hpb⟩ := exq p.b
 obtain ⟨pq, hpq⟩ := exq p.q
 obtain ⟨ps, hps⟩ := exq p.s
 rw [← hps] at hs hs0 hs1
 have ds : decide (ps < 3) = true := by simp; omega
 have HPP := hQd (aN hpb (aN hpq hps))
 clear hpb hpq hps
 have HS := hQd hS
 have HX := hQd hx
 have HH := hQd hhi
 clear hx hS hC0 hhi
 by_cases hcp : cp = 1
 · subst hcp
   have HT := hQd (HS.out.tail (n := 0) (o' := o) (.inr ⟨rfl, rfl⟩))
   go_enter Tryz.func89, Tryz.ntmps89
   go_wp2_with fail
   refine wp_loop_rounds 2 ?_
   rw [rounds_succ]
   go_wp2_with fail
   refine (HC0.out w (Ext.refl HH.out)).mono ?_
   rintro e w1 ⟨rfl, hb⟩
   have X1 := hQd (HX.out.below hb)
   have T1 := hQd (HT.out.below hb)
   have E1 := hQd (Ext.of_below (S := fun t => t = k) HH.out hb)
   have y0 := X1.out.c 4 _ rfl
   have yf0 := X1.out.f 4
   clear hb x4 a0
   go_wp2_with fail
   have X2 := hQd (X1.out.set 4 (.slice (some ⟨A, o, none⟩) 0 0) (by simp [Ac6]))
   have E2 := hQd (E1.out.trans (Aaf (j := 4) (v := .slice (some ⟨A, o, none⟩) 0 0) E1.out.hi X1.out hk))
   have T2 := hQd (T1.out.ext (Aaf (j := 4) (v := .slice (some ⟨A, o, none⟩) 0 0) E1.out.hi X1.out hk))
   obtain ⟨w2, hw⟩ := exq (w1.setCell ⟨X, 4, none⟩ (.slice (some ⟨A, o, none⟩) 0 0))
   rw [← hw] at X2 E2 T2 ⊢
   clear hw y0 yf0
   have z0 := X2.out.c 4 _ rfl
   have z3 := X2.out.c 3 _ rfl
   rw [← HPP.out.2.2] at z3
   have zf3 := X2.out.f 3
   have zf4 := X2.out.f 4
   have hXl2 := X2.out.lt
   rw [rounds_succ]
   go_wp2_with fail
   go_end0
   have X3 := X2.out.set 3 (.int .i64 (ps + 1)) (by simp [Ac6])
   have E3 := Aaf (j := 3) (v := .int .i64 (ps + 1)) E2.out.hi X2.out hk
   have X4 := X3.set 4 (.slice (some ⟨w2.heap.size + 1, 0, none⟩) 1 1) (by simp [Ac6])
   have E4 := Aaf (j := 4) (v := .slice (some ⟨w2.heap.size + 1, 0, none⟩) 1 1) E3.hi X3 hk
   obtain ⟨G5, e5, a5, k5⟩ := Aar E4.hi (k + 2) #[At6 X, .bool false] 187 w2.heap.size (by simp)
   obtain ⟨G6, e6, a6, k6⟩ := Aar e5.hi (k + 1) #[Afo w2.heap.size] 188 (w2.heap.size + 1) (by simp)
   have X6 := k6 _ _ _ (k5 _ _ _ X4)
   refine ⟨rfl, G6, (E2.out.mono fun t _ h => .inl h).trans ((E3.mono fun t _ h => .inl h).trans ((E4.mono fun t _ h => .inl h).trans ((e5.mono fun t _ h => .inr (.inr h)).trans (e6.mono fun t _ h => .inr (.inl h))))), _, _, ?_, Sls.of_ob a6 rfl (by unfold maxLen; decide), k6 _ _ _ a5⟩
   rw [← HPP.out.2.2]
   exact X6
 skip
 have HT := hQd (HS.out.tail (n := 0) (o' := o + 1) (.inl rfl))
 go_enter Tryz.func89, Tryz.ntmps89
 go_wp2_with fail
 refine wp_loop_rounds 2 ?_
 rw [rounds_succ]
 go_wp2_with fail
 refine (HC0.out w (Ext.refl HH.out)).mono ?_
 rintro e w1 ⟨rfl, hb⟩
 have X1 := hQd (HX.out.below hb)
 have T1 := hQd (HT.out.below hb)
 have E1 := hQd (Ext.of_below (S := fun t => t = k) HH.out hb)
 have y0 := X1.out.c 4 _ rfl
 have yf0 := X1.out.f 4
 clear hb x4 a0
 go_wp2_with fail
 have X2 := hQd (X1.out.set 4 (.slice (some ⟨A, o + 1, none⟩) 0 (cp - 1)) (by simp [Ac6]))
 have E2 := hQd (E1.out.trans (Aaf (j := 4) (v := .slice (some ⟨A, o + 1, none⟩) 0 (cp - 1)) E1.out.hi X1.out hk))
 have T2 := hQd (T1.out.ext (Aaf (j := 4) (v := .slice (some ⟨A, o + 1, none⟩) 0 (cp - 1)) E1.out.hi X1.out hk))
 obtain ⟨w2, hw⟩ := exq (w1.setCell ⟨X, 4, none⟩ (.slice (some ⟨A, o + 1, none⟩) 0 (cp - 1)))
 rw [← hw] at X2 E2 T2 ⊢
 clear hw y0 yf0
 have z0 := X2.out.c 4 _ rfl
 have z3 := X2.out.c 3 _ rfl
 rw [← HPP.out.2.2] at z3
 have zf3 := X2.out.f 3
 have zf4 := X2.out.f 4
 have hXl2 := X2.out.lt
 rw [rounds_succ]
 go_wp2_with fail
 go_end0
 have X3 := X2.out.set 3 (.int .i64 (ps + 1)) (by simp [Ac6])
 have E3 := Aaf (j := 3) (v := .int .i64 (ps + 1)) E2.out.hi X2.out hk
 have X4 := X3.set 4 (.slice (some ⟨w2.heap.size + 1, 0, none⟩) 1 1) (by simp [Ac6])
 have E4 := Aaf (j := 4) (v := .slice (some ⟨w2.heap.size + 1, 0, none⟩) 1 1) E3.hi X3 hk
 obtain ⟨G5, e5, a5, k5⟩ := Aar E4.hi (k + 2) #[At6 X, .bool false] 187 w2.heap.size (by simp)
 obtain ⟨G6, e6, a6, k6⟩ := Aar e5.hi (k + 1) #[Afo w2.heap.size] 188 (w2.heap.size + 1) (by simp)
 have X6 := k6 _ _ _ (k5 _ _ _ X4)
 refine ⟨rfl, G6, (E2.out.mono fun t _ h => .inl h).trans ((E3.mono fun t _ h => .inl h).trans ((E4.mono fun t _ h => .inl h).trans ((e5.mono fun t _ h => .inr (.inr h)).trans (e6.mono fun t _ h => .inr (.inl h))))), _, _, ?_, Sls.of_ob a6 rfl (by unfold maxLen; decide), k6 _ _ _ a5⟩
 rw [← HPP.out.2.2]
 exact X6
theorem Bcm {now tag ref lost : Int} {p : Spt} {lv : Value} {v0 : Value} (hx : Ob w O k X (Ac6 now p lv tag ref lost)) (hS : Sls w O (k + 1) 1 lv 1 [v0]) (h0 : Aa4 w O k v0 true) (hs : 3 ≤ p.s) (hs0 : 0 ≤ p.s) (hs1 : p.s ≤ 3) (hk : 10 ≤ k) (hhi : Hh O w) :
 C1 89 X w (RP (fun t => t = k ∨ t = k + 1 ∨ t = k + 2) w O (.tuple #[]) fun W G => ∃ lv', Ob W G k X (Ac6 now p lv' tag ref lost) ∧ Sls W G (k + 1) 1 lv' 0 []) := by
 obtain ⟨A, o, cp, rfl, hc1, hc2⟩ := hS.open (by omega)
 have a0 := hS.c 0 _ rfl
 rw [Nat.add_zero] at a0
 have x4 := hx.c 4 _ rfl
 have hXl := hx.lt
 have hAl := hS.lt.1
 have hAX : ¬ A = X := fun e => by have h1 := hx.o; have h2 := hS.lt.2; rw [← e, h2] at h1; omega
 have hXA : ¬ X = A := fun e => hAX e.symm
 obtain ⟨ty0, r0, r0', f0, rfl, hm0, hK0, hC0⟩ := h0
 have HC0 := hQd hC0
 obtain ⟨pb, hpb⟩ := exq p.b
 obtain ⟨pq, hpq⟩ := exq p.q
 obtain ⟨ps, hps⟩ := exq p.s
 rw [← hps] at hs hs0 hs1
 have ds : decide (ps < 3) = false := by simp; omega
 have HPP := hQd (aN hpb (aN hpq hps))
 clear hpb hpq hps
 have HS := hQd hS
 have HX := hQd hx
 have HH := hQd hhi
 clear hx hS hC0 hhi
 by_cases hcp : cp = 1
 · subst hcp
   have HT := hQd (HS.out.tail (n := 0) (o' := o) (.inr ⟨rfl, rfl⟩))
   go_enter Tryz.func89, Tryz.ntmps89
   go_wp2_with fail
   refine wp_loop_rounds 2 ?_
   rw [rounds_succ]
   go_wp2_with fail
   refine (HC0.out w (Ext.refl HH.out)).mono ?_
   rintro e w1 ⟨rfl, hb⟩
   have X1 := hQd (HX.out.below hb)
   have T1 := hQd (HT.out.below hb)
   have E1 := hQd (Ext.of_below (S := fun t => t = k) HH.out hb)
   have y0 := X1.out.c 4 _ rfl
   have yf0 := X1.out.f 4
   clear hb x4 a0
   go_wp2_with fail
   have X2 := hQd (X1.out.set 4 (.slice (some ⟨A, o, none⟩) 0 0) (by simp [Ac6]))
   have E2 := hQd (E1.out.trans (Aaf (j := 4) (v := .slice (some ⟨A, o, none⟩) 0 0) E1.out.hi X1.out hk))
   have T2 := hQd (T1.out.ext (Aaf (j := 4) (v := .slice (some ⟨A, o, none⟩) 0 0) E1.out.hi X1.out hk))
   obtain ⟨w2, hw⟩ := exq (w1.setCell ⟨X, 4, none⟩ (.slice (some ⟨A, o, none⟩) 0 0))
   rw [← hw] at X2 E2 T2 ⊢
   clear hw y0 yf0
   have z0 := X2.out.c 4 _ rfl
   have z3 := X2.out.c 3 _ rfl
   rw [← HPP.out.2.2] at z3
   have zf3 := X2.out.f 3
   have zf4 := X2.out.f 4
   have hXl2 := X2.out.lt
   rw [rounds_succ]
   go_wp2_with fail
   go_end0
   exact ⟨rfl, O, E2.out.mono fun t _ h => .inl h, _, X2.out, T2.out⟩
 skip
 have HT := hQd (HS.out.tail (n := 0) (o' := o + 1) (.inl rfl))
 go_enter Tryz.func89, Tryz.ntmps89
 go_wp2_with fail
 refine wp_loop_rounds 2 ?_
 rw [rounds_succ]
 go_wp2_with fail
 refine (HC0.out w (Ext.refl HH.out)).mono ?_
 rintro e w1 ⟨rfl, hb⟩
 have X1 := hQd (HX.out.below hb)
 have T1 := hQd (HT.out.below hb)
 have E1 := hQd (Ext.of_below (S := fun t => t = k) HH.out hb)
 have y0 := X1.out.c 4 _ rfl
 have yf0 := X1.out.f 4
 clear hb x4 a0
 go_wp2_with fail
 have X2 := hQd (X1.out.set 4 (.slice (some ⟨A, o + 1, none⟩) 0 (cp - 1)) (by simp [Ac6]))
 have E2 := hQd (E1.out.trans (Aaf (j := 4) (v := .slice (some ⟨A, o + 1, none⟩) 0 (cp - 1)) E1.out.hi X1.out hk))
 have T2 := hQd (T1.out.ext (Aaf (j := 4) (v := .slice (some ⟨A, o + 1, none⟩) 0 (cp - 1)) E1.out.hi X1.out hk))
 obtain ⟨w2, hw⟩ := exq (w1.setCell ⟨X, 4, none⟩ (.slice (some ⟨A, o + 1, none⟩) 0 (cp - 1)))
 rw [← hw] at X2 E2 T2 ⊢
 clear hw y0 yf0
 have z0 := X2.out.c 4 _ rfl
 have z3 := X2.out.c 3 _ rfl
 rw [← HPP.out.2.2] at z3
 have zf3 := X2.out.f 3
 have zf4 := X2.out.f 4
 have hXl2 := X2.out.lt
 rw [rounds_succ]
 go_wp2_with fail
 go_end0
 exact ⟨rfl, O, E2.out.mono fun t _ h => .inl h, _, X2.out, T2.out⟩
end
end
section
open Go.RowKit Go.Shelf
theorem Ahm : (Tryz.prog.info? 188).map (fun i => (i.zero, i.size, i.bytes)) = some (some .nilIface, 1, 16) := by kernel_rfl
section
variable {X : Nat} {w : World} {O : Om} {B : Wb} {f : Cf} {s : AW} {k : Nat}
theorem At4 {d : Nat} {b : Bool} (h : w.cell? ⟨d, 1, none⟩ = some (.bool b)) : C1 233 d w fun e w' => e = .returned (.bool b) ∧ w = w' := by
 go_enter Tryz.func233, Tryz.ntmps233
 go_wp2
 go_ret
 exact ⟨rfl, rfl⟩
theorem Asd (a : Addr) (w : World) : (method 464 184 (.pointer (some a)) "Over").run Tryz.prog w = .ok (233, .pointer (some a)) w := by kernel_rfl
theorem Af3 (a : Addr) (w : World) : (method 464 184 (.pointer (some a)) "Step").run Tryz.prog w = .ok (234, .pointer (some a)) w := by kernel_rfl
theorem Au4 (a : Addr) (w : World) : (method 464 265 (.pointer (some a)) "Over").run Tryz.prog w = .ok (238, .pointer (some a)) w := by kernel_rfl
theorem Akp (a : Addr) (w : World) : (method 464 265 (.pointer (some a)) "Step").run Tryz.prog w = .ok (239, .pointer (some a)) w := by kernel_rfl
theorem Au8 (a : Addr) (w : World) : (method 464 318 (.pointer (some a)) "Over").run Tryz.prog w = .ok (248, .pointer (some a)) w := by kernel_rfl
theorem Ae6 (a : Addr) (w : World) : (method 464 318 (.pointer (some a)) "Step").run Tryz.prog w = .ok (249, .pointer (some a)) w := by kernel_rfl
theorem Au5 (a : Addr) (w : World) : (method 464 321 (.pointer (some a)) "Over").run Tryz.prog w = .ok (251, .pointer (some a)) w := by kernel_rfl
theorem Ao0 (a : Addr) (w : World) : (method 464 321 (.pointer (some a)) "Step").run Tryz.prog w = .ok (252, .pointer (some a)) w := by kernel_rfl
theorem Aa4.act {d g : Nat} {dv : Value} {b : Bool} (h : Ob w O g d [dv, .bool b]) (hg : g ≠ k) : Aa4 w O k (Afo d) b :=
 ⟨_, _, _, _, rfl, Asd _, Aao Tryz.func233 (by kernel_rfl) (by kernel_rfl), fun W hW => (At4 ((h.ext hW hg).c 1 _ rfl)).mono fun e w' hp => ⟨hp.1, by rw [← hp.2]; exact Below.refl _ _⟩⟩
theorem Aa4.mark {m g : Nat} {l : List Int} (h : Ada w O g m l) (hg : g ≠ k ∧ g + 1 ≠ k) : Aa4 w O k (Abb m) (l.length == 0) := by
 refine ⟨_, _, _, _, rfl, Au8 _, Aao Tryz.func248 (by kernel_rfl) (by kernel_rfl), fun W hW => ?_⟩
 obtain ⟨A, off, hc⟩ := (h.ext hW hg.1 hg.2).cell
 exact (Aga hc).mono fun e w' hp => ⟨hp.1, by rw [← hp.2]; exact Below.refl _ _⟩
theorem Aa4.out {u g : Nat} {p : Spt} {o : Otm} (h : Abx w O g u p o) (hp : p.ok) (ho : o.ln ≤ 3) (hg : g ≠ k) : Aa4 w O k (Ak9 u) (o.ln == 3) := by
 refine ⟨_, _, _, _, rfl, Au5 _, Aao Tryz.func251 (by kernel_rfl) (by kernel_rfl), fun W hW => ?_⟩
 have h2 := h.ext hW hg
 have ht := hp.tags
 exact Ac5 p.tags o.ln (h2.ob.c 0 _ rfl) (h2.ob.c 4 _ rfl) (by omega) ho
theorem Aq3 {U : Nat} (h0 : w.cell? ⟨U, 0, none⟩ = some (.int .u64 0)) : C1 260 U w fun e w' => e = .returned (.bool true) ∧ Below w.heap.size w w' := by
 have hU := Aj0 h0
 dsimp only at hU
 go_enter Tryz.func260, Tryz.ntmps260
 go_wp2_with fail
 refine Abh (by kernel_rfl) (by kernel_rfl) ?_
 repeat (go_big_quiet_step ((first
  | (go_at_call 262; exact Auj (Amh _)))))
 refine wpQuiet_nil ?_
 rintro _ ⟨e, rfl⟩
 go_wp2_with fail
 go_ret
 exact ⟨rfl, Abv _ _⟩
theorem Aa4.put {u g : Nat} {p : Spt} {tg rf : Int} {o : Otm} (h : Ai6 w O g u p tg rf o) (hp : p.ok) (ho : o.ln ≤ 3) (hg : g ≠ k) (hv : ¬ (1 ≤ tg ∧ tg ≤ 255 ∧ 1 ≤ rf) → o.ln = 3) : Aa4 w O k (Aht u) (o.ln == 3) := by
 refine ⟨_, _, _, _, rfl, Aoz _, Aao Tryz.func260 (by kernel_rfl) (by kernel_rfl), fun W hW => ?_⟩
 have h2 := h.ext hW hg
 have ht := hp.tags
 by_cases c : 1 ≤ tg ∧ tg ≤ 255 ∧ 1 ≤ rf
 · exact Ac4 p.tags o.ln ((h2.1 c).ob.c 0 _ rfl) ((h2.1 c).ob.c 4 _ rfl) (by omega) ho
 rw [hv c]
 exact Aq3 ((h2.2 c).c 0 _ rfl)
theorem Av2 {d R : Nat} {z : Rmm} {O : Om} {kr : Nat} (h : w.cell? ⟨d, 1, none⟩ = some (.pointer (some ⟨R, 0, none⟩))) (hr : Aa1 w O kr R z) : C1 238 d w fun e w' => e = .returned (.bool (z.ln == 0)) ∧ w = w' := by
 have HR := hQd (Amn hr)
 clear hr
 generalize (z.ln == 0) = b at HR ⊢
 go_enter Tryz.func238, Tryz.ntmps238
 go_wp2_with fail
 refine HR.out.mono ?_
 rintro e w' ⟨rfl, rfl⟩
 go_wp2_with fail
 go_ret
 exact ⟨rfl, rfl⟩
theorem Aa4.search {d R g kr : Nat} {x : Value} {z : Rmm} (h : Ob w O g d [x, .pointer (some ⟨R, 0, none⟩)]) (hr : Aa1 w O kr R z) (hg : g ≠ k) (hk : k < kr) : Aa4 w O k (Aeg d) (z.ln == 0) := by
 refine ⟨_, _, _, _, rfl, Au4 _, Aao Tryz.func238 (by kernel_rfl) (by kernel_rfl), fun W hW => ?_⟩
 exact (Av2 ((h.ext hW hg).c 1 _ rfl) (hr.ext hW fun t q1 q2 => by omega)).mono fun e w' hp => ⟨hp.1, by rw [← hp.2]; exact Below.refl _ _⟩
theorem Ai2 {d g K p : Nat} {bound : Array Value} {Q : World → Prop} (hd : Ob w O g d [.func (.func K) bound #[], .bool false]) (hK : ∀ args W, (callFunc K args).run Tryz.prog W = .ok (.enter K args) W)
 (HC : Calls Tryz.prog K (bound ++ #[.pointer (some ⟨p, 0, none⟩)] ++ #[]) (w.setCell ⟨d, 1, none⟩ (.bool true)) fun e w' => e = .returned (.tuple #[]) ∧ Q w') :
 C2 234 d p w fun e w' => e = .returned (.bool true) ∧ Q w' := by
 obtain ⟨x0, x1⟩ := hd.c2
 have f1 := hd.f 1
 have HCC := hQd HC
 clear hd HC
 go_enter Tryz.func234, Tryz.ntmps234
 go_wp2_with fail
 refine HCC.out.mono ?_
 rintro e w' ⟨rfl, hq⟩
 have HQ := hQd hq
 clear hq x0 x1 f1
 go_wp2_with fail
 go_ret
 exact ⟨rfl, HQ.out⟩
theorem Av7 {now tag ref lost : Int} {p : Spt} {lv : Value} {d : Nat} {ds : List Value} (hP : PW w O B f s) (hx : Ob w O k X (Ac6 now p lv tag ref lost)) (hS : Sls w O (k + 1) 1 lv 1 [Afo d]) (hd : Ob w O (k + 2) d ds) (hp : p.ok) (hk : 10 ≤ k) (hhi : Hh O w) (n0 : 0 ≤ s.n) (n1 : s.n ≤ 4611686018427387904) :
 C2 87 X B.p w fun e w' => e = .returned (.tuple #[]) ∧ ∃ G, Ext (SX k (k + 2)) O w G w' ∧ PW w' G B f (Aan p.tags s) ∧ Ob w' G (k + 2) d ds ∧ ∃ lv', Ob w' G k X (Ac6 now p lv' (Aay (s.M p.tags) p.s) ref lost) ∧
  (Aay (s.M p.tags) p.s = 0 → Sls w' G (k + 1) 1 lv' 1 [Afo d]) ∧ (Aay (s.M p.tags) p.s ≠ 0 → ∃ d', Sls w' G (k + 1) 1 lv' 2 [Afo d, Afo d'] ∧ Ob w' G (k + 2) d' [Awh X, .bool false]) := by
 have HM : Hid (Me k (k + 2) w O w O B f s k X (Ac6 now p lv tag ref lost)) := hQd (Me.start hhi hP hx)
 have HS := hQd (aN hS hd)
 have p0 := hP.wo.c0
 obtain ⟨-, x1, x2, x3⟩ := hx.c4
 have htg := hp.tags
 have hq2 := hp.q2
 have hs0 := hp.s0
 have hs1 := hp.s1
 have HT := hQd (fun W => Aiu p.b p.q W (by have := hp.b0; omega) (by have := hp.b1; omega) (by have := hp.q0; omega) (by omega))
 have hta2 : Aai p.b p.q = p.tags := rfl
 rw [hta2] at HT
 have hbt := hP.bd p.tags
 have HTG := hQd (fun W => An3 (s.M p.tags) p.s W hbt.1 hbt.2 hs0 hs1)
 have hta : 0 ≤ p.tags ∧ p.tags < 18446744073709551616 := by omega
 obtain ⟨ta, hta3⟩ := exq p.tags
 rw [← hta3] at HT HTG hta ⊢
 obtain ⟨tg, htg2⟩ := exq (Aay (s.M ta) p.s)
 rw [← htg2] at HTG ⊢
 obtain ⟨pb, hpb⟩ := exq p.b
 obtain ⟨pq, hpq⟩ := exq p.q
 obtain ⟨ps, hps⟩ := exq p.s
 rw [← hpb] at x1 HT
 rw [← hpq] at x2 HT
 rw [← hps] at x3 HTG
 have HPP := hQd (aN hpb (aN hpq hps))
 have HTA := hQd hta
 have hXB : ¬ B.p = X := hP.ne_obj hx hk
 clear hP hx hS hd hhi hp htg hq2 hs0 hs1 hbt hta hta2 hta3 htg2 hpb hpq hps
 have cut : ∀ w5 G5, Me k (k + 2) w O w5 G5 B f (Aan ta s) k X (Ac6 now p lv tg ref lost) → Sls w5 G5 (k + 1) 1 lv 1 [Afo d] → Ob w5 G5 (k + 2) d ds → True := fun _ _ _ _ _ => trivial
 clear cut
 obtain ⟨i0, hi, hz0, hz1, hz2⟩ := info_parts Ahm
 have HI := hQd (aN hi (aN hz0 (aN hz1 hz2)))
 clear hi hz0 hz1 hz2
 go_enter Tryz.func87, Tryz.ntmps87
 go_wp2_with fail
 go_region_held3 (fun w' => w'.cell? ⟨B.p, 0, none⟩ = some (.pointer (some ⟨B.c, 0, none⟩)) ∧ w'.cell? ⟨X, 1, none⟩ = some (.int .i64 pb) ∧ w'.cell? ⟨X, 2, none⟩ = some (.int .i64 pq) ∧ w'.cell? ⟨X, 3, none⟩ = some (.int .i64 ps)) (go_keep)
  ((first
    | (go_at_call 124
       refine (HT.out _).mono ?_
       rintro e w1 ⟨rfl, hb1⟩
       have M1 := hQd (HM.out.drew.below hb1)
       have S1 := hQd (aN ((HS.out.1.below (Aaa _)).below hb1) ((HS.out.2.below (Aaa _)).below hb1))
       have p01 := M1.out.p.wo.c0
       obtain ⟨-, x11, x21, x31⟩ := M1.out.t.c4
       rw [← HPP.out.1] at x11
       rw [← HPP.out.2.1] at x21
       rw [← HPP.out.2.2] at x31
       clear hb1)
    | (go_at_call 37
       refine (Ac9 ta M1.out.p M1.out.e.hi HTA.out.1 HTA.out.2 n0 n1).mono ?_
       rintro e w2 ⟨rfl, G2, e2, P2⟩
       have M2 := hQd (M1.out.world hk e2 P2)
       have S2 := hQd (aN (S1.out.1.ext e2 (by unfold SW; omega)) (S1.out.2.ext e2 (by unfold SW; omega)))
       have p02 := M2.out.p.wo.c0
       obtain ⟨-, x12, x22, x32⟩ := M2.out.t.c4
       rw [← HPP.out.1] at x12
       rw [← HPP.out.2.1] at x22
       rw [← HPP.out.2.2] at x32
       clear e2 P2)
    | (go_at_call 123
       refine (HTG.out _).mono ?_
       rintro e w3 ⟨rfl, hb3⟩
       have M3 := hQd (M2.out.below hb3)
       have S3 := hQd (aN (S2.out.1.below hb3) (S2.out.2.below hb3))
       have p03 := M3.out.p.wo.c0
       obtain ⟨-, x13, x23, x33⟩ := M3.out.t.c4
       rw [← HPP.out.1] at x13
       rw [← HPP.out.2.1] at x23
       rw [← HPP.out.2.2] at x33
       have x53 := M3.out.t.c 5 _ rfl
       have f53 := M3.out.t.f 5
       have E4 := hQd (Aaf (j := 5) (v := .int .i64 tg) M3.out.e.hi M3.out.t hk)
       have M4 := hQd (M3.out.set hk (Nat.le_refl _) (by omega) 5 (.int .i64 tg) (by simp [Ac6]))
       have p04 := M4.out.p.wo.c0
       obtain ⟨-, x14, x24, x34⟩ := M4.out.t.c4
       rw [← HPP.out.1] at x14
       rw [← HPP.out.2.1] at x24
       rw [← HPP.out.2.2] at x34
       clear hb3)))
 all_goals
  clear p0 x1 x2 x3 p01 x11 x21 x31 p02 x12 x22 x32 p03 x13 x23 x33 x53 f53
  go_upto_region 1 with fail
  have S4 := hQd (aN (S3.out.1.ext E4.out) (S3.out.2.ext E4.out))
  obtain ⟨w4, hw4⟩ := exq (w3.setCell ⟨X, 5, none⟩ (.int .i64 tg))
  rw [← hw4] at M4 S4 ⊢
  clear hw4 E4 M3 S3 M2 S2 M1 S1 p04 x14 x24 x34
  have x5 := M4.out.t.c 5 _ rfl
  by_cases ht0 : tg = 0
  · have dt : (tg != 0) = false := by simp [ht0]
    have HT0 := hQd ht0
    clear ht0
    go_wp2_with fail
    go_end0
    exact ⟨rfl, G2, M4.out.e, M4.out.p, S4.out.2, lv, M4.out.t, fun _ => S4.out.1, fun h => absurd HT0.out h⟩
  have dt : (tg != 0) = true := by simp [ht0]
  have HT0 := hQd ht0
  obtain ⟨A, o, cp, rfl, hc1, hc2⟩ := S4.out.1.open (by decide)
  have x4 := M4.out.t.c 4 _ rfl
  have hXl := M4.out.t.lt
  obtain ⟨G5, e5, a5, k5⟩ := Aar M4.out.e.hi (k + 2) #[Awh X, .bool false] 187 w4.heap.size rfl
  have M5 := hQd (aN (M4.out.e.trans (e5.mono (T := SX k (k + 2)) fun t _ h => .inr (by omega))) (aN (M4.out.p.ext e5) (aN (k5 _ _ _ M4.out.t) (aN (k5 _ _ _ S4.out.2) (aN a5 (S4.out.1.kept k5))))))
  clear ht0 e5 a5 k5
  go_wp2_with (at_builtin; refine Ad3 (w4.alloc (.cells #[Awh X, .bool false] 187)) rfl _ _ 181 rfl 188 i0 .nilIface 1 16 Tryz.underlying181 HI.out.1 HI.out.2.1 HI.out.2.2.1 HI.out.2.2.2 rfl (by decide) G5 (k + 1) (by omega) M5.out.1.hi (.slice (some ⟨A, o, none⟩) 1 cp) 1 [Afo d] rfl M5.out.2.2.2.2.2 1 (by decide) [Afo w4.heap.size] _ (by simp only [World.size_alloc]; rfl) rfl (by simp [Afo, Value.oneCell']) (by unfold maxLen; decide) (by decide) ?_; intro b6 o6 c6 w6 G6 e6 s6; have M6 := hQd (aN (M5.out.1.trans (e6.mono (T := SX k (k + 2)) fun t _ h => .inr (by omega))) (aN (M5.out.2.1.ext e6) (aN (M5.out.2.2.1.ext e6) (aN (M5.out.2.2.2.1.ext e6) (aN (M5.out.2.2.2.2.1.ext e6) s6))))); have x46 := M6.out.2.2.1.c 4 _ rfl; have f46 := M6.out.2.2.1.f 4; clear e6 s6)
  go_end0
  have E7 := Aaf (j := 4) (v := .slice (some ⟨b6, o6, none⟩) (1 + 1) c6) M6.out.1.hi M6.out.2.2.1 hk
  have X7 := M6.out.2.2.1.set 4 (.slice (some ⟨b6, o6, none⟩) (1 + 1) c6) (by simp [Ac6])
  exact ⟨rfl, G6, M6.out.1.trans (E7.mono fun t _ h => .inr (by omega)), M6.out.2.1.ext E7, M6.out.2.2.2.1.ext E7, _, X7, fun h => absurd h HT0.out, fun _ => ⟨_, M6.out.2.2.2.2.2.ext E7, M6.out.2.2.2.2.1.ext E7⟩⟩
end
end
end Go.Proofs.YthbodknlhkapdaaGreat
