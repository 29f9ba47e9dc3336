/- An argument that is a table that is filled (nestboxlaw17.Full), opened; is it great? A table that is filled, plain: what is laid, one behind the other. A map of strings that have come: each reads as 1, any other one as 0. A table that is filled (nestboxlaw17.Full): its world. A table that is filled (nestboxlaw17.Full): is it great? A law's world: the program's, and all that is anybody's is its own. -/
import Derived.Test.YtfnmdafpdcgcmaaGreatZK
import Derived.Test.YtfnmdafpdcgcmaaGreatZL
import Derived.Test.YtfnmdafpdcgcmaaGreatZE
import Derived.Maps.OwnSet
import Derived.StringKeys
namespace Go.Proofs.YtfnmdafpdcgcmaaGreat
set_option linter.unusedSimpArgs false
section
set_option linter.unusedVariables false
set_option maxRecDepth 100000
open Go.ChangeShapes Go.WideShapes Go.Deep Go.RowKit
structure Ful where
 bi : Int
 ks : List ByteArray
 ly : List (Int × Int × Int)
 ky : ByteArray
 mo : Int
 sp : List Int
instance : Inhabited ByteArray := ⟨⟨#[]⟩⟩
def strc (s : ByteArray) : List Value := [.string s]
def u3c (p : Int × Int × Int) : List Value := [.int .u8 p.1, .int .u8 p.2.1, .int .u8 p.2.2]
def fulC (F : Ful) (vk vl vs : Value) : List Value := [.int .u8 F.bi, vk, vl, .string F.ky, .int .u8 F.mo, vs]
def fulV (F : Ful) (vk vl vs : Value) : Value := .agg #[.int .u8 F.bi, vk, vl, .string F.ky, .int .u8 F.mo, vs]
structure FulBd (F : Ful) : Prop where
 b0 : 0 ≤ F.bi
 b1 : F.bi ≤ 255
 m0 : 0 ≤ F.mo
 m1 : F.mo ≤ 255
 kz : F.ky.size ≤ maxLen
 ks : ∀ k ∈ F.ks, k.size ≤ maxLen
 ly : ∀ p ∈ F.ly, PuOk p
 sp : ∀ z ∈ F.sp, 0 ≤ z ∧ z ≤ 255
structure FulAt (w : World) (v : Value) (F : Ful) : Prop where
 ex : ∃ vk vl vs, v = fulV F vk vl vs ∧ Arr w vk F.ks.length 1 (rowOf strc F.ks) ∧ Arr w vl F.ly.length 3 (rowOf u3c F.ly) ∧ Arr w vs F.sp.length 1 (rowOf byArg F.sp)
theorem FulAt.below {w w' : World} {v : Value} {F : Ful} (h : FulAt w v F) (hb : Below w.heap.size w w') : FulAt w' v F := by
 obtain ⟨vk, vl, vs, rfl, h1, h2, h3⟩ := h.ex
 exact ⟨vk, vl, vs, rfl, h1.below hb, h2.below hb, h3.below hb⟩
section
variable {H : Type} {enc : TypeId × Value → H} {w : World} {base : Nat} {spare : Nat → Bool} {held : Bool}
theorem fcells_full : Tryz.prog.cellsOf 26 = 6 := by kernel_rfl
theorem fcells_u3 : Tryz.prog.cellsOf 90 = 3 := by kernel_rfl
theorem fcells_strs : Tryz.prog.cellsOf 22 = 1 := by kernel_rfl
theorem fcells_u3s : Tryz.prog.cellsOf 23 = 1 := by kernel_rfl
theorem fcells_bys : Tryz.prog.cellsOf 24 = 1 := by kernel_rfl
theorem str_of_trod {fuel : Nat} {cs : List Value} {x : DataW H × List MemPlace} (h : DataW.trod enc Tryz.prog w base spare held fuel 9 cs = some x) : ∃ p : ByteArray, p.size ≤ maxLen ∧ strc p = cs := by
 obtain ⟨z, h1, _, h2⟩ := DataW.trod_string Tryz.underlying9 h
 exact ⟨z, h2, h1.symm⟩
theorem by_of_trod {fuel : Nat} {cs : List Value} {x : DataW H × List MemPlace} (h : DataW.trod enc Tryz.prog w base spare held fuel 5 cs = some x) : ∃ p : Int, (0 ≤ p ∧ p ≤ 255) ∧ byArg p = cs := by
 obtain ⟨z, h1, _, h2⟩ := DataW.trod_int Tryz.underlying5 h
 exact ⟨z, bd_u8 h2, h1.symm⟩
theorem u3_of_trod {fuel : Nat} {cs : List Value} {x : DataW H × List MemPlace} (h : DataW.trod enc Tryz.prog w base spare held fuel 90 cs = some x) : ∃ p : Int × Int × Int, PuOk p ∧ u3c p = cs := by
 obtain ⟨xs, n, _, _, hlen, hxl, hf⟩ := DataW.trod_array Tryz.underlying90 h
 rw [fcells_u3] at hlen
 match cs, hlen with
 | [c0, c1, c2], _ =>
   have hx : xs.length = 3 := hxl
   have f0 := hf 0 (by omega)
   have f1 := hf 1 (by omega)
   have f2 := hf 2 (by omega)
   rw [fcells_u8] at f0 f1 f2
   obtain ⟨z0, e0, w0⟩ := leaf_trod Tryz.underlying5 f0 (by omega)
   obtain ⟨z1, e1, w1⟩ := leaf_trod Tryz.underlying5 f1 (by omega)
   obtain ⟨z2, e2, w2⟩ := leaf_trod Tryz.underlying5 f2 (by omega)
   simp at e0 e1 e2
   subst e0 e1 e2
   have b0 := bd_u8 w0
   have b1 := bd_u8 w1
   have b2 := bd_u8 w2
   exact ⟨(z0, z1, z2), ⟨⟨b0.1, by show z0 < 256; omega⟩, ⟨b1.1, by show z1 < 256; omega⟩, ⟨b2.1, by show z2 < 256; omega⟩⟩, rfl⟩
theorem open_full {v : Value} {d : DataW H} {p : List MemPlace} {r : Reach} {b0 : Nat} (h : DataW.Trod enc Tryz.prog w base spare held 26 v d p) (ho : Value.okWide Tryz.prog w r b0 26 v) :
 ∃ F : Ful, FulBd F ∧ FulAt w v F := by
 obtain ⟨fuel, hf⟩ := h
 simp only [Value.okWide, Tryz.underlying26] at ho
 obtain ⟨ca, rfl, hl, hr⟩ := ho
 rw [fcells_full] at hl
 have hf : DataW.trod enc Tryz.prog w base spare held fuel 26 ca.toList = some (d, p) := hf
 obtain ⟨cs, hcs⟩ : ∃ cs, cs = ca.toList := ⟨_, rfl⟩
 have hca : ca = cs.toArray := by rw [hcs]
 have hlc : cs.length = 6 := by rw [hcs]; simpa using hl
 subst hca
 have hf : DataW.trod enc Tryz.prog w base spare held fuel 26 cs = some (d, p) := by simpa using hf
 clear hcs hl hr
 obtain ⟨xs, n, _, _, hlen, hxl, hg⟩ := DataW.trod_struct Tryz.underlying26 hf
 match cs, hlc with
 | [c0, c1, c2, c3, c4, c5], _ =>
   have hx : xs.length = 6 := hxl
   have f0 : DataW.trod enc Tryz.prog w base spare held n 5 (List.take (Tryz.prog.cellsOf 5) (List.drop 0 [c0, c1, c2, c3, c4, c5])) = xs[0]? := hg 0 _ rfl
   have f1 : DataW.trod enc Tryz.prog w base spare held n 22 (List.take (Tryz.prog.cellsOf 22) (List.drop 1 [c0, c1, c2, c3, c4, c5])) = xs[1]? := hg 1 _ rfl
   have f2 : DataW.trod enc Tryz.prog w base spare held n 23 (List.take (Tryz.prog.cellsOf 23) (List.drop 2 [c0, c1, c2, c3, c4, c5])) = xs[2]? := hg 2 _ rfl
   have f3 : DataW.trod enc Tryz.prog w base spare held n 9 (List.take (Tryz.prog.cellsOf 9) (List.drop 3 [c0, c1, c2, c3, c4, c5])) = xs[3]? := hg 3 _ rfl
   have f4 : DataW.trod enc Tryz.prog w base spare held n 5 (List.take (Tryz.prog.cellsOf 5) (List.drop 4 [c0, c1, c2, c3, c4, c5])) = xs[4]? := hg 4 _ rfl
   have f5 : DataW.trod enc Tryz.prog w base spare held n 24 (List.take (Tryz.prog.cellsOf 24) (List.drop 5 [c0, c1, c2, c3, c4, c5])) = xs[5]? := hg 5 _ rfl
   rw [fcells_u8] at f0 f4
   rw [fcells_strs, List.getElem?_eq_getElem (by omega)] at f1
   rw [fcells_u3s, List.getElem?_eq_getElem (by omega)] at f2
   rw [fcells_str, List.getElem?_eq_getElem (by omega)] at f3
   rw [fcells_bys, List.getElem?_eq_getElem (by omega)] at f5
   obtain ⟨bi, e0, w0⟩ := leaf_trod Tryz.underlying5 f0 (by omega)
   obtain ⟨vk, ks, e1, g1, a1⟩ := rows_of_trod (α := ByteArray) (f := strc) (good := fun p => p.size ≤ maxLen) Tryz.underlying22 fcells_str (by omega) (fun _ => rfl) str_of_trod f1
   obtain ⟨vl, ly, e2, g2, a2⟩ := rows_of_trod (α := Int × Int × Int) (f := u3c) (good := PuOk) Tryz.underlying23 fcells_u3 (by omega) (fun _ => rfl) u3_of_trod f2
   obtain ⟨ky, hk, e3⟩ := str_of_trod f3
   obtain ⟨mo, e4, w4⟩ := leaf_trod Tryz.underlying5 f4 (by omega)
   obtain ⟨vs, sp, e5, g5, a5⟩ := rows_of_trod (α := Int) (f := byArg) (good := fun z => 0 ≤ z ∧ z ≤ 255) Tryz.underlying24 fcells_u8 (by omega) (fun _ => rfl) by_of_trod f5
   unfold strc at e3
   simp at e0 e1 e2 e3 e4 e5
   subst e0 e1 e2 e3 e4 e5
   exact ⟨⟨bi, ks, ly, ky, mo, sp⟩, ⟨(bd_u8 w0).1, (bd_u8 w0).2, (bd_u8 w4).1, (bd_u8 w4).2, hk, g1, g2, g5⟩, ⟨_, _, _, rfl, a1, a2, a5⟩⟩
end
end
section
set_option linter.unusedVariables false
open Go.RowKit Go.Shelf
def fulB (F : Ful) : Int := 1 + F.bi % 3
structure FulS (b : Int) (ks : List ByteArray) (s : AW) : Prop where
 fil : Fil b ks s.M
 it : s.it = ks.map fulIt
 nt : s.nt = []
 n0 : 0 ≤ s.n
 n1 : s.n ≤ 1000
structure FulL (b : Int) (ks : List ByteArray) (i : Nat) (L : List ByteArray) (s : AW) : Prop where
 fil : Fil b ks s.M
 it : s.it = ks.map fulIt
 nt : s.nt = []
 n0 : 0 ≤ s.n
 n1 : s.n ≤ 3 * i
 len : L.length ≤ i
 had : ∀ (p : Spt) (r : Nat) (k : ByteArray), p.ok → p.b = b → s.M p.item = (r : Int) + 1 → ks[r]? = some k → k ∈ L
theorem FulL.start {b : Int} {ks : List ByteArray} {it : List It} (b0 : 1 ≤ b) (b1 : b ≤ 3) (hi : it = ks.map fulIt) : FulL b ks 0 [] ⟨(aw0 b).M, (aw0 b).n, (aw0 b).la, (aw0 b).tk, (aw0 b).ho, it, (aw0 b).nt⟩ := by
 have h := Fil.start ks b0 b1
 refine ⟨h, hi, rfl, Int.le_refl _, Int.le_refl _, Nat.le_refl _, fun p r k hp hb hr hk => ?_⟩
 have hr : (aw0 b).M p.item = (r : Int) + 1 := hr
 unfold aw0 at hr
 dsimp only at hr
 rw [upd_other _ (by have := hp.item; omega)] at hr
 omega
theorem FulL.skip {b : Int} {ks : List ByteArray} {i : Nat} {L : List ByteArray} {s : AW} (h : FulL b ks i L s) : FulL b ks (i + 1) L s := ⟨h.fil, h.it, h.nt, h.n0, by have := h.n1; omega, by have := h.len; omega, h.had⟩
theorem FulL.lay {b : Int} {ks : List ByteArray} {i : Nat} {L : List ByteArray} {s s' : AW} {r : Nat} {key : ByteArray} (h : FulL b ks i L s) (hk : ks[r]? = some key) (hn : key ∉ L) (hp : LayPost b s r key true s') : FulL b ks (i + 1) (L ++ [key]) s' := by
 obtain ⟨p, hok, hb, hin, hfr, rfl⟩ := hp.2 rfl
 refine ⟨h.fil.put hok hb hk hin hfr fun q hq hqb e => hn (h.had q r key hq hqb e hk), h.it, h.nt, ?_, ?_, ?_, fun q r' k' hq hqb e hk' => ?_⟩
 · have := h.n0; show 0 ≤ s.n + 3; omega
 · have := h.n1; show s.n + 3 ≤ _; omega
 · have := h.len; rw [List.length_append]; simp; omega
 · have e : putM s.M p (fnvTag (keyH key)) ((r : Int) + 1) q.item = (r' : Int) + 1 := e
   by_cases c : q.item = p.item
   · rw [c, putM_item hok] at e
     have : r = r' := by omega
     rw [← this, hk] at hk'
     cases hk'
     simp
   · rw [putM_oth (Spt.item_ne_tags hq hok (by rw [hqb, hb])) c] at e
     exact List.mem_append.2 (.inl (h.had q r' k' hq hqb e hk'))
theorem FulL.done {b : Int} {ks : List ByteArray} {i : Nat} {L : List ByteArray} {s : AW} (h : FulL b ks i L s) (hi : i ≤ 80) : FulS b ks s := ⟨h.fil, h.it, h.nt, h.n0, by have := h.n1; omega⟩
end
section
set_option linter.unusedVariables false
open Go.RowKit Go.Maps Go.WideMaps
set_option maxRecDepth 100000
def hadD (L : List ByteArray) : DataW Unit := L.foldl (fun D x => D.put (.string x.data.toList) (.lit (.int .i64 1))) (.map [])
theorem hadD_snoc (L : List ByteArray) (x : ByteArray) : hadD (L ++ [x]) = (hadD L).put (.string x.data.toList) (.lit (.int .i64 1)) := by
 unfold hadD; rw [List.foldl_append]; rfl
theorem isMap_hadD (L : List ByteArray) : IsMap (hadD L) := by
 unfold hadD
 have : ∀ (L : List ByteArray) (D : DataW Unit), IsMap D → IsMap (L.foldl (fun D x => D.put (.string x.data.toList) (.lit (.int .i64 1))) D) := by
  intro L
  induction L with
  | nil => intro D h; exact h
  | cons x L ih => intro D h; exact ih _ (h.put _ _)
 exact this L _ isMap_empty
theorem lit_str_inj {x y : ByteArray} (h : (Lit.string x.data.toList) = .string y.data.toList) : x = y := by
 injection h with h
 have : x.data = y.data := Array.toList_inj.1 h
 cases x; cases y; simp_all
theorem hadD_in (z : DataW Unit) (k : ByteArray) : ∀ (n : Nat) (L : List ByteArray), L.length = n → k ∈ L → (hadD L).atKey (.string k.data.toList) z = .lit (.int .i64 1) := by
 intro n
 induction n with
 | zero => intro L h hk; rw [List.eq_nil_of_length_eq_zero h] at hk; cases hk
 | succ n ih =>
   intro L h hk
   have hne : L ≠ [] := by intro e; rw [e] at h; cases h
   obtain ⟨l, x, e⟩ : ∃ l x, L = l ++ [x] := ⟨_, _, (List.dropLast_concat_getLast hne).symm⟩
   subst e
   rw [hadD_snoc]
   by_cases e : x = k
   · rw [e, atKey_put_same (isMap_hadD l) (by trivial)]
   · rw [atKey_put_other (fun g => e (lit_str_inj g).symm)]
     refine ih l (by simpa using h) ?_
     rcases List.mem_append.1 hk with g | g
     · exact g
     · exact absurd (List.mem_singleton.1 g).symm e
theorem hadD_out (z : DataW Unit) (k : ByteArray) : ∀ (n : Nat) (L : List ByteArray), L.length = n → k ∉ L → (hadD L).atKey (.string k.data.toList) z = z := by
 intro n
 induction n with
 | zero => intro L h hk; rw [List.eq_nil_of_length_eq_zero h]; rfl
 | succ n ih =>
   intro L h hk
   have hne : L ≠ [] := by intro e; rw [e] at h; cases h
   obtain ⟨l, x, e⟩ : ∃ l x, L = l ++ [x] := ⟨_, _, (List.dropLast_concat_getLast hne).symm⟩
   subst e
   rw [hadD_snoc, atKey_put_other (fun g => hk (by rw [lit_str_inj g]; simp))]
   exact ih l (by simpa using h) fun g => hk (List.mem_append.2 (.inl g))
def MapS (w : World) (m : Nat) (L : List ByteArray) : Prop := w.ownsMap Tryz.prog 9 (plainElem Tryz.prog 3) m L.length (hadD L)
theorem MapS.lt {w : World} {m : Nat} {L : List ByteArray} (h : MapS w m L) : m < w.heap.size := World.ownsMap.lt h
theorem MapS.block {w w' : World} {m : Nat} {L : List ByteArray} (h : MapS w m L) (hb : w'.heap[m]? = w.heap[m]?) : MapS w' m L := by
 obtain ⟨es, clk, h1, h2⟩ := h
 exact ⟨es, clk, hb.trans h1, h2⟩
theorem MapS.made (w : World) : MapS (w.alloc (.map #[] 0)) w.heap.size [] := World.ownsMap_made _ _ _ _
theorem keyS : Keyed Tryz.prog 9 := string_keyed Tryz.underlying9
theorem zero_int (w : World) : (zeroValue 3).run Tryz.prog w = .ok (.int .i64 0) w := by kernel_rfl
section
variable {w : World} {m : Nat} {L : List ByteArray} {k : ByteArray}
theorem MapS.look0 (h : MapS w m L) (hk : k.size ≤ maxLen) (hn : k ∉ L) : (Instr.lookup 89 (.map (some m)) (.string k) false).run Tryz.prog w = .ok (.int .i64 0) w := by
 obtain ⟨c, h1, h2, -⟩ := World.ownsMap.lookup_int h keyS Tryz.underlying89 Tryz.underlying3 (zero_int w) (keyOf_string_mk Tryz.underlying9 hk)
 rw [hadD_out _ k _ L rfl hn] at h2
 injection h2 with h2
 injection h2 with _ h2
 rw [h2]
 exact h1
theorem MapS.look1 (h : MapS w m L) (hk : k.size ≤ maxLen) (hn : k ∈ L) : (Instr.lookup 89 (.map (some m)) (.string k) false).run Tryz.prog w = .ok (.int .i64 1) w := by
 obtain ⟨c, h1, h2, -⟩ := World.ownsMap.lookup_int h keyS Tryz.underlying89 Tryz.underlying3 (zero_int w) (keyOf_string_mk Tryz.underlying9 hk)
 rw [hadD_in _ k _ L rfl hn] at h2
 injection h2 with h2
 injection h2 with _ h2
 rw [h2]
 exact h1
theorem MapS.store {O : Om} {g : Nat} (h : MapS w m L) (hl : L.length < 8192) (hk : k.size ≤ maxLen) (hg : g ≠ 0) (hO : O m = g) (hhi : ∀ j, O j ≠ 0 → j < w.heap.size) :
 ∃ w', (Instr.mapUpdate 89 (.map (some m)) (.string k) (.int .i64 1)).run Tryz.prog w = .ok () w' ∧ MapS w' m (L ++ [k]) ∧ Ext (fun t => t = g) O w O w' := by
 obtain ⟨w', hrun, r1, r2⟩ := World.ownsMap.store h keyS Tryz.underlying89 (by unfold maxLen; omega) (keyOf_string_mk Tryz.underlying9 hk) (plainElem_int Tryz.underlying3 (a := 1) (by decide))
 refine ⟨w', hrun, ?_, ?_⟩
 · unfold MapS
   rw [hadD_snoc, List.length_append]
   exact r1
 · have hw : Wrote (fun j => j = m) w w' := (Wrote.refl _ _).grown r2.grown fun k hk _ => by cases hk; rfl
   refine ⟨fun j _ => rfl, fun j hj => Nat.lt_of_lt_of_le (hhi j hj) hw.size, fun j hj hn => absurd (hhi j hn) (by omega), hw.mono fun j _ e => ?_⟩
   subst e
   exact ⟨hO, by rw [hO]; exact hg⟩
end
end
section
set_option linter.unusedVariables false
set_option maxHeartbeats 8000000
set_option maxRecDepth 100000
open Go.RowKit Go.Shelf
theorem PW.addItF {w w' : World} {O O' : Om} {B : Wb} {f : Cf} {s : AW} {x : It} (h : PW w O B f s) (e : Ext (fun t => t = 3) O w O' w') (ha : Ar w' O' 3 B.ip (s.it ++ [x])) : PW w' O' B f ⟨s.M, s.n, s.la, s.tk, s.ho, s.it ++ [x], s.nt⟩ :=
 ⟨(e.lo _ h.wo.lt).trans h.o, h.wo.wrote e.wr (fun k => absurd (show (1 : Nat) = 3 from by have := k.1; rwa [h.o] at this) (by decide)), h.ce.ext e (by decide) (by decide), ha, h.no.ext e (by decide)⟩
theorem MapS.ext {S : Nat → Prop} {O O' : Om} {w w' : World} {m g : Nat} {L : List ByteArray} (h : MapS w m L) (e : Ext S O w O' w') (hg : O m = g) (hs : ¬ S g) : MapS w' m L :=
 h.block (e.wr.block m h.lt fun k => hs (by have := k.1; rwa [hg] at this))
def FulPost (w : World) (F : Ful) (e : Ending) (w' : World) : Prop :=
 ∃ B O s, e = .returned (.pointer (some ⟨B.p, 0, none⟩)) ∧ PW w' O B ⟨fulB F, 8, 3, 1, 16⟩ s ∧ Env w O w' ∧ FulS (fulB F) F.ks s
theorem strc_len (s : ByteArray) : (strc s).length = 1 := rfl
theorem u3c_len (s : Int × Int × Int) : (u3c s).length = 3 := rfl
def fulA (b : Int) (ks : List ByteArray) (i : Nat) : AW := ⟨(aw0 b).M, (aw0 b).n, (aw0 b).la, (aw0 b).tk, (aw0 b).ho, (ks.take i).map fulIt, (aw0 b).nt⟩
theorem fulA_succ (b : Int) (ks : List ByteArray) (i : Nat) (k : ByteArray) (h : ks[i]? = some k) : (fulA b ks i).it ++ [fulIt k] = (fulA b ks (i + 1)).it := by
 show (ks.take i).map fulIt ++ [fulIt k] = (ks.take (i + 1)).map fulIt
 rw [List.take_add_one, h]
 simp
theorem c_FulWorld {F : Ful} {v : Value} {w : World} (h : FulAt w v F) (g : FulBd F) (hks : F.ks.length ≤ 40) (hly : F.ly.length ≤ 80) : Calls Tryz.prog 8 #[v] w (FulPost w F) := by
 obtain ⟨vk, vl, vs, rfl, h1, h2, h3⟩ := h.ex
 have hbi : 1 ≤ fulB F ∧ fulB F ≤ 3 := by unfold fulB; have := g.b0; omega
 obtain ⟨bi, ks, ly, ky, mo, sp⟩ := F
 have hbe : fulB ⟨bi, ks, ly, ky, mo, sp⟩ = 1 + bi % 3 := rfl
 have b0 := g.b0
 have b1 := g.b1
 unfold fulV
 dsimp only at h1 h2 h3 hks hly b0 b1 ⊢
 obtain ⟨ai, ci, rfl, hci, hmi⟩ := h1.shape
 obtain ⟨ap, cp, rfl, hcp, hmp⟩ := h2.shape
 obtain ⟨b, hb⟩ : ∃ b, b = 1 + bi % 3 := ⟨_, rfl⟩
 unfold FulPost
 rw [hbe, ← hb] at hbi ⊢
 have HA := Lib.hid h1
 have HL := Lib.hid h2
 have G := Lib.hid g
 have HB := Lib.hid hbi
 have hbw := (Below.refl w.heap.size w).alloc (Nat.le_refl _) (.cells #[.int .u8 bi, .slice ai ks.length ci, .slice ap ly.length cp, .string ky, .int .u8 mo, vs] 26)
 have hH : ∀ j u, [.int .u8 bi, .slice ai ks.length ci, .slice ap ly.length cp, .string ky, .int .u8 mo, vs][j]? = some u → (w.alloc (.cells #[.int .u8 bi, .slice ai ks.length ci, .slice ap ly.length cp, .string ky, .int .u8 mo, vs] 26)).cell? ⟨w.heap.size, j, none⟩ = some u := fun j u hu => cell_newA w _ _ _ rfl j u (by simpa using hu)
 have hqlt : w.heap.size < (w.alloc (.cells #[.int .u8 bi, .slice ai ks.length ci, .slice ap ly.length cp, .string ky, .int .u8 mo, vs] 26)).heap.size := by simp
 have y0 := hH 0 _ rfl
 have HH := Lib.hid hH
 have HBW := Lib.hid hbw
 have HLT := Lib.hid hqlt
 clear h h1 h2 h3 g hbi hbe hbw hH hqlt
 obtain ⟨-, hT⟩ := alloc_nbH (O := fun _ => 0) (w := w) (S := fun _ => False) (fun j h => absurd rfl h) #[.int .u8 bi, .slice ai ks.length ci, .slice ap ly.length cp, .string ky, .int .u8 mo, vs] 26 w.heap.size rfl
 have TT := Lib.hid hT
 clear hT
 have hmm := @run_makeMap Tryz.prog
 go_enter Tryz.func8, Tryz.ntmps8
 go_wp2_with fail
 obtain ⟨W0, hW0⟩ : ∃ W, W = w.alloc (.cells #[.int .u8 bi, .slice ai ks.length ci, .slice ap ly.length cp, .string ky, .int .u8 mo, vs] 26) := ⟨_, rfl⟩
 rw [← hW0] at TT HBW HLT ⊢
 obtain ⟨Q, hQ⟩ : ∃ Q, Q = w.heap.size := ⟨_, rfl⟩
 rw [← hQ] at TT HLT ⊢
 rw [← hb]
 clear hW0 HH y0 b0 b1 hb hQ
 refine (c_WorldP b W0 HB.out.1 (by have := HB.out.2; omega)).mono ?_
 rintro e w1 ⟨B, O1, rfl, hP, hE⟩
 have hE1 : Env w O1 w1 := ⟨fun j h => Nat.le_trans HBW.out.size (hE.base j h), hE.hi, HBW.out.trans (hE.bel.mono HBW.out.size)⟩
 have hO1Q : O1 Q = 0 := by
  by_cases c : O1 Q = 0
  · exact c
  · exact absurd (hE.base Q c) (by have := HLT.out; omega)
 have T1 := TT.out.below hE.bel
 have T1' : Ob w1 O1 0 Q [.int .u8 bi, .slice ai ks.length ci, .slice ap ly.length cp, .string ky, .int .u8 mo, vs] := ⟨hO1Q, T1.lt, T1.c, T1.f⟩
 have e2 := Ext.alloc (S := fun t => t = 9) (g := 9) hE1.hi rfl (.map #[] 0)
 have hM2 := MapS.made w1
 have hO2 : newOwn O1 w1.heap.size (w1.heap.size + 1) 9 w1.heap.size = 9 := by unfold newOwn; rw [if_pos (by omega)]
 obtain ⟨O2, hO2e⟩ : ∃ O2, O2 = newOwn O1 w1.heap.size (w1.heap.size + 1) 9 := ⟨_, rfl⟩
 rw [← hO2e] at e2 hO2
 have P2 := Lib.hid (hP.ext e2 (by decide) (by decide) (by decide) (by decide))
 have E2 := Lib.hid (hE1.ext e2)
 have T2 := Lib.hid (T1'.ext e2 (by decide))
 have M2 := Lib.hid hM2
 have OM := Lib.hid hO2
 clear hP hE hE1 hO1Q T1 T1' e2 hM2 hO2 hO2e TT HBW HLT
 go_upto_region 6 with fail
 obtain ⟨w2, hw2⟩ : ∃ W, W = w1.alloc (.map #[] 0) := ⟨_, rfl⟩
 rw [← hw2] at P2 E2 T2 M2 ⊢
 obtain ⟨m, hm⟩ : ∃ m, m = w1.heap.size := ⟨_, rfl⟩
 rw [← hm] at M2 OM ⊢
 clear hw2 hm hmm
 go_loopw [5] (fun iv wr => ∃ (i : Nat) (G : Om), iv = .int .i64 i ∧ i ≤ ks.length ∧ PW wr G B ⟨b, 8, 3, 1, 16⟩ (fulA b ks i) ∧ Env w G wr ∧ Ob wr G 0 Q [.int .u8 bi, .slice ai ks.length ci, .slice ap ly.length cp, .string ky, .int .u8 mo, vs] ∧ MapS wr m [] ∧ G m = 9) (fun iv _ => ks.length - (intOf iv).toNat)
 case atStart => exact ⟨0, O2, rfl, Nat.zero_le _, P2.out, E2.out, T2.out, M2.out, OM.out⟩
 case round =>
  clear P2 E2 T2 M2 OM
  obtain ⟨i, O3, rfl, hi, hP, hE, hT, hM, hO⟩ := hrel
  have P3 := Lib.hid hP
  have E3 := Lib.hid hE
  have T3 := Lib.hid hT
  have M3 := Lib.hid hM
  have OM := Lib.hid hO
  have t1 := hT.c 1 _ rfl
  clear hP hE hT hM hO
  by_cases hik : i < ks.length
  · obtain ⟨A, o, c', he, -, -, hlt, hx⟩ := HA.out.open (by omega) (by omega)
    cases he
    obtain ⟨x, hxe⟩ : ∃ x, x = ks[i] := ⟨_, rfl⟩
    have hr0 : (rowOf strc ks)[i]? = (strc x)[0]? := by rw [hxe]; have := rowOf_get strc_len ks i 0 hik (by omega); rw [Nat.mul_one] at this; exact this
    have hc0 : w.cell? ⟨A, o + i, none⟩ = some (.string x) := hx _ _ hr0
    have v0 : wr.cell? ⟨A, o + i, none⟩ = some (.string x) := (E3.out.bel.cell (p := ⟨A, o + i, none⟩) hlt).trans hc0
    have HC0 := Lib.hid hc0
    have hx? : ks[i]? = some x := by rw [hxe]; exact List.getElem?_eq_getElem hik
    have hsu := fulA_succ b ks i x hx?
    have HSU := Lib.hid hsu
    have p1 := P3.out.wo.c1
    have hbw : Below wr.heap.size wr wr.drew := drew_below wr
    have P4 := Lib.hid (P3.out.below E3.out.hi hbw)
    have E4 := Lib.hid (E3.out.ext (Ext.of_below (S := SW) E3.out.hi hbw))
    have T4 := Lib.hid (T3.out.below hbw)
    have HAdd := Lib.hid (c_IAdd (fulIt x) P4.out.ar (by decide) (by show ((ks.take i).map fulIt).length ≤ 1000000; simp; omega) E4.out.hi)
    clear hxe hr0 hx? hsu hbw hx hc0
    go_wp2_with fail
    go_region_held3 (fun w' => w'.cell? ⟨Q, 1, none⟩ = some (.slice (some ⟨A, o, none⟩) ks.length ci) ∧ w'.cell? ⟨A, o + i, none⟩ = some (.string x) ∧ w'.cell? ⟨B.p, 1, none⟩ = some (.pointer (some ⟨B.ip, 0, none⟩))) (go_keep)
     ((go_at_call 34
       refine HAdd.out.mono ?_
       rintro e w5 ⟨rfl, O5, e5, a5⟩
       have P5 := P4.out.addItF e5 a5
       rw [HSU.out] at P5
       have P5 : Hid (PW w5 O5 B ⟨b, 8, 3, 1, 16⟩ (fulA b ks (i + 1))) := Lib.hid P5
       have E5 := Lib.hid (E4.out.ext e5)
       have T5 := Lib.hid (T4.out.ext e5 (by decide))
       have M5 := Lib.hid ((M3.out.block rfl : MapS wr.drew m []).ext e5 OM.out (by decide))
       have OM5 := Lib.hid ((e5.lo m M3.out.lt).trans OM.out)
       have u1 := T5.out.c 1 _ rfl
       have u2 := P5.out.wo.c1
       have u3 : w5.cell? ⟨A, o + i, none⟩ = some (.string x) := (E5.out.bel.cell (p := ⟨A, o + i, none⟩) hlt).trans HC0.out
       clear e5 a5))
    all_goals
     clear t1 v0 p1 u1 u2 u3
     go_wp2_with fail
     go_roundw
     case rel => exact ⟨i + 1, O5, by go_num, by omega, P5.out, E5.out, T5.out, M5.out, OM5.out⟩
     case measure => simp [intOf]; omega
  · have hie : i = ks.length := by omega
    subst hie
    go_upto_region 10 with fail
    have hf0 := FulL.start (ks := ks) (it := (fulA b ks ks.length).it) HB.out.1 HB.out.2 (by show (ks.take ks.length).map fulIt = _; rw [List.take_length])
    have F0 : Hid (FulL b ks 0 [] (fulA b ks ks.length)) := Lib.hid hf0
    clear hf0 t1
    go_loopw [6] (fun iv wr => ∃ (i : Nat) (G : Om) (L : List ByteArray) (s : AW), iv = .int .i64 i ∧ i ≤ ly.length ∧ PW wr G B ⟨b, 8, 3, 1, 16⟩ s ∧ FulL b ks i L s ∧ Env w G wr ∧ Ob wr G 0 Q [.int .u8 bi, .slice ai ks.length ci, .slice ap ly.length cp, .string ky, .int .u8 mo, vs] ∧ MapS wr m L ∧ G m = 9) (fun iv _ => ly.length - (intOf iv).toNat)
    case atStart => exact ⟨0, O3, [], _, rfl, Nat.zero_le _, P3.out, F0.out, E3.out, T3.out, M3.out, OM.out⟩
    case round =>
     clear P3 E3 T3 M3 OM F0
     obtain ⟨i, O3, L, s, rfl, hi, hP, hF, hE, hT, hM, hO⟩ := hrel
     have P3 := Lib.hid hP
     have F3 := Lib.hid hF
     have E3 := Lib.hid hE
     have T3 := Lib.hid hT
     have M3 := Lib.hid hM
     have OM := Lib.hid hO
     have t1 := hT.c 1 _ rfl
     have t2 := hT.c 2 _ rfl
     clear hP hE hT hM hO hF
     by_cases hik : i < ly.length
     · by_cases hk0 : 0 < ks.length
       · obtain ⟨A, o, c', he, -, -, hlt, hx⟩ := HA.out.open (by omega) (by omega)
         cases he
         obtain ⟨A2, o2, c2, he, -, -, hlt2, hx2⟩ := HL.out.open (by omega) (by omega)
         cases he
         obtain ⟨y, hye⟩ : ∃ y, y = ly[i] := ⟨_, rfl⟩
         have hyb := G.out.ly y (by rw [hye]; exact List.getElem_mem _)
         have hr : ∀ j, j < 3 → (rowOf u3c ly)[i * 3 + j]? = (u3c y)[j]? := fun j hj => by rw [hye]; exact rowOf_get u3c_len ly i j hik hj
         obtain ⟨y0, y1, y2⟩ := y
         obtain ⟨⟨a0, a1⟩, ⟨a2, a3⟩, a4, a5⟩ := hyb
         dsimp only at a0 a1 a2 a3 a4 a5
         have v0 : wr.cell? ⟨A2, o2 + i * 3, none⟩ = some (.int .u8 y0) := (E3.out.bel.cell (p := ⟨A2, o2 + i * 3, none⟩) hlt2).trans (hx2 _ _ (hr 0 (by omega)))
         have HC1 := Lib.hid (hx2 _ _ (hr 1 (by omega)))
         have HC2 := Lib.hid (hx2 _ _ (hr 2 (by omega)))
         have v1 : wr.cell? ⟨A2, o2 + i * 3 + 1, none⟩ = some (.int .u8 y1) := (E3.out.bel.cell (p := ⟨A2, o2 + i * 3 + 1, none⟩) hlt2).trans (hx2 _ _ (hr 1 (by omega)))
         have v2 : wr.cell? ⟨A2, o2 + i * 3 + 2, none⟩ = some (.int .u8 y2) := (E3.out.bel.cell (p := ⟨A2, o2 + i * 3 + 2, none⟩) hlt2).trans (hx2 _ _ (hr 2 (by omega)))
         obtain ⟨r, hri⟩ : ∃ r : Nat, (r : Int) = y0 % (ks.length : Int) := ⟨(y0 % (ks.length : Int)).toNat, Int.toNat_of_nonneg (Int.emod_nonneg _ (by omega))⟩
         have hrk : r < ks.length := by have := Int.emod_lt_of_pos y0 (show 0 < (ks.length : Int) by omega); omega
         obtain ⟨key, hke⟩ : ∃ x, x = ks[r] := ⟨_, rfl⟩
         have hr0 : (rowOf strc ks)[r]? = (strc key)[0]? := by rw [hke]; have := rowOf_get strc_len ks r 0 hrk (by omega); rw [Nat.mul_one] at this; exact this
         have v3 : wr.cell? ⟨A, o + r, none⟩ = some (.string key) := (E3.out.bel.cell (p := ⟨A, o + r, none⟩) hlt).trans (hx _ _ hr0)
         have hk? : ks[r]? = some key := by rw [hke]; exact List.getElem?_eq_getElem hrk
         have hkz := G.out.ks key (by rw [hke]; exact List.getElem_mem _)
         have hri2 : y0 % (ks.length : Int) = r := hri.symm
         have HK := Lib.hid hk?
         have HKZ := Lib.hid hkz
         have d1 : decide ((0 : Int) < (ks.length : Int)) = true := decide_eq_true (by omega)
         clear hx hx2 hye hr hri hke hr0 hk? hkz
         go_upto_region 12 with fail
         go_quiet (fail)
         go_upto_region 14 with fail
         obtain ⟨w6, hw6⟩ : ∃ W, W = wr.drewN nq := ⟨_, rfl⟩
         have hb6 : Below wr.heap.size wr w6 := by rw [hw6]; exact below_drewN (Below.refl _ _) _
         have M6 : Hid (MapS w6 m L) := Lib.hid (M3.out.block (by rw [hw6]; rfl))
         rw [← hw6]
         have P6 := Lib.hid (P3.out.below E3.out.hi hb6)
         have E6 := Lib.hid (E3.out.ext (Ext.of_below (S := SW) E3.out.hi hb6))
         have T6 := Lib.hid (T3.out.below hb6)
         have f1 : w6.cell? ⟨A2, o2 + i * 3 + 1, none⟩ = some (.int .u8 y1) := (hb6.cell (p := ⟨A2, o2 + i * 3 + 1, none⟩) (Nat.lt_of_lt_of_le hlt2 E3.out.bel.size)).trans v1
         have f2 : w6.cell? ⟨A2, o2 + i * 3 + 2, none⟩ = some (.int .u8 y2) := (hb6.cell (p := ⟨A2, o2 + i * 3 + 2, none⟩) (Nat.lt_of_lt_of_le hlt2 E3.out.bel.size)).trans v2
         have t6 := T6.out.c 2 _ rfl
         clear hw6 hb6 v0 v1 v2 v3 t1 t2 M3 P3 E3 T3 hri2 d1
         by_cases hin : key ∈ L
         · have hlk : ∀ n, (Instr.lookup 89 (.map (some m)) (.string key) false).run Tryz.prog (w6.drewN n) = .ok (.int .i64 1) (w6.drewN n) := fun n => MapS.look1 (M6.out.block rfl) HKZ.out hin
           go_quiet (fail)
           go_wp2_with fail
           have hb7 : Below w6.heap.size w6 (w6.drewN nq) := below_drewN (Below.refl _ _) _
           go_roundw
           case rel => exact ⟨i + 1, O3, L, s, by go_num, by omega, P6.out.below E6.out.hi hb7, F3.out.skip, E6.out.ext (Ext.of_below (S := SW) E6.out.hi hb7), T6.out.below hb7, M6.out.block rfl, OM.out⟩
           case measure => simp [intOf]; omega
         · have hlk : ∀ n, (Instr.lookup 89 (.map (some m)) (.string key) false).run Tryz.prog (w6.drewN n) = .ok (.int .i64 0) (w6.drewN n) := fun n => MapS.look0 (M6.out.block rfl) HKZ.out hin
           have hbw : Below w6.heap.size w6 w6.drew := drew_below w6
           have hl0 : (Instr.lookup 89 (.map (some m)) (.string key) false).run Tryz.prog w6.drew = .ok (.int .i64 0) w6.drew := MapS.look0 (M6.out.block rfl) HKZ.out hin
           have P7 := Lib.hid (P6.out.below E6.out.hi hbw)
           have E7 := Lib.hid (E6.out.ext (Ext.of_below (S := SW) E6.out.hi hbw))
           have T7 := Lib.hid (T6.out.below hbw)
           have M7 : Hid (MapS w6.drew m L) := Lib.hid (M6.out.block rfl)
           have hLay := c_Lay (k := 10) r y1 y2 P7.out F3.out.fil F3.out.it hks HK.out HKZ.out a2 (by omega) a4 (by omega) (by decide) E7.out.hi F3.out.n0 (by have := F3.out.n1; omega) (by omega)
           rw [show (r : Int) + 1 = 1 + r from Int.add_comm _ _] at hLay
           have HLay := Lib.hid hLay
           clear hLay hbw hlk
           go_region_held3 (fun w' => w'.cell? ⟨Q, 2, none⟩ = some (.slice (some ⟨A2, o2, none⟩) ly.length cp) ∧ w'.cell? ⟨A2, o2 + i * 3 + 1, none⟩ = some (.int .u8 y1) ∧ w'.cell? ⟨A2, o2 + i * 3 + 2, none⟩ = some (.int .u8 y2) ∧ (Instr.lookup 89 (.map (some m)) (.string key) false).run Tryz.prog w' = .ok (.int .i64 0) w') (go_keep)
            ((go_at_call 39
              refine HLay.out.mono ?_
              rintro e w8 ⟨tt, s8, ⟨rfl, O8, e8, p8⟩, l8⟩
              have P8 := Lib.hid p8
              have E8 := Lib.hid (E7.out.ext e8)
              have T8 := Lib.hid (T7.out.ext e8 (fun h => by unfold SX at h; omega))
              have M8 := Lib.hid (M7.out.ext e8 OM.out (fun h => by unfold SX at h; omega))
              have OM8 := Lib.hid ((e8.lo m M7.out.lt).trans OM.out)
              have L8 := Lib.hid l8
              have g0 : (Instr.lookup 89 (.map (some m)) (.string key) false).run Tryz.prog w8 = .ok (.int .i64 0) w8 := MapS.look0 M8.out HKZ.out hin
              have g2 := T8.out.c 2 _ rfl
              have g3 : w8.cell? ⟨A2, o2 + i * 3 + 1, none⟩ = some (.int .u8 y1) := (E8.out.bel.cell (p := ⟨A2, o2 + i * 3 + 1, none⟩) hlt2).trans HC1.out
              have g4 : w8.cell? ⟨A2, o2 + i * 3 + 2, none⟩ = some (.int .u8 y2) := (E8.out.bel.cell (p := ⟨A2, o2 + i * 3 + 2, none⟩) hlt2).trans HC2.out
              clear p8 e8 l8))
           all_goals
            clear f1 f2 t6 g0 g2 g3 g4 hl0 P6 E6 T6 M6 P7 E7 T7 M7
            cases tt with
            | false =>
              have he8 := L8.out.1 rfl
              go_wp2_with fail
              go_roundw
              case rel => exact ⟨i + 1, O8, L, s8, by go_num, by omega, P8.out, (by rw [he8]; exact F3.out.skip), E8.out, T8.out, M8.out, OM8.out⟩
              case measure => simp [intOf]; omega
            | true =>
              obtain ⟨w9, hst, m9, e9⟩ := M8.out.store (g := 9) (by have := F3.out.len; omega) HKZ.out (by decide) OM8.out E8.out.hi
              have P9 := Lib.hid (P8.out.ext e9 (by decide) (by decide) (by decide) (by decide))
              have E9 := Lib.hid (E8.out.ext e9)
              have T9 := Lib.hid (T8.out.ext e9 (by decide))
              have M9 := Lib.hid m9
              have OM9 := Lib.hid ((e9.lo m M8.out.lt).trans OM8.out)
              have F9 := Lib.hid (F3.out.lay HK.out hin L8.out)
              clear m9 e9
              go_wp2_with fail
              go_roundw
              case rel => exact ⟨i + 1, O8, L ++ [key], s8, by go_num, by omega, P9.out, F9.out, E9.out, T9.out, M9.out, OM9.out⟩
              case measure => simp [intOf]; omega
       · have d1 : decide ((0 : Int) < (ks.length : Int)) = false := decide_eq_false (by omega)
         go_wp2_with fail
         go_ret
         exact ⟨B, O3, s, rfl, P3.out, E3.out, F3.out.done (by omega)⟩
     · go_wp2_with fail
       go_ret
       exact ⟨B, O3, s, rfl, P3.out, E3.out, F3.out.done (by omega)⟩
end
section
set_option linter.unusedVariables false
set_option maxHeartbeats 8000000
set_option maxRecDepth 100000
open Go.RowKit Go.Shelf
def FulGreat (w : World) (F : Ful) (e : Ending) (w' : World) : Prop :=
 ∃ b : Bool, e = .returned (.bool b) ∧ Below w.heap.size w w' ∧ (b = false → F.ks.length ≤ 40 ∧ F.ly.length ≤ 80 ∧ F.sp.length ≤ 400)
theorem c_Great17 {F : Ful} {v : Value} {w : World} (h : FulAt w v F) (g : FulBd F) : Calls Tryz.prog 6 #[v] w (FulGreat w F) := by
 obtain ⟨vk, vl, vs, rfl, h1, h2, h3⟩ := h.ex
 obtain ⟨bi, ks, ly, ky, mo, sp⟩ := F
 unfold fulV
 dsimp only at h1 h2 h3 ⊢
 obtain ⟨ai, ci, rfl, hci, hmi⟩ := h1.shape
 obtain ⟨ap, cp, rfl, hcp, hmp⟩ := h2.shape
 obtain ⟨as', cs, rfl, hcs, hms⟩ := h3.shape
 have hkz := g.kz
 have hks := g.ks
 dsimp only at hkz hks
 have HA := Lib.hid h1
 have HKS := Lib.hid hks
 clear h h1 h2 h3 g hks
 have hmm : ci ≤ 9223372036854775807 := by unfold maxLen at hmi; omega
 unfold maxLen at hkz
 go_enter Tryz.func6, Tryz.ntmps6
 go_wp2_with fail
 obtain ⟨W1, hW1⟩ : ∃ W1, W1 = w.alloc (.cells #[.int .u8 bi, .slice ai ks.length ci, .slice ap ly.length cp, .string ky, .int .u8 mo, .slice as' sp.length cs] 26) := ⟨_, rfl⟩
 have HB : Hid (Below w.heap.size w W1) := Lib.hid (by rw [hW1]; exact (Below.refl _ _).alloc (Nat.le_refl _) _)
 have y1 : W1.cell? ⟨w.heap.size, 1, none⟩ = some (.slice ai ks.length ci) := by rw [hW1]; simp
 have y2 : W1.cell? ⟨w.heap.size, 2, none⟩ = some (.slice ap ly.length cp) := by rw [hW1]; simp
 have y5 : W1.cell? ⟨w.heap.size, 5, none⟩ = some (.slice as' sp.length cs) := by rw [hW1]; simp
 rw [← hW1]
 clear hW1
 go_loopw [3, 4] (fun n i wr => ∃ (k : Nat) (z : Int), k ≤ ks.length ∧ k ≤ 60 ∧ i = .int .i64 k ∧ n = .int .i64 z ∧ wr = W1) (fun _ i _ => ks.length - (intOf i).toNat)
 case atStart => exact ⟨0, _, Nat.zero_le _, by omega, rfl, rfl, rfl⟩
 case round =>
  obtain ⟨k, z, hk, hk6, rfl, rfl, rfl⟩ := hrel
  by_cases hk2 : k < ks.length
  · by_cases hk3 : k < 60
    · have d1 : decide ((k : Int) < 60) = true := decide_eq_true (by omega)
      obtain ⟨A, o, c', he, -, -, hlt, hx⟩ := HA.out.open (by omega) (by omega)
      cases he
      obtain ⟨x, hxe⟩ : ∃ x, x = ks[k] := ⟨_, rfl⟩
      have hr0 : (rowOf strc ks)[k]? = (strc x)[0]? := by rw [hxe]; have := rowOf_get strc_len ks k 0 hk2 (by omega); rw [Nat.mul_one] at this; exact this
      have v0 : wr.cell? ⟨A, o + k, none⟩ = some (.string x) := (HB.out.cell (p := ⟨A, o + k, none⟩) hlt).trans (hx _ _ hr0)
      have hxz := HKS.out x (by rw [hxe]; exact List.getElem_mem _)
      unfold maxLen at hxz
      clear hx hxe hr0
      go_wp2_with fail
      go_roundw
      case rel => exact ⟨k + 1, _, by omega, by omega, by go_num, rfl, trivial⟩
      case measure => simp [intOf]; omega
    · have d1 : decide ((k : Int) < 60) = false := decide_eq_false (by omega)
      by_cases c1 : (4000 : Int) < z
      · have e1 : decide ((4000 : Int) < z) = true := decide_eq_true c1
        go_wp2_with fail
        go_ret
        exact ⟨true, rfl, HB.out, fun h => by cases h⟩
      have e1 : decide ((4000 : Int) < z) = false := decide_eq_false c1
      by_cases c2 : (40 : Int) < (ks.length : Int)
      · have e2 : decide ((40 : Int) < (ks.length : Int)) = true := decide_eq_true c2
        go_wp2_with fail
        go_ret
        exact ⟨true, rfl, HB.out, fun h => by cases h⟩
      exfalso; omega
  · have hk3 : k = ks.length := by omega
    subst hk3
    by_cases c1 : (4000 : Int) < z
    · have e1 : decide ((4000 : Int) < z) = true := decide_eq_true c1
      go_wp2_with fail
      go_ret
      exact ⟨true, rfl, HB.out, fun h => by cases h⟩
    have e1 : decide ((4000 : Int) < z) = false := decide_eq_false c1
    by_cases c2 : (40 : Int) < (ks.length : Int)
    · have e2 : decide ((40 : Int) < (ks.length : Int)) = true := decide_eq_true c2
      go_wp2_with fail
      go_ret
      exact ⟨true, rfl, HB.out, fun h => by cases h⟩
    have e2 : decide ((40 : Int) < (ks.length : Int)) = false := decide_eq_false c2
    by_cases c3 : (80 : Int) < (ly.length : Int)
    · have e3 : decide ((80 : Int) < (ly.length : Int)) = true := decide_eq_true c3
      go_wp2_with fail
      go_ret
      exact ⟨true, rfl, HB.out, fun h => by cases h⟩
    have e3 : decide ((80 : Int) < (ly.length : Int)) = false := decide_eq_false c3
    by_cases c4 : (400 : Int) < (sp.length : Int)
    · have e4 : decide ((400 : Int) < (sp.length : Int)) = true := decide_eq_true c4
      go_wp2_with fail
      go_ret
      exact ⟨true, rfl, HB.out, fun h => by cases h⟩
    have e4 : decide ((400 : Int) < (sp.length : Int)) = false := decide_eq_false c4
    go_wp2_with fail
    go_ret
    exact ⟨false, rfl, HB.out, fun _ => ⟨by show ks.length ≤ 40; omega, by show ly.length ≤ 80; omega, by show sp.length ≤ 400; omega⟩⟩
end
section
set_option linter.unusedVariables false
open Go.RowKit Go.Shelf
structure LW (w0 W : World) (G : Om) (B : Wb) (f : Cf) (s : AW) : Prop where
 p : PW W G B f s
 e : Env w0 G W
section
variable {w0 W W' : World} {G G' : Om} {B : Wb} {f : Cf} {s s' : AW} {S : Nat → Prop}
theorem LW.below (h : LW w0 W G B f s) (hb : Below W.heap.size W W') : LW w0 W' G B f s := ⟨h.p.below h.e.hi hb, h.e.ext (Ext.of_below (S := SW) h.e.hi hb)⟩
theorem LW.ext (h : LW w0 W G B f s) (e : Ext S G W G' W') (h1 : ¬ S 1) (h2 : ¬ S 2) (h3 : ¬ S 3) (h4 : ¬ S 4) : LW w0 W' G' B f s := ⟨h.p.ext e h1 h2 h3 h4, h.e.ext e⟩
theorem LW.to (h : LW w0 W G B f s) (e : Ext S G W G' W') (p : PW W' G' B f s') : LW w0 W' G' B f s' := ⟨p, h.e.ext e⟩
theorem LW.from (h : LW w0 W G B f s) {w1 : World} (hb : Below w1.heap.size w1 w0) : LW w1 W G B f s := ⟨h.p, ⟨fun j hj => Nat.le_trans hb.size (h.e.base j hj), h.e.hi, hb.trans (h.e.bel.mono hb.size)⟩⟩
theorem LW.hi (h : LW w0 W G B f s) : ∀ j, G j ≠ 0 → j < W.heap.size := h.e.hi
theorem LW.bel (h : LW w0 W G B f s) : Below w0.heap.size w0 W := h.e.bel
theorem LW.peek (h : LW w0 W G B f s) (x : Int) (x0 : 0 ≤ x) (x1 : x < 18446744073709551616) :
 ∀ W', Below W.heap.size W W' → Calls Tryz.prog 10 #[.pointer (some ⟨B.c, 0, none⟩), .int .u64 x] W' fun e w' => e = .returned (.int .u64 (s.M x)) ∧ W' = w' := fun W' hb => c_Peek x (h.below hb).p.ce x0 x1
end
theorem fulBox {w : World} {F : Ful} {vk vl vs : Value} (ty : TypeId) : ∀ j u, (fulC F vk vl vs)[j]? = some u → (w.alloc (.cells (fulC F vk vl vs).toArray ty)).cell? ⟨w.heap.size, j, none⟩ = some u := fun j u hu => cell_newA w _ _ _ rfl j u (by simpa using hu)
end
end Go.Proofs.YtfnmdafpdcgcmaaGreat
