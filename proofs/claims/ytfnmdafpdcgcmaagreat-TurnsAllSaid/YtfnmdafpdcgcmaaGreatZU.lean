/- TurnsAll, plain: what a Turn by itself comes to. TurnsAll, plain: what stands in the new table in the end; what was noted. -/
import Derived.Test.YtfnmdafpdcgcmaaGreatZQ
import Derived.Test.YtfnmdafpdcgcmaaGreatZ0
import Derived.Test.YtfnmdafpdcgcmaaGreatZW
namespace Go.Proofs.YtfnmdafpdcgcmaaGreat
set_option linter.unusedSimpArgs false
section
set_option linter.unusedVariables false
open Go.RowKit
def NK (l : List Nt) : Prop := ∀ x ∈ l, x.kind ≠ 5
theorem mem_ntAdd {l : List Nt} {x y : Nt} (h : y ∈ ntAdd l x) : y ∈ l ∨ y = x := by
 unfold ntAdd at h
 split at h
 · rcases List.mem_append.1 h with g | g
   · exact .inl g
   · exact .inr (List.mem_singleton.1 g)
 · exact .inl h
theorem NK.add {l : List Nt} {x : Nt} (h : NK l) (hx : x.kind ≠ 5) : NK (ntAdd l x) := fun y hy => by
 rcases mem_ntAdd hy with g | g
 · exact h y g
 · rw [g]; exact hx
structure TuS (t b : Int) (ks : List ByteArray) (N : Nat) (C : Nat → Int) (s : AW) (T : Tab) (lost c : Int) : Prop where
 S : MaS t b ks N C s T lost
 cu : s.M 3 = c
 em : ∀ p : Spt, p.ok → p.b = b → p.q < c → T p = (0, 0)
 nk : NK s.nt
 l0 : 0 ≤ lost
 l1 : lost ≤ 4 * c
 c0 : 0 ≤ c
structure TuK (t b : Int) (ks : List ByteArray) (N : Nat) : Prop where
 b0 : 1 ≤ b
 b1 : b ≤ 3
 ho : plOld t = b
 hn : plNow t = b + 1
 hN : (N : Int) = plSpots t
 hks : ks.length ≤ 40
section
variable {t b lost c q mo : Int} {ks : List ByteArray} {N : Nat} {C : Nat → Int} {s : AW} {T : Tab}
theorem MaS.same {s' : AW} (h : MaS t b ks N C s T lost) (e1 : ∀ a, a ≠ 3 → s'.M a = s.M a) (e2 : s'.it = s.it) (e3 : s'.nt = s.nt) (e4 : s.n ≤ s'.n) : MaS t b ks N C s' T lost := by
 obtain ⟨h1, h2, h3, h4, h5, h6, h7, h8⟩ := h
 exact ⟨h1.low fun a g1 g2 => e1 a (by omega), h2, e2.trans h3, h4.same e3 e4, fun i hi => by rw [e1 _ (by omega)]; exact h5 i hi, (e1 2 (by decide)).trans h6, (e1 6 (by decide)).trans h7, fun r => by rw [e3]; exact h8 r⟩
theorem gos_mv : ∀ (n : Nat) (s s' : AW) (y y' : Mvm) (z : Tum), z.ln = 4 → z.mv = y → n ≠ 0 → Gos mvOver (mvStep mo) n (s, y) (s', y') → mvOver y' = true →
 Gos tuOver (tuStep q mo) n (s, z) (s', ⟨5, z.t, z.c, z.n, y'⟩)
 | 0, _, _, _, _, _, _, _, h, _, _ => absurd rfl h
 | 1, s, s', y, y', z, ln, hy, _, g, l0 => by
   have e : mvStep mo (s, y) = (s', y') := (show (s', y') = mvStep mo (s, y) from g.2).symm
   refine Gos.one (by unfold tuOver; dsimp only; rw [ln]; rfl) ?_
   rw [tuStep_4 _ _ _ _ ln, hy, e]
   dsimp only
   rw [if_pos l0]
 | n + 2, s, s', y, y', z, ln, hy, _, g, l0 => by
   obtain ⟨g1, g2⟩ := g
   have h1 : ¬ mvOver (mvStep mo (s, y)).2 = true := fun e => by
    have := g2.1
    rw [e] at this
    cases this
   refine ⟨by unfold tuOver; dsimp only; rw [ln]; rfl, ?_⟩
   rw [tuStep_4 _ _ _ _ ln, hy, if_neg h1]
   exact gos_mv (n + 1) (mvStep mo (s, y)).1 s' (mvStep mo (s, y)).2 y' ⟨4, z.t, z.c, z.n, (mvStep mo (s, y)).2⟩ rfl rfl (by omega) g2 l0
theorem tu_bucket (K : TuK t b ks N) (S : TuS t b ks N C s T lost c) (hc : c < fnvSize b) (hmo : mo ≤ 21) {z : Tum} (ln : z.ln = 1) :
 ∃ n s' z' T' lost', n ≤ 1160 ∧ Gos tuOver (tuStep q mo) n (s, z) (s', z') ∧ TuS t b ks N C s' T' lost' (c + 1) ∧ z'.n = z.n + 1 ∧ z'.ln = if z.n + 1 < q then 1 else 0 := by
 have b0 := K.b0
 have b1 := K.b1
 have hsz := fnvSize_up b0 b1
 have hl0 := S.l0
 have hl1 := S.l1
 have hc0 := S.c0
 have e1 := tuStep_1 q mo s z ln
 rw [S.S.wd, if_neg (by rw [K.hn]; omega)] at e1
 obtain ⟨s1, hs1⟩ : ∃ x, x = awLoad 2 s := ⟨_, rfl⟩
 rw [← hs1] at e1
 have m1 : s1.M = s.M := by rw [hs1]; rfl
 have e2 := tuStep_2 q mo s1 ⟨2, t, z.c, z.n, z.mv⟩ rfl
 dsimp only at e2
 rw [K.ho, m1, S.cu, if_neg (by omega)] at e2
 obtain ⟨s2, hs2⟩ : ∃ x, x = awLoad 3 s1 := ⟨_, rfl⟩
 rw [← hs2] at e2
 have m2 : s2.M = s.M := by rw [hs2]; exact m1
 have it2 : s2.it = s.it := by rw [hs2, hs1]; rfl
 have nt2 : s2.nt = s.nt := by rw [hs2, hs1]; rfl
 have n2 : s.n ≤ s2.n := by rw [hs2, hs1]; show s.n ≤ s.n + 1 + 1; omega
 have S2 : MaS t b ks N C s2 T lost := S.S.same (fun a _ => by rw [m2]) it2 nt2 n2
 have KQ : MaC t b c ks N T := ⟨b0, b1, hc0, hc, K.ho, K.hn, K.hN, K.hks, S.S.sl⟩
 have e0 : mvNew t c = ⟨1, 0, b + 1, ⟨b, c, 0⟩, 0, 0, rm0, sp20, [], ⟨3, 0⟩, ⟨3, 0⟩⟩ := by
  unfold mvNew
  rw [K.ho, K.hn, if_neg (by omega)]
 have H0 : MaI t b c ks N C T s2 lost 0 s2 T (mvNew t c) ∧ s2.M 3 = c ∧ NK s2.nt := by
  refine ⟨?_, by rw [m2]; exact S.cu, by rw [nt2]; exact S.nk⟩
  rw [e0]
  refine ⟨rfl, rfl, rfl, by rw [Int.add_zero]; exact S2, Int.le_refl _, Int.le_refl _, fun p hp hb => ?_⟩
  rw [if_neg fun e => by have := e.2; have := hp.s0; omega]
 obtain ⟨n, y, zz, T', c1, g, H, hM3, hNK⟩ := mv_four (mo := mo) (L := 21) hmo (by decide) (fun i s T' zz => MaI t b c ks N C T s2 lost i s T' zz ∧ s.M 3 = c ∧ NK s.nt) (fun i s T' zz hi h => by
  obtain ⟨P1, P2⟩ := h.1.step KQ hl0 (by omega) hi
  refine ⟨P1, fun s' z' T'' R => ⟨P2 s' z' T'' R, (R.oth 3 (.inl (by decide)) (by decide)).trans h.2.1, ?_⟩⟩
  rcases R.res with ⟨-, -, -, h4, -⟩ | ⟨-, -, h3, -⟩ | ⟨-, -, -, -, -, n1, h1', n2, h2', n3, h3', h6, -⟩
  · rw [h4]; exact h.2.2
  · rw [h3]; exact h.2.2
  · rw [h6]; exact ((h.2.2.add (by dsimp only; omega)).add (by dsimp only; omega)).add (by dsimp only; omega)) 4 0 s2 T _ rfl H0
 have hov : mvOver zz = true := by unfold mvOver; rw [H.ln]; rfl
 have hn0 : n ≠ 0 := fun e => by
  subst e
  have := (Prod.ext_iff.1 g).2
  dsimp only at this
  rw [this, e0] at hov
  cases hov
 have g4 := gos_mv (q := q) n s2 y (mvNew t c) zz ⟨4, t, c, z.n, mvNew t c⟩ rfl rfl hn0 g hov
 dsimp only at g4
 have e5 := tuStep_5 q mo y ⟨5, t, c, z.n, zz⟩ rfl
 dsimp only at e5
 have hmi := miC_bd T b c 4
 refine ⟨1 + (1 + (n + 1)), _, _, T', lost + zz.lost, by omega, (Gos.one (by unfold tuOver; dsimp only; rw [ln]; rfl) e1).trans ((Gos.one rfl e2).trans (g4.trans (Gos.one rfl e5))), ⟨?_, ?_, fun p hp hb hq => ?_, hNK, ?_, ?_, by omega⟩, rfl, rfl⟩
 · exact H.S.same (fun a ha => upd_other _ ha) rfl rfl (by show y.n ≤ y.n + 1; omega)
 · exact upd_same y.M 3 (c + 1)
 · have h3 := hp.s1
   rw [H.old p hp hb]
   by_cases x : p.q = c
   · rw [if_pos ⟨x, by omega⟩]
   · rw [if_neg fun e => x e.1]; exact S.em p hp hb (by omega)
 · have := H.l0; omega
 · have := H.l1; omega
theorem tu_moves (K : TuK t b ks N) (hmo : mo ≤ 21) : ∀ (k : Nat) (c : Int) (s : AW) (T : Tab) (lost : Int) (z : Tum), TuS t b ks N C s T lost c → z.ln = 1 → z.n + (k : Int) ≤ q → c + k ≤ fnvSize b →
 ∃ n s' z' T' lost', n ≤ 1160 * k ∧ Gos tuOver (tuStep q mo) n (s, z) (s', z') ∧ TuS t b ks N C s' T' lost' (c + k) ∧ z'.n = z.n + k ∧ z'.ln = if k = 0 ∨ z.n + (k : Int) < q then 1 else 0 := by
 intro k
 induction k with
 | zero =>
   intro c s T lost z S ln hq hc
   exact ⟨0, s, z, T, lost, by omega, rfl, by rw [show c + ((0 : Nat) : Int) = c by omega]; exact S, by omega, by rw [if_pos (.inl rfl)]; exact ln⟩
 | succ k ih =>
   intro c s T lost z S ln hq hc
   obtain ⟨n1, s1, z1, T1, lost1, c1, g1, S1, zn, zl⟩ := tu_bucket (q := q) K S (by omega) hmo ln
   by_cases hk : k = 0
   · subst hk
     refine ⟨n1, s1, z1, T1, lost1, by omega, g1, S1, zn, ?_⟩
     rw [zl]
     by_cases x : z.n + 1 < q
     · rw [if_pos x, if_pos (.inr x)]
     · rw [if_neg x, if_neg fun e => by rcases e with e | e <;> omega]
   · rw [if_pos (by omega)] at zl
     obtain ⟨n2, s2, z2, T2, lost2, c2, g2, S2, zn2, zl2⟩ := ih (c + 1) s1 T1 lost1 z1 S1 zl (by omega) (by omega)
     refine ⟨n1 + n2, s2, z2, T2, lost2, by omega, g1.trans g2, by rw [show c + ((k + 1 : Nat) : Int) = c + 1 + k by omega]; exact S2, by omega, ?_⟩
     rw [zl2]
     by_cases x : z1.n + (k : Int) < q
     · rw [if_pos (.inr x), if_pos (.inr (by omega))]
     · rw [if_neg (fun e => by rcases e with e | e <;> omega), if_neg (fun e => by rcases e with e | e <;> omega)]
structure TuE (t b : Int) (ks : List ByteArray) (N : Nat) (C : Nat → Int) (s : AW) (T : Tab) : Prop where
 rep : Rep s.M T
 sl : ∀ p : Spt, p.ok → plIn t p.b → StT t ks p (T p)
 em : ∀ p : Spt, p.ok → p.b = b → T p = (0, 0)
 it : s.it = ks.map fulIt
 odd : ∀ i : Nat, i < 64 → s.M (64 + (i : Int)) % 2 = 0
 wd : s.M 2 = b + 1
 cu : s.M 3 = fnvSize b
 cnt : s.M 6 = sumN (fun r => tC (gIt r) T t N) 64
 bal : ∀ r : Nat, tC (gIt r) T t N + drC 1 s.nt r = C r
 nts : ∃ l n1 h1, s.nt = l ++ [⟨n1, h1, 5, 0, 0, 0, 0, b + 1⟩] ∧ NK l
 len : s.nt.length ≤ 1000
theorem tu_swap (K : TuK t b ks N) (S : TuS t b ks N C s T lost (fnvSize b)) {z : Tum} (ln : z.ln = 1) :
 ∃ s' z', Gos tuOver (tuStep q mo) 3 (s, z) (s', z') ∧ TuE t b ks N C s' T ∧ z'.n = z.n ∧ z'.ln = 0 := by
 have b0 := K.b0
 have b1 := K.b1
 have hsz := fnvSize_up b0 b1
 have e1 := tuStep_1 q mo s z ln
 rw [S.S.wd, if_neg (by rw [K.hn]; omega)] at e1
 have e2 := tuStep_2 q mo (awLoad 2 s) ⟨2, t, z.c, z.n, z.mv⟩ rfl
 dsimp only at e2
 have m1 : (awLoad 2 s).M 3 = fnvSize b := S.cu
 rw [K.ho, m1, if_pos (Int.le_refl _)] at e2
 have e3 := tuStep_3 q mo (awLoad 3 (awLoad 2 s)) ⟨3, t, fnvSize b, z.n, mvNew t (fnvSize b)⟩ rfl
 dsimp only at e3
 rw [K.hn, plWord0 (by omega) (by omega)] at e3
 have hln := S.S.nti.len
 have hl1 := S.l1
 have hl0 := S.l0
 have hnt : (awNote 5 0 0 0 0 (b + 1) (awStore 2 (b + 1) (awLoad 3 (awLoad 2 s)))).nt = s.nt ++ [⟨s.n + 1 + 1 + 1, s.ho, 5, 0, 0, 0, 0, b + 1⟩] :=
  ntAdd_fine (l := s.nt) (by show (1 : Int) ≤ 5; omega) (by show (5 : Int) ≤ 9; omega) (by omega) fun m hm => by
   have := S.S.nti.st m hm
   show m.step ≤ s.n + 1 + 1 + 1
   omega
 have hM : ∀ a, a ≠ 2 → (awNote 5 0 0 0 0 (b + 1) (awStore 2 (b + 1) (awLoad 3 (awLoad 2 s)))).M a = s.M a := fun a ha => upd_other _ ha
 refine ⟨_, _, (Gos.one (by unfold tuOver; dsimp only; rw [ln]; rfl) e1).trans ((Gos.one rfl e2).trans (Gos.one rfl e3)), ⟨S.S.rep.low fun a h1 h2 => hM a (by omega), S.S.sl, fun p hp hb => S.em p hp hb (by have := hp.q1; rw [hb] at this; exact this), S.S.it, fun i hi => by rw [hM _ (by omega)]; exact S.S.odd i hi, upd_same s.M 2 (b + 1), (hM 3 (by decide)).trans S.cu, (hM 6 (by decide)).trans S.S.cnt, fun r => ?_, ⟨s.nt, _, _, hnt, S.nk⟩, ?_⟩, rfl, rfl⟩
 · rw [hnt, drC_append, drC_one, if_neg (by dsimp only; omega), Int.add_zero]
   exact S.S.bal r
 · rw [hnt, List.length_append]; simp; omega
structure TuR (t b q mo : Int) (ks : List ByteArray) (N : Nat) (C : Nat → Int) (s0 : AW) (c : Int) (cn : Nat) (y : AW) (z : Tum) : Prop where
 run : runN tuOver (tuStep q mo) 90000 (s0, tuNew) = (cn, y, z)
 ov : tuOver z = true
 n : z.n = min q (fnvSize b - c)
 res : (q ≤ fnvSize b - c ∧ ∃ T lost, TuS t b ks N C y T lost (c + q)) ∨ (fnvSize b - c < q ∧ ∃ T, TuE t b ks N C y T)
theorem tu_run (K : TuK t b ks N) (S : TuS t b ks N C s T lost c) (hc : c ≤ fnvSize b) (hmo : mo ≤ 21) (hq : 1 ≤ q) : ∃ cn y z, TuR t b q mo ks N C s c cn y z := by
 have hsz := fnvSize_up K.b0 K.b1
 have hc0 := S.c0
 by_cases h : q ≤ fnvSize b - c
 · obtain ⟨k, hk⟩ : ∃ k : Nat, (k : Int) = q := ⟨q.toNat, by omega⟩
   obtain ⟨n, y, z, T', lost', c1, g, S1, zn, zl⟩ := tu_moves (q := q) K hmo k c s T lost tuNew S rfl (by show (0 : Int) + k ≤ q; omega) (by omega)
   have zn : z.n = 0 + (k : Int) := zn
   have zl : z.ln = if k = 0 ∨ (0 : Int) + k < q then 1 else 0 := zl
   rw [if_neg fun e => by rcases e with e | e <;> omega] at zl
   have hov : tuOver z = true := by unfold tuOver; rw [zl]; rfl
   exact ⟨n, y, z, g.fin (by omega) hov, hov, by rw [zn]; omega, .inl ⟨h, T', lost', by rw [hk] at S1; exact S1⟩⟩
 · obtain ⟨k, hk⟩ : ∃ k : Nat, (k : Int) = fnvSize b - c := ⟨(fnvSize b - c).toNat, by omega⟩
   obtain ⟨n, y, z, T', lost', c1, g, S1, zn, zl⟩ := tu_moves (q := q) K hmo k c s T lost tuNew S rfl (by show (0 : Int) + k ≤ q; omega) (by omega)
   have zn : z.n = 0 + (k : Int) := zn
   have zl : z.ln = if k = 0 ∨ (0 : Int) + k < q then 1 else 0 := zl
   rw [if_pos (by omega)] at zl
   rw [hk, show c + (fnvSize b - c) = fnvSize b by omega] at S1
   obtain ⟨y2, z2, g2, E, zn2, zl2⟩ := tu_swap (q := q) (mo := mo) K S1 zl
   have hov : tuOver z2 = true := by unfold tuOver; rw [zl2]; rfl
   exact ⟨n + 3, y2, z2, (g.trans g2).fin (by omega) hov, hov, by rw [zn2, zn]; omega, .inr ⟨by omega, T', E⟩⟩
end
end
section
set_option linter.unusedVariables false
open Go.RowKit
section
variable {t b lost c q mo : Int} {ks : List ByteArray} {N Nn : Nat} {C : Nat → Int} {s : AW} {T : Tab}
theorem plIn_new (K : TuK t b ks N) : plIn (b + 1) (b + 1) ∧ plIn t (b + 1) ∧ plIn t b := by
 have b0 := K.b0
 have b1 := K.b1
 exact ⟨.inl (plOld_one (by omega) (by omega)).symm, .inr ⟨K.hn.symm, by rw [K.hn]; omega⟩, .inl K.ho.symm⟩
theorem tC_both (K : TuK t b ks N) (hNn : (Nn : Int) = plSpots (b + 1)) {g : Int × Int → Int} (g0 : g (0, 0) = 0) (em : ∀ p : Spt, p.ok → p.b = b → T p = (0, 0)) : tC g T t N = tC g T (b + 1) Nn := by
 have b0 := K.b0
 have b1 := K.b1
 have hz := fnvSize_up b0 b1
 have hs := plSpots_eq t
 rw [K.ho, K.hn] at hs
 have hs2 := plSpots_one (b := b + 1) (by omega) (by omega)
 have ho2 : plOld (b + 1) = b + 1 := plOld_one (by omega) (by omega)
 have hN := K.hN
 obtain ⟨A, hA⟩ : ∃ A : Nat, (A : Int) = 4 * fnvSize b := ⟨(4 * fnvSize b).toNat, by omega⟩
 have h0 : ∀ n : Nat, n ≤ A → tC g T t n = 0 := by
  intro n
  induction n with
  | zero => intro _; rfl
  | succ n ih =>
    intro hn
    have e : (plAt t n).b = b := by rw [plAt_lt (by omega), K.ho, if_pos (by omega)]
    show tC g T t n + g (T (plAt t n)) = 0
    rw [ih (by omega), em _ (plAt_ok t n) e, g0]
    rfl
 have h1 : ∀ n : Nat, n ≤ Nn → tC g T t (A + n) = tC g T (b + 1) n := by
  intro n
  induction n with
  | zero => intro _; exact h0 A (Nat.le_refl _)
  | succ n ih =>
    intro hn
    have e : plAt t (A + n : Nat) = plAt (b + 1) n := by
     rw [plAt_lt (t := t) (by omega), K.ho, K.hn, if_neg (by omega), plAt_lt (t := b + 1) (by omega), ho2, if_pos (by omega)]
     congr 1 <;> omega
    show tC g T t (A + n) + g (T (plAt t (A + n : Nat))) = tC g T (b + 1) n + g (T (plAt (b + 1) n))
    rw [ih (by omega), e]
 have hAN : N = A + Nn := by omega
 rw [hAN]
 exact h1 Nn (Nat.le_refl _)
theorem TuE.stAt (K : TuK t b ks N) (E : TuE t b ks N C s T) (n : Nat) (hn : (n : Int) < plSpots (b + 1)) : StAt (b + 1) ks s.M (plAt (b + 1) n) := by
 have b0 := K.b0
 have b1 := K.b1
 obtain ⟨i1, i2, i3⟩ := plIn_new K
 have hok := plAt_ok (b + 1) n
 have hb : (plAt (b + 1) n).b = b + 1 := by
  rcases plAt_tab hn with e | ⟨e, e2⟩
  · rw [e, plOld_one (by omega) (by omega)]
  · exact absurd (plNow_one (by omega) (by omega)) e2
 have h := E.sl _ hok (by rw [hb]; exact i2)
 have h1 := E.rep.tg _ hok
 have h2 := E.rep.it _ hok
 rcases h with e | ⟨r, k, g1, g2, g3, g4⟩
 · left; rw [h1, h2, e]; exact ⟨rfl, rfl⟩
 · right
   refine ⟨r, k, g1, by rw [h2]; exact g2, by rw [h1]; exact g3, ?_⟩
   rw [hb] at g4 ⊢
   exact (plPlaces_mem i1).2 ((plPlaces_mem i2).1 g4)
theorem Rep.tags0 {M : Int → Int} (R : Rep M T) (b0 : 1 ≤ b) (b1 : b ≤ 12) {k : Int} (k0 : 0 ≤ k) (k1 : k < fnvSize b) (h : ∀ sl, 0 ≤ sl → sl ≤ 3 → T ⟨b, k, sl⟩ = (0, 0)) : M (plTags b k) = 0 := by
 have hok : ∀ sl, 0 ≤ sl → sl ≤ 3 → (⟨b, k, sl⟩ : Spt).ok := fun sl s0 s1 => ⟨b0, b1, k0, k1, s0, s1⟩
 have hw := R.wd _ (hok 0 (by omega) (by omega))
 refine tw_zero hw.1 hw.2 fun sl s0 s1 => ?_
 have := R.tg _ (hok sl s0 s1)
 rw [h sl s0 s1] at this
 exact this
theorem ntDr_pos (r : Nat) : ∀ l : List Nt, (ntDropped (r : Int) l).2 = decide (0 < drC 1 l r) := by
 intro l
 have key : ∀ k : Nat, k ≤ l.length → (ntDropped (r : Int) (l.take k)).2 = decide (0 < drC 1 (l.take k) r) := by
  intro k
  induction k with
  | zero => intro _; rfl
  | succ k ih =>
    intro hk
    have h0 : 0 ≤ drC 1 (l.take k) r := by unfold drC; omega
    rw [ntDropped_take _ _ _ (by omega), List.take_succ_eq_append_getElem (by omega), drC_append, drC_one]
    by_cases c : l[k].kind = 1 ∧ l[k].ref = (r : Int)
    · rw [if_pos c, if_pos c]
      exact (decide_eq_true (by omega)).symm
    · rw [if_neg c, if_neg c, Int.add_zero]
      exact ih (by omega)
 have := key l.length (Nat.le_refl _)
 rw [List.take_length] at this
 exact this
theorem TuE.swaps (E : TuE t b ks N C s T) : ∃ n1 h1, ntOf s.nt 5 = [⟨n1, h1, 5, 0, 0, 0, 0, b + 1⟩] := by
 obtain ⟨l, n1, h1, e, hk⟩ := E.nts
 refine ⟨n1, h1, ?_⟩
 unfold ntOf
 rw [e, List.filter_append, List.filter_eq_nil_iff.2 fun x hx => by simpa using hk x hx]
 rfl
theorem Fil.once {M : Int → Int} (F : Fil b ks M) (K : TuK t b ks N) (r : Nat) : tC (gIt r) (tabOf M) t N ≤ 1 := by
 have key : ∀ n : Nat, n ≤ N → tC (gIt r) (tabOf M) t n ≤ 1 ∧ (tC (gIt r) (tabOf M) t n = 1 → ∃ i : Nat, i < n ∧ M (plAt t i).item = r ∧ r ≠ 0) := by
  intro n
  induction n with
  | zero => intro _; exact ⟨by show (0 : Int) ≤ 1; omega, fun e => absurd (show (0 : Int) = 1 from e) (by decide)⟩
  | succ n ih =>
    intro hn
    obtain ⟨h1, h2⟩ := ih (by omega)
    have hg : gIt r (tabOf M (plAt t n)) = if M (plAt t n).item = r ∧ r ≠ 0 then 1 else 0 := rfl
    show tC (gIt r) (tabOf M) t n + gIt r _ ≤ 1 ∧ (tC (gIt r) (tabOf M) t n + gIt r _ = 1 → _)
    rw [hg]
    by_cases c : M (plAt t n).item = r ∧ r ≠ 0
    · rw [if_pos c]
      have h0 : 0 ≤ tC (gIt r) (tabOf M) t n := tC_pos (fun x => (gIt_bd r x).1) n
      have hz : tC (gIt r) (tabOf M) t n = 0 := by
       by_cases x : tC (gIt r) (tabOf M) t n = 1
       · obtain ⟨i, i1, i2, i3⟩ := h2 x
         exfalso
         have hN := K.hN
         have bn : ∀ i : Nat, i < N → M (plAt t i).item = r → (plAt t i).b = b := fun i hi hr => by
          by_cases y : (plAt t i).b = b
          · exact y
          · have := (F.out (plAt_ok t i) y).2
            omega
         have := F.inj _ _ (plAt_ok t i) (plAt_ok t n) (bn i (by omega) i2) (bn n (by omega) c.1) (by rw [i2, c.1]) (by rw [i2]; omega)
         have := plAt_uniq (by omega) (by omega) this
         omega
       · omega
      exact ⟨by omega, fun _ => ⟨n, by omega, c.1, c.2⟩⟩
    · rw [if_neg c, Int.add_zero]
      exact ⟨h1, fun e => by obtain ⟨i, i1, i2⟩ := h2 e; exact ⟨i, by omega, i2⟩⟩
 exact (key N (Nat.le_refl _)).1
theorem TuS.start {v : Int} {s0 : AW} (K : TuK t b ks N) (F : FulS b ks s0) (hv : v = sumN (fun r => tC (gIt r) (tabOf s0.M) t N) 64) :
 TuS t b ks N (fun r => tC (gIt r) (tabOf s0.M) t N) (awStore 6 v (awStore 2 t s0)) (tabOf s0.M) 0 0 := by
 have hz := fnvSize_up K.b0 K.b1
 refine ⟨MaS.start F K.ho hv, ?_, fun p hp hb hq => by have := hp.q0; omega, ?_, Int.le_refl _, by omega, Int.le_refl _⟩
 · show upd (upd s0.M 2 t) 6 v 3 = 0
   rw [upd_other _ (by decide), upd_other _ (by decide)]
   exact F.fil.oth 3 (by decide) (.inl (by omega))
 · show NK s0.nt
   rw [F.nt]
   exact fun x hx => by cases hx
end
end
end Go.Proofs.YtfnmdafpdcgcmaaGreat
