/- A table that is filled, plain: what is laid, one behind the other. -/
import Derived.Test.YtlcibfpibklbdaaGreatLay
import Derived.Test.YtlcibfpibklbdaaGreatFu
namespace Go.Proofs.YtlcibfpibklbdaaGreat
set_option linter.unusedSimpArgs false
open Go.RowKit Go.Shelf
set_option linter.unusedVariables false
def fulB (F : Ful) : Int := 1 + F.bi % 3
/-- What the world of a filled table has. -/
structure FulS (b : Int) (ks : List ByteArray) (s : AW) : Prop where
  fil : Fil b ks s.M
  it : s.it = ks.map fulIt
  nt : s.nt = []
  n0 : 0 ≤ s.n
  n1 : s.n ≤ 1000
/-- .. behind i lays, of which the keys L stand. -/
structure FulL (b : Int) (ks : List ByteArray) (i : Nat) (L : List ByteArray) (s : AW) : Prop where
  fil : Fil b ks s.M
  it : s.it = ks.map fulIt
  nt : s.nt = []
  n0 : 0 ≤ s.n
  n1 : s.n ≤ 3 * i
  len : L.length ≤ i
  had : ∀ (p : Spt) (r : Nat) (k : ByteArray), p.ok → p.b = b → s.M p.item = (r : Int) + 1 → ks[r]? = some k → k ∈ L
theorem FulL.start {b : Int} {ks : List ByteArray} {it : List It} (b0 : 1 ≤ b) (b1 : b ≤ 3) (hi : it = ks.map fulIt) : FulL b ks 0 [] ⟨(aw0 b).M, (aw0 b).n, (aw0 b).la, (aw0 b).tk, (aw0 b).ho, it, (aw0 b).nt⟩ := by
  have h := Fil.start ks b0 b1
  refine ⟨h, hi, rfl, Int.le_refl _, Int.le_refl _, Nat.le_refl _, fun p r k hp hb hr hk => ?_⟩
  have hr : (aw0 b).M p.item = (r : Int) + 1 := hr
  unfold aw0 at hr
  dsimp only at hr
  rw [upd_other _ (by have := hp.item; omega)] at hr
  omega
theorem FulL.skip {b : Int} {ks : List ByteArray} {i : Nat} {L : List ByteArray} {s : AW} (h : FulL b ks i L s) : FulL b ks (i + 1) L s := ⟨h.fil, h.it, h.nt, h.n0, by have := h.n1; omega, by have := h.len; omega, h.had⟩
theorem FulL.lay {b : Int} {ks : List ByteArray} {i : Nat} {L : List ByteArray} {s s' : AW} {r : Nat} {key : ByteArray} (h : FulL b ks i L s) (hk : ks[r]? = some key) (hn : key ∉ L) (hp : LayPost b s r key true s') : FulL b ks (i + 1) (L ++ [key]) s' := by
  obtain ⟨p, hok, hb, hin, hfr, rfl⟩ := hp.2 rfl
  refine ⟨h.fil.put hok hb hk hin hfr fun q hq hqb e => hn (h.had q r key hq hqb e hk), h.it, h.nt, ?_, ?_, ?_, fun q r' k' hq hqb e hk' => ?_⟩
  · have := h.n0; show 0 ≤ s.n + 3; omega
  · have := h.n1; show s.n + 3 ≤ _; omega
  · have := h.len; rw [List.length_append]; simp; omega
  · have e : putM s.M p (fnvTag (keyH key)) ((r : Int) + 1) q.item = (r' : Int) + 1 := e
    by_cases c : q.item = p.item
    · rw [c, putM_item hok] at e
      have : r = r' := by omega
      rw [← this, hk] at hk'
      cases hk'
      simp
    · rw [putM_oth (Spt.item_ne_tags hq hok (by rw [hqb, hb])) c] at e
      exact List.mem_append.2 (.inl (h.had q r' k' hq hqb e hk'))
theorem FulL.done {b : Int} {ks : List ByteArray} {i : Nat} {L : List ByteArray} {s : AW} (h : FulL b ks i L s) (hi : i ≤ 80) : FulS b ks s := ⟨h.fil, h.it, h.nt, h.n0, by have := h.n1; omega⟩
end Go.Proofs.YtlcibfpibklbdaaGreat
