/- Layer 25, plain: a Store in a world of one table: what comes behind the Find. -/
import Derived.Test.YthpedifjclofoaaGreatSs
namespace Go.Proofs.YthpedifjclofoaaGreat
set_option linter.unusedSimpArgs false
set_option linter.unusedVariables false
section
variable {t : Nat} {c : Clm} {mo : Int} {s : AW} {tk : Tkm} {fd : Fdm} {rm : Rmm} {pu : Otm} {p : Spt} {ref id an nu ep pt : Int} {m : List Int}
/-- The place is marked. -/
def awMark (p : Spt) (s : AW) : AW := awAdd (plVersion p.b p.q) 1 s
def stId (s : AW) : Int := (s.M 7 + 1) % 18446744073709551616
/-- The item is there, and told of. -/
theorem st_not {k : Int} (h : stDecide c (itAt (awMark p s).it ref) ((awMark p s).M 8) = some k) :
    Gos stOver (stStep t c mo) 4 (s, ⟨4, tk, fd, stVer p, rm, pu, p, ref, id, an, nu, ep, pt⟩) (awGive (awMark p (awLoad 8 (awMark p s))), ⟨0, tk, fd, [], rm, pu, p, ref, id, k, 0, (awMark p s).M 8, (awMark p s).n + 1⟩) := by
  refine ⟨rfl, rfl, ?_⟩
  show Gos stOver (stStep t c mo) 2 (stStep t c mo (awMark p s, ⟨5, tk, fd, [], rm, pu, p, ref, id, an, nu, ep, pt⟩)) _
  have e : stStep t c mo (awMark p s, ⟨5, tk, fd, [], rm, pu, p, ref, id, an, nu, ep, pt⟩) = (awLoad 8 (awMark p s), ⟨8, tk, fd, stVer p, rm, pu, p, ref, id, k, 0, (awMark p s).M 8, (awMark p s).n + 1⟩) := by
    show (awLoad 8 (awMark p s), match stDecide c (itAt (awMark p s).it ref) ((awMark p s).M 8) with
      | some k => (⟨8, tk, fd, stVer p, rm, pu, p, ref, id, k, 0, (awMark p s).M 8, (awMark p s).n + 1⟩ : Stm)
      | none => ⟨6, tk, fd, [], rm, pu, p, ref, id, an, nu, (awMark p s).M 8, (awMark p s).n + 1⟩) = _
    rw [h]
  rw [e]
  exact ⟨rfl, rfl, rfl⟩
/-- It is replaced. -/
def awRepl (c : Clm) (p : Spt) (s : AW) : AW := awStore p.item (s.it.length + 1) (awItem (stIt c (stId s) (s.M 8)) (awAdd 7 1 (awLoad 8 s)))
theorem st_repl (h : stDecide c (itAt (awMark p s).it ref) ((awMark p s).M 8) = none) :
    Gos stOver (stStep t c mo) 6 (s, ⟨4, tk, fd, stVer p, rm, pu, p, ref, id, an, nu, ep, pt⟩) (awGive (awMark p (awRepl c p (awMark p s))), ⟨0, tk, fd, [], rm, pu, p, s.it.length + 1, stId (awMark p s), 1, stId (awMark p s), (awMark p s).M 8, (awMark p s).n + 1⟩) := by
  refine ⟨rfl, rfl, ?_⟩
  show Gos stOver (stStep t c mo) 4 (stStep t c mo (awMark p s, ⟨5, tk, fd, [], rm, pu, p, ref, id, an, nu, ep, pt⟩)) _
  have e : stStep t c mo (awMark p s, ⟨5, tk, fd, [], rm, pu, p, ref, id, an, nu, ep, pt⟩) = (awLoad 8 (awMark p s), ⟨6, tk, fd, [], rm, pu, p, ref, id, an, nu, (awMark p s).M 8, (awMark p s).n + 1⟩) := by
    show (awLoad 8 (awMark p s), match stDecide c (itAt (awMark p s).it ref) ((awMark p s).M 8) with
      | some k => (⟨8, tk, fd, stVer p, rm, pu, p, ref, id, k, 0, (awMark p s).M 8, (awMark p s).n + 1⟩ : Stm)
      | none => ⟨6, tk, fd, [], rm, pu, p, ref, id, an, nu, (awMark p s).M 8, (awMark p s).n + 1⟩) = _
    rw [h]
  rw [e]
  exact ⟨rfl, rfl, rfl, rfl, rfl⟩
/-- It is not there, and that is told. -/
theorem st_miss : Gos stOver (stStep t c mo) 2 (s, ⟨10, tk, fd, m, rm, pu, p, ref, id, an, nu, ep, pt⟩) (awGive (awLoad 8 s), ⟨0, tk, fd, m, rm, pu, p, ref, id, if c.verb = 6 then 4 else 2, 0, s.M 8, s.n + 1⟩) := ⟨rfl, rfl, rfl⟩
/-- It comes into a slot that the first look finds free. -/
def awPut (p : Spt) (tag ref : Int) (s : AW) : AW := awStore p.tags (twWith ((awStore p.item ref s).M p.tags) p.s tag) (awLoad p.tags (awStore p.item ref s))
def awNew (c : Clm) (p : Spt) (s : AW) : AW := awAdd 6 1 (awPut p (fnvTag (kyH c.key)) (s.it.length + 1) (awItem (stIt c (stId s) (s.M 8)) (awAdd 7 1 (awLoad 8 s))))
theorem st_put3 {v : Int} : ∃ w, Gos stOver (stStep t c mo) 3 (s, ⟨17, tk, fd, m, rm, ⟨0, v⟩, p, ref, id, an, nu, ep, pt⟩) (awPut p (fnvTag (kyH c.key)) ref s, ⟨18, tk, fd, m, rm, ⟨3, w⟩, p, ref, id, an, nu, ep, pt⟩) := by
  refine ⟨(awStore p.item ref s).M p.tags, ?_⟩
  have e1 : stStep t c mo (s, ⟨17, tk, fd, m, rm, ⟨0, v⟩, p, ref, id, an, nu, ep, pt⟩) = (awStore p.item ref s, ⟨17, tk, fd, m, rm, ⟨1, v⟩, p, ref, id, an, nu, ep, pt⟩) := rfl
  have e2 : stStep t c mo (awStore p.item ref s, ⟨17, tk, fd, m, rm, ⟨1, v⟩, p, ref, id, an, nu, ep, pt⟩) = (awLoad p.tags (awStore p.item ref s), ⟨17, tk, fd, m, rm, ⟨2, (awStore p.item ref s).M p.tags⟩, p, ref, id, an, nu, ep, pt⟩) := rfl
  refine (Gos.one rfl e1).trans ((Gos.one rfl e2).trans (Gos.one rfl ?_))
  rfl
theorem st_fin : Gos stOver (stStep t c mo) 3 (s, ⟨18, tk, fd, m, rm, pu, p, ref, id, an, nu, ep, pt⟩) (awGive (awMark p (awAdd 6 1 s)), ⟨0, tk, fd, [], rm, pu, p, ref, id, 1, id, ep, pt⟩) := ⟨rfl, rfl, rfl, rfl⟩
theorem st_in : ∃ pu', Gos stOver (stStep t c mo) 8 (s, ⟨15, tk, fd, m, rm, pu, p, ref, id, an, nu, ep, pt⟩) (awGive (awMark p (awNew c p s)), ⟨0, tk, fd, [], rm, pu', p, s.it.length + 1, stId s, 1, stId s, s.M 8, s.n + 1⟩) := by
  have e1 : stStep t c mo (s, ⟨15, tk, fd, m, rm, pu, p, ref, id, an, nu, ep, pt⟩) = (awLoad 8 s, ⟨16, tk, fd, m, rm, pu, p, ref, id, an, nu, s.M 8, s.n + 1⟩) := rfl
  have e2 : stStep t c mo (awLoad 8 s, ⟨16, tk, fd, m, rm, pu, p, ref, id, an, nu, s.M 8, s.n + 1⟩) = (awItem (stIt c (stId s) (s.M 8)) (awAdd 7 1 (awLoad 8 s)), ⟨17, tk, fd, m, rm, ⟨0, 0⟩, p, s.it.length + 1, stId s, an, nu, s.M 8, s.n + 1⟩) := rfl
  obtain ⟨w, h⟩ := st_put3 (t := t) (c := c) (mo := mo) (s := awItem (stIt c (stId s) (s.M 8)) (awAdd 7 1 (awLoad 8 s))) (tk := tk) (fd := fd) (rm := rm) (p := p) (ref := s.it.length + 1) (id := stId s) (an := an) (nu := nu) (ep := s.M 8) (pt := s.n + 1) (m := m) (v := 0)
  exact ⟨⟨3, w⟩, (Gos.one rfl e1).trans ((Gos.one rfl e2).trans (h.trans st_fin))⟩
def awLooks (b q : Int) (s : AW) : AW := awLoad (plTags b q) (awLoad 2 (awLoad 6 s))
theorem st_new {b : Int} (hb0 : 1 ≤ b) (hb1 : b ≤ 12) (hw : s.M 2 = b) (hf : 0 ≤ twFree (s.M (plTags b (fnvBucket (kyH c.key) b)))) (hp : p = ⟨b, fnvBucket (kyH c.key) b, twFree (s.M (plTags b (fnvBucket (kyH c.key) b)))⟩) {p0 : Spt} :
    ∃ rm' pu', Gos stOver (stStep t c mo) 12 (s, ⟨11, tk, fd, m, rm, pu, p0, ref, id, an, nu, ep, pt⟩)
      (awGive (awMark p (awNew c p (awMark p (awLooks b (fnvBucket (kyH c.key) b) s)))), ⟨0, tk, fd, [], rm', pu', p, s.it.length + 1, stId (awMark p (awLooks b (fnvBucket (kyH c.key) b) s)), 1, stId (awMark p (awLooks b (fnvBucket (kyH c.key) b) s)), (awMark p (awLooks b (fnvBucket (kyH c.key) b) s)).M 8, (awMark p (awLooks b (fnvBucket (kyH c.key) b) s)).n + 1⟩) := by
  have hr : rmNew (plOld ((awLoad 6 s).M 2)) (kyH c.key) = ⟨1, b, fnvBucket (kyH c.key) b, fnvOther (fnvBucket (kyH c.key) b) (fnvTag (kyH c.key)) b, wy0, ho0, sp20, false⟩ := by
    show rmNew (plOld (s.M 2)) _ = _
    rw [hw, plOld_one hb0 hb1]
    unfold rmNew
    rw [if_pos ⟨hb0, hb1⟩]
  have hs : rmStep mo (awLoad 2 (awLoad 6 s), ⟨1, b, fnvBucket (kyH c.key) b, fnvOther (fnvBucket (kyH c.key) b) (fnvTag (kyH c.key)) b, wy0, ho0, sp20, false⟩) = (awLooks b (fnvBucket (kyH c.key) b) s, rmIn ⟨1, b, fnvBucket (kyH c.key) b, fnvOther (fnvBucket (kyH c.key) b) (fnvTag (kyH c.key)) b, wy0, ho0, sp20, false⟩ p) := by
    unfold rmStep rmTg
    dsimp only
    rw [if_pos rfl]
    show (_, if 0 ≤ twFree (s.M (plTags b (fnvBucket (kyH c.key) b))) then rmIn _ ⟨b, _, twFree (s.M (plTags b (fnvBucket (kyH c.key) b)))⟩ else _) = _
    rw [if_pos hf, ← hp]
    rfl
  obtain ⟨pu', hin⟩ := st_in (t := t) (c := c) (mo := mo) (s := awMark p (awLooks b (fnvBucket (kyH c.key) b) s)) (tk := tk) (fd := fd) (rm := rmIn ⟨1, b, fnvBucket (kyH c.key) b, fnvOther (fnvBucket (kyH c.key) b) (fnvTag (kyH c.key)) b, wy0, ho0, sp20, false⟩ p) (pu := pu) (p := p) (ref := ref) (id := id) (an := an) (nu := nu) (ep := ep) (pt := pt) (m := [])
  refine ⟨rmIn ⟨1, b, fnvBucket (kyH c.key) b, fnvOther (fnvBucket (kyH c.key) b) (fnvTag (kyH c.key)) b, wy0, ho0, sp20, false⟩ p, pu', ?_⟩
  refine Gos.trans (c := 4) (d := 8) ⟨rfl, rfl, ?_⟩ hin
  show Gos stOver (stStep t c mo) 2 (awLoad 2 (awLoad 6 s), ⟨13, tk, fd, m, rmNew (plOld ((awLoad 6 s).M 2)) (kyH c.key), pu, p0, ref, id, an, nu, ep, pt⟩) _
  rw [hr]
  refine ⟨rfl, ?_⟩
  have e : stStep t c mo (awLoad 2 (awLoad 6 s), ⟨13, tk, fd, m, ⟨1, b, fnvBucket (kyH c.key) b, fnvOther (fnvBucket (kyH c.key) b) (fnvTag (kyH c.key)) b, wy0, ho0, sp20, false⟩, pu, p0, ref, id, an, nu, ep, pt⟩) = (awLooks b (fnvBucket (kyH c.key) b) s, ⟨14, tk, fd, stVer p, rmIn ⟨1, b, fnvBucket (kyH c.key) b, fnvOther (fnvBucket (kyH c.key) b) (fnvTag (kyH c.key)) b, wy0, ho0, sp20, false⟩ p, pu, p, ref, id, an, nu, ep, pt⟩) := by
    show (let y := rmStep mo (awLoad 2 (awLoad 6 s), ⟨1, b, fnvBucket (kyH c.key) b, fnvOther (fnvBucket (kyH c.key) b) (fnvTag (kyH c.key)) b, wy0, ho0, sp20, false⟩); (y.1, if y.2.ln = 0 then (⟨14, tk, fd, stVer y.2.p, y.2, pu, y.2.p, ref, id, an, nu, ep, pt⟩ : Stm) else ⟨13, tk, fd, m, y.2, pu, p0, ref, id, an, nu, ep, pt⟩)) = _
    rw [hs]
    rfl
  rw [e]
  exact ⟨rfl, rfl⟩
end
end Go.Proofs.YthpedifjclofoaaGreat
