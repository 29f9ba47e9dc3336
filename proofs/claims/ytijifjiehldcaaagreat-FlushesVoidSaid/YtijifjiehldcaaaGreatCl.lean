/- Layer 5: cells in memory: what a *Cells holds, as a list of words and as a function. -/
import Derived.Test.YtijifjiehldcaaaGreatMapL
namespace Go.Proofs.YtijifjiehldcaaaGreat
set_option linter.unusedSimpArgs false
open Go.RowKit
set_option linter.unusedVariables false

/-- A word: its address, the block of its atomic, what stands. -/
structure Wde where
  a : Int
  b : Nat
  v : Int
def wdk (d : Wde) : Int × Nat := (d.a, d.b)
def cval (L : List Wde) (x : Int) : Int := ((L.find? fun d => d.a == x).map Wde.v).getD 0
structure WordAt (w : World) (F : Nat → Prop) (c : Nat) (d : Wde) : Prop where
  cell : w.cell? ⟨d.b, 0, none⟩ = some (.int .u64 d.v)
  free : w.frozen? ⟨d.b, 0, none⟩ = false
  mem : F d.b
  lt : d.b < w.heap.size
  ne : d.b ≠ c
  v0 : 0 ≤ d.v
  v1 : d.v < 18446744073709551616
/-- Block c is the struct of cells; what belongs to it lies in blocks of F. -/
structure Cl (w : World) (F : Nat → Prop) (c : Nat) (L : List Wde) (n k a s i : Int) : Prop where
  mp : (L = [] ∧ w.cell? ⟨c, 0, none⟩ = some (.map none)) ∨ ∃ m, w.cell? ⟨c, 0, none⟩ = some (.map (some m)) ∧ MapL w m (L.map wdk) ∧ F m ∧ (∀ d ∈ L, d.b ≠ m) ∧ m ≠ c
  c1 : w.cell? ⟨c, 1, none⟩ = some (.int .i64 n)
  c2 : w.cell? ⟨c, 2, none⟩ = some (.int .u8 k)
  c3 : w.cell? ⟨c, 3, none⟩ = some (.int .u64 a)
  c4 : w.cell? ⟨c, 4, none⟩ = some (.int .u64 s)
  c5 : w.cell? ⟨c, 5, none⟩ = some (.int .u64 i)
  fr : ∀ j, w.frozen? ⟨c, j, none⟩ = false
  lt : c < w.heap.size
  mem : F c
  wd : ∀ d ∈ L, WordAt w F c d
  na : (L.map Wde.a).Nodup
  nb : (L.map Wde.b).Nodup
section
variable {w w' : World} {F G S : Nat → Prop} {c : Nat} {L : List Wde} {n k a s i : Int}
theorem WordAt.wrote {d : Wde} (h : WordAt w F c d) (hw : Wrote S w w') (hs : ¬ S d.b) : WordAt w' F c d :=
  ⟨(hw.cell (p := ⟨d.b, 0, none⟩) h.lt hs).trans h.cell, (hw.frozen (p := ⟨d.b, 0, none⟩) h.lt hs).trans h.free, h.mem, Nat.lt_of_lt_of_le h.lt hw.size, h.ne, h.v0, h.v1⟩
theorem WordAt.mono {d : Wde} (h : WordAt w F c d) (hF : ∀ k, F k → G k) : WordAt w G c d := ⟨h.cell, h.free, hF _ h.mem, h.lt, h.ne, h.v0, h.v1⟩
theorem MapL.wrote {m : Nat} {E : List (Int × Nat)} (h : MapL w m E) (hw : Wrote S w w') (hs : ¬ S m) : MapL w' m E := h.block (hw.block m h.lt hs)
theorem Cl.wrote (h : Cl w F c L n k a s i) (hw : Wrote S w w') (hs : ∀ j, F j → ¬ S j) : Cl w' F c L n k a s i := by
  have hc : ∀ j, w'.cell? ⟨c, j, none⟩ = w.cell? ⟨c, j, none⟩ := fun j => hw.cell (p := ⟨c, j, none⟩) h.lt (hs c h.mem)
  refine ⟨?_, (hc 1).trans h.c1, (hc 2).trans h.c2, (hc 3).trans h.c3, (hc 4).trans h.c4, (hc 5).trans h.c5, fun j => (hw.frozen (p := ⟨c, j, none⟩) h.lt (hs c h.mem)).trans (h.fr j), Nat.lt_of_lt_of_le h.lt hw.size, h.mem, fun d hd => (h.wd d hd).wrote hw (hs _ (h.wd d hd).mem), h.na, h.nb⟩
  rcases h.mp with ⟨h0, h1⟩ | ⟨m, h1, h2, h3, h4, h5⟩
  · exact .inl ⟨h0, (hc 0).trans h1⟩
  · exact .inr ⟨m, (hc 0).trans h1, h2.wrote hw (hs m h3), h3, h4, h5⟩
theorem Cl.below (h : Cl w F c L n k a s i) (hb : Below w.heap.size w w') : Cl w' F c L n k a s i := h.wrote (S := fun _ => False) (Wrote.of_below hb) fun _ _ hf => hf
/-- The struct's numbers are written. -/
theorem Cl.head {n' k' a' s' i' : Int} (h : Cl w F c L n k a s i) (hw : Wrote (fun j => j = c) w w') (h0 : w'.cell? ⟨c, 0, none⟩ = w.cell? ⟨c, 0, none⟩) (h1 : w'.cell? ⟨c, 1, none⟩ = some (.int .i64 n')) (h2 : w'.cell? ⟨c, 2, none⟩ = some (.int .u8 k'))
    (h3 : w'.cell? ⟨c, 3, none⟩ = some (.int .u64 a')) (h4 : w'.cell? ⟨c, 4, none⟩ = some (.int .u64 s')) (h5 : w'.cell? ⟨c, 5, none⟩ = some (.int .u64 i')) (hf : ∀ j, w'.frozen? ⟨c, j, none⟩ = w.frozen? ⟨c, j, none⟩) : Cl w' F c L n' k' a' s' i' := by
  refine ⟨?_, h1, h2, h3, h4, h5, fun j => (hf j).trans (h.fr j), Nat.lt_of_lt_of_le h.lt hw.size, h.mem, fun d hd => (h.wd d hd).wrote hw (h.wd d hd).ne, h.na, h.nb⟩
  rcases h.mp with ⟨e0, e1⟩ | ⟨m, e1, e2, e3, e4, e5⟩
  · exact .inl ⟨e0, h0.trans e1⟩
  · exact .inr ⟨m, h0.trans e1, e2.wrote hw e5, e3, e4, e5⟩
def wput (x v : Int) (d : Wde) : Wde := if d.a = x then ⟨d.a, d.b, v⟩ else d
theorem wput_a (x v : Int) (d : Wde) : (wput x v d).a = d.a := by unfold wput; split <;> rfl
theorem wput_b (x v : Int) (d : Wde) : (wput x v d).b = d.b := by unfold wput; split <;> rfl
theorem wput_k (x v : Int) : wdk ∘ wput x v = wdk := by funext d; simp [wdk, wput_a, wput_b]
theorem nodup_b {L : List Wde} (h : (L.map Wde.b).Nodup) {d e : Wde} (hd : d ∈ L) (he : e ∈ L) (hb : d.b = e.b) : d = e := by
  induction L with
  | nil => cases hd
  | cons x L ih =>
    simp only [List.map_cons, List.nodup_cons] at h
    rcases List.mem_cons.1 hd with rfl | hd1
    · rcases List.mem_cons.1 he with rfl | he1
      · rfl
      · exact (h.1 (List.mem_map.2 ⟨e, he1, hb.symm⟩)).elim
    · rcases List.mem_cons.1 he with rfl | he1
      · exact (h.1 (List.mem_map.2 ⟨d, hd1, hb⟩)).elim
      · exact ih h.2 hd1 he1
/-- A word is written. -/
theorem Cl.put {d : Wde} {v : Int} (h : Cl w F c L n k a s i) (hd : d ∈ L) (v0 : 0 ≤ v) (v1 : v < 18446744073709551616) (hw : Wrote S w w') (hS : ∀ j, F j → S j → j = d.b) (hc : w'.cell? ⟨d.b, 0, none⟩ = some (.int .u64 v)) (hf : w'.frozen? ⟨d.b, 0, none⟩ = false) :
    Cl w' F c (L.map (wput d.a v)) n k a s i := by
  have hdw := h.wd d hd
  have hn : ∀ j, F j → j ≠ d.b → ¬ S j := fun j hj hne hs => hne (hS j hj hs)
  have hk : ∀ j, w'.cell? ⟨c, j, none⟩ = w.cell? ⟨c, j, none⟩ := fun j => hw.cell (p := ⟨c, j, none⟩) h.lt (hn c h.mem (Ne.symm hdw.ne))
  refine ⟨?_, (hk 1).trans h.c1, (hk 2).trans h.c2, (hk 3).trans h.c3, (hk 4).trans h.c4, (hk 5).trans h.c5, fun j => (hw.frozen (p := ⟨c, j, none⟩) h.lt (hn c h.mem (Ne.symm hdw.ne))).trans (h.fr j), Nat.lt_of_lt_of_le h.lt hw.size, h.mem, ?_, ?_, ?_⟩
  · rcases h.mp with ⟨e0, e1⟩ | ⟨m, e1, e2, e3, e4, e5⟩
    · rw [e0] at hd; cases hd
    · refine .inr ⟨m, (hk 0).trans e1, ?_, e3, ?_, e5⟩
      · rw [List.map_map, wput_k]; exact e2.wrote hw (hn m e3 (Ne.symm (e4 d hd)))
      · intro e he
        obtain ⟨e', he', rfl⟩ := List.mem_map.1 he
        rw [wput_b]; exact e4 e' he'
  · intro e he
    obtain ⟨e', he', rfl⟩ := List.mem_map.1 he
    by_cases hx : e'.b = d.b
    · obtain rfl := nodup_b h.nb he' hd hx
      have : wput e'.a v e' = ⟨e'.a, e'.b, v⟩ := by unfold wput; rw [if_pos rfl]
      rw [this]
      exact ⟨hc, hf, hdw.mem, Nat.lt_of_lt_of_le hdw.lt hw.size, hdw.ne, v0, v1⟩
    · have hne : e'.a ≠ d.a := by
        intro he2
        have : ∀ (L : List Wde), (L.map Wde.a).Nodup → e' ∈ L → d ∈ L → e' = d := by
          intro L
          induction L with
          | nil => intro _ h; cases h
          | cons x L ih =>
            intro hn h1 h2
            simp only [List.map_cons, List.nodup_cons] at hn
            rcases List.mem_cons.1 h1 with rfl | h3
            · rcases List.mem_cons.1 h2 with rfl | h4
              · rfl
              · exact (hn.1 (List.mem_map.2 ⟨d, h4, he2.symm⟩)).elim
            · rcases List.mem_cons.1 h2 with rfl | h4
              · exact (hn.1 (List.mem_map.2 ⟨e', h3, he2⟩)).elim
              · exact ih hn.2 h3 h4
        exact hx (by rw [this L h.na he' hd])
      have : wput d.a v e' = e' := by unfold wput; rw [if_neg hne]
      rw [this]
      exact (h.wd e' he').wrote hw (hn _ (h.wd e' he').mem hx)
  · rw [List.map_map, show Wde.a ∘ wput d.a v = Wde.a from funext fun e => wput_a _ _ e]; exact h.na
  · rw [List.map_map, show Wde.b ∘ wput d.a v = Wde.b from funext fun e => wput_b _ _ e]; exact h.nb
theorem cval_put {L : List Wde} {d : Wde} (hd : d ∈ L) (v x : Int) : cval (L.map (wput d.a v)) x = if x = d.a then v else cval L x := by
  unfold cval
  rw [List.find?_map]
  have hp : ((fun e : Wde => e.a == x) ∘ wput d.a v) = fun e => e.a == x := by funext e; simp [wput_a]
  rw [hp]
  by_cases hx : x = d.a
  · subst hx
    rw [if_pos rfl]
    cases hf : L.find? (fun e => e.a == d.a) with
    | none => have := List.find?_eq_none.1 hf d hd; simp at this
    | some e =>
      have he : e.a = d.a := by have := List.find?_some hf; simpa using this
      simp [wput, he]
  · rw [if_neg hx]
    cases hf : L.find? (fun e => e.a == x) with
    | none => rfl
    | some e =>
      have he : e.a = x := by have := List.find?_some hf; simpa using this
      have : e.a ≠ d.a := fun h => hx (he.symm.trans h)
      simp [wput, this]
theorem cval_mem {L : List Wde} (h : (L.map Wde.a).Nodup) {d : Wde} (hd : d ∈ L) : cval L d.a = d.v := by
  induction L with
  | nil => cases hd
  | cons x L ih =>
    simp only [List.map_cons, List.nodup_cons] at h
    unfold cval
    rw [List.find?_cons]
    rcases List.mem_cons.1 hd with rfl | hd
    · simp
    · have hne : x.a ≠ d.a := fun e => h.1 (List.mem_map.2 ⟨d, hd, e.symm⟩)
      have : (x.a == d.a) = false := by simpa using hne
      rw [this]
      exact ih h.2 hd
theorem cval_snoc {L : List Wde} {x : Int} (b : Nat) (hx : ∀ d ∈ L, d.a ≠ x) (y : Int) : cval (L ++ [⟨x, b, 0⟩]) y = cval L y := by
  unfold cval
  rw [List.find?_append]
  cases hf : L.find? (fun e => e.a == y) with
  | some e => rfl
  | none =>
    by_cases hxy : x = y
    · subst hxy; simp
    · have : (x == y) = false := by simpa using hxy
      simp [List.find?_cons, this]
theorem cval_none {L : List Wde} {x : Int} (hx : ∀ d ∈ L, d.a ≠ x) : cval L x = 0 := by
  unfold cval
  rw [List.find?_eq_none.2 (fun d hd => by simpa using hx d hd)]
  rfl
theorem lookL_none {L : List Wde} {x : Int} (hx : ∀ d ∈ L, d.a ≠ x) : lookL (L.map wdk) x = none := by
  unfold lookL
  rw [List.find?_map, List.find?_eq_none.2 (fun d hd => by simpa [wdk] using hx d hd)]
  rfl
theorem lookL_some {L : List Wde} (h : (L.map Wde.a).Nodup) {d : Wde} (hd : d ∈ L) : lookL (L.map wdk) d.a = some d.b := by
  induction L with
  | nil => cases hd
  | cons x L ih =>
    simp only [List.map_cons, List.nodup_cons] at h
    unfold lookL
    rw [List.map_cons, List.find?_cons]
    rcases List.mem_cons.1 hd with rfl | hd
    · simp [wdk]
    · have hne : x.a ≠ d.a := fun e => h.1 (List.mem_map.2 ⟨d, hd, e.symm⟩)
      have : ((wdk x).1 == d.a) = false := by simpa [wdk] using hne
      rw [this]
      exact ih h.2 hd
theorem cval_bd (h : Cl w F c L n k a s i) (x : Int) : 0 ≤ cval L x ∧ cval L x < 18446744073709551616 := by
  unfold cval
  cases hf : L.find? (fun e => e.a == x) with
  | none => simp
  | some e =>
    have := h.wd e (List.mem_of_find?_eq_some hf)
    exact ⟨this.v0, this.v1⟩
/-- A word more: its atomic is new, its entry was stored. -/
theorem Cl.snoc {m b : Nat} {x : Int} (hL : ∀ d ∈ L, d.a ≠ x) (hF : ∀ j, F j → j < b) (hFG : ∀ j, F j → G j) (hGm : G m) (hGb : G b)
    (h0 : w'.cell? ⟨c, 0, none⟩ = some (.map (some m))) (hm : MapL w' m (L.map wdk ++ [(x, b)])) (hmb : b ≠ m) (hmL : ∀ d ∈ L, d.b ≠ m) (hmc : m ≠ c) (hbc : b ≠ c)
    (c1 : w'.cell? ⟨c, 1, none⟩ = some (.int .i64 n)) (c2 : w'.cell? ⟨c, 2, none⟩ = some (.int .u8 k)) (c3 : w'.cell? ⟨c, 3, none⟩ = some (.int .u64 a)) (c4 : w'.cell? ⟨c, 4, none⟩ = some (.int .u64 s)) (c5 : w'.cell? ⟨c, 5, none⟩ = some (.int .u64 i))
    (fr : ∀ j, w'.frozen? ⟨c, j, none⟩ = false) (lt : c < w'.heap.size) (mem : G c) (hb : w'.cell? ⟨b, 0, none⟩ = some (.int .u64 0)) (hbf : w'.frozen? ⟨b, 0, none⟩ = false) (hbl : b < w'.heap.size)
    (wd : ∀ d ∈ L, WordAt w' F c d) (na : (L.map Wde.a).Nodup) (nb : (L.map Wde.b).Nodup) : Cl w' G c (L ++ [⟨x, b, 0⟩]) n k a s i := by
  refine ⟨.inr ⟨m, h0, by rw [List.map_append]; exact hm, hGm, ?_, hmc⟩, c1, c2, c3, c4, c5, fr, lt, mem, ?_, ?_, ?_⟩
  · intro d hd
    rcases List.mem_append.1 hd with hd | hd
    · exact hmL d hd
    · rw [List.mem_singleton] at hd; subst hd; exact hmb
  · intro d hd
    rcases List.mem_append.1 hd with hd | hd
    · exact (wd d hd).mono hFG
    · rw [List.mem_singleton] at hd; subst hd
      exact ⟨hb, hbf, hGb, hbl, hbc, Int.le_refl 0, (by show (0:Int) < 18446744073709551616; omega)⟩
  · rw [List.map_append, List.map_cons, List.map_nil, List.nodup_append]
    refine ⟨na, by simp, fun y hy z hz => ?_⟩
    obtain ⟨d, hd, rfl⟩ := List.mem_map.1 hy
    rw [List.mem_singleton] at hz
    rw [hz]; exact hL d hd
  · rw [List.map_append, List.map_cons, List.map_nil, List.nodup_append]
    refine ⟨nb, by simp, fun y hy z hz => ?_⟩
    obtain ⟨d, hd, rfl⟩ := List.mem_map.1 hy
    rw [List.mem_singleton] at hz
    rw [hz]; have := hF _ (wd d hd).mem; exact Nat.ne_of_lt this
end
end Go.Proofs.YtijifjiehldcaaaGreat
