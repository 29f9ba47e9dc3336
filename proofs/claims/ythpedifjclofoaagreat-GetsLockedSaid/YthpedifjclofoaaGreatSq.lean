/- Layer 15, plain: a Find by itself. -/
import Derived.Test.YthpedifjclofoaaGreatSp
import Derived.Test.YthpedifjclofoaaGreatYa0
namespace Go.Proofs.YthpedifjclofoaaGreat
set_option linter.unusedSimpArgs false
set_option linter.unusedVariables false
def fdOver (z : Fdm) : Bool := z.left.isEmpty
/-- Nothing but loads, c of them. -/
structure Qt (s s' : AW) (c : Nat) : Prop where
  M : s'.M = s.M
  tk : s'.tk = s.tk
  ho : s'.ho = s.ho
  it : s'.it = s.it
  nt : s'.nt = s.nt
  n : s'.n = s.n + c
theorem Qt.refl (s : AW) : Qt s s 0 := ⟨rfl, rfl, rfl, rfl, rfl, (Int.add_zero _).symm⟩
theorem Qt.load (a : Int) (s : AW) : Qt s (awLoad a s) 1 := ⟨rfl, rfl, rfl, rfl, rfl, rfl⟩
theorem Qt.trans {s t u : AW} {c d : Nat} (h : Qt s t c) (k : Qt t u d) : Qt s u (c + d) := ⟨k.M.trans h.M, k.tk.trans h.tk, k.ho.trans h.ho, k.it.trans h.it, k.nt.trans h.nt, by rw [k.n, h.n]; push_cast; omega⟩
def Fl.spots (M : Int → Int) (tag : Int) : Fl → List Spt
  | .tb => []
  | .tg b q => (twHas (M (plTags b q)) tag).map fun s => ⟨b, q, s⟩
  | .im b q s => [⟨b, q, s⟩]
def Fl.w : Fl → Nat
  | .tb => 20
  | .tg _ _ => 6
  | .im _ _ _ => 1
def Fl.ok : Fl → Prop
  | .tb => False
  | _ => True
def flSpots (M : Int → Int) (tag : Int) (l : List Fl) : List Spt := l.flatMap (Fl.spots M tag)
def flW (l : List Fl) : Nat := (l.map Fl.w).sum
def flHit (it : List It) (M : Int → Int) (key : ByteArray) (p : Spt) : Bool := fdHit it (M p.item) key
theorem twHas_len (w tag : Int) : (twHas w tag).length ≤ 4 := List.length_filter_le _ _
theorem flSpots_cons (M : Int → Int) (tag : Int) (a : Fl) (l : List Fl) : flSpots M tag (a :: l) = a.spots M tag ++ flSpots M tag l := rfl
theorem flSpots_app (M : Int → Int) (tag : Int) (l m : List Fl) : flSpots M tag (l ++ m) = flSpots M tag l ++ flSpots M tag m := List.flatMap_append
theorem flSpots_im (M : Int → Int) (tag b q : Int) (l : List Int) : flSpots M tag (l.map (.im b q)) = l.map fun s => ⟨b, q, s⟩ := by
  induction l with
  | nil => rfl
  | cons a l ih => rw [List.map_cons, flSpots_cons, ih]; rfl
theorem flW_cons (a : Fl) (l : List Fl) : flW (a :: l) = a.w + flW l := by unfold flW; rw [List.map_cons, List.sum_cons]
theorem flW_app (l m : List Fl) : flW (l ++ m) = flW l + flW m := by unfold flW; rw [List.map_append, List.sum_append]
theorem flW_im (b q : Int) (l : List Int) : flW (l.map (.im b q)) = l.length := by
  induction l with
  | nil => rfl
  | cons a l ih => rw [List.map_cons, flW_cons, ih, List.length_cons]; show 1 + _ = _; omega
/-- What a Find ends with. -/
def fdRes (it : List It) (M : Int → Int) (key : ByteArray) (z z' : Fdm) : Option Spt → Prop
  | some p => z'.p = p ∧ z'.ref = M p.item
  | none => z'.p = z.p ∧ z'.ref = z.ref
theorem fd_go (key : ByteArray) : ∀ (n : Nat) (l : List Fl) (s : AW) (z : Fdm), flW l ≤ n → (∀ a ∈ l, a.ok) → z.left = l →
    ∃ c s' z', c ≤ flW l ∧ Gos fdOver (fdStep key) c (s, z) (s', z') ∧ z'.left = [] ∧ Qt s s' c ∧ z'.word = z.word ∧ fdRes s.it s.M key z z' ((flSpots s.M (fnvTag (kyH key)) l).find? (flHit s.it s.M key)) := by
  intro n
  induction n with
  | zero =>
    intro l s z hw hok hl
    cases l with
    | nil => exact ⟨0, s, z, Nat.zero_le _, rfl, hl, Qt.refl s, rfl, rfl, rfl⟩
    | cons a l =>
      have : 1 ≤ a.w := by
        cases a with
        | tb => exact (by decide : 1 ≤ 20)
        | tg _ _ => exact (by decide : 1 ≤ 6)
        | im _ _ _ => exact (by decide : 1 ≤ 1)
      rw [flW_cons] at hw
      omega
  | succ n ih =>
    intro l s z hw hok hl
    cases l with
    | nil => exact ⟨0, s, z, Nat.zero_le _, rfl, hl, Qt.refl s, rfl, rfl, rfl⟩
    | cons a l =>
      have hov : fdOver z = false := by unfold fdOver; rw [hl]; rfl
      have hok2 : ∀ a ∈ l, a.ok := fun a ha => hok a (List.mem_cons_of_mem _ ha)
      rw [flW_cons] at hw ⊢
      cases a with
      | tb => exact (hok .tb (List.mem_cons_self ..)).elim
      | tg b q =>
        have hw : 6 + flW l ≤ n + 1 := hw
        have hlen := twHas_len (s.M (plTags b q)) (fnvTag (kyH key))
        obtain ⟨c, s', z', h1, h2, h3, h4, h5, h6⟩ := ih ((twHas (s.M (plTags b q)) (fnvTag (kyH key))).map (.im b q) ++ l) (awLoad (plTags b q) s) ⟨(twHas (s.M (plTags b q)) (fnvTag (kyH key))).map (.im b q) ++ l, z.word, z.p, z.ref⟩
          (by rw [flW_app, flW_im]; omega) (fun a ha => by
            rcases List.mem_append.1 ha with h | h
            · obtain ⟨x, -, rfl⟩ := List.mem_map.1 h; trivial
            · exact hok2 a h) rfl
        refine ⟨1 + c, s', z', ?_, Gos.trans (Gos.one hov ?_) h2, h3, (Qt.load _ s).trans h4, h5, ?_⟩
        · rw [flW_app, flW_im] at h1
          show _ ≤ 6 + flW l
          omega
        · unfold fdStep
          dsimp only
          rw [hl]
        · have h6 : fdRes s.it s.M key z z' ((flSpots s.M (fnvTag (kyH key)) ((twHas (s.M (plTags b q)) (fnvTag (kyH key))).map (.im b q) ++ l)).find? (flHit s.it s.M key)) := by
            revert h6
            show fdRes s.it s.M key _ z' ((flSpots s.M (fnvTag (kyH key)) ((twHas (s.M (plTags b q)) (fnvTag (kyH key))).map (.im b q) ++ l)).find? (flHit s.it s.M key)) → _
            cases (flSpots s.M (fnvTag (kyH key)) ((twHas (s.M (plTags b q)) (fnvTag (kyH key))).map (.im b q) ++ l)).find? (flHit s.it s.M key) <;> exact id
          rw [flSpots_app, flSpots_im] at h6
          exact h6
      | im b q sl =>
        have hw : 1 + flW l ≤ n + 1 := hw
        have hsp : flSpots s.M (fnvTag (kyH key)) (.im b q sl :: l) = ⟨b, q, sl⟩ :: flSpots s.M (fnvTag (kyH key)) l := rfl
        rw [hsp, List.find?_cons]
        by_cases hh : fdHit s.it (s.M (plItem b q sl)) key = true
        · have hh2 : flHit s.it s.M key ⟨b, q, sl⟩ = true := hh
          rw [hh2]
          refine ⟨1, awLoad (plItem b q sl) s, ⟨[], z.word, ⟨b, q, sl⟩, s.M (plItem b q sl)⟩, ?_, Gos.one hov ?_, rfl, Qt.load _ s, rfl, rfl, rfl⟩
          · show 1 ≤ 1 + flW l; omega
          · unfold fdStep
            dsimp only
            rw [hl]
            dsimp only
            rw [if_pos hh]
        · have hh2 : flHit s.it s.M key ⟨b, q, sl⟩ = false := by
            cases h : fdHit s.it (s.M (plItem b q sl)) key with
            | true => exact absurd h hh
            | false => exact h
          rw [hh2]
          obtain ⟨c, s', z', h1, h2, h3, h4, h5, h6⟩ := ih l (awLoad (plItem b q sl) s) ⟨l, z.word, z.p, z.ref⟩ (by omega) hok2 rfl
          refine ⟨1 + c, s', z', ?_, Gos.trans (Gos.one hov ?_) h2, h3, (Qt.load _ s).trans h4, h5, ?_⟩
          · show _ ≤ 1 + flW l; omega
          · unfold fdStep
            dsimp only
            rw [hl]
            dsimp only
            rw [if_neg hh]
          · revert h6
            show fdRes s.it s.M key _ z' ((flSpots s.M (fnvTag (kyH key)) l).find? (flHit s.it s.M key)) → _
            dsimp only
            cases (flSpots s.M (fnvTag (kyH key)) l).find? (flHit s.it s.M key) <;> exact id
/-- The spots that a Find looks at. -/
def fdSpots (key : ByteArray) (M : Int → Int) : List Spt := flSpots M (fnvTag (kyH key)) ((plPlaces (kyH key) (M 2)).map fun p => .tg p.1 p.2)
/-- A Find by itself: the first of its spots with an item of the key. -/
theorem fd_run (key : ByteArray) (s : AW) : ∃ c s' z', c ≤ 1 + 6 * (plPlaces (kyH key) (s.M 2)).length ∧ Gos fdOver (fdStep key) c (s, fdNew) (s', z') ∧ z'.left = [] ∧ Qt s s' c ∧ z'.word = s.M 2 ∧ fdRes s.it s.M key fdNew z' ((fdSpots key s.M).find? (flHit s.it s.M key)) := by
  obtain ⟨c, s', z', h1, h2, h3, h4, h5, h6⟩ := fd_go key _ ((plPlaces (kyH key) (s.M 2)).map fun p => .tg p.1 p.2) (awLoad 2 s) ⟨(plPlaces (kyH key) (s.M 2)).map fun p => .tg p.1 p.2, s.M 2, sp20, 0⟩ (Nat.le_refl _)
    (fun a ha => by obtain ⟨x, -, rfl⟩ := List.mem_map.1 ha; trivial) rfl
  refine ⟨1 + c, s', z', ?_, Gos.trans (Gos.one rfl rfl) h2, h3, (Qt.load 2 s).trans h4, h5, ?_⟩
  · have : ∀ l : List (Int × Int), flW (l.map fun p => .tg p.1 p.2) = 6 * l.length := by
      intro l
      induction l with
      | nil => rfl
      | cons a l ih => rw [List.map_cons, flW_cons, ih, List.length_cons]; show 6 + _ = _; omega
    rw [this] at h1
    omega
  · revert h6
    show fdRes s.it s.M key _ z' ((fdSpots key s.M).find? (flHit s.it s.M key)) → _
    cases (fdSpots key s.M).find? (flHit s.it s.M key) <;> exact id
end Go.Proofs.YthpedifjclofoaaGreat
