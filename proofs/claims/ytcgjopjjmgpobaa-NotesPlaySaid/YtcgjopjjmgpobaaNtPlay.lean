/- Layer 9: two lists side by side, the program's and the document's; NotesPlay. -/
import Derived.Test.YtcgjopjjmgpobaaNtRef3
import Derived.Test.YtcgjopjjmgpobaaNtDrop
import Derived.Deep.RegionWith
import Derived.Deep.DrawnRows
import Derived.Deep.RegionLaw
namespace Go.Proofs.Ytcgjopjjmgpobaa
open Go.RowKit
set_option linter.unusedVariables false

theorem NL.drew {w : World} {E : TypeId} {f : Nt → List Value} {h : Nat} {v : Value} {l : List Nt} (n : NL w E f h v l) : NL w.drew E f h v l :=
  ⟨n.head, n.free, n.lt, n.apart, n.own⟩
/-- The program's list and the document's, of a call's own. -/
structure Both (w0 w : World) (hx : Nat) (vx : Value) (X : List Nt) (hr : Nat) (vr : Value) (R : List Nt) : Prop where
  x : NL w 56 ntc hx vx X
  r : NL w 70 ntr hr vr R
  apart : ∀ k, NLset hx vx k → ¬ NLset hr vr k
  bx : ∀ k, NLset hx vx k → w0.heap.size ≤ k
  br : ∀ k, NLset hr vr k → w0.heap.size ≤ k
  below : Below w0.heap.size w0 w
section
variable {w0 w w' : World} {hx hr : Nat} {vx vr : Value} {X R : List Nt}
theorem Both.drew (h : Both w0 w hx vx X hr vr R) : Both w0 w.drew hx vx X hr vr R := ⟨h.x.drew, h.r.drew, h.apart, h.bx, h.br, h.below.drew⟩
theorem Both.go (h : Both w0 w hx vx X hr vr R) (hb : Below w.heap.size w w') : Both w0 w' hx vx X hr vr R := ⟨h.x.below hb, h.r.below hb, h.apart, h.bx, h.br, h.below.trans (hb.mono h.below.size)⟩
theorem Both.wrote {S : Nat → Prop} (h : Both w0 w hx vx X hr vr R) (hw : Wrote S w w') (h1 : ∀ k, NLset hx vx k → ¬ S k) (h2 : ∀ k, NLset hr vr k → ¬ S k) (h3 : ∀ k, S k → w0.heap.size ≤ k) : Both w0 w' hx vx X hr vr R :=
  ⟨h.x.wrote hw h1, h.r.wrote hw h2, h.apart, h.bx, h.br, h.below.trans (hw.below (fun k _ hs => h3 k hs) h.below.size)⟩
theorem Both.ax (h : Both w0 w hx vx X hr vr R) : Arr w vx X.length 8 (rowOf ntc X) := Arr.of_own h.x.own
theorem Both.ar (h : Both w0 w hx vx X hr vr R) : Arr w vr R.length 8 (rowOf ntr R) := Arr.of_own h.r.own
theorem c_xAdd (n : Nt) (h : Both w0 w hx vx X hr vr R) (k0 : 0 ≤ n.kind) (k1 : n.kind ≤ 255) :
    Calls Try.prog 37 #[.pointer (some ⟨hx, 0, none⟩), .agg #[.int .i64 n.step, .int .i64 n.thread, .int .u8 n.kind, .int .i64 n.ref, .int .i64 n.bits, .int .i64 n.bucket, .int .i64 n.slot, .int .i64 n.value]] w fun e w' =>
      e = .returned (.int .i64 (ntErr X n)) ∧ ∃ vx', Both w0 w' hx vx' (ntAdd X n) hr vr R := by
  refine (c_Add n hx vx X w h.x k0 k1).mono ?_
  rintro e w' ⟨rfl, v', hn, hv, hw⟩
  have hz := h.below.size
  have key : ∀ k, NLset hx v' k → NLset hx vx k ∨ w.heap.size ≤ k := by
    rintro k (rfl | hk)
    · exact .inl (.inl rfl)
    · rcases hv k hk with h1 | h1
      · exact .inl (.inr h1)
      · exact .inr h1
  refine ⟨rfl, v', hn, h.r.wrote hw (fun k hk hs => h.apart k hs hk), fun k hk hr' => ?_, fun k hk => ?_, h.br, h.below.trans (hw.below (fun k _ hs => h.bx k hs) hz)⟩
  · rcases key k hk with h1 | h1
    · exact h.apart k h1 hr'
    · have := h.r.lts k hr'; omega
  · rcases key k hk with h1 | h1
    · exact h.bx k h1
    · omega
theorem c_yAdd (n : Nt) (h : Both w0 w hx vx X hr vr R) (k0 : 0 ≤ n.kind) (k1 : n.kind ≤ 255) :
    Calls Try.prog 41 #[.pointer (some ⟨hr, 0, none⟩), .agg #[.int .i64 n.step, .int .i64 n.thread, .int .i64 n.kind, .int .i64 n.ref, .int .i64 n.bits, .int .i64 n.bucket, .int .i64 n.slot, .int .i64 n.value]] w fun e w' =>
      e = .returned (.int .i64 (ntErr R n)) ∧ ∃ vr', Both w0 w' hx vx X hr vr' (ntAdd R n) := by
  refine (c_rAdd n hr vr R w h.r k0 k1).mono ?_
  rintro e w' ⟨rfl, v', hn, hv, hw⟩
  have hz := h.below.size
  have key : ∀ k, NLset hr v' k → NLset hr vr k ∨ w.heap.size ≤ k := by
    rintro k (rfl | hk)
    · exact .inl (.inl rfl)
    · rcases hv k hk with h1 | h1
      · exact .inl (.inr h1)
      · exact .inr h1
  refine ⟨rfl, v', h.x.wrote hw (fun k hk hs => h.apart k hk hs), hn, fun k hk hr' => ?_, h.bx, fun k hk => ?_, h.below.trans (hw.below (fun k _ hs => h.br k hs) hz)⟩
  · rcases key k hr' with h1 | h1
    · exact h.apart k hk h1
    · have := h.x.lts k hk; omega
  · rcases key k hk with h1 | h1
    · exact h.br k h1
    · omega
end
theorem Both.new {w0 w : World} (hb : Below w0.heap.size w0 w) (N M : Nat) (hN : N = w.heap.size) (hM : M = w.heap.size + 1) : Both w0 ((w.alloc (.cells #[.slice none 0 0] 80)).alloc (.cells #[.slice none 0 0] 67)) N (.slice none 0 0) [] M (.slice none 0 0) [] := by
  have hx := (NLx.new hb N hN).go ((Below.refl _ _).alloc (Nat.le_refl _) (.cells #[.slice none 0 0] 67))
  have hz := hb.size
  refine ⟨hx.nl, ⟨?_, ?_, by simp; omega, (fun h => by cases h), World.ownsRow_nil _ _ _ _⟩, ?_, ?_, ?_, hx.below⟩
  · subst hM
    have : (w.alloc (.cells #[.slice none 0 0] 80)).heap.size = w.heap.size + 1 := by simp
    rw [← this]
    unfold World.cell?
    rw [heap_alloc_new]
    rfl
  · subst hM
    simp
  · rintro k (rfl | h) (h2 | h2)
    · omega
    · cases h2
    · cases h
    · cases h
  · rintro k (rfl | h)
    · omega
    · cases h
  · rintro k (rfl | h)
    · omega
    · cases h
theorem ntAdd_kinds {l : List Nt} {n : Nt} (h : ∀ m ∈ l, 0 ≤ m.kind ∧ m.kind ≤ 255) (hn : 0 ≤ n.kind ∧ n.kind ≤ 255) : ∀ m ∈ ntAdd l n, 0 ≤ m.kind ∧ m.kind ≤ 255 := by
  unfold ntAdd
  split
  · intro m hm
    rcases List.mem_append.1 hm with h1 | h1
    · exact h m h1
    · rw [List.mem_singleton] at h1; subst h1; exact hn
  · exact h

/-- Notes that were told, in memory from B on: they may be spoilt. -/
structure Kept (w : World) (B : Nat) (v : Value) (l : List Nt) : Prop where
  arr : Arr w v l.length 8 (rowOf ntc l)
  base : ∀ a n c, v = .slice (some a) n c → B ≤ a.block
  fresh : 0 < l.length → Fresh w B v
theorem Kept.lt {w : World} {B : Nat} {v : Value} {l : List Nt} (h : Kept w B v l) (h0 : 0 < l.length) {a : Addr} {n c : Nat} (he : v = .slice (some a) n c) : a.block < w.heap.size := by
  obtain ⟨b, o, c', e, _, _, hlt, _⟩ := h.arr.open h0 (by omega)
  rw [he] at e
  cases e
  exact hlt
theorem Kept.wrote {S : Nat → Prop} {w w' : World} {B : Nat} {v : Value} {l : List Nt} (h : Kept w B v l) (hw : Wrote S w w') (hS : 0 < l.length → ∀ a n c, v = .slice (some a) n c → ¬ S a.block) : Kept w' B v l := by
  by_cases h0 : 0 < l.length
  · refine ⟨h.arr.wrote hw (hS h0), h.base, fun _ a n c he => ?_⟩
    obtain ⟨h1, oo, h2, h3⟩ := h.fresh h0 a n c he
    exact ⟨h1, oo, h2, fun j => (hw.frozen (p := ⟨a.block, j, none⟩) (h.lt (a := a) h0 he) (hS h0 a n c he)).trans (h3 j)⟩
  · obtain ⟨hl, ao, c, rfl, hc, hm, hx⟩ := h.arr
    refine ⟨⟨hl, ao, c, rfl, hc, hm, fun j u hu => ?_⟩, h.base, fun h1 => absurd h1 h0⟩
    have := (List.getElem?_eq_some_iff.1 hu).1
    omega
theorem Kept.below {w w' : World} {B : Nat} {v : Value} {l : List Nt} (h : Kept w B v l) (hw : Below w.heap.size w w') : Kept w' B v l := h.wrote (S := fun _ => False) (Wrote.of_below hw) fun _ _ _ _ _ hf => hf
theorem NtNew.kept {w w' : World} {B : Nat} {v : Value} {l : List Nt} (h : NtNew w w' v l) (hB : B ≤ w.heap.size) : Kept w' B v l :=
  ⟨h.arr, fun a n c he => Nat.le_trans hB (h.fresh a n c he).1, fun _ a n c he => ⟨Nat.le_trans hB (h.fresh a n c he).1, (h.fresh a n c he).2⟩⟩
/-- What is told later lies elsewhere. -/
theorem Kept.apart {w w1 w' : World} {B : Nat} {v u : Value} {l m : List Nt} (h : Kept w B v l) (hs : w.heap.size ≤ w1.heap.size) (k : NtNew w1 w' u m) : 0 < l.length → ∀ a n c a' n' c', v = .slice (some a) n c → u = .slice (some a') n' c' → a.block ≠ a'.block := by
  intro h0 a n c a' n' c' he he' e
  have h1 := h.lt h0 he
  have h2 := (k.fresh a' n' c' he').1
  omega
def SpoilS (v : Value) (l : List Nt) : Nat → Prop := fun k => 0 < l.length ∧ ∃ a n c, v = .slice (some a) n c ∧ k = a.block
theorem c_spoil2 {w : World} {B : Nat} {v : Value} {l : List Nt} (h : Kept w B v l) : Calls Try.prog 48 #[v] w fun e w' => e = .returned (.tuple #[]) ∧ Wrote (SpoilS v l) w w' := c_spoil v l B w h.arr h.fresh
theorem spoil_base {w : World} {B k : Nat} {v : Value} {l : List Nt} (h : Kept w B v l) (hs : SpoilS v l k) : B ≤ k := by
  obtain ⟨_, a, n, c, he, rfl⟩ := hs
  exact h.base a n c he
theorem spoil_far {w : World} {B k hh : Nat} {v u : Value} {l : List Nt} (hl : ∀ k, NLset hh u k → k < B) (h : Kept w B v l) (hk : NLset hh u k) (hs : SpoilS v l k) : False := by
  have h1 := hl k hk
  have h2 := spoil_base h hs
  omega
theorem spoil_apart {v u : Value} {l m : List Nt} (h : 0 < l.length → ∀ a n c a' n' c', v = .slice (some a) n c → u = .slice (some a') n' c' → a.block ≠ a'.block) : 0 < m.length → ∀ a n c, u = .slice (some a) n c → ¬ SpoilS v l a.block := by
  rintro _ a' n' c' he' ⟨h0, a, n, c, he, e⟩
  exact h h0 a n c a' n' c' he he' e.symm
/-- What a list's header holds. -/
def hdOf (h : Nat) (w : World) : Value := (w.cell? ⟨h, 0, none⟩).getD undef
theorem hdOf_eq {h : Nat} {w : World} {v : Value} (hc : w.cell? ⟨h, 0, none⟩ = some v) : hdOf h w = v := by unfold hdOf; rw [hc]; rfl
theorem hdOf_cell {h : Nat} {w : World} {v : Value} (hc : w.cell? ⟨h, 0, none⟩ = some v) : w.cell? ⟨h, 0, none⟩ = some (hdOf h w) := by rw [hdOf_eq hc]; exact hc
theorem NtAt.andAll {w : World} {b o : Nat} {n : Nt} {Q : Prop} (h : NtAt w b o n) (q : Q) : w.cell? ⟨b, o, none⟩ = some (.int .i64 n.step) ∧ w.cell? ⟨b, o + 1, none⟩ = some (.int .i64 n.thread) ∧ w.cell? ⟨b, o + 2, none⟩ = some (.int .u8 n.kind) ∧ w.cell? ⟨b, o + 3, none⟩ = some (.int .i64 n.ref) ∧ w.cell? ⟨b, o + 4, none⟩ = some (.int .i64 n.bits) ∧ w.cell? ⟨b, o + 5, none⟩ = some (.int .i64 n.bucket) ∧ w.cell? ⟨b, o + 6, none⟩ = some (.int .i64 n.slot) ∧ w.cell? ⟨b, o + 7, none⟩ = some (.int .i64 n.value) ∧ Q := by
  obtain ⟨h0, h1, h2, h3, h4, h5, h6, h7⟩ := h.all
  exact ⟨h0, h1, h2, h3, h4, h5, h6, h7, q⟩
def boxW (w : World) (z0 z1 : Int) : World := w.alloc (.cells #[.int .u8 z0, .int .u8 z1] 63)
theorem boxW_size (w : World) (z0 z1 : Int) : (boxW w z0 z1).heap.size = w.heap.size + 1 := by simp [boxW]
theorem boxW_below (w : World) (z0 z1 : Int) : Below w.heap.size w (boxW w z0 z1) := (Below.refl _ _).alloc (Nat.le_refl _) _
theorem boxW_cells (w : World) (z0 z1 : Int) : (boxW w z0 z1).cell? ⟨w.heap.size, 0, none⟩ = some (.int .u8 z0) ∧ (boxW w z0 z1).cell? ⟨w.heap.size, 1, none⟩ = some (.int .u8 z1) := by
  unfold boxW World.cell?
  rw [heap_alloc_new]
  exact ⟨rfl, rfl⟩
attribute [local go_sem ↓] Go.wp_at_zero Go.wp_at_succ
set_option maxHeartbeats 4000000 in
set_option maxRecDepth 100000 in
theorem w_NotesPlay (v : Value) (l : List Nt) (at_ z0 z1 : Int) (w : World) (hg : ∀ n ∈ l, n.ok) (hv : Arr w v l.length 8 (rowOf ntc l)) (a0 : -9223372036854775808 ≤ at_) (a1 : at_ ≤ 9223372036854775807) (y0 : 0 ≤ z0) (y1 : z0 ≤ 255) (y2 : 0 ≤ z1) (y3 : z1 ≤ 255) :
    Calls Try.prog 12 #[v, .int .i64 at_, .agg #[.int .u8 z0, .int .u8 z1]] w fun e w' => e = .returned (.bool true) ∧ Below w.heap.size w w' := by
  obtain ⟨ao, cp, rfl, hcp, hm⟩ := hv.shape
  have hmx : l.length ≤ 9223372036854775807 := by unfold maxLen at hm; omega
  have HG := Lib.hid hg
  clear hg a0 a1
  by_cases hbig : 200 < l.length
  · have hd : decide ((200 : Int) < (l.length : Int)) = true := by simp; omega
    go_enter Try.func12, Try.ntmps12
    go_wp2_with (go_at_call 34; refine (viaC (c_lives09 _)).mono ?_; rintro e w' ⟨rfl, m1, rfl⟩)
    go_ret
    exact ⟨rfl, below_via ((Below.refl _ _).alloc (Nat.le_refl _) _) _⟩
  · have hd : decide ((200 : Int) < (l.length : Int)) = false := by simp; omega
    go_enter Try.func12, Try.ntmps12
    go_wp2_with fail
    refine (c_New _).mono ?_
    rintro e w' ⟨rfl, rfl⟩
    have n0 := Both.new (w0 := boxW w z0 z1) (Below.refl _ (boxW w z0 z1)) (w.heap.size + 1) (w.heap.size + 1 + 1) (by rw [boxW_size]) (by rw [boxW_size])
    have N0 := Lib.hid n0
    have hcl := boxW_cells w z0 z1
    have hbs := boxW_size w z0 z1
    have HCl := Lib.hid hcl
    have HBs := Lib.hid hbs
    have hbl := boxW_below w z0 z1
    clear n0 hcl hbs
    go_wp2_with fail
    go_loopw [9] (fun i wr => ∃ k : Nat, k ≤ l.length ∧ i = .int .i64 k ∧ ∃ (T : List Nt) (vx vr : Value), Both (boxW w z0 z1) wr (w.heap.size + 1) vx T (w.heap.size + 1 + 1) vr T ∧ T.length ≤ k ∧ ∀ m ∈ T, 0 ≤ m.kind ∧ m.kind ≤ 255) (fun i _ => l.length - (intOf i).toNat)
    case atStart => exact ⟨0, Nat.zero_le _, rfl, [], _, _, N0.out, Nat.le_refl _, fun m hm => by cases hm⟩
    case round =>
      obtain ⟨k, hk, rfl, T, vx, vr, hn, hT, hkinds⟩ := hrel
      have HN := Lib.hid hn
      have HK := Lib.hid hkinds
      clear hn hkinds
      by_cases hk2 : k < l.length
      · obtain ⟨b, o, c', he, -, -, hb, hx⟩ := hv.open (by omega) (by omega)
        cases he
        have hat0 := ntAt_row hx k hk2
        obtain ⟨q, hq⟩ : ∃ q, q = l[k] := ⟨_, rfl⟩
        rw [← hq] at hat0
        have hok := HG.out q (by rw [hq]; exact List.getElem_mem _)
        have hb1 : b < (boxW w z0 z1).heap.size := by rw [HBs.out]; omega
        have hat1 := (hat0.below hbl hb).below HN.out.below hb1
        obtain ⟨q0, q1, q2, q3, q4, q5, q6, q7⟩ := hat1.all
        have k0 := hok.k0
        have k1 := hok.k1
        have Hat0 := Lib.hid (hat0.below hbl hb)
        have HL := Lib.hid (ntAdd_len T q)
        have HT := Lib.hid hT
        have HE := Lib.hid (ntErr_cases T q)
        clear hx hq hat0 hat1 hok hv hT
        go_wp2_with fail
        go_region_with (first | (go_at_call 37; refine (c_xAdd q (HN.out.drew) k0 k1).mono ?_; rintro e w1 ⟨rfl, vx1, n1⟩; have N1 := Lib.hid n1; clear n1; obtain ⟨p0, p1, p2, p3, p4, p5, p6, p7⟩ := (Hat0.out.below N1.out.below hb1).all) | (go_at_call 42; refine (c_Other q _ k0 k1).mono ?_; rintro e w2 ⟨rfl, hb2⟩; have N2 := Lib.hid (N1.out.go hb2); clear hb2) | (go_at_call 41; refine (c_yAdd q N2.out k0 k1).mono ?_; rintro e w3 ⟨rfl, vr3, n3⟩; have N3 := Lib.hid n3; clear n3; obtain ⟨ar, cr, hvr, har, hmr⟩ := N3.out.ar.shape; have hhr := N3.out.r.head; rw [hvr] at hhr) | (go_at_call 36; refine (c_Count' _ _ _ ((ntAdd T q).length : Int) _ N3.out.x.head N3.out.ax rfl).mono ?_; rintro e w4 ⟨rfl, rfl⟩))
        all_goals
          go_wp2
          go_roundw
          case rel => exact ⟨k + 1, by omega, by go_num, ntAdd T q, _, _, N3.out, by have := HL.out; have := HT.out; omega, ntAdd_kinds HK.out ⟨k0, k1⟩⟩
          case measure => simp [intOf]; omega
      · have hTl : T.length ≤ 1048576 := by omega
        have HTl := Lib.hid hTl
        have LX := Lib.hid HN.out.x.lts
        have LR := Lib.hid HN.out.r.lts
        have hcz0 := (HN.out.below.cell (p := ⟨w.heap.size, 0, none⟩) (by rw [HBs.out]; exact Nat.lt_succ_self _)).trans HCl.out.1
        clear hv hk hTl hT
        go_wp2_with fail
        refine (c_Since _ vx T at_ _ HN.out.x.head HN.out.x.lt HN.out.ax HTl.out).mono ?_
        rintro e w1 ⟨⟨vA, rfl, nA⟩, hb1⟩
        have N1 := Lib.hid (HN.out.go hb1)
        have KA1 := Lib.hid (nA.kept (B := wr.heap.size) (Nat.le_refl _))
        have S1 := Lib.hid hb1.size
        clear nA hb1
        go_wp2_with fail
        refine (c_Of _ vx T z0 _ N1.out.x.head N1.out.x.lt N1.out.ax HTl.out).mono ?_
        rintro e w2 ⟨⟨vB, rfl, nB⟩, hb2⟩
        have APAB := Lib.hid (KA1.out.apart (Nat.le_refl _) nB)
        have N2 := Lib.hid (N1.out.go hb2)
        have KA2 := Lib.hid (KA1.out.below hb2)
        have KB2 := Lib.hid (nB.kept (B := wr.heap.size) S1.out)
        have S2 := Lib.hid hb2.size
        clear nB hb2
        go_wp2_with fail
        refine (c_All _ vx T _ N2.out.x.head N2.out.x.lt N2.out.ax HTl.out).mono ?_
        rintro e w3 ⟨⟨vC, rfl, nC⟩, hb3⟩
        have APAC := Lib.hid (KA2.out.apart (Nat.le_refl _) nC)
        have APBC := Lib.hid (KB2.out.apart (Nat.le_refl _) nC)
        have N3 := Lib.hid (N2.out.go hb3)
        have KA3 := Lib.hid (KA2.out.below hb3)
        have KB3 := Lib.hid (KB2.out.below hb3)
        have KC3 := Lib.hid (nC.kept (B := wr.heap.size) (Nat.le_trans S1.out S2.out))
        have S3 := Lib.hid hb3.size
        clear nC hb3
        go_wp2_with fail
        refine (c_rSince _ vr T at_ _ N3.out.r.head N3.out.r.lt N3.out.ar HTl.out).mono ?_
        rintro e w4 ⟨⟨uA, rfl, rA, _⟩, hb4⟩
        have N4 := Lib.hid (N3.out.go hb4)
        have KA4 := Lib.hid (KA3.out.below hb4)
        have KB4 := Lib.hid (KB3.out.below hb4)
        have KC4 := Lib.hid (KC3.out.below hb4)
        have RA := Lib.hid rA
        clear rA hb4
        go_wp2_with fail
        refine (c_Same vA uA (T.drop at_.toNat) _ KA4.out.arr RA.out (fun m hm => HK.out m (List.mem_of_mem_drop hm))).mono ?_
        rintro e w5 ⟨rfl, hb5⟩
        have N5 := Lib.hid (N4.out.go hb5)
        have KA5 := Lib.hid (KA4.out.below hb5)
        have KB5 := Lib.hid (KB4.out.below hb5)
        have KC5 := Lib.hid (KC4.out.below hb5)
        clear hb5
        go_wp2_with fail
        refine (c_rOf _ vr T z0 _ N5.out.r.head N5.out.r.lt N5.out.ar HTl.out).mono ?_
        rintro e w6 ⟨⟨uB, rfl, rB, _⟩, hb6⟩
        have N6 := Lib.hid (N5.out.go hb6)
        have KA6 := Lib.hid (KA5.out.below hb6)
        have KB6 := Lib.hid (KB5.out.below hb6)
        have KC6 := Lib.hid (KC5.out.below hb6)
        have RB := Lib.hid rB
        clear rB hb6
        go_wp2_with fail
        refine (c_Same vB uB (ntOf T z0) _ KB6.out.arr RB.out (fun m hm => HK.out m (List.mem_filter.1 hm).1)).mono ?_
        rintro e w7 ⟨rfl, hb7⟩
        have N7 := Lib.hid (N6.out.go hb7)
        have KA7 := Lib.hid (KA6.out.below hb7)
        have KB7 := Lib.hid (KB6.out.below hb7)
        have KC7 := Lib.hid (KC6.out.below hb7)
        clear hb7
        have hhr7 := N7.out.r.head
        go_wp2_with fail
        refine (c_Same vC vr T _ KC7.out.arr N7.out.ar HK.out).mono ?_
        rintro e w8 ⟨rfl, hb8⟩
        have N8 := Lib.hid (N7.out.go hb8)
        have KA8 := Lib.hid (KA7.out.below hb8)
        have KB8 := Lib.hid (KB7.out.below hb8)
        have KC8 := Lib.hid (KC7.out.below hb8)
        clear hb8
        go_wp2_with fail
        refine (c_spoil2 KA8.out).mono ?_
        rintro e w9 ⟨rfl, hw9⟩
        have N9 := Lib.hid (N8.out.wrote hw9 (fun k hk hs => spoil_far LX.out KA8.out hk hs) (fun k hk hs => spoil_far LR.out KA8.out hk hs) (fun k hs => Nat.le_trans HN.out.below.size (spoil_base KA8.out hs)))
        have KB9 := Lib.hid (KB8.out.wrote hw9 (spoil_apart APAB.out))
        have KC9 := Lib.hid (KC8.out.wrote hw9 (spoil_apart APAC.out))
        clear hw9
        go_wp2_with fail
        refine (c_spoil2 KB9.out).mono ?_
        rintro e w10 ⟨rfl, hw10⟩
        have N10 := Lib.hid (N9.out.wrote hw10 (fun k hk hs => spoil_far LX.out KB9.out hk hs) (fun k hk hs => spoil_far LR.out KB9.out hk hs) (fun k hs => Nat.le_trans HN.out.below.size (spoil_base KB9.out hs)))
        have KC10 := Lib.hid (KC9.out.wrote hw10 (spoil_apart APBC.out))
        clear hw10
        go_wp2_with fail
        refine (c_spoil2 KC10.out).mono ?_
        rintro e w11 ⟨rfl, hw11⟩
        have N11 := Lib.hid (N10.out.wrote hw11 (fun k hk hs => spoil_far LX.out KC10.out hk hs) (fun k hk hs => spoil_far LR.out KC10.out hk hs) (fun k hs => Nat.le_trans HN.out.below.size (spoil_base KC10.out hs)))
        clear hw11
        have hcz1 := (N11.out.below.cell (p := ⟨w.heap.size, 1, none⟩) (by rw [HBs.out]; exact Nat.lt_succ_self _)).trans HCl.out.2
        go_wp2_with fail
        refine (c_Dropped _ vx T z1 _ N11.out.x.head N11.out.ax HTl.out).mono ?_
        rintro e w12 ⟨rfl, hb12⟩
        have hczz := hcz1
        have hcz2 := (hb12.cell (p := ⟨w.heap.size, 1, none⟩) (by have := N11.out.x.lt; show w.heap.size < _; omega)).trans hczz
        have N12 := Lib.hid (N11.out.go hb12)
        clear hb12 hczz hcz1
        go_wp2_with fail
        refine (c_rDropped _ vr T z1 _ N12.out.r.head N12.out.ar HTl.out).mono ?_
        rintro e w' ⟨rfl, rfl⟩
        obtain ⟨dd, hdd⟩ : ∃ dd, dd = ntDropped z1 T := ⟨_, rfl⟩
        rw [← hdd]
        clear hdd
        go_wp2_with fail
        have hhz := N12.out.r.head
        go_region_held3 (fun w' => w'.cell? ⟨w.heap.size + 1 + 1, 0, none⟩ = some vr) (first | go_keep | exact NZ1.out.r.head | exact NZ2.out.r.head | exact NZ3.out.r.head) (first | (go_at_call 44; refine (c_All _ vx T _ N12.out.drew.x.head N12.out.drew.x.lt N12.out.drew.ax HTl.out).mono ?_; rintro e wz1 ⟨⟨vz, rfl, nz⟩, hbz1⟩; have NZ1 := Lib.hid (N12.out.drew.go hbz1); have KZ1 := Lib.hid nz.arr; clear nz hbz1) | (go_at_call 45; refine (c_Same vz vr T _ KZ1.out NZ1.out.ar HK.out).mono ?_; rintro e wz2 ⟨rfl, hbz2⟩; have NZ2 := Lib.hid (NZ1.out.go hbz2); clear hbz2) | (go_at_call 34; refine (c_lives09 _).mono ?_; rintro e wz3 ⟨rfl, hbz3⟩; have NZ3 := Lib.hid (NZ2.out.go hbz3); clear hbz3))
        all_goals
          go_wp2
          go_ret
          exact ⟨rfl, hbl.trans (NZ3.out.below.mono hbl.size)⟩
end Go.Proofs.Ytcgjopjjmgpobaa
