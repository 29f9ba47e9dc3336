/- Layer 28: Gets: made, run by themselves, what they got; Gets that do nothing. -/
import Derived.Test.YthpedifjclofoaaGreatGt3
import Derived.Test.YthpedifjclofoaaGreatSeY
namespace Go.Proofs.YthpedifjclofoaaGreat
set_option linter.unusedSimpArgs false
open Go.RowKit
set_option linter.unusedVariables false
theorem m_GtOver (a : Addr) (w : World) : (method 543 59 (.pointer (some a)) "Over").run Tryz.prog w = .ok (24, .pointer (some a)) w := by kernel_rfl
theorem m_GtStep (a : Addr) (w : World) : (method 543 59 (.pointer (some a)) "Step").run Tryz.prog w = .ok (40, .pointer (some a)) w := by kernel_rfl
def ganV (an : Int) (x : It) : Value := .agg #[.int .u8 an, .int .u64 0, .string x.key, .string x.val, .int .u32 x.fl, .int .u64 x.id, .int .i64 x.dies, .int .i64 x.gen]
theorem On1.tc (s : AW) (T : Tc) : On1 s (awOf (tcStep ⟨s.M, s.n, s.la, T⟩) s) := by
  unfold tcStep awOf
  split
  · exact ⟨by dsimp only; omega, Int.le_refl _⟩
  · split
    · exact ⟨Int.le_refl _, by show s.n ≤ s.n + 1; omega⟩
    · split
      · exact ⟨Int.le_refl _, by show s.n ≤ s.n + 1; omega⟩
      · split
        · exact ⟨Int.le_refl _, by show s.n ≤ s.n + 1; omega⟩
        · exact ⟨Int.le_refl _, by show s.n ≤ s.n + 1; omega⟩
theorem gtStep_n (t : Nat) (key : ByteArray) (tries : Int) (x : AW × Gtm) : (gtStep t key tries x).1.n ≤ x.1.n + 1 ∧ x.1.n ≤ (gtStep t key tries x).1.n := by
  show On1 x.1 (gtStep t key tries x).1
  obtain ⟨s, z⟩ := x
  obtain ⟨ln, lk, tk, fd, tc, ref, ep, pt, an, im⟩ := z
  unfold gtStep
  dsimp only
  split
  · exact lkStep_n key (s, _)
  · exact lkStep_n key (s, lk)
  · split
    · exact (On1.tk t s tk).note _ _ _ _ _ _
    · exact On1.tk t s tk
  · exact On1.fd key (s, fd)
  · exact On1.load _ _
  · exact ⟨Int.le_refl _, by show s.n ≤ s.n + 1; omega⟩
  · exact On1.tc s tc
  · exact On1.refl _
section
variable {w w0 : World} {O O0 : Om} {B : Wb} {f : Cf} {s : AW} {k X t : Nat} {key : ByteArray} {z : Gtm}
theorem c_GtRun (m N : Nat) (z : Gtm) (hP : PW w O B f s) (hX : GtAt w O k X t key z) (hg : goodN gtOver (gtStep t key f.t) (fun y => gtB key y.1 y.2) N (s, z) = true) (t0 : 0 ≤ f.t) (t1 : f.t ≤ 1000000) (ht : t < 64) (hkz : key.size ≤ maxLen) (hk : 10 ≤ k) (hhi : ∀ j, O j ≠ 0 → j < w.heap.size) (n0 : 0 ≤ s.n) (n1 : s.n + m ≤ 4611686018427387904) :
    Calls Tryz.prog 22 #[.pointer (some ⟨B.p, 0, none⟩), .iface 59 (.pointer (some ⟨X, 0, none⟩)), .int .i64 m] w (RP (SX k (k + 12)) w O (.int .i64 (runN gtOver (gtStep t key f.t) m (s, z)).1) fun W G => PW W G B f (runN gtOver (gtStep t key f.t) m (s, z)).2.1 ∧ GtAt W G k X t key (runN gtOver (gtStep t key f.t) m (s, z)).2.2) := by
  refine (c_RunG gtOver (gtStep t key f.t) (SX k (k + 12)) (fun W G y => PW W G B f y.1 ∧ GtAt W G k X t key y.2 ∧ ∃ N, goodN gtOver (gtStep t key f.t) (fun y => gtB key y.1 y.2) N y = true) B.p X 59 24 40 (m_GtOver _) (m_GtStep _)
    (run_enter Tryz.func24 (by kernel_rfl) (by kernel_rfl)) (run_enter Tryz.func40 (by kernel_rfl) (by kernel_rfl)) ?_ ?_ (gtStep_n t key f.t) w O m (s, z) ⟨hP, hX, N, hg⟩ hhi n0 n1).mono ?_
  · rintro W G ⟨s1, y⟩ ⟨h1, h2, h3⟩
    exact c_GtOver h2.idle
  · rintro W G ⟨s1, y⟩ ⟨h1, h2, N1, h3⟩ ho hh q0 q1
    obtain ⟨hp, M, h4⟩ := goodN_step h3 ho
    have hz : y.ln ≠ 0 := fun e => by dsimp only at ho; unfold gtOver at ho; rw [e] at ho; cases ho
    refine (c_GtStep h1 h2 hp hz t0 t1 ht hkz hk hh q0 q1).mono ?_
    rintro e w' ⟨rfl, G, e1, p1, l1⟩
    exact ⟨_, rfl, G, e1, p1, l1, M, h4⟩
  · intro e w' hp2
    exact RP.mono hp2 (fun _ _ h => h) fun W1 G1 h => ⟨h.1, h.2.1⟩
set_option maxHeartbeats 2000000 in
set_option maxRecDepth 100000 in
theorem c_NewGet (t : Nat) (ht : t < 64) (hok : kyOk key = true) (hkz : key.size ≤ maxLen) (hk : 10 ≤ k) (hhi : ∀ j, O j ≠ 0 → j < w.heap.size) :
    Calls Tryz.prog 21 #[.int .i64 t, .string key] w fun e w' => ∃ X, RP (fun t => k ≤ t ∧ t ≤ k + 12) w O (.pointer (some ⟨X, 0, none⟩)) (fun W G => GtAt W G k X t key gtNew) e w' := by
  have HO := Lib.hid (fun W => c_kyOk key W hkz)
  rw [hok] at HO
  have HNT := Lib.hid (c_NewTakeE t w O (k + 5) (by omega) (by omega) (by omega) hhi)
  clear hhi hok hkz
  go_enter Tryz.func21, Tryz.ntmps21
  go_wp2_with fail
  refine (HO.out _).mono ?_
  rintro e w' ⟨rfl, rfl⟩
  go_wp2_with fail
  refine HNT.out.mono ?_
  rintro e w1 ⟨T, rfl, G1, e1, t1⟩
  have HTO := Lib.hid (c_TakeOver T _ w1 (t1.c 3 _ rfl) false (.inr ⟨_, _, _, rfl, rfl⟩))
  have HE := Lib.hid e1
  clear e1 t1 HNT
  go_wp2_with fail
  refine HTO.out.mono ?_
  rintro e w' ⟨rfl, rfl⟩
  go_wp2_with fail
  go_ret
  obtain ⟨O2, e2, x2, -⟩ := alloc_ob HE.out.hi k (gtCs t key true .nilIface gtNew).toArray 111 w1.heap.size rfl
  exact ⟨_, rfl, O2, (HE.out.mono (T := fun t => k ≤ t ∧ t ≤ k + 12) fun t _ ht => by omega).trans (e2.mono fun t _ ht => by omega), .nilIface, x2, rfl⟩
set_option maxHeartbeats 2000000 in
set_option maxRecDepth 100000 in
theorem c_GtGotC (an ep pt : Int) (x : It) (hI : GIdle w X true) (q5 : w.cell? ⟨X, 5, none⟩ = some (.int .u64 ep)) (q6 : w.cell? ⟨X, 6, none⟩ = some (.int .i64 pt)) (q7 : w.cell? ⟨X, 7, none⟩ = some (.int .u8 an)) (q8 : w.cell? ⟨X, 8, none⟩ = some (.int .u64 0)) (q9 : w.cell? ⟨X, 9, none⟩ = some (.string x.key)) (q10 : w.cell? ⟨X, 10, none⟩ = some (.string x.val)) (q11 : w.cell? ⟨X, 11, none⟩ = some (.int .u32 x.fl)) (q12 : w.cell? ⟨X, 12, none⟩ = some (.int .u64 x.id)) (q13 : w.cell? ⟨X, 13, none⟩ = some (.int .i64 x.dies)) (q14 : w.cell? ⟨X, 14, none⟩ = some (.int .i64 x.gen)) :
    Calls Tryz.prog 23 #[.pointer (some ⟨X, 0, none⟩)] w fun e w' => e = .returned (.tuple #[ganV an x, .int .u64 ep, .int .i64 pt]) ∧ Below w.heap.size w w' := by
  unfold ganV
  have hl := blk_lt q7
  dsimp only at hl
  have hne : ¬ X = w.heap.size := by omega
  have hne2 : ¬ w.heap.size = X := by omega
  have hI2 : GIdle (w.alloc (.cells #[.int .u8 0, .int .u64 0, .string ⟨#[]⟩, .string ⟨#[]⟩, .int .u32 0, .int .u64 0, .int .i64 0, .int .i64 0] 34)) X true := by
    rcases hI with ⟨h, a, b⟩ | ⟨h, -⟩
    · exact .inl ⟨h, ((alloc_below w _).cell (p := ⟨X, 2, none⟩) hl).trans a, ((alloc_below w _).cell (p := ⟨X, 3, none⟩) hl).trans b⟩
    · cases h
  have HO := Lib.hid (c_GtOver hI2)
  clear hI hI2 hl
  go_enter Tryz.func23, Tryz.ntmps23
  go_wp2_with fail
  refine HO.out.mono ?_
  rintro e w' ⟨rfl, rfl⟩
  go_upto_region 3 with fail
  go_region_held3 (fun w' => w'.cell? ⟨X, 5, none⟩ = some (.int .u64 ep) ∧ w'.cell? ⟨X, 6, none⟩ = some (.int .i64 pt) ∧ w'.cell? ⟨X, 7, none⟩ = some (.int .u8 an) ∧ w'.cell? ⟨X, 8, none⟩ = some (.int .u64 0) ∧ w'.cell? ⟨X, 9, none⟩ = some (.string x.key) ∧ w'.cell? ⟨X, 10, none⟩ = some (.string x.val) ∧ w'.cell? ⟨X, 11, none⟩ = some (.int .u32 x.fl) ∧ w'.cell? ⟨X, 12, none⟩ = some (.int .u64 x.id) ∧ w'.cell? ⟨X, 13, none⟩ = some (.int .i64 x.dies) ∧ w'.cell? ⟨X, 14, none⟩ = some (.int .i64 x.gen)) (first | (refine ⟨?_, ?_, ?_, ?_, ?_, ?_, ?_, ?_, ?_, ?_⟩ <;> (simp [go_sem, hne, hne2, q5, q6, q7, q8, q9, q10, q11, q12, q13, q14]; done)) | (simp [go_sem, hne, hne2, q5, q6, q7, q8, q9, q10, q11, q12, q13, q14]; done) | go_keep)
    (fail)
  rename_i hheld
  clear hheld
  go_wp2_with fail
  exact bodyPost_ret (v := .tuple #[.agg #[.int .u8 an, .int .u64 0, .string x.key, .string x.val, .int .u32 x.fl, .int .u64 x.id, .int .i64 x.dies, .int .i64 x.gen], .int .u64 ep, .int .i64 pt]) (by simp [results, Tryz.results23, go_sem]) rfl ⟨rfl, (alloc_below _ _).drew⟩
theorem c_GtGot (h : GtAt w O k X t key z) (hn : z.ln = 0) : Calls Tryz.prog 23 #[.pointer (some ⟨X, 0, none⟩)] w fun e w' => e = .returned (.tuple #[ganV z.an z.im, .int .u64 z.ep, .int .i64 z.pt]) ∧ Below w.heap.size w w' := by
  have hi := h.idle
  rw [hn] at hi
  obtain ⟨pv, ho, -⟩ := h.ex
  exact c_GtGotC z.an z.ep z.pt z.im hi (ho.c 5 _ rfl) (ho.c 6 _ rfl) (ho.c 7 _ rfl) (ho.c 8 _ rfl) (ho.c 9 _ rfl) (ho.c 10 _ rfl) (ho.c 11 _ rfl) (ho.c 12 _ rfl) (ho.c 13 _ rfl) (ho.c 14 _ rfl)
theorem c_GtGotNil (w : World) : Calls Tryz.prog 23 #[.pointer none] w fun e w' => e = .returned (.tuple #[ganV 0 it0, .int .u64 0, .int .i64 0]) ∧ Below w.heap.size w w' := by
  unfold ganV it0
  dsimp only
  go_enter Tryz.func23, Tryz.ntmps23
  go_wp2_with fail
  refine (c_GtOverNil _).mono ?_
  rintro e w' ⟨rfl, rfl⟩
  go_wp2_with fail
  exact bodyPost_ret (v := .tuple #[.agg #[.int .u8 0, .int .u64 0, .string ⟨#[]⟩, .string ⟨#[]⟩, .int .u32 0, .int .u64 0, .int .i64 0, .int .i64 0], .int .u64 0, .int .i64 0]) (by simp [results, Tryz.results23, go_sem]) rfl ⟨rfl, alloc_below _ _⟩
/-- A Get that is over and got nothing. -/
def VoidG (w : World) (v : Value) : Prop := v = .pointer none ∨ ∃ X, v = .pointer (some ⟨X, 0, none⟩) ∧ w.cell? ⟨X, 2, none⟩ = some (.bool false) ∧ w.cell? ⟨X, 3, none⟩ = some .nilIface ∧ w.cell? ⟨X, 5, none⟩ = some (.int .u64 0) ∧ w.cell? ⟨X, 6, none⟩ = some (.int .i64 0) ∧ w.cell? ⟨X, 7, none⟩ = some (.int .u8 0) ∧ w.cell? ⟨X, 8, none⟩ = some (.int .u64 0) ∧ w.cell? ⟨X, 9, none⟩ = some (.string ⟨#[]⟩) ∧ w.cell? ⟨X, 10, none⟩ = some (.string ⟨#[]⟩) ∧ w.cell? ⟨X, 11, none⟩ = some (.int .u32 0) ∧ w.cell? ⟨X, 12, none⟩ = some (.int .u64 0) ∧ w.cell? ⟨X, 13, none⟩ = some (.int .i64 0) ∧ w.cell? ⟨X, 14, none⟩ = some (.int .i64 0)
theorem VoidG.ptr {v : Value} (h : VoidG w v) : ∃ a, v = .pointer a := by
  rcases h with rfl | ⟨X, rfl, -⟩
  · exact ⟨_, rfl⟩
  · exact ⟨_, rfl⟩
theorem VoidG.below {w' : World} {v : Value} (h : VoidG w v) (hb : Below w.heap.size w w') : VoidG w' v := by
  rcases h with rfl | ⟨X, rfl, h⟩
  · exact .inl rfl
  · have hl := blk_lt h.1
    dsimp only at hl
    have k : ∀ j u, w.cell? ⟨X, j, none⟩ = some u → w'.cell? ⟨X, j, none⟩ = some u := fun j u hu => (hb.cell (p := ⟨X, j, none⟩) hl).trans hu
    obtain ⟨a, b, c, d, e, f, g, i, j, l, m, n⟩ := h
    exact .inr ⟨X, rfl, k _ _ a, k _ _ b, k _ _ c, k _ _ d, k _ _ e, k _ _ f, k _ _ g, k _ _ i, k _ _ j, k _ _ l, k _ _ m, k _ _ n⟩
theorem c_vgOver {v : Value} (h : VoidG w v) : Calls Tryz.prog 24 #[v] w fun e w' => e = .returned (.bool true) ∧ w = w' := by
  rcases h with rfl | ⟨X, rfl, a, b, -⟩
  · exact c_GtOverNil w
  · exact c_GtOver (.inl ⟨rfl, a, b⟩)
set_option maxRecDepth 100000 in
theorem c_vgStep {v : Value} (wv : Value) (h : VoidG w v) : Calls Tryz.prog 40 #[v, wv] w fun e w' => e = .returned (.bool true) ∧ w = w' := by
  have HO := Lib.hid (c_vgOver h)
  obtain ⟨a, rfl⟩ := h.ptr
  clear h
  go_enter Tryz.func40, Tryz.ntmps40
  go_wp2_with fail
  refine HO.out.mono ?_
  rintro e w' ⟨rfl, rfl⟩
  go_wp2_with fail
  refine HO.out.mono ?_
  rintro e w' ⟨rfl, rfl⟩
  go_wp2_with fail
  go_ret
  exact ⟨rfl, rfl⟩
theorem c_vgGot {v : Value} (h : VoidG w v) : Calls Tryz.prog 23 #[v] w fun e w' => e = .returned (.tuple #[ganV 0 it0, .int .u64 0, .int .i64 0]) ∧ Below w.heap.size w w' := by
  rcases h with rfl | ⟨X, rfl, a, b, c, d, e, f, g, i, j, l, m, n⟩
  · exact c_GtGotNil w
  · exact c_GtGotC 0 0 0 it0 (.inl ⟨rfl, a, b⟩) c d e f g i j l m n
set_option maxRecDepth 100000 in
/-- A Get that goes on, without a world. -/
theorem c_GtStepNil {X : Nat} (h : GIdle w X false) : Calls Tryz.prog 40 #[.pointer (some ⟨X, 0, none⟩), .pointer none] w fun e w' => e = .returned (.bool false) ∧ w = w' := by
  have HO := Lib.hid (c_GtOver h)
  clear h
  go_enter Tryz.func40, Tryz.ntmps40
  go_wp2_with fail
  refine HO.out.mono ?_
  rintro e w' ⟨rfl, rfl⟩
  go_wp2_with fail
  refine HO.out.mono ?_
  rintro e w' ⟨rfl, rfl⟩
  go_wp2_with fail
  go_ret
  exact ⟨rfl, rfl⟩
set_option maxHeartbeats 2000000 in
set_option maxRecDepth 100000 in
theorem c_NewGetV (t : Int) (key : ByteArray) (hbad : ¬ (0 ≤ t ∧ t < 64) ∨ kyOk key = false) (hz : key.size ≤ maxLen) (w : World) :
    Calls Tryz.prog 21 #[.int .i64 t, .string key] w fun e w' => ∃ X, e = .returned (.pointer (some ⟨X, 0, none⟩)) ∧ Below w.heap.size w w' ∧ w.heap.size ≤ X ∧ VoidG w' (.pointer (some ⟨X, 0, none⟩)) := by
  have HO := Lib.hid (fun W => c_kyOk key W hz)
  have hv : ∀ (W : World) (ty : TypeId), VoidG (W.alloc (.cells #[.int .i64 t, .string key, .bool false, .nilIface, .int .i64 0, .int .u64 0, .int .i64 0, .int .u8 0, .int .u64 0, .string ⟨#[]⟩, .string ⟨#[]⟩, .int .u32 0, .int .u64 0, .int .i64 0, .int .i64 0] ty)) (.pointer (some ⟨W.heap.size, 0, none⟩)) := by
    intro W ty
    have h : ∀ j u, [Value.int .i64 t, .string key, .bool false, .nilIface, .int .i64 0, .int .u64 0, .int .i64 0, .int .u8 0, .int .u64 0, .string ⟨#[]⟩, .string ⟨#[]⟩, .int .u32 0, .int .u64 0, .int .i64 0, .int .i64 0][j]? = some u → (W.alloc (.cells #[.int .i64 t, .string key, .bool false, .nilIface, .int .i64 0, .int .u64 0, .int .i64 0, .int .u8 0, .int .u64 0, .string ⟨#[]⟩, .string ⟨#[]⟩, .int .u32 0, .int .u64 0, .int .i64 0, .int .i64 0] ty)).cell? ⟨W.heap.size, j, none⟩ = some u := fun j u hu => cell_newA W #[.int .i64 t, .string key, .bool false, .nilIface, .int .i64 0, .int .u64 0, .int .i64 0, .int .u8 0, .int .u64 0, .string ⟨#[]⟩, .string ⟨#[]⟩, .int .u32 0, .int .u64 0, .int .i64 0, .int .i64 0] ty _ rfl j u (by simpa using hu)
    exact .inr ⟨_, rfl, h 2 _ rfl, h 3 _ rfl, h 5 _ rfl, h 6 _ rfl, h 7 _ rfl, h 8 _ rfl, h 9 _ rfl, h 10 _ rfl, h 11 _ rfl, h 12 _ rfl, h 13 _ rfl, h 14 _ rfl⟩
  have HV := Lib.hid hv
  obtain ⟨ok, hok⟩ : ∃ b, b = kyOk key := ⟨_, rfl⟩
  rw [← hok] at HO hbad
  clear hok hz hv
  cases ok with
  | false =>
    clear hbad
    go_enter Tryz.func21, Tryz.ntmps21
    go_wp2_with fail
    refine (HO.out _).mono ?_
    rintro e w' ⟨rfl, rfl⟩
    go_wp2_with fail
    go_ret
    exact ⟨_, rfl, alloc_below _ _, Nat.le_refl _, HV.out _ _⟩
  | true =>
    have hb : ¬ (0 ≤ t ∧ t < 64) := hbad.elim id (fun h => by cases h)
    have HNT := Lib.hid (c_NewTakeBadS t w hb)
    clear hb hbad
    go_enter Tryz.func21, Tryz.ntmps21
    go_wp2_with fail
    refine (HO.out _).mono ?_
    rintro e w' ⟨rfl, rfl⟩
    go_wp2_with fail
    refine HNT.out.mono ?_
    rintro e w1 ⟨rfl, hw⟩
    have hb1 : Below w.heap.size w w1 := by rw [← hw]; exact alloc_below _ _
    have h3 : w1.cell? ⟨w.heap.size, 3, none⟩ = some .nilFunc := by rw [← hw]; exact cell_newA w #[.int .i64 t, .int .u64 0, .bool false, .nilFunc] _ _ rfl 3 _ rfl
    have HTO := Lib.hid (c_TakeOver w.heap.size .nilFunc w1 h3 true (.inl ⟨rfl, rfl⟩))
    have HB := Lib.hid hb1
    clear hb1 h3 hw HNT
    go_wp2_with fail
    refine HTO.out.mono ?_
    rintro e w' ⟨rfl, rfl⟩
    go_wp2_with fail
    go_ret
    exact ⟨_, rfl, HB.out.trans ((alloc_below _ _).mono HB.out.size), HB.out.size, HV.out _ _⟩
end
end Go.Proofs.YthpedifjclofoaaGreat
