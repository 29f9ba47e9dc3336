/- Layer 24: VictimsOne: what a Victim by itself comes to. -/
import Derived.Test.YtlcibfpibklbdaaGreatVwF
import Derived.Test.YtlcibfpibklbdaaGreatVcD
import Derived.Test.YtlcibfpibklbdaaGreatSta
namespace Go.Proofs.YtlcibfpibklbdaaGreat
set_option linter.unusedSimpArgs false
open Go.RowKit Go.Shelf
set_option linter.unusedVariables false
/-- A block whose cells are known, of some owner. -/
structure Bk (W : World) (G : Om) (g b : Nat) (ty : TypeId) (cs : List Value) : Prop where
  o : G b = g
  h : W.heap[b]? = some (.cells cs.toArray ty (0, 0))
theorem Bk.lt {W : World} {G : Om} {g b : Nat} {ty : TypeId} {cs : List Value} (h : Bk W G g b ty cs) : b < W.heap.size := by
  rcases Nat.lt_or_ge b W.heap.size with q | q
  · exact q
  · have := h.h; rw [Array.getElem?_eq_none q] at this; cases this
theorem Bk.ext {S : Nat → Prop} {W W' : World} {G G' : Om} {g b : Nat} {ty : TypeId} {cs : List Value} (h : Bk W G g b ty cs) (e : Ext S G W G' W') (hs : ¬ S g) : Bk W' G' g b ty cs :=
  ⟨(e.lo b h.lt).trans h.o, (e.wr.block b h.lt fun k => hs (by have := k.1; rwa [h.o] at this)).trans h.h⟩
theorem Bk.below {W W' : World} {G : Om} {g b : Nat} {ty : TypeId} {cs : List Value} (h : Bk W G g b ty cs) (hb : Below W.heap.size W W') : Bk W' G g b ty cs := ⟨h.o, (hb.block b h.lt).trans h.h⟩
theorem Ext.row {S : Nat → Prop} {O : Om} {w : World} {b g : Nat} (cs : Array Value) (h : ∀ j, O j ≠ 0 → j < w.heap.size) (hb : O b = g) (hg : g ≠ 0) (hS : S g) : Ext S O w O (w.setRow b cs) := by
  refine ⟨fun _ _ => rfl, fun j hj => by rw [size_setRow]; exact h j hj, fun j hj hn => by have := h j hn; omega, ⟨rfl, rfl, rfl, by rw [size_setRow]; exact Nat.le_refl _, fun k hk hn => ?_⟩⟩
  simp only [World.setRow, Array.getElem?_modify]
  rw [if_neg fun e => hn (by subst e; rw [hb]; exact ⟨hS, hg⟩)]
theorem byArg_len2 (z : Int) : (byArg z).length = 1 := rfl
structure VmI (s0 s : AW) (i : Nat) : Prop where
  lo : ∀ x, x ≤ 4294967296 → s.M x = s0.M x
  mq : ∀ r : Int, 1 ≤ r → s.M (plRef r) = 0 ∨ (s.M (plRef r) % 2 = 1 ∧ 1 ≤ s.M (plRef r) ∧ s.M (plRef r) ≤ 20)
  nt : s.nt = s0.nt
  it : s.it = s0.it
  n0 : 0 ≤ s.n
  n1 : s.n ≤ 1000 + i
theorem VmI.more {s0 s : AW} {i : Nat} {r v : Int} (h : VmI s0 s i) (hr : 1 ≤ r) (hv : v % 2 = 1 ∧ 1 ≤ v ∧ v ≤ 20) : VmI s0 (awStore (plRef r) v s) (i + 1) := by
  have hb := plRef_bd hr
  refine ⟨fun x hx => ?_, fun q hq => ?_, h.nt, h.it, by show 0 ≤ s.n + 1; have := h.n0; omega, by show s.n + 1 ≤ _; have := h.n1; omega⟩
  · show upd s.M _ _ x = _; rw [upd_other _ (by omega), h.lo x hx]
  · show upd s.M _ _ _ = 0 ∨ _
    show upd s.M _ _ _ = 0 ∨ (upd s.M _ _ _ % 2 = 1 ∧ 1 ≤ upd s.M _ _ _ ∧ upd s.M _ _ _ ≤ 20)
    by_cases c : plRef q = plRef r
    · rw [c, upd_same]; exact .inr hv
    · rw [upd_other _ c]; exact h.mq q hq
theorem VmI.start {b : Int} {ks : List ByteArray} {s : AW} (F : FulS b ks s) : VmI s s 0 := by
  refine ⟨fun _ _ => rfl, fun r hr => ?_, rfl, rfl, F.n0, by have := F.n1; omega⟩
  have hb := plRef_bd hr
  have hs := fnvSize_bd b
  exact .inl (F.fil.oth _ (by omega) (Or.inr (by omega)))
def ld64 (a : Addr) : Sem (Array Value) := loadCellsFrom a 0 64 #[]
@[go_sem ↓] theorem run_ld64 (P : Program) (a : Addr) (W : World) : Sem.run P (loadCellsFrom a 0 64 #[]) W = Sem.run P (ld64 a) W := rfl
@[go_sem ↓] theorem run_ld64' (P : Program) (a : Addr) (W : World) : Sem.run P (loadCells a 64) W = Sem.run P (ld64 a) W := rfl
theorem Bk.ld {W : World} {G : Om} {g b : Nat} {ty : TypeId} {cs : List Value} (h : Bk W G g b ty cs) (hl : cs.length = 64) : (ld64 ⟨b, 0, none⟩).run Tryz.prog W = .ok cs.toArray W := by
  have := run_loadCells_list (P := Tryz.prog) (w := W) ⟨b, 0, none⟩ cs (fun j v hv => by
    have hadd : (⟨b, 0, none⟩ : Addr).add j = ⟨b, j, none⟩ := by unfold Addr.add; split <;> simp_all
    rw [hadd]; exact cell_of_blk h.h hv)
  rw [hl] at this
  exact this
theorem ir_map (kd : IntKind) (I : Nat → Int) : ir kd I 64 = ((List.range 64).map I).map (Value.int kd) := by
  unfold ir
  rw [List.map_map]
  refine List.map_congr_left fun j hj => ?_
  have := List.mem_range.1 hj
  rw [if_pos this]; rfl
theorem eq_ir64u (I : Nat → Int) (W : World) : (Op.equalIn 10000 36 (.agg (ir .u64 I 64).toArray) (.agg (ir .u64 I 64).toArray)).run Tryz.prog W = .ok true W := by
  rw [ir_map, run_equalIn_ints W 9998 36 27 64 .u64 Tryz.underlying36 Tryz.underlying27 (fun w => by kernel_rfl) _ _ (by simp) (by simp)]
  simp
theorem eq_ir64i (I : Nat → Int) (W : World) : (Op.equalIn 10000 85 (.agg (ir .i64 I 64).toArray) (.agg (ir .i64 I 64).toArray)).run Tryz.prog W = .ok true W := by
  rw [ir_map, run_equalIn_ints W 9998 85 3 64 .i64 Tryz.underlying85 Tryz.underlying3 (fun w => by kernel_rfl) _ _ (by simp) (by simp)]
  simp
theorem stC_same {t : Int} {M M' : Int → Int} {n : Nat} (h : ∀ i : Nat, i < n → M' (plAt t i).item = M (plAt t i).item) (r : Nat) : stC t M' n r = stC t M n r := by
  induction n with
  | zero => rfl
  | succ n ih => unfold stC; rw [ih fun i hi => h i (by omega), h n (by omega)]
/-- What a Victim's run comes to: what the law asks of it. -/
structure VoR (b a o h : Int) (ks : List ByteArray) (s : AW) (A k : Nat) (p : Spt) (isb : Bool) (c : Nat) (y : AW) (z : Vcm) : Prop where
  run : runN vcOver vcStep 99 (s, vcNew b h) = (c, y, z)
  ov : vcOver z = true
  got : vcGot z = (p, isb)
  mi : ∀ j : Nat, j < 64 → mkI y.M j = mkI (vcM b a o s.M k) j
  od : ∀ i : Nat, i < 64 → y.M (64 + i) % 2 = 0
  st : ∀ n : Nat, n < A → StAt b ks y.M (plAt b n)
  wd : y.M 2 = b
  it : y.it = s.it
  nl : y.nt.length ≤ 1
def VoS (b a o : Int) (M : Int → Int) (i : Nat) : Prop := ∀ j, j < i → 1 ≤ vcI b a o M j ∧ M (plRef (vcI b a o M j)) % 2 = 1
theorem VoS.more {b a o : Int} {M : Int → Int} {i : Nat} (h : VoS b a o M i) (h1 : 1 ≤ vcI b a o M i) (h2 : M (plRef (vcI b a o M i)) % 2 = 1) : VoS b a o M (i + 1) := fun j hj => by
  by_cases c : j = i
  · subst c; exact ⟨h1, h2⟩
  · exact h j (by omega)
theorem mkI_at {M : Int → Int} {j : Nat} (hj : j ≠ 0) : mkI M j = M (plRef j) := by unfold mkI; rw [if_neg hj]
theorem ir64_put {kd : IntKind} {I J : Nat → Int} {r : Nat} {v : Int} (hr : r < 64) (h : J r = v) (ho : ∀ j, j < 64 → j ≠ r → J j = I j) : (ir kd I 64).set r (.int kd v) = ir kd J 64 := by
  refine List.ext_getElem? fun i => ?_
  rw [List.getElem?_set, ir_len]
  by_cases hi : i < 64
  · rw [ir64_get hi, ir64_get hi]
    by_cases c : r = i
    · subst c; rw [if_pos rfl, if_pos hr, h]
    · rw [if_neg c, ho i hi (fun e => c e.symm)]
  · rw [List.getElem?_eq_none (by rw [ir_len]; omega), if_neg (by omega), List.getElem?_eq_none (by rw [ir_len]; omega)]
theorem ir64_congr {kd : IntKind} {I J : Nat → Int} (h : ∀ j, j < 64 → I j = J j) : ir kd I 64 = ir kd J 64 := by
  unfold ir
  refine List.map_congr_left fun j hj => ?_
  have := List.mem_range.1 hj
  rw [if_pos this, if_pos this, h j this]
/-- What the first slots of a key have, in a filled table with marks. -/
structure VoB (b a o : Int) (M : Int → Int) : Prop where
  bd : ∀ j, j < vcN a o → 0 ≤ vcI b a o M j ∧ vcI b a o M j ≤ 40
  di : ∀ i j, i < vcN a o → j < vcN a o → vcI b a o M i = vcI b a o M j → vcI b a o M i ≠ 0 → i = j
  ok : ∀ j, j < 8 → (vcP b a o j).ok
theorem VoB.of {b a o h : Int} {ks : List ByteArray} {s0 s : AW} {i : Nat} (F : FulS b ks s0) (hks : ks.length ≤ 40) (H : VcB b a o h) (h0 : 0 ≤ h) (h1 : h < 18446744073709551616) (V : VmI s0 s i) : VoB b a o s.M := by
  have hN := vcN_le a o
  have ok : ∀ i, i < 8 → (vcP b a o i).ok := fun i hi => H.ok h0 h1 i hi
  have e : ∀ j, j < 8 → vcI b a o s.M j = s0.M (vcP b a o j).item := fun j hj => by unfold vcI; rw [V.lo _ (by have := (ok j hj).item; omega)]
  refine ⟨fun j hj => ?_, fun i j hi hj he hz => ?_, ok⟩
  · rw [e j (by omega)]; exact vf_item F hks (ok j (by omega)) (vcP_b _ _ _ _)
  · rw [e i (by omega)] at he hz
    rw [e j (by omega)] at he
    exact vcP_inj hi hj (F.fil.inj _ _ (ok i (by omega)) (ok j (by omega)) (vcP_b _ _ _ _) (vcP_b _ _ _ _) he hz)
/-- The mark of the next slot's item is as it was. -/
theorem VoB.at {b a o : Int} {M : Int → Int} (H : VoB b a o M) {k : Nat} (hk : k < vcN a o) (hS : VoS b a o M k) (hz : 1 ≤ vcI b a o M k) : vcM b a o M k (plRef (vcI b a o M k)) = M (plRef (vcI b a o M k)) :=
  vcM_out _ fun j hj q => by
    have := H.di k j hk (by omega) (plRef_inj hz (hS j hj).1 q) (by omega)
    omega
section
variable {b a o h : Int} {ks : List ByteArray} {s0 s : AW} {n A k : Nat}
theorem vo_slot (F : FulS b ks s0) (V : VmI s0 s n) {M : Int → Int} (hM : ∀ x, x ≤ 4294967296 → M x = s.M x) (q : Nat) : StAt b ks M (plAt b q) := by
  have hp := plAt_ok b q
  have h1 := hp.tags
  have h2 := hp.item
  have hpb : (plAt b q).b = b := plAt_b F.fil.b0 F.fil.b1 q
  refine StAt.of F.fil.b0 (by have := F.fil.b1; omega) hpb ?_
  unfold FilAt
  rw [hM _ (by omega), hM _ (by omega), V.lo _ (by omega), V.lo _ (by omega)]
  exact F.fil.slot _ hp hpb
theorem vo_ver (F : FulS b ks s0) (V : VmI s0 s n) (i : Nat) (hi : i < 64) : s.M (64 + i) = 0 := by
  rw [V.lo _ (by omega)]
  have := fnvSize_bd b
  exact F.fil.oth _ (by omega) (Or.inl (by omega))
/-- An empty slot is met. -/
theorem VoR.free (F : FulS b ks s0) (hks : ks.length ≤ 40) (H : VcB b a o h) (h0 : 0 ≤ h) (h1 : h < 18446744073709551616) (V : VmI s0 s n) (hk : k < vcN a o) (hS : VoS b a o s.M k) (hz : vcI b a o s.M k = 0) :
    ∃ c y z, VoR b a o h ks s A k (vcP b a o k) true c y z ∧ y.nt = [] ∧ ∀ x, x ≤ 4294967296 → y.M x = s.M x := by
  have VO := VoB.of F hks H h0 h1 V
  have hb1 := H.b1
  have hlow : ∀ j, j < 8 → (vcP b a o j).item ≤ 4294967296 := fun j hj => by have := (VO.ok j hj).item; omega
  obtain ⟨c, y, z, g1, g2, g3, g4, g5, g6, g7⟩ := vc_freeM (s := s) H.b0 (by omega) H.ha H.ho k hk (fun j hj => ⟨(hS j hj).1, by have := VO.bd j (by omega); omega⟩) hlow (fun i j hi hj e => VO.di i j (by omega) (by omega) e (by have := (hS i hi).1; omega)) (fun j hj => (hS j hj).2) hz 99 (by decide)
  have hM : ∀ x, x ≤ 4294967296 → y.M x = s.M x := fun x hx => by rw [g5]; exact vcM_low (fun j hj => (hS j hj).1) x hx
  refine ⟨c, y, z, ⟨g1, by unfold vcOver; rw [g2]; rfl, by unfold vcGot; rw [if_pos g3, g4], fun j hj => by rw [g5], fun i hi => by rw [hM _ (by omega), vo_ver F V i hi]; rfl, fun q hq => vo_slot F V hM q, by rw [hM 2 (by decide), V.lo 2 (by decide)]; exact F.fil.wd, g7, by rw [g6, V.nt, F.nt]; exact Nat.zero_le _⟩, by rw [g6, V.nt, F.nt], hM⟩
/-- There is no such slot. -/
theorem VoR.fail (F : FulS b ks s0) (hks : ks.length ≤ 40) (H : VcB b a o h) (h0 : 0 ≤ h) (h1 : h < 18446744073709551616) (V : VmI s0 s n) (hS : VoS b a o s.M (vcN a o)) :
    ∃ c y z, VoR b a o h ks s A (vcN a o) ⟨0, 0, 0⟩ false c y z ∧ y.nt = [] ∧ (∀ x, x ≤ 4294967296 → y.M x = s.M x) ∧ y.M = vcM b a o s.M (vcN a o) := by
  have VO := VoB.of F hks H h0 h1 V
  have hb1 := H.b1
  have hlow : ∀ j, j < 8 → (vcP b a o j).item ≤ 4294967296 := fun j hj => by have := (VO.ok j hj).item; omega
  obtain ⟨c, y, z, g1, g2, g3, g5, g6, g7⟩ := vc_fail (s := s) H.b0 (by omega) H.ha H.ho (fun j hj => ⟨(hS j hj).1, by have := VO.bd j (by omega); omega⟩) hlow (fun i j hi hj e => VO.di i j (by omega) (by omega) e (by have := (hS i hi).1; omega)) (fun j hj => (hS j hj).2) 99 (by decide)
  have hM : ∀ x, x ≤ 4294967296 → y.M x = s.M x := fun x hx => by rw [g5]; exact vcM_low (fun j hj => (hS j hj).1) x hx
  refine ⟨c, y, z, ⟨g1, by unfold vcOver; rw [g2]; rfl, by unfold vcGot; rw [g3]; rfl, fun j hj => by rw [g5], fun i hi => by rw [hM _ (by omega), vo_ver F V i hi]; rfl, fun q hq => vo_slot F V hM q, by rw [hM 2 (by decide), V.lo 2 (by decide)]; exact F.fil.wd, g7, by rw [g6, V.nt, F.nt]; exact Nat.zero_le _⟩, by rw [g6, V.nt, F.nt], hM, g5⟩
theorem plAt_of {b : Int} (b0 : 1 ≤ b) (b1 : b ≤ 3) {p : Spt} (hp : p.ok) (hb : p.b = b) : ∃ n : Nat, (n : Int) < plSpots b ∧ plAt b n = p := by
  have h1 := hp.q0
  have h2 := hp.q1
  have h3 := hp.s0
  have h4 := hp.s1
  have hs := plSpots_one b0 (by omega : b ≤ 12)
  rw [hb] at h2
  refine ⟨(p.q * 4 + p.s).toNat, by omega, ?_⟩
  have hn : (((p.q * 4 + p.s).toNat : Nat) : Int) = p.q * 4 + p.s := by omega
  rw [hn]
  have hbb := plAt_b b0 b1 (p.q * 4 + p.s)
  have hm : (p.q * 4 + p.s) % plSpots b = p.q * 4 + p.s := Int.emod_eq_of_lt (by omega) (by omega)
  have ho : plOld b = b := plOld_one b0 (by omega)
  obtain ⟨pb, pq, ps⟩ := p
  dsimp only at *
  unfold plAt at hbb ⊢
  dsimp only at hbb
  have hN : plAtN b (pq * 4 + ps) = pq * 4 + ps := by
    unfold plAtN
    rw [ho, hm, if_pos (by omega)]
  rw [hbb, hN, hm, hb]
  congr 1 <;> omega
/-- An item is dropped. -/
theorem VoR.drop (F : FulS b ks s0) (hks : ks.length ≤ 40) (H : VcB b a o h) (h0 : 0 ≤ h) (h1 : h < 18446744073709551616) (V : VmI s0 s n) (hA : (A : Int) = plSpots b) (hk : k < vcN a o) (hS : VoS b a o s.M k) (hz : 1 ≤ vcI b a o s.M k) (he : s.M (plRef (vcI b a o s.M k)) % 2 = 0) (hc6 : s.M 6 = 0) :
    ∃ c y z, VoR b a o h ks s A k (vcP b a o k) true c y z ∧ (∃ n1 h2, y.nt = [⟨n1, h2, 1, vcI b a o s.M k, (vcP b a o k).b, (vcP b a o k).q, (vcP b a o k).s, 0⟩]) ∧ y.M 6 = 18446744073709551615 ∧ y.M (vcP b a o k).item = 0 ∧ twTag (y.M (vcP b a o k).tags) (vcP b a o k).s = 0 ∧
      ∀ r : Nat, stC b y.M A r = stC b s.M A r - if (r : Int) = vcI b a o s.M k then 1 else 0 := by
  have VO := VoB.of F hks H h0 h1 V
  have hb0 := H.b0
  have hb1 := H.b1
  have hN := vcN_le a o
  have hlow : ∀ j, j < 8 → (vcP b a o j).item ≤ 4294967296 := fun j hj => by have := (VO.ok j hj).item; omega
  have h40 := VO.bd k hk
  have hSk : ∀ j, j < k + 1 → 1 ≤ vcI b a o s.M j := fun j hj => by
    by_cases c : j = k
    · subst c; exact hz
    · exact (hS j (by omega)).1
  obtain ⟨c, y, z, g1, g2, g3, g4, g5, ⟨n1, h2, g6⟩, g7⟩ := vc_drop (s := s) H.b0 (by omega) H.ha H.ho k hk (fun j hj => ⟨hSk j hj, by have := VO.bd j (by omega); omega⟩) hlow (fun i j hi hj e => VO.di i j (by omega) (by omega) e (by have := hSk i hi; omega)) (fun j hj => (hS j hj).2) he 99 (by decide)
  have hpo := VO.ok k (by omega)
  obtain ⟨it, hit⟩ : ∃ it, it = vcI b a o s.M k := ⟨_, rfl⟩
  obtain ⟨p, hp⟩ : ∃ p, p = vcP b a o k := ⟨_, rfl⟩
  have hpb : p.b = b := by rw [hp]; exact vcP_b _ _ _ _
  have hiM : s.M p.item = it := by rw [hit, hp]; rfl
  rw [← hp] at hpo g4 g5 g6 ⊢
  rw [← hit] at g6 hz h40 ⊢
  have q1 := hpo.tags
  have q2 := hpo.item
  have q3 := hpo.ver
  obtain ⟨M1, hM1⟩ : ∃ M1, M1 = vcM b a o s.M k := ⟨_, rfl⟩
  have lo : ∀ x, x ≤ 4294967296 → M1 x = s.M x := fun x hx => by rw [hM1]; exact vcM_low (fun j hj => (hS j hj).1) x hx
  rw [← hM1] at g5
  have E := vcOut_eq M1 p hpo
  rw [← g5] at E
  have hwd : s.M 2 = b := by rw [V.lo 2 (by decide)]; exact F.fil.wd
  have hword := F.fil.word p hpo hpb
  rw [← V.lo _ (by omega)] at hword
  have hnt : y.nt = [⟨n1, h2, 1, it, p.b, p.q, p.s, 0⟩] := by
    rw [g6, V.nt, F.nt]
    refine (ntAdd_fine (l := []) (x := ⟨n1, h2, 1, it, p.b, p.q, p.s, 0⟩) (by show (1 : Int) ≤ 1; omega) (by show (1 : Int) ≤ 9; omega) (by decide) fun x hx => by cases hx).trans ?_
    rfl
  have other : ∀ q : Spt, q.ok → q.b = b → q ≠ p → y.M q.item = s.M q.item ∧ twTag (y.M q.tags) q.s = twTag (s.M q.tags) q.s := fun q hq hqb hne => by
    have r1 := hq.tags
    have r2 := hq.item
    have e1 : q.item ≠ p.item := fun e => hne (Spt.item_inj hq hpo (by rw [hqb, hpb]) e)
    refine ⟨by rw [E, if_neg (by omega), if_neg (by omega), if_neg e1, if_neg (Spt.item_ne_tags hq hpo (by rw [hqb, hpb])), lo _ (by omega)], ?_⟩
    have e2 : q.tags ≠ p.item := fun e => Spt.item_ne_tags hpo hq (by rw [hqb, hpb]) e.symm
    rw [E, if_neg (by omega), if_neg (by omega), if_neg e2]
    by_cases e3 : q.tags = p.tags
    · rw [if_pos e3, lo _ (by omega), e3, twTag_with hword.1 hpo.s0 hpo.s1 (by omega) (by omega) hq.s0 hq.s1, if_neg]
      intro es
      apply hne
      have hqq : q.q = p.q := by
        by_cases x : q.q = p.q
        · exact x
        · exact absurd e3 (Spt.tags_ne hq hpo (by rw [hqb, hpb]) x)
      obtain ⟨x1, x2, x3⟩ := q
      obtain ⟨x1', x2', x3'⟩ := p
      dsimp only at *
      simp_all
    · rw [if_neg e3, lo _ (by omega)]
  have hpi : y.M p.item = 0 := by rw [E, if_neg (by omega), if_neg (by omega), if_pos rfl]
  have hpt : twTag (y.M p.tags) p.s = 0 := by
    rw [E, if_neg (by omega), if_neg (by omega), if_neg (fun e => Spt.item_ne_tags hpo hpo rfl e.symm), if_pos rfl, lo _ (by omega), twTag_with hword.1 hpo.s0 hpo.s1 (by omega) (by omega) hpo.s0 hpo.s1, if_pos rfl]
  obtain ⟨k0, hk0, hkp⟩ := plAt_of hb0 hb1 hpo hpb
  refine ⟨c, y, z, ⟨g1, by unfold vcOver; rw [g2]; rfl, by unfold vcGot; rw [if_pos g3, g4], fun j hj => ?_, fun i hi => ?_, fun q hq => ?_, by rw [E, if_neg (by decide), if_neg (by omega), if_neg (by omega), if_neg (by omega), lo _ (by decide)]; exact hwd, g7, by rw [hnt]; exact Nat.le_refl _⟩, ⟨n1, h2, hnt⟩, by rw [E, if_pos rfl, lo _ (by decide), hc6]; rfl, hpi, hpt, fun r => ?_⟩
  · by_cases hj0 : j = 0
    · subst hj0; rfl
    · have := plRef_bd (r := (j : Int)) (by omega)
      rw [mkI_at hj0, mkI_at hj0, E, if_neg (by omega), if_neg (by omega), if_neg (by omega), if_neg (by omega), hM1]
  · rw [E, if_neg (by omega)]
    by_cases cv : (64 + (i : Int)) = p.ver
    · rw [if_pos cv, ← cv, lo _ (by omega), vo_ver F V i hi]; rfl
    · rw [if_neg cv, if_neg (by omega), if_neg (by omega), lo _ (by omega), vo_ver F V i hi]; rfl
  · by_cases c : plAt b q = p
    · rw [c]; exact .inl ⟨hpt, hpi⟩
    · have hq2 := other _ (plAt_ok b q) (plAt_b hb0 hb1 q) c
      have := vo_slot F V (M := s.M) (fun _ _ => rfl) q
      unfold StAt at this ⊢
      rw [hq2.1, hq2.2]
      exact this
  · have hr0 : s.M (plAt b k0).item = ((it.toNat : Nat) : Int) := by rw [hkp, hiM]; omega
    have := stC_less (t := b) (M := s.M) (M' := y.M) (n := A) (k := k0) (r := it.toNat) (by omega) (fun i hi hne => (other _ (plAt_ok b i) (plAt_b hb0 hb1 i) (fun e => hne (by
      have q2 := plAt_inj hb0 hb1 (e.trans hkp.symm)
      rw [Int.emod_eq_of_lt (by omega) (by omega), Int.emod_eq_of_lt (by omega) (by omega)] at q2
      omega))).1) (by rw [hkp]; exact hpi) hr0 (by omega) r
    rw [this]
    congr 1
    by_cases x : r = it.toNat
    · rw [if_pos x, if_pos (by omega)]
    · rw [if_neg x, if_neg (by omega)]
end
end Go.Proofs.YtlcibfpibklbdaaGreat
