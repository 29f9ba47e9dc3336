/- Layer 13: nestboxlaw13.Slot. -/
import Derived.Test.YthpedifjclofoaaGreatBaH
import Derived.BigQuiet
import Derived.Deep.QuietTactic
namespace Go.Proofs.YthpedifjclofoaaGreat
set_option linter.unusedSimpArgs false
open Go.RowKit Go.Shelf
set_option linter.unusedVariables false
section
variable {w : World} {O : Om} {B : Wb} {f : Cf} {s : AW} {k : Nat}
set_option maxHeartbeats 2000000 in
set_option maxRecDepth 100000 in
theorem c_Slot (p : Spt) (hP : PW w O B f s) (hp : p.ok) (hhi : ∀ j, O j ≠ 0 → j < w.heap.size) :
    Calls Tryz.prog 46 #[.pointer (some ⟨B.p, 0, none⟩), .agg #[.int .i64 p.b, .int .i64 p.q, .int .i64 p.s]] w fun e w' => e = .returned (.tuple #[.int .i64 (twTag (s.M p.tags) p.s), .int .u64 (s.M p.item)]) ∧ Below w.heap.size w w' := by
  have hit := hp.item
  have htg := hp.tags
  have hq2 := hp.q2
  have hs0 := hp.s0
  have hs1 := hp.s1
  have HI := Lib.hid (fun W => c_Item p.b p.q p.s W (by have := hp.b0; omega) (by have := hp.b1; omega) (by have := hp.q0; omega) (by omega) (by omega) (by omega))
  have HT := Lib.hid (fun W => c_Tags p.b p.q W (by have := hp.b0; omega) (by have := hp.b1; omega) (by have := hp.q0; omega) (by omega))
  have HPI := Lib.hid (fun (W : World) (h : Below w.heap.size w W) => c_Peek p.item (hP.below hhi h).ce (by omega) (by omega))
  have HPT := Lib.hid (fun (W : World) (h : Below w.heap.size w W) => c_Peek p.tags (hP.below hhi h).ce (by omega) (by omega))
  have hbt := hP.bd p.tags
  have HTG := Lib.hid (fun W => c_TwTag (s.M p.tags) p.s W hbt.1 hbt.2 hs0 hs1)
  have hia2 : plItem p.b p.q p.s = p.item := rfl
  have hta2 : plTags p.b p.q = p.tags := rfl
  rw [hia2] at HI
  rw [hta2] at HT
  obtain ⟨ia, hia⟩ : ∃ ia, ia = p.item := ⟨_, rfl⟩
  obtain ⟨ta, hta⟩ : ∃ ta, ta = p.tags := ⟨_, rfl⟩
  rw [← hia] at HI HPI
  rw [← hta] at HT HPT HTG
  rw [← hia, ← hta]
  obtain ⟨b, hb⟩ : ∃ z, z = p.b := ⟨_, rfl⟩
  obtain ⟨q, hq⟩ : ∃ z, z = p.q := ⟨_, rfl⟩
  obtain ⟨sl, hs⟩ : ∃ z, z = p.s := ⟨_, rfl⟩
  rw [← hb, ← hq, ← hs] at HI
  rw [← hb, ← hq] at HT
  rw [← hs] at HTG
  rw [← hb, ← hq, ← hs]
  have p0 := hP.wo.c0
  have pl := hP.wo.lt
  obtain ⟨M, hM⟩ : ∃ M, M = s.M := ⟨_, rfl⟩
  rw [← hM] at HPT HTG HPI ⊢
  obtain ⟨tt, htt⟩ : ∃ z, z = twTag (M ta) sl := ⟨_, rfl⟩
  rw [← htt] at HTG ⊢
  clear hP hhi hp hit htg hq2 hs0 hs1 hbt hia2 hta2 hia hta hb hq hs hM htt
  go_enter Tryz.func46, Tryz.ntmps46
  go_wp2_with fail
  obtain ⟨W, hW⟩ : ∃ W, W = w.alloc (.cells #[.int .i64 b, .int .i64 q, .int .i64 sl] 82) := ⟨_, rfl⟩
  have hB : Below w.heap.size w W := by rw [hW]; exact (Below.refl _ _).alloc (Nat.le_refl _) _
  have y0 : W.cell? ⟨w.heap.size, 0, none⟩ = some (.int .i64 b) := by rw [hW]; simp
  have y1 : W.cell? ⟨w.heap.size, 1, none⟩ = some (.int .i64 q) := by rw [hW]; simp
  have y2 : W.cell? ⟨w.heap.size, 2, none⟩ = some (.int .i64 sl) := by rw [hW]; simp
  have hl : w.heap.size < W.heap.size := by rw [hW]; simp
  have p1 := (hB.cell (p := ⟨B.p, 0, none⟩) pl).trans p0
  have pl1 : B.p < W.heap.size := Nat.lt_of_lt_of_le pl hB.size
  have HPX : Hid (∀ x, x = ta ∨ x = ia → ∀ e : Later W, Calls Tryz.prog 15 #[.pointer (some ⟨B.c, 0, none⟩), .int .u64 x] (via W e) fun e_1 w' => e_1 = .returned (.int .u64 (M x)) ∧ via W e = w') := Lib.hid (by
    rintro x (rfl | rfl) e
    · exact HPT.out (via W e) (hB.trans ((via_below W e).mono hB.size))
    · exact HPI.out (via W e) (hB.trans ((via_below W e).mono hB.size)))
  have HB := Lib.hid hB
  rw [← hW]
  clear hW hB p0 pl HPI HPT
  refine wp_region_via (by kernel_rfl) (by kernel_rfl) ?_
  repeat (go_big_quiet_step ((first
    | (go_at_call 92; exact viaB (HT.out _))
    | (go_at_call 93; exact viaB (HI.out _))
    | (go_at_call 91; exact viaB (HTG.out _))
    | (go_at_call 15; exact viaS (HPX.out _ (by first | exact .inl rfl | exact .inr rfl) _)))))
  refine wpQuiet_nil ?_
  rintro _ ⟨e, rfl⟩
  go_wp2_with fail
  exact bodyPost_ret (v := .tuple #[.int .i64 tt, .int .u64 (M ia)]) (by simp [results, Tryz.results46, go_sem]) rfl ⟨rfl, HB.out.trans ((via_below W e).mono HB.out.size)⟩
end
end Go.Proofs.YthpedifjclofoaaGreat
