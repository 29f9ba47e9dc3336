/- Layer 26: the map of the verbs, made anew at each call. Layer 6: what At tells. -/
import Derived.Test.YtifkfhnbkjkakaaGreatDoorZrBaA
import Derived.Deep.Upon
import Derived.Test.YtifkfhnbkjkakaaGreatDoorZrBaG
namespace Go.Proofs.YtifkfhnbkjkakaaGreatDoor
set_option linter.unusedSimpArgs false
set_option linter.unusedVariables false
set_option maxRecDepth 100000
section
open Go.RowKit
def VB7 : Value := .func (.func 124) #[] #[]
def VB8 : Value := .func (.func 125) #[] #[]
def VB9 : Value := .func (.func 126) #[] #[]
def VB10 : Value := .func (.func 128) #[] #[]
def VES : Array MapEntry := #[⟨.int .u8 7, VB7, 0⟩, ⟨.int .u8 8, VB8, 1⟩, ⟨.int .u8 9, VB9, 2⟩, ⟨.int .u8 10, VB10, 3⟩]
def vbV (v : Int) : Value := if v = 7 then VB7 else if v = 8 then VB8 else if v = 9 then VB9 else if v = 10 then VB10 else .nilFunc
def vbIs (v : Int) : Bool := decide (v = 7 ∨ v = 8 ∨ v = 9 ∨ v = 10)
theorem vbU (W : World) : (underlying 154).run Tryz.prog W = .ok (.map 22 152) W := by kernel_rfl
theorem vbC (b : Bool) (key : Int) (W : World) : (Instr.checkKey b 10000 22 (.int .u8 key)).run Tryz.prog W = .ok () W := by kernel_rfl
theorem vbUk (W : World) : (underlying 22).run Tryz.prog W = .ok (.int .u8) W := by kernel_rfl
theorem vbZ (W : World) : (zeroValue 152).run Tryz.prog W = .ok .nilFunc W := by kernel_rfl
theorem vbMk (W : World) : (Instr.makeMap 154 none).run Tryz.prog W = .ok (.map (some W.heap.size)) (W.alloc (.map #[] 0)) := by
 unfold Instr.makeMap newObj
 simp only [Sem.run_bind, Sem.run, Result.andThen]
 rfl
theorem vbIns (W : World) (m : Nat) (hm : m = W.heap.size) (es : Array MapEntry) (clk : Nat) (key : Int) (v : Value) (h2 : Instr.findNow (.int .u8) (.int .u8 key) es.toList 0 = some none) :
 (Instr.mapUpdate 154 (.map (some m)) (.int .u8 key) v).run Tryz.prog (W.alloc (.map es clk)) = .ok () (W.alloc (.map (es.push ⟨.int .u8 key, v, clk⟩) (clk + 1))) := by
 subst hm
 have h : (W.alloc (.map es clk)).heap[W.heap.size]? = some (.map es clk) := by
  show (W.heap.push _)[W.heap.size]? = _
  simp
 have hf : ∀ W', (Instr.findKey 22 (.int .u8 key) es.toList).run Tryz.prog W' = .ok none W' := fun W' => by
  unfold Instr.findKey
  simp only [Sem.run_bind, vbUk, Result.andThen, h2]
  rfl
 unfold Instr.mapUpdate
 simp only [Sem.run_bind, vbU, Result.andThen, getObj, h, Sem.run, vbC, hf, setObj]
 have hs : ∀ a b : Obj, (W.heap.push a).setIfInBounds W.heap.size b = W.heap.push b := fun a b => by
  apply Array.ext_getElem?
  intro i
  rw [Array.getElem?_setIfInBounds, Array.getElem?_push, Array.getElem?_push, Array.size_push]
  by_cases e : W.heap.size = i
  · rw [if_pos e, if_pos (by omega), if_pos e.symm]
  · rw [if_neg e, if_neg fun x => e x.symm, if_neg fun x => e x.symm]
 show Result.ok () (⟨(W.heap.push _).setIfInBounds W.heap.size _, W.tape, W.drawn, W.os, W.output⟩ : World) = Result.ok () ⟨W.heap.push _, W.tape, W.drawn, W.os, W.output⟩
 rw [hs]
theorem c_verbs (w : World) : Calls Tryz.prog 64 #[] w fun e w' => e = .returned (.map (some w.heap.size)) ∧ w.alloc (.map VES 4) = w' := by
 obtain ⟨m, hm⟩ : ∃ m, m = w.heap.size := ⟨_, rfl⟩
 have h0 := vbMk w
 have h1 := vbIns w m hm #[] 0 7 VB7 rfl
 have h2 := vbIns w m hm #[⟨.int .u8 7, VB7, 0⟩] 1 8 VB8 rfl
 have h3 := vbIns w m hm #[⟨.int .u8 7, VB7, 0⟩, ⟨.int .u8 8, VB8, 1⟩] 2 9 VB9 rfl
 have h4 := vbIns w m hm #[⟨.int .u8 7, VB7, 0⟩, ⟨.int .u8 8, VB8, 1⟩, ⟨.int .u8 9, VB9, 2⟩] 3 10 VB10 rfl
 rw [← hm] at h0
 have h4 : (Instr.mapUpdate 154 (.map (some m)) (.int .u8 10) VB10).run Tryz.prog (w.alloc (.map (#[⟨.int .u8 7, VB7, 0⟩, ⟨.int .u8 8, VB8, 1⟩].push ⟨.int .u8 9, VB9, 2⟩) (2 + 1))) = .ok () (w.alloc (.map VES 4)) := h4
 have h3 : (Instr.mapUpdate 154 (.map (some m)) (.int .u8 9) VB9).run Tryz.prog (w.alloc (.map (#[⟨.int .u8 7, VB7, 0⟩].push ⟨.int .u8 8, VB8, 1⟩) (1 + 1))) = .ok () (w.alloc (.map (#[⟨.int .u8 7, VB7, 0⟩, ⟨.int .u8 8, VB8, 1⟩].push ⟨.int .u8 9, VB9, 2⟩) (2 + 1))) := h3
 have h2 : (Instr.mapUpdate 154 (.map (some m)) (.int .u8 8) VB8).run Tryz.prog (w.alloc (.map (#[].push ⟨.int .u8 7, VB7, 0⟩) (0 + 1))) = .ok () (w.alloc (.map (#[⟨.int .u8 7, VB7, 0⟩].push ⟨.int .u8 8, VB8, 1⟩) (1 + 1))) := h2
 obtain ⟨W0, e0⟩ : ∃ W, W = w.alloc (.map #[] 0) := ⟨_, rfl⟩
 obtain ⟨W1, e1⟩ : ∃ W, W = w.alloc (.map (#[].push ⟨.int .u8 7, VB7, 0⟩) (0 + 1)) := ⟨_, rfl⟩
 obtain ⟨W2, e2⟩ : ∃ W, W = w.alloc (.map (#[⟨.int .u8 7, VB7, 0⟩].push ⟨.int .u8 8, VB8, 1⟩) (1 + 1)) := ⟨_, rfl⟩
 obtain ⟨W3, e3⟩ : ∃ W, W = w.alloc (.map (#[⟨.int .u8 7, VB7, 0⟩, ⟨.int .u8 8, VB8, 1⟩].push ⟨.int .u8 9, VB9, 2⟩) (2 + 1)) := ⟨_, rfl⟩
 obtain ⟨W4, e4⟩ : ∃ W, W = w.alloc (.map VES 4) := ⟨_, rfl⟩
 rw [← e0] at h0 h1
 rw [← e1] at h1 h2
 rw [← e2] at h2 h3
 rw [← e3] at h3 h4
 rw [← e4] at h4 ⊢
 rw [← hm]
 unfold VB7 at h1
 unfold VB8 at h2
 unfold VB9 at h3
 unfold VB10 at h4
 clear e0 e1 e2 e3 e4 hm
 go_enter Tryz.func64, Tryz.ntmps64
 go_wp2
 go_ret
 exact ⟨rfl, rfl⟩
theorem vbNow (v : Int) : Instr.findNow (.int .u8) (.int .u8 v) VES.toList 0 = some (if v = 7 then some (0, VB7) else if v = 8 then some (1, VB8) else if v = 9 then some (2, VB9) else if v = 10 then some (3, VB10) else none) := by
 unfold VES
 simp only [Instr.findNow, Instr.sameNow, if_true]
 by_cases c7 : v = 7
 · subst c7; rfl
 · rw [if_neg c7, show (v == 7) = false by simpa using c7]
   dsimp only
   by_cases c8 : v = 8
   · subst c8; rfl
   · rw [if_neg c8, show (v == 8) = false by simpa using c8]
     dsimp only
     by_cases c9 : v = 9
     · subst c9; rfl
     · rw [if_neg c9, show (v == 9) = false by simpa using c9]
       dsimp only
       by_cases c10 : v = 10
       · subst c10; rfl
       · rw [if_neg c10, show (v == 10) = false by simpa using c10]
theorem vbLook {W : World} {m : Nat} (h : W.heap[m]? = some (.map VES 4)) (v : Int) (ok : Bool) : (Instr.lookup 154 (.map (some m)) (.int .u8 v) ok).run Tryz.prog W = .ok (if ok then .tuple #[vbV v, .bool (vbIs v)] else vbV v) W := by
 have hf : ∀ W', (Instr.findKey 22 (.int .u8 v) VES.toList).run Tryz.prog W' = .ok (if v = 7 then some (0, VB7) else if v = 8 then some (1, VB8) else if v = 9 then some (2, VB9) else if v = 10 then some (3, VB10) else none) W' := fun W' => by
  unfold Instr.findKey
  simp only [Sem.run_bind, vbUk, Result.andThen, vbNow]
  rfl
 unfold Instr.lookup
 have hp : ∀ {α : Type} (x : α) W', (pure x : Sem α).run Tryz.prog W' = .ok x W' := fun x W' => rfl
 simp only [Sem.run_bind, vbU, Result.andThen, getObj, h, Sem.run, vbC, hp, hf]
 unfold vbV vbIs
 by_cases c7 : v = 7
 · subst c7; cases ok <;> rfl
 · by_cases c8 : v = 8
   · subst c8; cases ok <;> rfl
   · by_cases c9 : v = 9
     · subst c9; cases ok <;> rfl
     · by_cases c10 : v = 10
       · subst c10; cases ok <;> rfl
       · rw [if_neg c7, if_neg c8, if_neg c9, if_neg c10, decide_eq_false (by omega), if_neg c7, if_neg c8, if_neg c9, if_neg c10]
         simp only [Sem.run_bind, vbZ, Result.andThen, hp]
         try (cases ok <;> rfl)
end
section
open Go.RowKit
section
variable {w : World} {O : Om}
theorem c_IAtB (r : Int) {ip : Nat} {l : List It} (h : Ar w O 3 ip l) (hl : l.length ≤ 1000000) :
 Calls Tryz.prog 35 #[.pointer (some ⟨ip, 0, none⟩), .int .i64 r] w fun e w' => e = .returned (.tuple #[.agg #[.string (itAt l r).key, .string (itAt l r).val, .int .u32 (itAt l r).fl, .int .u64 (itAt l r).id, .int .i64 (itAt l r).dies, .int .i64 (itAt l r).gen], .bool (itIs l r)]) ∧ Below w.heap.size w w' := by
 by_cases hr : 1 ≤ r ∧ r ≤ l.length
 · have hi : (r - 1).toNat < l.length := by omega
   have e1 : l[(r - 1).toNat]? = some (itAt l r) := by unfold itAt; rw [if_pos hr, List.getElem?_eq_getElem hi]; rfl
   have e2 : itIs l r = true := decide_eq_true hr
   rw [e2]
   exact c_IAt_yes r _ _ h hl e1 (by omega)
 · have e1 : itAt l r = it0 := by unfold itAt; rw [if_neg hr]
   have e2 : itIs l r = false := decide_eq_false hr
   rw [e1, e2]
   exact c_IAt_no r h hl hr
end
end
end Go.Proofs.YtifkfhnbkjkakaaGreatDoor
