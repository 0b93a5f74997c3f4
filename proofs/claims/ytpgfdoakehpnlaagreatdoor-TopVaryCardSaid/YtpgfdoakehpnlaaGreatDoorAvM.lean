import Derived.Test.YtpgfdoakehpnlaaGreatDoorRows
import Derived.WalkKit
import Derived.ProofKit
import Derived.OpenShut
import Derived.WalkLawsBesides
import Derived.WalkSpells
import Derived.Handy
import Derived.Lib.Hide
import Derived.Deep.Cut
import Derived.Laws.CopyRow
import Derived.Laws.AppendOwn
import Derived.Maps.AppendAt
import Derived.Defers
import Derived.Recover
set_option linter.unusedVariables false
set_option linter.unusedSimpArgs false
namespace Go.AM
open Go Go.Proofs Go.ChangeShapes Go.WideShapes Go.ChangeAt Go.RowKit
set_option linter.unusedVariables false
set_option linter.unusedSimpArgs false
/-! # guard.Call, where its function returns -/
/-- Block g is just the cells cs of type t, none frozen. -/
def Blk (w : World) (g : Nat) (t : TypeId) (cs : Array Value) : Prop := w.heap[g]? = some (.cells cs t (0, 0))
section
variable {w w' : World} {g : Nat} {t : TypeId} {cs : Array Value}
theorem Blk.lt (h : Blk w g t cs) : g < w.heap.size := (Array.getElem?_eq_some_iff.1 h).1
theorem Blk.cell (h : Blk w g t cs) (i : Nat) : w.cell? ⟨g, i, none⟩ = cs[i]? := cell_of_row w g i cs t (0, 0) h
theorem Blk.frozen (h : Blk w g t cs) (i : Nat) : w.frozen? ⟨g, i, none⟩ = false := frozen_of_row w g i cs t h
theorem Blk.put (h : Blk w g t cs) (i : Nat) (u : Value) : Blk (w.setCell ⟨g, i, none⟩ u) g t (cs.setIfInBounds i u) := heap_setCell_same w g i cs t u h
theorem Blk.far (h : Blk w g t cs) {p : Addr} (hp : g ≠ p.block) (u : Value) : Blk (w.setCell p u) g t cs := (heap_setCell_other w p g u hp).trans h
end
/-- From w to w' no block has turned but those of X. -/
structure Kep (X : Nat → Prop) (w w' : World) : Prop where
  os : w'.os = w.os
  tape : w'.tape = w.tape
  output : w'.output = w.output
  size : w'.heap.size = w.heap.size
  block : ∀ k, ¬ X k → w'.heap[k]? = w.heap[k]?
theorem Kep.refl (X : Nat → Prop) (w : World) : Kep X w w := ⟨rfl, rfl, rfl, rfl, fun _ _ => rfl⟩
theorem Kep.setCell {X : Nat → Prop} {w w1 : World} (h : Kep X w w1) {p : Addr} (hp : X p.block) (u : Value) : Kep X w (w1.setCell p u) :=
  ⟨h.os, h.tape, h.output, by simpa [World.setCell] using h.size, fun k hx => (heap_setCell_other w1 p k u (by rintro rfl; exact hx hp)).trans (h.block k hx)⟩
theorem hmf (fn : Fn) (first cap : Array Value) (w : World) : (Instr.makeFunc fn first cap).run Tryz.prog w = .ok (.func fn first cap) w := rfl
theorem results_cc {P : Program} {w : World} {fn : Func} {p q : Tmp} {ty ty' : TypeId} (h : fn.results = #[.cell p ty, .cell q ty']) (tmps : Array Value) (u v : Value) (a b : Addr)
    (hp : tmps.getD p undef = .pointer (some a)) (hq : tmps.getD q undef = .pointer (some b)) (hu : (loadVar ty a).run P w = .ok u w) (hv : (loadVar ty' b).run P w = .ok v w) :
    (results fn tmps).run P w = .ok (.tuple #[u, v]) w := by
  have hp' : tmps[p]?.getD undef = .pointer (some a) := by simpa using hp
  have hq' : tmps[q]?.getD undef = .pointer (some b) := by simpa using hq
  simp [results, h, hp', hq', asAddr, hu, hv]
theorem load381 {w : World} {g : Nat} {x y : Value} (h : Blk w g 381 #[x, y]) : (loadVar 381 ⟨g, 0, none⟩).run Tryz.prog w = .ok (.agg #[x, y]) w :=
  run_loadVar_row w g 381 381 #[x, y] (0, 0) _ h Tryz.underlying381 rfl (by kernel_rfl)
theorem load4 {w : World} {g : Nat} {b : Bool} (h : Blk w g 4 #[.bool b]) : (loadVar 4 ⟨g, 0, none⟩).run Tryz.prog w = .ok (.bool b) w := by
  have c := h.cell 0
  simp at c
  simp [go_sem, c]
theorem catch_idle (p q : Addr) (w : World) :
    CallsD Tryz.prog 334 #[.pointer (some p), .pointer (some q)] .returning w fun e u' w' => e = .returned (.tuple #[]) ∧ u' = .returning ∧ w' = w := by
  refine callsD_of_wpS Tryz.func334 rfl fun c₀ cs hu => ?_
  apply wpS_seq
  apply wpS_region
  simp [wpOpsS, go_sem, recoverD, hu, Tryz.ntmps334, Exit.thenS]
  apply wpS_seq
  apply wpS_seq
  apply wpS_region
  simp [wpOpsS, go_sem, Exit.thenS]
  refine wpS_cond (t := true) (by simp [Act.eval, Array.replicate]) ?_
  simp only [if_true]
  refine wpS_of_wp (wp_ret ?_)
  cases c₀
  simp_all [bodyPostS, results, Tryz.results334, Exit.thenS]
set_option maxHeartbeats 4000000 in
set_option maxRecDepth 100000 in
theorem call_fine (fid : Nat) (cap : Array Value) (w : World) (hen : ∀ W, (callFunc fid cap).run Tryz.prog W = .ok (.enter fid cap) W) (I : World → Prop)
    (hf : Calls Tryz.prog fid cap ((w.alloc (.cells #[.int .i64 0, .int .i64 0] 381)).alloc (.cells #[.bool false] 4)) fun e w1 => e = .returned (.tuple #[]) ∧ I w1 ∧ Blk w1 w.heap.size 381 #[.int .i64 0, .int .i64 0] ∧ Blk w1 (w.heap.size + 1) 4 #[.bool false]) :
    Calls Tryz.prog 304 #[.func (.func fid) #[] cap] w fun e w' => e = .returned (.tuple #[.agg #[.int .i64 0, .int .i64 0], .bool false]) ∧ ∃ w1, I w1 ∧ Kep (fun b => b = w.heap.size ∨ b = w.heap.size + 1) w1 w' := by
  have hm := hmf
  have hne : w.heap.size ≠ w.heap.size + 1 := by omega
  go_enter_defers Tryz.func304, Tryz.ntmps304
  go_wp2_with fail
  refine hf.mono ?_
  rintro e w1 ⟨rfl, hI, hp, hq⟩
  have hpl := hp.lt
  have hql := hq.lt
  have HI := Lib.hid hI
  have HP := Lib.hid hp
  have HQ := Lib.hid hq
  have c0 : w1.cell? ⟨w.heap.size, 0, none⟩ = some (.int .i64 0) := hp.cell 0
  have z0 : w1.frozen? ⟨w.heap.size, 0, none⟩ = false := hp.frozen 0
  have c1 : w1.cell? ⟨w.heap.size, 1, none⟩ = some (.int .i64 0) := hp.cell 1
  have z1 : w1.frozen? ⟨w.heap.size, 1, none⟩ = false := hp.frozen 1
  have d0 : w1.cell? ⟨w.heap.size + 1, 0, none⟩ = some (.bool false) := hq.cell 0
  have y0 : w1.frozen? ⟨w.heap.size + 1, 0, none⟩ = false := hq.frozen 0
  clear hI hp hq
  go_wp2_with fail
  refine leaves_cons (f := 334) (args := #[.pointer (some ⟨w.heap.size, 0, none⟩), .pointer (some ⟨w.heap.size + 1, 0, none⟩)]) (by simp) (by simp [go_sem]) ?_
  refine (catch_idle _ _ _).mono ?_
  rintro e u' w2 ⟨rfl, rfl, rfl⟩
  refine ⟨_, results_cc rfl _ _ _ _ _ rfl rfl (load381 ((((HP.out.put 0 _).put 1 _).far hne _))) (load4 ((((HQ.out.far hne.symm _).far hne.symm _).put 0 _))), rfl, w1, HI.out, ?_⟩
  exact ((((Kep.refl _ w1).setCell (.inl rfl) _).setCell (.inl rfl) _).setCell (.inr rfl) _)
end Go.AM
