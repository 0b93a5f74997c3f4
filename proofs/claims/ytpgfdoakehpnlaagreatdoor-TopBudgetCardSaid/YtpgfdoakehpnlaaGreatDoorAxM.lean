import Derived.Test.YtpgfdoakehpnlaaGreatDoorRows
import Derived.WalkKit
import Derived.ProofKit
import Derived.OpenShut
import Derived.WalkLawsBesides
import Derived.WalkSpells
import Derived.Handy
import Derived.Lib.Hide
import Derived.Deep.Cut
import Derived.Laws.CopyRow
import Derived.Laws.AppendOwn
import Derived.Maps.AppendAt
import Derived.Defers
import Derived.Recover
import Derived.Test.YtpgfdoakehpnlaaGreatDoorAxL
set_option linter.unusedVariables false
set_option linter.unusedSimpArgs false
namespace Go.AM
open Go Go.Proofs Go.ChangeShapes Go.WideShapes Go.ChangeAt Go.RowKit
set_option linter.unusedVariables false
set_option linter.unusedSimpArgs false
/-! # guard.Call, where its function returns -/
/-- Block g is just the cells cs of type t, none frozen. -/
def Blk (w : World) (g : Nat) (t : TypeId) (cs : Array Value) : Prop := w.heap[g]? = some (.cells cs t (0, 0))
section
variable {w w' : World} {g : Nat} {t : TypeId} {cs : Array Value}
theorem Blk.lt (h : Blk w g t cs) : g < w.heap.size := (Array.getElem?_eq_some_iff.1 h).1
theorem Blk.cell (h : Blk w g t cs) (i : Nat) : w.cell? ⟨g, i, none⟩ = cs[i]? := cell_of_row w g i cs t (0, 0) h
theorem Blk.frozen (h : Blk w g t cs) (i : Nat) : w.frozen? ⟨g, i, none⟩ = false := frozen_of_row w g i cs t h
theorem Blk.put (h : Blk w g t cs) (i : Nat) (u : Value) : Blk (w.setCell ⟨g, i, none⟩ u) g t (cs.setIfInBounds i u) := heap_setCell_same w g i cs t u h
theorem Blk.far (h : Blk w g t cs) {p : Addr} (hp : g ≠ p.block) (u : Value) : Blk (w.setCell p u) g t cs := (heap_setCell_other w p g u hp).trans h
end
/-- From w to w' no block has turned but those of X. -/
structure Kep (X : Nat → Prop) (w w' : World) : Prop where
  os : w'.os = w.os
  tape : w'.tape = w.tape
  output : w'.output = w.output
  size : w'.heap.size = w.heap.size
  block : ∀ k, ¬ X k → w'.heap[k]? = w.heap[k]?
theorem Kep.refl (X : Nat → Prop) (w : World) : Kep X w w := ⟨rfl, rfl, rfl, rfl, fun _ _ => rfl⟩
theorem Kep.setCell {X : Nat → Prop} {w w1 : World} (h : Kep X w w1) {p : Addr} (hp : X p.block) (u : Value) : Kep X w (w1.setCell p u) :=
  ⟨h.os, h.tape, h.output, by simpa [World.setCell] using h.size, fun k hx => (heap_setCell_other w1 p k u (by rintro rfl; exact hx hp)).trans (h.block k hx)⟩
theorem hmf (fn : Fn) (first cap : Array Value) (w : World) : (Instr.makeFunc fn first cap).run Tryz.prog w = .ok (.func fn first cap) w := rfl
theorem results_cc {P : Program} {w : World} {fn : Func} {p q : Tmp} {ty ty' : TypeId} (h : fn.results = #[.cell p ty, .cell q ty']) (tmps : Array Value) (u v : Value) (a b : Addr)
    (hp : tmps.getD p undef = .pointer (some a)) (hq : tmps.getD q undef = .pointer (some b)) (hu : (loadVar ty a).run P w = .ok u w) (hv : (loadVar ty' b).run P w = .ok v w) :
    (results fn tmps).run P w = .ok (.tuple #[u, v]) w := by
  have hp' : tmps[p]?.getD undef = .pointer (some a) := by simpa using hp
  have hq' : tmps[q]?.getD undef = .pointer (some b) := by simpa using hq
  simp [results, h, hp', hq', asAddr, hu, hv]
theorem load381 {w : World} {g : Nat} {x y : Value} (h : Blk w g 381 #[x, y]) : (loadVar 381 ⟨g, 0, none⟩).run Tryz.prog w = .ok (.agg #[x, y]) w :=
  run_loadVar_row w g 381 381 #[x, y] (0, 0) _ h Tryz.underlying381 rfl (by kernel_rfl)
theorem load4 {w : World} {g : Nat} {b : Bool} (h : Blk w g 4 #[.bool b]) : (loadVar 4 ⟨g, 0, none⟩).run Tryz.prog w = .ok (.bool b) w := by
  have c := h.cell 0
  simp at c
  simp [go_sem, c]
theorem catch_idle (p q : Addr) (w : World) :
    CallsD Tryz.prog 334 #[.pointer (some p), .pointer (some q)] .returning w fun e u' w' => e = .returned (.tuple #[]) ∧ u' = .returning ∧ w' = w := by
  refine callsD_of_wpS Tryz.func334 rfl fun c₀ cs hu => ?_
  apply wpS_seq
  apply wpS_region
  simp [wpOpsS, go_sem, recoverD, hu, Tryz.ntmps334, Exit.thenS]
  apply wpS_seq
  apply wpS_seq
  apply wpS_region
  simp [wpOpsS, go_sem, Exit.thenS]
  refine wpS_cond (t := true) (by simp [Act.eval, Array.replicate]) ?_
  simp only [if_true]
  refine wpS_of_wp (wp_ret ?_)
  cases c₀
  simp_all [bodyPostS, results, Tryz.results334, Exit.thenS]
set_option maxHeartbeats 4000000 in
set_option maxRecDepth 100000 in
theorem call_fine (fid : Nat) (cap : Array Value) (w : World) (hen : ∀ W, (callFunc fid cap).run Tryz.prog W = .ok (.enter fid cap) W) (I : World → Prop)
    (hf : Calls Tryz.prog fid cap ((w.alloc (.cells #[.int .i64 0, .int .i64 0] 381)).alloc (.cells #[.bool false] 4)) fun e w1 => e = .returned (.tuple #[]) ∧ I w1 ∧ Blk w1 w.heap.size 381 #[.int .i64 0, .int .i64 0] ∧ Blk w1 (w.heap.size + 1) 4 #[.bool false]) :
    Calls Tryz.prog 304 #[.func (.func fid) #[] cap] w fun e w' => e = .returned (.tuple #[.agg #[.int .i64 0, .int .i64 0], .bool false]) ∧ ∃ w1, I w1 ∧ Kep (fun b => b = w.heap.size ∨ b = w.heap.size + 1) w1 w' := by
  have hm := hmf
  have hne : w.heap.size ≠ w.heap.size + 1 := by omega
  go_enter_defers Tryz.func304, Tryz.ntmps304
  go_wp2_with fail
  refine hf.mono ?_
  rintro e w1 ⟨rfl, hI, hp, hq⟩
  have hpl := hp.lt
  have hql := hq.lt
  have HI := Lib.hid hI
  have HP := Lib.hid hp
  have HQ := Lib.hid hq
  have c0 : w1.cell? ⟨w.heap.size, 0, none⟩ = some (.int .i64 0) := hp.cell 0
  have z0 : w1.frozen? ⟨w.heap.size, 0, none⟩ = false := hp.frozen 0
  have c1 : w1.cell? ⟨w.heap.size, 1, none⟩ = some (.int .i64 0) := hp.cell 1
  have z1 : w1.frozen? ⟨w.heap.size, 1, none⟩ = false := hp.frozen 1
  have d0 : w1.cell? ⟨w.heap.size + 1, 0, none⟩ = some (.bool false) := hq.cell 0
  have y0 : w1.frozen? ⟨w.heap.size + 1, 0, none⟩ = false := hq.frozen 0
  clear hI hp hq
  go_wp2_with fail
  refine leaves_cons (f := 334) (args := #[.pointer (some ⟨w.heap.size, 0, none⟩), .pointer (some ⟨w.heap.size + 1, 0, none⟩)]) (by simp) (by simp [go_sem]) ?_
  refine (catch_idle _ _ _).mono ?_
  rintro e u' w2 ⟨rfl, rfl, rfl⟩
  refine ⟨_, results_cc rfl _ _ _ _ _ rfl rfl (load381 ((((HP.out.put 0 _).put 1 _).far hne _))) (load4 ((((HQ.out.far hne.symm _).far hne.symm _).put 0 _))), rfl, w1, HI.out, ?_⟩
  exact ((((Kep.refl _ w1).setCell (.inl rfl) _).setCell (.inl rfl) _).setCell (.inr rfl) _)
end Go.AM
namespace Go.AM
open Go Go.Proofs
set_option linter.unusedVariables false
/-! # Soundness, part 43: guard.Call -/
section
variable {C : Cx} {ν : Vl} {ρ : Nm} {nx : Nat} {H : T AB} {L : Log} {w : World} {k : AV → Nat → T AB → Log → Ans} {z : Ans} {a : Act} {o : Oper}
/-- a block that nobody names -/
theorem HR.more (h : HR ν ρ nx H w) (x : Obj) : HR ν ρ nx H (w.alloc x) := by
  have e : (w.alloc x).heap = w.heap.push x := rfl
  refine ⟨fun b A hb => ?_, h.inj, h.new, fun b r s hb => by have := h.old b r s hb; rw [e]; simp; omega⟩
  obtain ⟨r, s, ob, h1, h2, h3⟩ := h.blk b A hb
  exact ⟨r, s, ob, h1, by rw [e, Array.getElem?_push, if_neg (by have := h.old _ _ _ h1; omega)]; exact h2, h3⟩
theorem hasBody_run {P : Program} (hfit : FitP P) {g : Nat} (h : hasBody P g = true) (args : Array Value) (W : World) : (callFunc g args).run P W = .ok (.enter g args) W := by
  unfold hasBody at h
  rw [lget_eq] at h
  cases hf : P.funcs.toList[g]? with
  | none => rw [hf] at h; cases h
  | some fn =>
    rw [hf] at h
    have hfn : P.funcs[g]? = some fn := by simpa using hf
    have hn := hfit g fn hfn
    unfold fnFit at hn
    rw [Bool.and_eq_true] at hn
    have hname : (fn.name == "runtime.NumGoroutine") = false := by simpa using hn.1
    have h2 : ¬ fn.name = "runtime.NumGoroutine" := by simpa using hname
    cases hb : fn.body with
    | none => simp [hb] at h
    | some c => simp [callFunc, hfn, h2, hb]
theorem ext_guard (hP : C.P = Tryz.prog) (hfit : FitP C.P) {call : Cll} (hc : CallOk C ν call) {g : Nat} {b : List AV} {vs : List Value} (hb : hasBody C.P g = true)
    (hr : HR ν ρ nx H w) (hg : Glob ρ) (hz : Yes z) (hv : VRs ν ρ [.fn g [] b] vs) (h : ((call g b).bind fun x => M.lift "guard" (unitV x)) k nx H L = z) : OpOk C ν ρ nx L w k z o a ((callFunc 304 ⟨vs⟩).run C.P w) := by
  obtain ⟨v, l, rfl, hv1, hl⟩ := hv.cons
  cases hl.nil
  obtain ⟨ys, bs, h1, h2, rfl⟩ := hv1
  cases h1.nil
  have h304 : hasBody C.P 304 = true := by rw [hP]; kernel_rfl
  rw [hasBody_run hfit h304]
  intro next Q hn
  rw [Oper.upon_enter]
  rw [hP]
  let W := (w.alloc (.cells #[.int .i64 0, .int .i64 0] 381)).alloc (.cells #[.bool false] 4)
  have hrW : HR ν ρ nx H W := (hr.more _).more _
  have hsz : W.heap.size = w.heap.size + 2 := by show ((w.heap.push _).push _).size = _; simp
  have hWlow : ∀ r, r < w.heap.size → W.heap[r]? = w.heap[r]? := by
    intro r hr
    show ((w.heap.push _).push _)[r]? = _
    rw [Array.getElem?_push, if_neg (by simp; omega), Array.getElem?_push, if_neg (by omega)]
  have hp0 : Blk W w.heap.size 381 #[.int .i64 0, .int .i64 0] := by
    show ((w.heap.push _).push _)[w.heap.size]? = _
    rw [Array.getElem?_push, if_neg (by simp), Array.getElem?_push, if_pos rfl]
  have hq0 : Blk W (w.heap.size + 1) 4 #[.bool false] := by
    show ((w.heap.push _).push _)[w.heap.size + 1]? = _
    rw [Array.getElem?_push, if_pos (by simp)]
  let o' : Oper := { dst := some 0, op := .ready 0, type := 0, pos := "", after := #[], guard := none }
  let a' : Act := { tmps := #[undef], defers := [] }
  let I : World → Prop := fun w1 => ∃ x nx' H' D ρ' v, k x nx' H' (D ++ L) = z ∧ Low nx ρ nx' ρ' ∧ VR ν ρ' x v ∧ v = .tuple #[.agg #[.int .i64 0, .int .i64 0], .bool false] ∧ HR ν ρ' nx' H' w1 ∧ Stp ρ W ρ' w1 D
  have hop := hc (o := o') (a := a') (w := W) hrW hg hz h2 (show call g b (fun x => M.lift "guard" (unitV x) k) nx H L = z from h)
  rw [hasBody_run hfit hb] at hop
  have hin := hop (fun a1 w1 => a1.tmps[0]? = some (.tuple #[]) ∧ I w1 ∧ Blk w1 w.heap.size 381 #[.int .i64 0, .int .i64 0] ∧ Blk w1 (w.heap.size + 1) 4 #[.bool false]) (fun _ _ _ => False) ?_
  · rw [Oper.upon_enter, hP] at hin
    refine (call_fine g ⟨bs⟩ w (fun W => by rw [← hP]; exact hasBody_run hfit hb _ _) I (hin.mono ?_)).mono ?_
    · rintro e w1 he
      cases e with
      | returned v =>
        obtain ⟨e1, e2, e3, e4⟩ := he
        have e1 : (a'.put (some 0) v).tmps[0]? = some (.tuple #[]) := e1
        simp [a', Act.put] at e1
        exact ⟨by rw [e1], e2, e3, e4⟩
      | panicked c => exact he.elim
      | outgrown => obtain ⟨_, _, hf⟩ := he; exact hf.elim
    · rintro e w2 ⟨rfl, w1, ⟨x, nx', H', D, ρ', v, k1, k2, k3, rfl, k4, k5⟩, hk⟩
      have hold : ∀ c r s, ρ' c = some (r, s) → r ≠ w.heap.size ∧ r ≠ w.heap.size + 1 := by
        intro c r s hcr
        cases hρ : ρ c with
        | some p =>
          have := k5.ext c p hρ
          rw [this] at hcr; cases hcr
          have := hr.old c r s hρ
          omega
        | none =>
          rcases k5.own c r s hρ hcr with h3 | ⟨d, t, hd, ht⟩
          · omega
          · have := hr.old d r t ht; omega
      have hblk : ∀ c r s, ρ' c = some (r, s) → w2.heap[r]? = w1.heap[r]? := fun c r s hcr => hk.block r (by
        obtain ⟨h3, h4⟩ := hold c r s hcr
        rintro (h5 | h5)
        · exact h3 h5
        · exact h4 h5)
      refine hn x nx' H' D ρ' _ w2 k1 k2 k3 ?_ ?_
      · refine ⟨fun c A hA => ?_, k4.inj, k4.new, fun c r s hcr => by rw [hk.size]; exact k4.old c r s hcr⟩
        obtain ⟨r, s, ob, q1, q2, q3⟩ := k4.blk c A hA
        exact ⟨r, s, ob, q1, by rw [hblk c r s q1]; exact q2, q3⟩
      · refine ⟨k5.ext, hk.os.trans k5.os, hk.tape.trans k5.tape, hk.output.trans k5.output, by rw [hk.size]; have := k5.size; omega, fun r hr2 hD => ?_, fun c r s e1 e2 => ?_⟩
        · rw [hk.block r (by rintro (h5 | h5) <;> omega), k5.frame r (by omega) hD, hWlow r hr2]
        · rcases k5.own c r s e1 e2 with h3 | h3
          · left; omega
          · exact .inr h3
  · intro x nx' H' D ρ' v w' hk hlow hvr hr' hst
    obtain ⟨y, hy, hk⟩ := lift_ok hz hk
    have hx : x = .tup [] ∧ y = .tup [.agg [.int .i64 (.k 0), .int .i64 (.k 0)], .bool false] := by
      unfold unitV at hy
      split at hy
      · cases hy; exact ⟨rfl, rfl⟩
      · cases hy
    obtain ⟨rfl, rfl⟩ := hx
    obtain ⟨us, hus, rfl⟩ := hvr
    cases hus.nil
    have hfr : ∀ r, r < W.heap.size → w.heap.size ≤ r → w'.heap[r]? = W.heap[r]? := fun r h1 h2 => hst.frame r h1 fun c t hc e => by have := hr.old c r t e; omega
    refine ⟨by simp [a', o', Act.put], ⟨_, nx', H', D, ρ', _, hk, hlow, ?_, rfl, hr', hst⟩, ?_, ?_⟩
    · refine ⟨_, VRs.mk ⟨_, VRs.mk rfl (VRs.mk rfl VRs.mk0), by simp [cellV], rfl⟩ (VRs.mk rfl VRs.mk0), rfl⟩
    · show w'.heap[w.heap.size]? = _
      rw [hfr w.heap.size (by omega) (Nat.le_refl _)]; exact hp0
    · show w'.heap[w.heap.size + 1]? = _
      rw [hfr (w.heap.size + 1) (by omega) (by omega)]; exact hq0
end
end Go.AM
