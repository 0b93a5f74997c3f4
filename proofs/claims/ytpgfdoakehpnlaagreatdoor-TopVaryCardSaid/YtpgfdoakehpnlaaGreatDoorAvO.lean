import Derived.Test.YtpgfdoakehpnlaaGreatDoorAvL
import Derived.Test.YtpgfdoakehpnlaaGreatDoorAvM
set_option linter.unusedVariables false
set_option linter.unusedSimpArgs false
namespace Go.AM
open Go Go.Proofs
set_option linter.unusedVariables false
/-! # Soundness, part 43: guard.Call -/
section
variable {C : Cx} {ν : Vl} {ρ : Nm} {nx : Nat} {H : T AB} {L : Log} {w : World} {k : AV → Nat → T AB → Log → Ans} {z : Ans} {a : Act} {o : Oper}
/-- a block that nobody names -/
theorem HR.more (h : HR ν ρ nx H w) (x : Obj) : HR ν ρ nx H (w.alloc x) := by
  have e : (w.alloc x).heap = w.heap.push x := rfl
  refine ⟨fun b A hb => ?_, h.inj, h.new, fun b r s hb => by have := h.old b r s hb; rw [e]; simp; omega⟩
  obtain ⟨r, s, ob, h1, h2, h3⟩ := h.blk b A hb
  exact ⟨r, s, ob, h1, by rw [e, Array.getElem?_push, if_neg (by have := h.old _ _ _ h1; omega)]; exact h2, h3⟩
theorem hasBody_run {P : Program} (hfit : FitP P) {g : Nat} (h : hasBody P g = true) (args : Array Value) (W : World) : (callFunc g args).run P W = .ok (.enter g args) W := by
  unfold hasBody at h
  rw [lget_eq] at h
  cases hf : P.funcs.toList[g]? with
  | none => rw [hf] at h; cases h
  | some fn =>
    rw [hf] at h
    have hfn : P.funcs[g]? = some fn := by simpa using hf
    have hn := hfit g fn hfn
    unfold fnFit at hn
    rw [Bool.and_eq_true] at hn
    have hname : (fn.name == "runtime.NumGoroutine") = false := by simpa using hn.1
    have h2 : ¬ fn.name = "runtime.NumGoroutine" := by simpa using hname
    cases hb : fn.body with
    | none => simp [hb] at h
    | some c => simp [callFunc, hfn, h2, hb]
theorem ext_guard (hP : C.P = Tryz.prog) (hfit : FitP C.P) {call : Cll} (hc : CallOk C ν call) {g : Nat} {b : List AV} {vs : List Value} (hb : hasBody C.P g = true)
    (hr : HR ν ρ nx H w) (hg : Glob ρ) (hz : Yes z) (hv : VRs ν ρ [.fn g [] b] vs) (h : ((call g b).bind fun x => M.lift "guard" (unitV x)) k nx H L = z) : OpOk C ν ρ nx L w k z o a ((callFunc 304 ⟨vs⟩).run C.P w) := by
  obtain ⟨v, l, rfl, hv1, hl⟩ := hv.cons
  cases hl.nil
  obtain ⟨ys, bs, h1, h2, rfl⟩ := hv1
  cases h1.nil
  have h304 : hasBody C.P 304 = true := by rw [hP]; kernel_rfl
  rw [hasBody_run hfit h304]
  intro next Q hn
  rw [Oper.upon_enter]
  rw [hP]
  let W := (w.alloc (.cells #[.int .i64 0, .int .i64 0] 381)).alloc (.cells #[.bool false] 4)
  have hrW : HR ν ρ nx H W := (hr.more _).more _
  have hsz : W.heap.size = w.heap.size + 2 := by show ((w.heap.push _).push _).size = _; simp
  have hWlow : ∀ r, r < w.heap.size → W.heap[r]? = w.heap[r]? := by
    intro r hr
    show ((w.heap.push _).push _)[r]? = _
    rw [Array.getElem?_push, if_neg (by simp; omega), Array.getElem?_push, if_neg (by omega)]
  have hp0 : Blk W w.heap.size 381 #[.int .i64 0, .int .i64 0] := by
    show ((w.heap.push _).push _)[w.heap.size]? = _
    rw [Array.getElem?_push, if_neg (by simp), Array.getElem?_push, if_pos rfl]
  have hq0 : Blk W (w.heap.size + 1) 4 #[.bool false] := by
    show ((w.heap.push _).push _)[w.heap.size + 1]? = _
    rw [Array.getElem?_push, if_pos (by simp)]
  let o' : Oper := { dst := some 0, op := .ready 0, type := 0, pos := "", after := #[], guard := none }
  let a' : Act := { tmps := #[undef], defers := [] }
  let I : World → Prop := fun w1 => ∃ x nx' H' D ρ' v, k x nx' H' (D ++ L) = z ∧ Low nx ρ nx' ρ' ∧ VR ν ρ' x v ∧ v = .tuple #[.agg #[.int .i64 0, .int .i64 0], .bool false] ∧ HR ν ρ' nx' H' w1 ∧ Stp ρ W ρ' w1 D
  have hop := hc (o := o') (a := a') (w := W) hrW hg hz h2 (show call g b (fun x => M.lift "guard" (unitV x) k) nx H L = z from h)
  rw [hasBody_run hfit hb] at hop
  have hin := hop (fun a1 w1 => a1.tmps[0]? = some (.tuple #[]) ∧ I w1 ∧ Blk w1 w.heap.size 381 #[.int .i64 0, .int .i64 0] ∧ Blk w1 (w.heap.size + 1) 4 #[.bool false]) (fun _ _ _ => False) ?_
  · rw [Oper.upon_enter, hP] at hin
    refine (call_fine g ⟨bs⟩ w (fun W => by rw [← hP]; exact hasBody_run hfit hb _ _) I (hin.mono ?_)).mono ?_
    · rintro e w1 he
      cases e with
      | returned v =>
        obtain ⟨e1, e2, e3, e4⟩ := he
        have e1 : (a'.put (some 0) v).tmps[0]? = some (.tuple #[]) := e1
        simp [a', Act.put] at e1
        exact ⟨by rw [e1], e2, e3, e4⟩
      | panicked c => exact he.elim
      | outgrown => obtain ⟨_, _, hf⟩ := he; exact hf.elim
    · rintro e w2 ⟨rfl, w1, ⟨x, nx', H', D, ρ', v, k1, k2, k3, rfl, k4, k5⟩, hk⟩
      have hold : ∀ c r s, ρ' c = some (r, s) → r ≠ w.heap.size ∧ r ≠ w.heap.size + 1 := by
        intro c r s hcr
        cases hρ : ρ c with
        | some p =>
          have := k5.ext c p hρ
          rw [this] at hcr; cases hcr
          have := hr.old c r s hρ
          omega
        | none =>
          rcases k5.own c r s hρ hcr with h3 | ⟨d, t, hd, ht⟩
          · omega
          · have := hr.old d r t ht; omega
      have hblk : ∀ c r s, ρ' c = some (r, s) → w2.heap[r]? = w1.heap[r]? := fun c r s hcr => hk.block r (by
        obtain ⟨h3, h4⟩ := hold c r s hcr
        rintro (h5 | h5)
        · exact h3 h5
        · exact h4 h5)
      refine hn x nx' H' D ρ' _ w2 k1 k2 k3 ?_ ?_
      · refine ⟨fun c A hA => ?_, k4.inj, k4.new, fun c r s hcr => by rw [hk.size]; exact k4.old c r s hcr⟩
        obtain ⟨r, s, ob, q1, q2, q3⟩ := k4.blk c A hA
        exact ⟨r, s, ob, q1, by rw [hblk c r s q1]; exact q2, q3⟩
      · refine ⟨k5.ext, hk.os.trans k5.os, hk.tape.trans k5.tape, hk.output.trans k5.output, by rw [hk.size]; have := k5.size; omega, fun r hr2 hD => ?_, fun c r s e1 e2 => ?_⟩
        · rw [hk.block r (by rintro (h5 | h5) <;> omega), k5.frame r (by omega) hD, hWlow r hr2]
        · rcases k5.own c r s e1 e2 with h3 | h3
          · left; omega
          · exact .inr h3
  · intro x nx' H' D ρ' v w' hk hlow hvr hr' hst
    obtain ⟨y, hy, hk⟩ := lift_ok hz hk
    have hx : x = .tup [] ∧ y = .tup [.agg [.int .i64 (.k 0), .int .i64 (.k 0)], .bool false] := by
      unfold unitV at hy
      split at hy
      · cases hy; exact ⟨rfl, rfl⟩
      · cases hy
    obtain ⟨rfl, rfl⟩ := hx
    obtain ⟨us, hus, rfl⟩ := hvr
    cases hus.nil
    have hfr : ∀ r, r < W.heap.size → w.heap.size ≤ r → w'.heap[r]? = W.heap[r]? := fun r h1 h2 => hst.frame r h1 fun c t hc e => by have := hr.old c r t e; omega
    refine ⟨by simp [a', o', Act.put], ⟨_, nx', H', D, ρ', _, hk, hlow, ?_, rfl, hr', hst⟩, ?_, ?_⟩
    · refine ⟨_, VRs.mk ⟨_, VRs.mk rfl (VRs.mk rfl VRs.mk0), by simp [cellV], rfl⟩ (VRs.mk rfl VRs.mk0), rfl⟩
    · show w'.heap[w.heap.size]? = _
      rw [hfr w.heap.size (by omega) (Nat.le_refl _)]; exact hp0
    · show w'.heap[w.heap.size + 1]? = _
      rw [hfr (w.heap.size + 1) (by omega) (by omega)]; exact hq0
end
end Go.AM
