/- WeighOrder returns true at any three numbers and any edges. -/
import Derived.Test.YtccjblcfnoelbaaFrame
import Derived.Test.YtccjblcfnoelbaaOpen
import Derived.Test.YtccjblcfnoelbaaOpenB
import Derived.Test.YtccjblcfnoelbaaOrder
import Derived.Test.YtccjblcfnoelbaaOpenC
namespace Go.Proofs.Ytccjblcfnoelbaa.lawWeighOrder
open Go.ChangeShapes Go.WideShapes Go.ChangeAt Go.RowKit
set_option linter.unusedVariables false

set_option maxRecDepth 100000 in
theorem lifted (os : Os) (started : os.Started) (H : Type) (enc : TypeId × Value → H) :
    ReturnsInHanded {} Try.checked os 6 .any (Rows.weighOrderSpec.pre6 enc Try.prog Try.f6 Rows.weighOrderRow.domain false) (Rows.weighOrderSpec.post enc Try.prog Try.f6 false true false false) := by
  refine returnsInHanded_of_change (C := Try.checked) own started (by kernel_rfl) Try.func6
    (ChangeSpec.witness6 (enc := enc) (C := Try.checked) false ⟨#[], #[.float .f64 0, .float .f64 0, .float .f64 0, .agg #[.int .i64 0, .int .i64 0, .int .i64 0]], []⟩ 8 (by kernel_rfl) (by kernel_rfl) (by kernel_rfl) (by kernel_rfl)) ?_
  intro W base args ds gs before hval0 hW hcnd hsz
  have hval : ∀ (j : Nat) t v, Try.f6.params[j]? = some t → args[j]? = some v → Value.okWide Try.prog W .any base t v := hval0
  have hW' := hW
  obtain ⟨p, q, hA0, hV, rfl, hfz, hnd⟩ := hW
  have hA : DataW.TrodAll enc Try.prog W 0 (fun _ => true) true Try.f6.params.toList args.toList ds p := hA0
  have lt0 : ∀ x ∈ p, x.block < W.heap.size := fun x hx => hW'.lt x (List.mem_append_left _ hx)
  have hS := hA
  rw [Try.params6] at hA hval
  obtain ⟨v0, vs0, d0, ds0, p0, q0, hargs, rfl, rfl, h0, r0⟩ := trodAll_cons hA
  obtain ⟨v1, vs1, d1, ds1, p1, q1, rfl, rfl, rfl, h1, r1⟩ := trodAll_cons r0
  obtain ⟨v2, vs2, d2, ds2, p2, q2, rfl, rfl, rfl, h2, r2⟩ := trodAll_cons r1
  obtain ⟨v3, vs3, d3, ds3, p3, q3, rfl, rfl, rfl, h3, r3⟩ := trodAll_cons r2
  obtain ⟨rfl, rfl, rfl⟩ := trodAll_nil r3
  obtain rfl : args = #[v0, v1, v2, v3] := by cases args; simp_all
  obtain ⟨rfl, rfl⟩ := trodVars_none hV
  obtain ⟨a0, rfl, rfl, rfl, wf0⟩ := open_float Try.underlying22 (hval 0 22 v0 rfl rfl) h0
  have hf0 := f64_lt wf0
  obtain ⟨a1, rfl, rfl, rfl, wf1⟩ := open_float Try.underlying22 (hval 1 22 v1 rfl rfl) h1
  have hf1 := f64_lt wf1
  obtain ⟨a2, rfl, rfl, rfl, wf2⟩ := open_float Try.underlying22 (hval 2 22 v2 rfl rfl) h2
  have hf2 := f64_lt wf2
  obtain ⟨e0, e1, e2, rfl⟩ := open_three (hval 3 37 v3 rfl rfl) h3
  clear hA0 hval0
  refine (order_any a0 a1 a2 e0 e1 e2 W hf0 hf1 hf2).mono fun e W' ⟨he, bel⟩ => ?_
  subst he
  exact ⟨_, rfl, _, _, _, [], _, [], hW', trodAll_mk1 (shut_bool Try.underlying4 _), all_stay laidOut bel (by kernel_rfl) hS lt0, rfl, bel.frame _, fun h => by cases h⟩

theorem over : Rows.weighOrderRow.holds Try.pinned (OpenSpec.ofChange Rows.weighOrderSpec) :=
  OpenClaim.holds_of_wide 6 Try.f6 rfl rfl rfl rfl rfl rfl rfl ⟨rfl, rfl, rfl, rfl, rfl⟩ rfl rfl rfl rfl rfl (by kernel_rfl) Try.func6 (by kernel_rfl)
    (of_decide_eq_true (by kernel_rfl)) (by unfold Func.isWrapper; first | (rw [if_pos (by decide +kernel)]; kernel_rfl) | (rw [if_neg (by decide +kernel)]; exact ⟨rfl, rfl⟩))
    (fun os started H enc _ => lifted os started H enc)

theorem proved : Rows.WeighOrderSaid := over
#print axioms proved
end Go.Proofs.Ytccjblcfnoelbaa.lawWeighOrder
