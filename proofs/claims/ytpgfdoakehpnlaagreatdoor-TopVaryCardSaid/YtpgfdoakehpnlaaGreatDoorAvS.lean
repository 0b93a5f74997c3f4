import Derived.Test.YtpgfdoakehpnlaaGreatDoorAvR
import Derived.Test.YtpgfdoakehpnlaaGreatDoorTie
import Derived.ProofKit
import Derived.OpenShut
import Derived.LaidMore
import Derived.Lay
import Derived.SevenTiedAt
import Derived.Stop.Joined
set_option linter.unusedVariables false
set_option linter.unusedSimpArgs false
namespace Go.AM
open Go Go.Proofs Go.ChangeShapes Go.WideShapes Go.ChangeAt Go.RowKit
set_option linter.unusedVariables false
/-! # The frame of the five statements: what the listed variables hold -/
abbrev laidTop : List (String × DataW Unit) := YtpgfdoakehpnlaaGreatDoor.Rows.topPostRow.laid
theorem ownTop : ownKnob Tryz.prog.godebug = none := by kernel_rfl
theorem gName (n : String) (g : Nat) (h : Tryz.prog.globalNamed n = some g) {g' : Nat} (h' : Tryz.prog.globalNamed n = some g') : g' = g := Option.some.inj (h'.symm.trans h)
theorem pow_cells {W : World} (h : laidMetH Tryz.prog laidTop W) : ∃ C t, W.heap[0]? = some (.cells C t (0, 0)) ∧ C.toList = powZ.map (fun n => .int .u64 n) ∧ 6 ≤ W.heap.size := by
  rw [MakeChecks.laidMetH_plain _ _ _ (by kernel_rfl)] at h
  obtain ⟨ps, hps, _, hfr⟩ := h
  obtain ⟨g1, t1, cs1, f1, p1, q1, hg1, ht1, hv1, hd1, hr1, rfl⟩ := hps
  obtain ⟨g2, t2, cs2, f2, p2, q2, hg2, ht2, hv2, hd2, hr2, rfl⟩ := hr1
  obtain ⟨g3, t3, cs3, f3, p3, q3, hg3, ht3, hv3, hd3, hr3, rfl⟩ := hr2
  obtain ⟨g4, t4, cs4, f4, p4, q4, hg4, ht4, hv4, hd4, hr4, rfl⟩ := hr3
  obtain rfl := gName _ 0 (by kernel_rfl) hg3
  obtain rfl := gName _ 5 (by kernel_rfl) hg4
  have h6 : 6 ≤ W.heap.size := by
    unfold World.var? at hv4
    rw [hg4] at hv4
    cases hb : W.heap[5]? with
    | none => simp [hb] at hv4
    | some o => have := (Array.getElem?_eq_some_iff.1 hb).1; omega
  obtain rfl := Option.some.inj ((show (Tryz.prog.globals[0]?).map (·.type) = some 284 by kernel_rfl).symm.trans ht3)
  obtain ⟨xs, m, _, ex, hcl, hl, hel⟩ := DataW.trod_array Tryz.underlying284 hd3
  have c1 : Tryz.prog.cellsOf 254 = 1 := by kernel_rfl
  have c20 : Tryz.prog.cellsOf 284 = 20 := by kernel_rfl
  rw [c20] at hcl
  have e3 : xs.map (·.1) = powZ.map fun n => (DataW.lit (.int .u64 n) : DataW Unit) := (DataW.agg.inj (Prod.mk.inj ex).1).symm
  have hl20 : cs3.toList = powZ.map (fun n => Value.int .u64 n) := by
    apply List.ext_getElem?
    intro i
    by_cases hi : i < 20
    · have hE := hel i hi
      rw [c1, Nat.mul_one, List.getElem?_eq_getElem (by omega)] at hE
      obtain ⟨z, k1, k2, _⟩ := DataW.trod_int Tryz.underlying254 hE
      have hp : i < powZ.length := hi
      have e4 : (xs.map (·.1))[i]? = (powZ.map fun n => (DataW.lit (.int .u64 n) : DataW Unit))[i]? := by rw [e3]
      rw [List.getElem?_map, List.getElem?_map, List.getElem?_eq_getElem (by omega : i < xs.length), List.getElem?_eq_getElem hp, k2] at e4
      have hz : z = powZ[i] := by
        simp only [Option.map_some, Option.some.injEq, DataW.lit.injEq, Lit.int.injEq, true_and] at e4
        exact e4
      have h0 : ((cs3.toList.drop i).take 1)[0]? = some (.int .u64 z) := by rw [k1]; rfl
      have h1 : cs3.toList[i]? = some (.int .u64 z) := by simpa using h0
      rw [h1, List.getElem?_map, List.getElem?_eq_getElem hp, hz]; rfl
    · rw [List.getElem?_eq_none (by omega), List.getElem?_eq_none (by simp [powZ]; omega)]
  have hs : cs3.size = 20 := by rw [← Array.length_toList, hcl]
  obtain ⟨⟨C, t, hb⟩, _⟩ := hfr 0 0 (by simp [MemPlace.row, hs])
  refine ⟨C, t, hb, ?_, h6⟩
  unfold World.var? at hv3
  rw [hg3] at hv3
  have hb' : W.heap[0]? = some (.cells C t (0, 0)) := hb
  have : some C = some cs3 := by simpa [hb'] using hv3
  cases this
  exact hl20
/-- the names of the packages' variables -/
noncomputable def rho0 (W : World) : Nm := fun g => if g < 6 then some (g, match W.heap[g]? with
  | some (.cells c _ _) => c.size
  | _ => 0) else none
theorem glob0 (W : World) : Glob (rho0 W) := fun g hg => ⟨_, if_pos hg⟩
theorem HR0 {W : World} (h : laidMetH Tryz.prog laidTop W) (ν : Vl) : HR ν (rho0 W) 6 H0 W := by
  obtain ⟨C, t, hb, hC, h6⟩ := pow_cells h
  refine ⟨fun b A hA => ?_, fun b c A B r s t hA hB _ _ => ?_, fun b hb => if_neg (by omega), fun b r s hr => ?_⟩
  · obtain ⟨rfl, rfl⟩ := H0_get hA
    refine ⟨0, C.size, _, by simp [rho0, hb], hb, _, pow_VRs ν _ powZ, ?_, ⟨C, t, (0, 0), [], rfl, by rw [hC, List.append_nil], rfl, .inl rfl⟩, rfl⟩
    intro x hx
    obtain ⟨n, _, rfl⟩ := List.mem_map.1 hx
    rfl
  · rw [(H0_get hA).1, (H0_get hB).1]
  · unfold rho0 at hr
    by_cases e : b < 6
    · rw [if_pos e] at hr; cases hr; omega
    · rw [if_neg e] at hr; cases hr
set_option maxRecDepth 100000 in
/-- A RUN OF THE QUICK FORM TELLS THE CALL -/
theorem calls_of_run {bd : Bd} {ν : Vl} (ok : ν.Ok bd) {m f : Nat} {args : List AV} {vs : List Value} {W : World} (hL : laidMetH Tryz.prog laidTop W) (hbody : hasBody Tryz.prog f = true) (hv : VRs ν (rho0 W) args vs)
    (hrun : chkT (callG (CX bd) extIsB m f args fin 6 H0 []) = true) : Calls Tryz.prog f ⟨vs⟩ W fun e W' => e = .returned (.bool true) ∧ Below W.heap.size W W' := by
  obtain ⟨nx, H, D, hA, hD⟩ := chkT_spec hrun
  let o' : Oper := { dst := some 0, op := .ready 0, type := 0, pos := "", after := #[], guard := none }
  let a' : Act := { tmps := #[undef], defers := [] }
  have hop := callX bd ok m (o := o') (a := a') (HR0 hL ν) (glob0 W) (fun _ e => by rw [hA] at e; cases e) hv rfl
  have hP : (CX bd).P = Tryz.prog := (isX bd).P
  rw [hasBody_run (by rw [hP]; exact fitP) (by rw [hP]; exact hbody)] at hop
  have hin := hop (fun a1 w1 => a1.tmps[0]? = some (.bool true) ∧ Below W.heap.size W w1) (fun _ _ _ => False) ?_
  · rw [Oper.upon_enter, hP] at hin
    refine hin.mono ?_
    rintro e w1 he
    cases e with
    | returned v =>
      obtain ⟨e1, e2⟩ := he
      have e1 : (a'.put (some 0) v).tmps[0]? = some (.bool true) := e1
      simp [a', Act.put] at e1
      exact ⟨by rw [e1], e2⟩
    | panicked c => exact he.elim
    | outgrown => obtain ⟨_, _, hf⟩ := he; exact hf.elim
  · intro x nx' H' D' ρ' v w' hk hlow hvr hr' hst
    have hk : Ans.ok x nx' H' (D' ++ []) = .ok (.bool true) nx H D := hk.trans hA
    injection hk with e1 e2 e3 e4
    rw [List.append_nil] at e4
    subst e1; subst e4
    have hvr : v = .bool true := hvr
    refine ⟨by simp [a', o', Act.put, hvr], ⟨hst.os, hst.tape, hst.output, hst.size, fun r hr => hst.frame r hr fun c s hc e => ?_⟩⟩
    have h6 := List.all_eq_true.1 hD (c, true) hc
    simp at h6
    have : ¬ c < 6 := by omega
    simp [rho0, this] at e
end Go.AM
