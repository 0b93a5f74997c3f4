import Derived.Test.YtpgfdoakehpnlaaGreatDoorAxP
import Derived.Test.YtpgfdoakehpnlaaGreatDoorTie
import Derived.ProofKit
import Derived.OpenShut
import Derived.LaidMore
import Derived.Lay
import Derived.SevenTiedAt
import Derived.Stop.Joined
import Derived.Test.YtpgfdoakehpnlaaGreatDoorAxY
import Derived.LoopN
set_option linter.unusedVariables false
set_option linter.unusedSimpArgs false
namespace Go.AM
open Go Go.Proofs Go.ChangeShapes Go.WideShapes Go.ChangeAt Go.RowKit
set_option linter.unusedVariables false
/-! # The frame of the five statements: what the listed variables hold -/
abbrev laidTop : List (String × DataW Unit) := YtpgfdoakehpnlaaGreatDoor.Rows.topPostRow.laid
theorem ownTop : ownKnob Tryz.prog.godebug = none := by kernel_rfl
theorem gName (n : String) (g : Nat) (h : Tryz.prog.globalNamed n = some g) {g' : Nat} (h' : Tryz.prog.globalNamed n = some g') : g' = g := Option.some.inj (h'.symm.trans h)
theorem pow_cells {W : World} (h : laidMetH Tryz.prog laidTop W) : ∃ C t, W.heap[0]? = some (.cells C t (0, 0)) ∧ C.toList = powZ.map (fun n => .int .u64 n) ∧ 6 ≤ W.heap.size := by
  rw [MakeChecks.laidMetH_plain _ _ _ (by kernel_rfl)] at h
  obtain ⟨ps, hps, _, hfr⟩ := h
  obtain ⟨g1, t1, cs1, f1, p1, q1, hg1, ht1, hv1, hd1, hr1, rfl⟩ := hps
  obtain ⟨g2, t2, cs2, f2, p2, q2, hg2, ht2, hv2, hd2, hr2, rfl⟩ := hr1
  obtain ⟨g3, t3, cs3, f3, p3, q3, hg3, ht3, hv3, hd3, hr3, rfl⟩ := hr2
  obtain ⟨g4, t4, cs4, f4, p4, q4, hg4, ht4, hv4, hd4, hr4, rfl⟩ := hr3
  obtain rfl := gName _ 0 (by kernel_rfl) hg3
  obtain rfl := gName _ 5 (by kernel_rfl) hg4
  have h6 : 6 ≤ W.heap.size := by
    unfold World.var? at hv4
    rw [hg4] at hv4
    cases hb : W.heap[5]? with
    | none => simp [hb] at hv4
    | some o => have := (Array.getElem?_eq_some_iff.1 hb).1; omega
  obtain rfl := Option.some.inj ((show (Tryz.prog.globals[0]?).map (·.type) = some 284 by kernel_rfl).symm.trans ht3)
  obtain ⟨xs, m, _, ex, hcl, hl, hel⟩ := DataW.trod_array Tryz.underlying284 hd3
  have c1 : Tryz.prog.cellsOf 254 = 1 := by kernel_rfl
  have c20 : Tryz.prog.cellsOf 284 = 20 := by kernel_rfl
  rw [c20] at hcl
  have e3 : xs.map (·.1) = powZ.map fun n => (DataW.lit (.int .u64 n) : DataW Unit) := (DataW.agg.inj (Prod.mk.inj ex).1).symm
  have hl20 : cs3.toList = powZ.map (fun n => Value.int .u64 n) := by
    apply List.ext_getElem?
    intro i
    by_cases hi : i < 20
    · have hE := hel i hi
      rw [c1, Nat.mul_one, List.getElem?_eq_getElem (by omega)] at hE
      obtain ⟨z, k1, k2, _⟩ := DataW.trod_int Tryz.underlying254 hE
      have hp : i < powZ.length := hi
      have e4 : (xs.map (·.1))[i]? = (powZ.map fun n => (DataW.lit (.int .u64 n) : DataW Unit))[i]? := by rw [e3]
      rw [List.getElem?_map, List.getElem?_map, List.getElem?_eq_getElem (by omega : i < xs.length), List.getElem?_eq_getElem hp, k2] at e4
      have hz : z = powZ[i] := by
        simp only [Option.map_some, Option.some.injEq, DataW.lit.injEq, Lit.int.injEq, true_and] at e4
        exact e4
      have h0 : ((cs3.toList.drop i).take 1)[0]? = some (.int .u64 z) := by rw [k1]; rfl
      have h1 : cs3.toList[i]? = some (.int .u64 z) := by simpa using h0
      rw [h1, List.getElem?_map, List.getElem?_eq_getElem hp, hz]; rfl
    · rw [List.getElem?_eq_none (by omega), List.getElem?_eq_none (by simp [powZ]; omega)]
  have hs : cs3.size = 20 := by rw [← Array.length_toList, hcl]
  obtain ⟨⟨C, t, hb⟩, _⟩ := hfr 0 0 (by simp [MemPlace.row, hs])
  refine ⟨C, t, hb, ?_, h6⟩
  unfold World.var? at hv3
  rw [hg3] at hv3
  have hb' : W.heap[0]? = some (.cells C t (0, 0)) := hb
  have : some C = some cs3 := by simpa [hb'] using hv3
  cases this
  exact hl20
/-- the names of the packages' variables -/
noncomputable def rho0 (W : World) : Nm := fun g => if g < 6 then some (g, match W.heap[g]? with
  | some (.cells c _ _) => c.size
  | _ => 0) else none
theorem glob0 (W : World) : Glob (rho0 W) := fun g hg => ⟨_, if_pos hg⟩
theorem HR0 {W : World} (h : laidMetH Tryz.prog laidTop W) (ν : Vl) : HR ν (rho0 W) 6 H0 W := by
  obtain ⟨C, t, hb, hC, h6⟩ := pow_cells h
  refine ⟨fun b A hA => ?_, fun b c A B r s t hA hB _ _ => ?_, fun b hb => if_neg (by omega), fun b r s hr => ?_⟩
  · obtain ⟨rfl, rfl⟩ := H0_get hA
    refine ⟨0, C.size, _, by simp [rho0, hb], hb, _, pow_VRs ν _ powZ, ?_, ⟨C, t, (0, 0), [], rfl, by rw [hC, List.append_nil], rfl, .inl rfl⟩, rfl⟩
    intro x hx
    obtain ⟨n, _, rfl⟩ := List.mem_map.1 hx
    rfl
  · rw [(H0_get hA).1, (H0_get hB).1]
  · unfold rho0 at hr
    by_cases e : b < 6
    · rw [if_pos e] at hr; cases hr; omega
    · rw [if_neg e] at hr; cases hr
set_option maxRecDepth 100000 in
/-- A RUN OF THE QUICK FORM TELLS THE CALL -/
theorem calls_of_run {bd : Bd} {ν : Vl} (ok : ν.Ok bd) {m f : Nat} {args : List AV} {vs : List Value} {W : World} (hL : laidMetH Tryz.prog laidTop W) (hbody : hasBody Tryz.prog f = true) (hv : VRs ν (rho0 W) args vs)
    (hrun : chkT (callG (CX bd) extIsB m f args fin 6 H0 []) = true) : Calls Tryz.prog f ⟨vs⟩ W fun e W' => e = .returned (.bool true) ∧ Below W.heap.size W W' := by
  obtain ⟨nx, H, D, hA, hD⟩ := chkT_spec hrun
  let o' : Oper := { dst := some 0, op := .ready 0, type := 0, pos := "", after := #[], guard := none }
  let a' : Act := { tmps := #[undef], defers := [] }
  have hop := callX bd ok m (o := o') (a := a') (HR0 hL ν) (glob0 W) (fun _ e => by rw [hA] at e; cases e) hv rfl
  have hP : (CX bd).P = Tryz.prog := (isX bd).P
  rw [hasBody_run (by rw [hP]; exact fitP) (by rw [hP]; exact hbody)] at hop
  have hin := hop (fun a1 w1 => a1.tmps[0]? = some (.bool true) ∧ Below W.heap.size W w1) (fun _ _ _ => False) ?_
  · rw [Oper.upon_enter, hP] at hin
    refine hin.mono ?_
    rintro e w1 he
    cases e with
    | returned v =>
      obtain ⟨e1, e2⟩ := he
      have e1 : (a'.put (some 0) v).tmps[0]? = some (.bool true) := e1
      simp [a', Act.put] at e1
      exact ⟨by rw [e1], e2⟩
    | panicked c => exact he.elim
    | outgrown => obtain ⟨_, _, hf⟩ := he; exact hf.elim
  · intro x nx' H' D' ρ' v w' hk hlow hvr hr' hst
    have hk : Ans.ok x nx' H' (D' ++ []) = .ok (.bool true) nx H D := hk.trans hA
    injection hk with e1 e2 e3 e4
    rw [List.append_nil] at e4
    subst e1; subst e4
    have hvr : v = .bool true := hvr
    refine ⟨by simp [a', o', Act.put, hvr], ⟨hst.os, hst.tape, hst.output, hst.size, fun r hr => hst.frame r hr fun c s hc e => ?_⟩⟩
    have h6 := List.all_eq_true.1 hD (c, true) hc
    simp at h6
    have : ¬ c < 6 := by omega
    simp [rho0, this] at e
end Go.AM
namespace Go.AM
open Go Go.Proofs
set_option linter.unusedVariables false
/-! # TopBudget: the walk through a round -/
noncomputable abbrev n6 : Nat := Tryz.f6.ntmps
noncomputable abbrev n33 : Nat := Tryz.f33.ntmps
/-- what holds of a state, and of the world since the first one -/
structure SW (ν : Vl) (W : World) (ρ0 ρb : Nm) (n : Nat) (e : T AV) (nx : Nat) (H : T AB) (L : Log) (ρ : Nm) (a : Act) (w : World) : Prop where
  er : ER ν ρ n e a
  hr : HR ν ρ nx H w
  gl : Glob ρ
  ext : Ext ρb ρ
  bs : ∃ E, Stp ρ0 W ρ w (L ++ E) ∧ newW8 E = true
theorem newW8_app {D E : Log} (h : newW8 D = true) (k : newW8 E = true) : newW8 (D ++ E) = true := by
  unfold newW8 at *
  rw [List.all_append, h, k]; rfl
section
variable {D : Dat} {W : World} {bd : Bd} {z : Ans} {n : Nat} {e : T AV} {nx : Nat} {H : T AB} {L : Log} {ρ0 ρb ρ : Nm} {a : Act} {w : World} {Q : Exit → Act → World → Prop}
set_option maxRecDepth 100000 in
theorem runC_ok (hG : D.Good) (ok : (nuD D).Ok bd) (hz : Yes z) {c : Code} (hfit : codeFit n c = true) {kN : KE} {kE : Nat → KE} (h : runC bd c kN kE e nx H L = z) (hs : SW (nuD D) W ρ0 ρb n e nx H L ρ a w)
    (hN : ∀ e' nx' H' L' ρ' a' w', kN e' nx' H' L' = z → SW (nuD D) W ρ0 ρb n e' nx' H' L' ρ' a' w' → Q .normal a' w') (hE : ∀ i e' nx' H' L' ρ' a' w', kE i e' nx' H' L' = z → SW (nuD D) W ρ0 ρb n e' nx' H' L' ρ' a' w' → Q (.exit i) a' w') :
    c.wp Tryz.prog Q a w := by
  have hc : CallOk (CW bd) (nuD D) (callG (CW bd) extIsW 1000) := callW hG bd ok 1000
  have hP : (CW bd).P = Tryz.prog := (isW bd).P
  have hdr : DrawOk (CW bd) (nuD D) (callG (CW bd) extIsW 1000) := by
    rw [callG_eq (CW bd) (inW bd) 1000] at hc ⊢
    exact draw_ok ok (plainW bd) (by rw [hP]; exact mixed) hc (loc_callN (locXW (isW bd)) 1000)
  unfold runC at h
  rw [codeF_eq] at h
  rw [← hP]
  refine exec_ok ok (plainW bd) hc hdr hz 100000 hfit hs.hr hs.gl hs.er h ?_
  intro x e' nx1 H' D' a' w' hx ⟨ρ1, k1, k2, k3, k4, k5⟩
  obtain ⟨E, hst, hn⟩ := hs.bs
  have hs' : SW (nuD D) W ρ0 ρb n e' nx1 H' (D' ++ L) ρ1 a' w' := ⟨k2, k3, k5, hs.ext.trans k4.ext, E, by rw [List.append_assoc]; exact hst.trans k4, hn⟩
  cases x with
  | nrm => exact hN _ _ _ _ _ _ _ hx hs'
  | ext i => exact hE i _ _ _ _ _ _ _ hx hs'
  | ret => exact (hz _ hx.symm).elim
theorem runC_go (hG : D.Good) (ok : (nuD D).Ok bd) (hz : Yes z) {c : Code} (hfit : codeFit n c = true) {cs : List Code} {k : KE} (h : runL bd (c :: cs) k e nx H L = z) (hs : SW (nuD D) W ρ0 ρb n e nx H L ρ a w)
    (hN : ∀ e' nx' H' L' ρ' a' w', runL bd cs k e' nx' H' L' = z → SW (nuD D) W ρ0 ρb n e' nx' H' L' ρ' a' w' → Q .normal a' w') : c.wp Tryz.prog Q a w :=
  runC_ok hG ok hz hfit h hs hN (fun _ _ _ _ _ _ _ _ h _ => (hz _ h.symm).elim)
end
/-! ## told anew -/
theorem told_ok {bd : Bd} {top : Int} {c : TC} {s : Sta} {e f : T AV} {nx : Nat} {H : T AB} (h : told bd top c s e f nx H = true) :
    ∃ M R asg, okE ⟨c.i, c.known, c.hit, c.zero, c.put, c.mode, s.nx⟩ M asg e (outE s.e) = true ∧ okE ⟨c.i, c.known, c.hit, c.zero, c.put, c.mode, s.nx⟩ M asg f (inE s.e) = true ∧ okH ⟨c.i, c.known, c.hit, c.zero, c.put, c.mode, s.nx⟩ M R asg H s.H = true ∧ okA bd top asg = true := by
  unfold told tellB tellS tellOk at h
  obtain ⟨h1, h⟩ := bc2 h
  obtain ⟨h2, h⟩ := bc2 h
  obtain ⟨h3, h4⟩ := bc2 h
  exact ⟨_, _, _, h1, h2, h3, h4⟩
section
variable {ν ν' : Vl} {c : TC} {asg : T SI} {M R : T Nat} {ρ0 ρ ρb : Nm} {W : World} {n : Nat} {e : T AV} {nx : Nat} {H : T AB} {L : Log} {a : Act} {w : World}
theorem rnm_old {b : Nat} (h : b < 8) : rnm M c.nx ρ b = ρ b := by unfold rnm; rw [if_pos h]
theorem SW.retold (h0 : ∀ b, 8 ≤ b → ρ0 b = none) (hn : Nx ν ν' c asg) (hs : SW ν W ρ0 ρb n e nx H L ρ a w) (hL : newW8 L = true) {l : List (Nat × AV)} {lH : List (Nat × AB)} (ht : lH.all (fun p => topB c.i p.2) = true) (k1 : okE c M asg e l = true) (k2 : okH c M R asg H lH = true) :
    SW ν' W ρ0 ρ0 n (mkT l) c.nx (mkT lH) [] (rnm M c.nx ρ) a w where
  er := okE_ok hn k1 hs.er
  hr := okH_ok hn hs.hr ht k2
  gl := fun g hg => by rw [rnm_old (Nat.lt_of_lt_of_le (show g < 6 from hg) (by omega))]; exact hs.gl g hg
  ext := fun b p hb => by
    obtain ⟨E, hst, _⟩ := hs.bs
    have h6 : b < 8 := by
      by_cases h : b < 8
      · exact h
      · rw [h0 b (by omega)] at hb; cases hb
    rw [rnm_old h6]; exact hst.ext b p hb
  bs := by
    obtain ⟨E, hst, hE⟩ := hs.bs
    refine ⟨L ++ E, ⟨fun b p hb => ?_, hst.os, hst.tape, hst.output, hst.size, hst.frame, fun b r s h1 h2 => ?_⟩, newW8_app hL hE⟩
    · have h6 : b < 8 := by
        by_cases h : b < 8
        · exact h
        · rw [h0 b (by omega)] at hb; cases hb
      rw [rnm_old h6]; exact hst.ext b p hb
    · by_cases h6 : b < 8
      · rw [rnm_old h6] at h2
        exact hst.own b r s h1 h2
      unfold rnm at h2
      rw [if_neg h6] at h2
      by_cases hb : b < c.nx
      · rw [if_pos hb] at h2
        split at h2
        · rename_i d _
          by_cases hd : 8 ≤ d
          · rw [if_pos hd] at h2
            exact hst.own d r s (h0 d hd) h2
          · rw [if_neg hd] at h2; cases h2
        · cases h2
      · rw [if_neg hb] at h2; cases h2
end
theorem okA_ok {D : Dat} {bd : Bd} {top : Int} {asg : T SI} (ok : (nuD D).Ok bd) (h0 : 0 ≤ top) (h : okA bd top asg = true) : ∀ j, 38 ≤ j → j ≤ 47 → 0 ≤ qOf D asg j ∧ qOf D asg j ≤ top := by
  intro j h1 h2
  unfold qOf
  rw [if_neg (by omega)]
  have := List.all_eq_true.1 h (j - 38) (List.mem_range.2 (by omega))
  rw [show Nat.add 38 (j - 38) = j from by show 38 + (j - 38) = j; omega] at this
  cases he : asg.get j with
  | none => exact ⟨Int.le_refl _, h0⟩
  | some e =>
    rw [he] at this
    simp only at this
    split at this
    · rename_i l h hl hh
      obtain ⟨k1, k2⟩ := bc2 this
      rw [ile_eq] at k1 k2
      have k1 := of_decide_eq_true k1
      have k2 := of_decide_eq_true k2
      have := SI.lo_den ok hl
      have := SI.hi_den ok hh
      show 0 ≤ e.den (nuD D) ∧ e.den (nuD D) ≤ top
      omega
    · cases this
end Go.AM
namespace Go.AM
open Go Go.Proofs
set_option linter.unusedVariables false
/-! # TopBudget: the walk through a round: Round's call -/
noncomputable def c20 : Code := sL (sBlk (sL (sR cK)))
noncomputable def ops20 : Array Oper := match c20 with
  | .region _ ops _ => ops
  | _ => #[]
theorem cK_eq : cK = .seq cK0 (.seq (.block 3 (.seq (.region 20 ops20 false) cK3)) cK6) := by kernel_rfl
noncomputable def o20a : Oper := ops20.getD 0 default
noncomputable def o20b : Oper := ops20.getD 1 default
theorem ops20_size : ops20.size = 2 := by kernel_rfl
theorem ops20_0 : ops20[0]? = some o20a := by kernel_rfl
theorem ops20_1 : ops20[1]? = some o20b := by kernel_rfl
theorem o20a_op : o20a.op = .move (.tmp 14) := by kernel_rfl
theorem o20a_dst : o20a.dst = some 80 := by kernel_rfl
theorem o20a_g : o20a.guard = none := by kernel_rfl
theorem o20b_op : o20b.op = .call { callee := .value (.func 33), args := #[.tmp 80], argTypes := #[64] } := by kernel_rfl
theorem o20b_dst : o20b.dst = some 81 := by kernel_rfl
theorem o20b_g : o20b.guard = none := by kernel_rfl
theorem body33has : hasBody Tryz.prog 33 = true := by kernel_rfl
theorem region20 {Q : Exit → Act → World → Prop} {a : Act} {w : World} {v : Value} (hsz : 80 < a.tmps.size) (hv : a.eval (.tmp 14) = v)
    (h : Calls Tryz.prog 33 ⟨[v]⟩ w fun en w' => match en with
      | .returned u => Q .normal ((a.put (some 80) v).put (some 81) u) w'
      | _ => False) : (Code.region 20 ops20 false).wp Tryz.prog Q a w := by
  refine wp_region ?_
  rw [ops20_size]
  show wpOps Tryz.prog ops20 Q [0, 1] a w
  rw [wpOps_cons]
  unfold wpOp
  rw [ops20_0]
  simp only
  rw [if_pos (by unfold Region.wanted; rw [o20a_g])]
  refine .inl ?_
  unfold Oper.wp
  simp only [Go.execOp, o20a_op, Sem.run_pure, Oper.upon_value, o20a_dst]
  rw [hv, wpOps_cons]
  unfold wpOp
  rw [ops20_1]
  simp only
  rw [if_pos (by unfold Region.wanted; rw [o20b_g])]
  refine .inl ?_
  unfold Oper.wp
  have he : (a.put (some 80) v).eval (.tmp 80) = v := by
    simp [Act.eval, Act.put, hsz]
  have hr : (Go.execOp (a.put (some 80) v).eval o20b).run Tryz.prog w = .ok (.enter 33 ⟨[v]⟩) w := by
    have hb := hasBody_run (P := Tryz.prog) fitP body33has ⟨[v]⟩ w
    have e2 : (#[Operand.tmp 80] : Array Operand).map (a.put (some 80) v).eval = ⟨[v]⟩ := by
      rw [List.map_toArray, List.map_cons, List.map_nil, he]
    have hf : (a.put (some 80) v).eval (.func 33) = .func (.func 33) #[] #[] := rfl
    simp only [Go.execOp, o20b_op, resolve, hf, Deferred.ofValue, Sem.run_bind, Sem.run_pure, Result.andThen_ok, invoke, e2]
    simpa only [Array.append_empty, Array.empty_append] using hb
  rw [hr, Oper.upon_enter]
  refine h.mono ?_
  rintro en w' hq
  cases en with
  | returned u => simp only [o20b_dst]; exact hq
  | panicked c => exact hq.elim
  | outgrown => exact hq.elim
theorem ER.putfree {ν : Vl} {ρ : Nm} {n : Nat} {e : T AV} {a : Act} (h : ER ν ρ n e a) {i : Nat} (hi : e.get i = none) (v : Value) : ER ν ρ n e (a.put (some i) v) where
  defers := h.defers
  size := by have := h.size; simpa [Act.put] using this
  slot := fun t x hx => by
    have hne : i ≠ t := fun h => by subst h; rw [hi] at hx; cases hx
    have := h.slot t x hx
    have hq : (a.put (some i) v).tmps[t]? = a.tmps[t]? := by simp [Act.put, Array.getElem?_setIfInBounds_ne hne]
    have hd : (a.put (some i) v).tmps.getD t undef = a.tmps.getD t undef := by simp only [Array.getD_eq_getD_getElem?, hq]
    rw [hd]; exact this
/-! ## operations, a few of a region's -/
set_option maxRecDepth 100000 in
theorem pre_ok {D : Dat} {W : World} {bd : Bd} {z : Ans} {n : Nat} {ρ0 ρb : Nm} (hG : D.Good) (ok : (nuD D).Ok bd) (hz : Yes z) {all : Array Oper} {Q : Exit → Act → World → Prop} {rest : List Nat} {sub : List Oper} {kN : T AV → Nat → T AB → Log → Ans}
    (hN : ∀ e' nx' H' L' ρ' a' w', kN e' nx' H' L' = z → SW (nuD D) W ρ0 ρb n e' nx' H' L' ρ' a' w' → wpOps Tryz.prog all Q rest a' w') :
    ∀ {l : List Oper} {i : Nat} {ρ : Nm} {nx : Nat} {H : T AB} {L : Log} {w : World} {e : T AV} {a : Act}, (∀ j, j < l.length → l[j]? = all[i + j]?) → l.all (fun o => opFit n o && o.guard.isNone) = true → SW (nuD D) W ρ0 ρb n e nx H L ρ a w →
      execOps (CW bd) (callG (CW bd) extIsW 1000) sub l e kN nx H L = z → wpOps Tryz.prog all Q (List.range' i l.length ++ rest) a w := by
  have hc : CallOk (CW bd) (nuD D) (callG (CW bd) extIsW 1000) := callW hG bd ok 1000
  have hP : (CW bd).P = Tryz.prog := (isW bd).P
  intro l
  induction l with
  | nil => intro i ρ nx H L w e a _ _ hs h; exact hN _ _ _ _ _ _ _ h hs
  | cons o l ih =>
    intro i ρ nx H L w e a hl hfit hs h
    have ho : all[i]? = some o := by have := hl 0 (by simp); simpa using this.symm
    rw [List.all_cons, Bool.and_eq_true, Bool.and_eq_true] at hfit
    obtain ⟨⟨hfo, hgo⟩, hfit⟩ := hfit
    have hgo : o.guard = none := by simpa using hgo
    have hl' : ∀ j, j < l.length → l[j]? = all[i + 1 + j]? := fun j hj => by have := hl (j + 1) (by simp; omega); simpa [Nat.add_assoc, Nat.add_comm 1 j] using this
    have hd : ∀ d, o.dst = some d → d < n := by
      intro d hd
      have := hfo
      unfold opFit at this
      rw [hd] at this
      exact Nat.le_of_ble_eq_true this
    rw [List.length_cons, List.range'_succ, List.cons_append, wpOps_cons]
    unfold wpOp
    rw [ho]
    simp only
    rw [if_pos (by unfold Region.wanted; rw [hgo])]
    have h : wantedA sub e o.guard ((execOp (CW bd) (callG (CW bd) extIsW 1000) e o.op).bind fun x => execOps (CW bd) (callG (CW bd) extIsW 1000) sub l (putDst e o.dst x)) (execOps (CW bd) (callG (CW bd) extIsW 1000) sub l (putDst e o.dst (.tup []))) kN nx H L = z := h
    rw [hgo] at h
    refine .inl ?_
    rw [← hP]
    refine execOp_ok ok (plainW bd) hc hs.hr hs.gl hs.er hz h _ Q ?_
    intro x nx' H' D' ρ' v w' hk hnx hx hr' hst
    rw [hP]
    obtain ⟨E, k1, k2⟩ := hs.bs
    exact ih hl' hfit ⟨(hs.er.ext hst.ext).put hd hx, hr', hs.gl.ext hst.ext, hs.ext.trans hst.ext, E, by rw [List.append_assoc]; exact k1.trans hst, k2⟩ hk
/-- a part of a region's operations, run by the machine -/
theorem sub_ok {D : Dat} {W : World} {bd : Bd} {z : Ans} {n : Nat} {ρ0 ρb ρ : Nm} (hG : D.Good) (ok : (nuD D).Ok bd) (hz : Yes z) {all : Array Oper} {Q : Exit → Act → World → Prop} {rest : List Nat} {id i m : Nat} {cs : List Code} {k : KE} {e : T AV} {nx : Nat} {H : T AB} {L : Log} {a : Act} {w : World}
    (hm : i + m ≤ all.size) (hfit : (((all.toList.drop i).take m).all fun o => opFit n o && o.guard.isNone) = true) (h : runL bd (subOps id all i m :: cs) k e nx H L = z) (hs : SW (nuD D) W ρ0 ρb n e nx H L ρ a w)
    (hN : ∀ e' nx' H' L' ρ' a' w', runL bd cs k e' nx' H' L' = z → SW (nuD D) W ρ0 ρb n e' nx' H' L' ρ' a' w' → wpOps Tryz.prog all Q rest a' w') : wpOps Tryz.prog all Q (List.range' i m ++ rest) a w := by
  have h : runC bd (subOps id all i m) (runL bd cs k) (fun _ => noS) e nx H L = z := h
  unfold runC subOps at h
  rw [codeF_eq] at h
  have hlen : ((all.toList.drop i).take m).length = m := by rw [List.length_take, List.length_drop, Array.length_toList]; omega
  generalize hl : (all.toList.drop i).take m = l at h hfit hlen
  have h : execOps (CW bd) (callG (CW bd) extIsW 1000) l l e (runL bd cs k) nx H L = z := h
  have := pre_ok hG ok hz hN (i := i) (fun j hj => by
    rw [← hl, List.getElem?_take, if_pos (by omega), List.getElem?_drop, Array.getElem?_toList]) hfit hs h
  rw [hlen] at this
  exact this
/-- a number, loaded -/
theorem load_step {all : Array Oper} {Q : Exit → Act → World → Prop} {rest : List Nat} {j t d : Nat} {o : Oper} {r off : Nat} {v : Value} {a : Act} {w : World} (ho : all[j]? = some o) (hop : o.op = .load 3 (.tmp t)) (hd : o.dst = some d) (hg : o.guard = none)
    (hv : a.eval (.tmp t) = .pointer (some ⟨r, off, none⟩)) (hc : w.cell? ⟨r, off, none⟩ = some v) (h : wpOps Tryz.prog all Q rest (a.put (some d) v) w) : wpOps Tryz.prog all Q (j :: rest) a w := by
  rw [wpOps_cons]
  unfold wpOp
  rw [ho]
  simp only
  rw [if_pos (by unfold Region.wanted; rw [hg])]
  refine .inl ?_
  unfold Oper.wp
  have h3 : (isAgg 3).run Tryz.prog w = .ok false w := aggN_none (C := CW []) (by kernel_rfl)
  have : (Go.execOp a.eval o).run Tryz.prog w = .ok (.value v) w := by
    simp only [Go.execOp, hop, hv, Instr.loadAt, Instr.sureAddr, pure_bind, loadVar, Sem.run_bind, h3, Result.andThen_ok]
    simp [hc]
  rw [this, Oper.upon_value, hd]
  exact h
theorem cell_same {w W : World} {a : Addr} (h : w.heap[a.block]? = W.heap[a.block]?) : w.cell? a = W.cell? a := by
  unfold World.cell?
  rw [h]
/-- what the caller handed in: the rounds' cells, the sizes' -/
structure Mem (W : World) (ρ0 : Nm) (D : Dat) : Prop where
  l : ∀ t, t ≤ 14 → t < D.ln → ∃ r sz o, ρ0 6 = some (r, sz) ∧ D.q 262 = (o : Nat) ∧ r < W.heap.size ∧ W.cell? ⟨r, o + (4 * t + 1), none⟩ = some (.int .i64 (D.lp t))
  s : ∀ t, t ≤ 14 → t < D.sn → ∃ r sz o, ρ0 7 = some (r, sz) ∧ D.q 263 = (o : Nat) ∧ r < W.heap.size ∧ W.cell? ⟨r, o + t, none⟩ = some (.int .i64 (D.sp t))
theorem Mem.same {W : World} {ρ0 : Nm} {D D' : Dat} (h : Mem W ρ0 D) (k : SameA D D') : Mem W ρ0 D' := by
  refine ⟨fun t h1 h2 => ?_, fun t h1 h2 => ?_⟩
  · rw [k.ln] at h2
    rw [k.q 262 (by omega), k.lp]
    exact h.l t h1 h2
  · rw [k.sn] at h2
    rw [k.q 263 (by omega), k.sp]
    exact h.s t h1 h2
end Go.AM
