import Derived.Test.YtpgfdoakehpnlaaGreatDoorAvE
import Derived.Orders
import Derived.Test.YtpgfdoakehpnlaaGreatDoorAvB
set_option linter.unusedVariables false
set_option linter.unusedSimpArgs false
namespace Go.AM
/-! # Soundness, part 23: regions in the text's order, code, functions -/
/-- the bits, as a function of the place -/
def Bits (bs : List Nat) (i : Nat) : Nat := (bs[bs.length - 1 - i]?).getD 0
def tmpOf : Operand → Option Nat
  | .tmp t => some t
  | _ => none
/-- the slots that an operation looks at -/
def looksA (all : List Oper) (o : Oper) : List Nat := o.op.operands.toList.filterMap tmpOf ++ (match o.guard with
  | some g => ((all[g.1]?).bind (·.dst)).toList
  | none => [])
def slotsOffB (all : List Oper) (o p : Oper) : Bool := (match o.dst with
  | none => true
  | some d => !(looksA all p).contains d && !(p.dst == some d)) && (match p.dst with
  | none => true
  | some d => !(looksA all o).contains d)
/-- what is asked of a region whose order is drawn -/
noncomputable def regFit (all : List Oper) : Bool := (all.zipIdx.all fun p => p.1.after.toList.all fun e => bc (Region.binds .any e) (Nat.ble (e.on + 1) p.2) true) &&
  (all.zipIdx.all fun p => all.zipIdx.all fun q => bc (Nat.ble (q.2 + 1) p.2) (Nat.testBit (Bits (before all []) p.2) q.2 || slotsOffB all p.1 q.1) true)
/-- does every operation write a slot that there is? -/
def opFit (n : Nat) (o : Oper) : Bool := match o.dst with
  | none => true
  | some d => Nat.ble (d + 1) n
noncomputable def codeFit (n : Nat) : Code → Bool
  | .region _ ops d => ops.toList.all (opFit n) && bc d (regFit ops.toList) true
  | .seq a b => codeFit n a && codeFit n b
  | .cond _ a b => codeFit n a && codeFit n b
  | .block _ c => codeFit n c
  | .loop c => codeFit n c
  | _ => true
noncomputable def fnFit (fn : Func) : Bool := !(fn.name == "runtime.NumGoroutine") && (match fn.body with
  | none => true
  | some c => codeFit fn.ntmps c)
def exitOf : X → Exit
  | .nrm => .normal
  | .ext id => .exit id
  | .ret => .ret
/-- a state behind some steps -/
def St (ν : Vl) (ρ0 : Nm) (nx0 : Nat) (w0 : World) (n : Nat) (e : T AV) (nx : Nat) (H : T AB) (D : Log) (a : Act) (w : World) : Prop :=
  ∃ ρ, Low nx0 ρ0 nx ρ ∧ ER ν ρ n e a ∧ HR ν ρ nx H w ∧ Stp ρ0 w0 ρ w D ∧ Glob ρ
theorem St.trans {ν : Vl} {ρ0 ρ1 : Nm} {nx0 nx1 : Nat} {w0 w1 : World} {n : Nat} {e : T AV} {nx : Nat} {H : T AB} {D D1 : Log} {a : Act} {w : World} (h1 : Low nx0 ρ0 nx1 ρ1) (h2 : Stp ρ0 w0 ρ1 w1 D1) (h : St ν ρ1 nx1 w1 n e nx H D a w) :
    St ν ρ0 nx0 w0 n e nx H (D ++ D1) a w := by
  obtain ⟨ρ, k1, k2, k3, k4, k5⟩ := h
  exact ⟨ρ, h1.trans k1, k2, k3, h2.trans k4, k5⟩
theorem St.here {ν : Vl} {ρ : Nm} {nx : Nat} {w : World} {n : Nat} {e : T AV} {H : T AB} {a : Act} (hr : HR ν ρ nx H w) (hg : Glob ρ) (he : ER ν ρ n e a) : St ν ρ nx w n e nx H [] a w :=
  ⟨ρ, .refl, he, hr, .refl _ _ _, hg⟩
/-- a loop, with a number that falls -/
theorem wp_loop_n {P : Program} {Q : Exit → Act → World → Prop} {a : Act} {w : World} {c : Code} (J : Nat → Act → World → Prop) (m : Nat) (h₀ : J m a w)
    (round : ∀ m a w, J m a w → c.wp P (Exit.then (fun a' w' => ∃ m', m' < m ∧ J m' a' w') Q) a w) : (Code.loop c).wp P Q a w := by
  intro b k cs
  have key : ∀ m a w, J m a w → ∃ e a' w', Q e a' w' ∧ Arrives P (lone (b.at a (.code c :: .inLoop c :: k)) cs w) b k cs e a' w' := by
    intro m
    induction m using Nat.strongRecOn with
    | _ m ih =>
      intro a w hJ
      obtain ⟨e, a₁, w₁, hq, harr⟩ := round m a w hJ b (.inLoop c :: k) cs
      cases e with
      | normal =>
        obtain ⟨m', hlt, hJ'⟩ := hq
        obtain ⟨e₂, a₂, w₂, hq₂, harr₂⟩ := ih m' hlt a₁ w₁ hJ'
        exact ⟨e₂, a₂, w₂, hq₂, .of_steps (Steps.trans harr (.one step_inLoop)) harr₂⟩
      | exit id => exact ⟨_, a₁, w₁, hq, .pass (x := .inLoop c) rfl (fun _ _ => .inl (by simp)) harr⟩
      | goto l => exact ⟨_, a₁, w₁, hq, .pass (x := .inLoop c) rfl (fun _ _ => .inl (by simp)) harr⟩
      | ret => exact ⟨_, a₁, w₁, hq, .pass (x := .inLoop c) rfl (fun _ _ => .inl (by simp)) harr⟩
      | panic ch => exact ⟨_, a₁, w₁, hq, .pass (x := .inLoop c) rfl (fun _ _ => .inl (by simp)) harr⟩
      | outgrown => exact ⟨_, a₁, w₁, hq, .pass (x := .inLoop c) rfl (fun _ _ => .inl (by simp)) harr⟩
  obtain ⟨e, a', w', hq, harr⟩ := key m a w h₀
  exact ⟨e, a', w', hq, .of_steps (.one step_loop) harr⟩
section
variable {C : Cx} {ν : Vl} {ρ : Nm} {nx n : Nat} {H : T AB} {L : Log} {w : World} {z : Ans} {e : T AV} {a : Act}
theorem VR.noBool {x : AV} {v : Value} (h : VR ν ρ x v) (hx : ∀ b, x ≠ .bool b) : ∀ b, v ≠ .bool b := by
  intro b hv
  subst hv
  cases x <;> first | (exact hx _ rfl) | (cases h; done) | skip
  case ptr => obtain ⟨_, _, _, _, _, h⟩ := h; cases h
  case sl => obtain ⟨_, _, _, _, _, _, _, _, _, _, _, h⟩ := h; cases h
  case fn => obtain ⟨_, _, _, _, h⟩ := h; cases h
  case agg => obtain ⟨_, _, _, h⟩ := h; cases h
  case tup => obtain ⟨_, _, h⟩ := h; cases h
  case map => obtain ⟨_, _, _, h⟩ := h; cases h
theorem yield_ok (he : ER ν ρ n e a) {all : Array Oper} {g : Nat × Bool} {b : Bool} (h : yieldA all.toList e g = some b) : (yielded all a.tmps g.1 == some g.2) = b := by
  obtain ⟨p, hp, h⟩ := ob_some h
  obtain ⟨d, hd, h⟩ := ob_some h
  obtain ⟨x, hx, h⟩ := ob_some h
  rw [lget_eq] at hp
  have hp : all[g.1]? = some p := by simpa using hp
  have hv := he.slot d x hx
  unfold yielded
  rw [hp]
  simp only [Option.bind_some, hd]
  cases hs : a.tmps[d]? with
  | none =>
    rw [Array.getD_eq_getD_getElem?, hs] at hv
    cases x <;> first | (cases h; rfl) | skip
    case bool q => cases hv
  | some v =>
    rw [Array.getD_eq_getD_getElem?, hs] at hv
    have hv : VR ν ρ x v := hv
    by_cases hb : ∃ q, x = .bool q
    · obtain ⟨q, rfl⟩ := hb
      have hv : v = _ := hv
      subst hv
      cases h
      obtain ⟨g1, g2⟩ := g
      cases q <;> cases g2 <;> rfl
    · have h1 := hv.noBool (fun b e => hb ⟨b, e⟩)
      have hf : b = false := by
        cases x <;> first | (cases h; rfl) | skip
        case bool => exact (hb ⟨_, rfl⟩).elim
      subst hf
      cases v <;> first | rfl | skip
      case bool => exact (h1 _ rfl).elim
theorem wanted_ok {α : Type} (he : ER ν ρ n e a) (hz : Yes z) {all : Array Oper} {o : Oper} {y m : M α} {k : α → Nat → T AB → Log → Ans} (h : wantedA all.toList e o.guard y m k nx H L = z) :
    (Region.wanted o (yielded all a.tmps) = true ∧ y k nx H L = z) ∨ (Region.wanted o (yielded all a.tmps) = false ∧ m k nx H L = z) := by
  unfold Region.wanted
  cases hg : o.guard with
  | none => rw [hg] at h; exact .inl ⟨rfl, h⟩
  | some g =>
    rw [hg] at h
    obtain ⟨b, hb, h⟩ := lift_ok hz (show ((M.lift "guard" (yieldA all.toList e g)).bind fun w => bc w y m) k nx H L = z from h)
    have := yield_ok he hb
    obtain ⟨g1, g2⟩ := g
    simp only at this ⊢
    rw [this]
    cases b with
    | true => exact .inl ⟨rfl, h⟩
    | false => exact .inr ⟨rfl, h⟩
theorem ops_ok (ok : ν.Ok C.bd) (hpl : PlainOk C) {call : Nat → List AV → M AV} (hc : CallOk C ν call) {all : Array Oper} {Q : Exit → Act → World → Prop} (hz : Yes z) :
    ∀ {l : List Oper} {i : Nat} {ρ : Nm} {nx : Nat} {H : T AB} {L : Log} {w : World} {e : T AV} {a : Act} {k : T AV → Nat → T AB → Log → Ans}, (∀ j, l[j]? = all[i + j]?) → l.all (opFit n) = true → HR ν ρ nx H w → Glob ρ → ER ν ρ n e a →
      execOps C call all.toList l e k nx H L = z → (∀ e' nx' H' D a' w', k e' nx' H' (D ++ L) = z → St ν ρ nx w n e' nx' H' D a' w' → Q .normal a' w') → wpOps C.P all Q (List.range' i l.length) a w := by
  intro l
  induction l with
  | nil => intro i ρ nx H L w e a k _ _ hr hg he h hQ; exact hQ e nx H [] a w h (St.here hr hg he)
  | cons o l ih =>
    intro i ρ nx H L w e a k hl hfit hr hg he h hQ
    have ho : all[i]? = some o := by simpa using (hl 0).symm
    rw [List.all_cons, Bool.and_eq_true] at hfit
    have hl' : ∀ j, l[j]? = all[i + 1 + j]? := fun j => by have := hl (j + 1); simpa [Nat.add_assoc, Nat.add_comm 1 j] using this
    have hd : ∀ d, o.dst = some d → d < n := by
      intro d hd
      have := hfit.1
      unfold opFit at this
      rw [hd] at this
      exact Nat.le_of_ble_eq_true this
    rw [List.length_cons, List.range'_succ, wpOps_cons]
    unfold wpOp
    rw [ho]
    simp only
    rcases wanted_ok he hz (show wantedA all.toList e o.guard ((execOp C call e o.op).bind fun x => execOps C call all.toList l (putDst e o.dst x)) (execOps C call all.toList l (putDst e o.dst (.tup []))) k nx H L = z from h) with ⟨hw, h1⟩ | ⟨hw, h1⟩
    · rw [if_pos hw]
      refine .inl (execOp_ok ok hpl hc hr hg he hz h1 _ Q ?_)
      intro x nx' H' D ρ' v w' hk hnx hx hr' hs
      refine ih hl' hfit.2 hr' (hg.ext hs.ext) ((he.ext hs.ext).put hd hx) hk ?_
      intro e2 nx2 H2 D2 a2 w2 hk2 hst
      exact hQ e2 nx2 H2 (D2 ++ D) a2 w2 (by rw [List.append_assoc]; exact hk2) (hst.trans hnx hs)
    · rw [if_neg (by rw [hw]; simp)]
      exact ih hl' hfit.2 hr hg (he.put hd VR_undef) h1 hQ

/-- a region whose order is drawn -/
def DrawOk (C : Cx) (ν : Vl) (call : Nat → List AV → M AV) : Prop :=
  ∀ {n : Nat} {id : Nat} {ops : Array Oper} {ρ : Nm} {nx : Nat} {H : T AB} {L : Log} {w : World} {e : T AV} {a : Act} {k : (X × T AV) → Nat → T AB → Log → Ans} {z : Ans} {Q : Exit → Act → World → Prop},
    Yes z → ops.toList.all (opFit n) = true → regFit ops.toList = true → HR ν ρ nx H w → Glob ρ → ER ν ρ n e a → exRegion C call ops.toList true e k nx H L = z →
    (∀ x e' nx' H' D a' w', k (x, e') nx' H' (D ++ L) = z → St ν ρ nx w n e' nx' H' D a' w' → Q (exitOf x) a' w') → (Code.region id ops true).wp C.P Q a w
theorem exec_ok (ok : ν.Ok C.bd) (hpl : PlainOk C) {call : Nat → List AV → M AV} (hc : CallOk C ν call) (hdr : DrawOk C ν call) (hz : Yes z) : ∀ (m : Nat) {c : Code} {ρ : Nm} {nx : Nat} {H : T AB} {L : Log} {w : World} {e : T AV} {a : Act} {k : (X × T AV) → Nat → T AB → Log → Ans} {Q : Exit → Act → World → Prop},
    codeFit n c = true → HR ν ρ nx H w → Glob ρ → ER ν ρ n e a → exec C call m c e k nx H L = z →
    (∀ x e' nx' H' D a' w', k (x, e') nx' H' (D ++ L) = z → St ν ρ nx w n e' nx' H' D a' w' → Q (exitOf x) a' w') → c.wp C.P Q a w := by
  intro m
  induction m using Nat.strongRecOn with
  | _ m ih =>
    intro c ρ nx H L w e a k Q hfit hr hg he h hQ
    cases m with
    | zero => exact (hz _ h.symm).elim
    | succ m =>
      have hstop : ∀ x, k (x, e) nx H L = z → Q (exitOf x) a w := fun x hk => hQ x e nx H [] a w hk (St.here hr hg he)
      have h : exStep C call (exec C call m) c e k nx H L = z := h
      cases c with
      | skip => exact wp_skip (hstop .nrm h)
      | label l => exact wp_label (hstop .nrm h)
      | exit id => exact wp_exit (hstop (.ext id) h)
      | ret => exact wp_ret (hstop .ret h)
      | rangeFunc f ps x y => exact (hz _ h.symm).elim
      | scope c => exact (hz _ h.symm).elim
      | goto l => exact (hz _ h.symm).elim
      | refuse s => exact (hz _ h.symm).elim
      | region id ops d =>
        have hfit2 : (ops.toList.all (opFit n) && bc d (regFit ops.toList) true) = true := hfit
        rw [Bool.and_eq_true] at hfit2
        cases d with
        | true => exact hdr hz hfit2.1 hfit2.2 hr hg he h hQ
        | false =>
          refine wp_region ?_
          have h : execOps C call ops.toList ops.toList e (fun e => k (.nrm, e)) nx H L = z := h
          have := ops_ok (Q := Q) ok hpl hc hz (l := ops.toList) (i := 0) (by intro j; simp) hfit2.1 hr hg he h (fun e' nx' H' D a' w' hk hst => hQ .nrm e' nx' H' D a' w' hk hst)
          rw [Array.length_toList, ← List.range_eq_range'] at this
          exact this
      | cond c x y =>
        have hfit : (codeFit n x && codeFit n y) = true := hfit
        rw [Bool.and_eq_true] at hfit
        obtain ⟨v, hv, hk⟩ := lift_ok hz (show ((arg e c).bind fun v => (match v with
          | .bool r => bc r (exec C call m x e) (exec C call m y e)
          | _ => M.no "cond") : M (X × T AV)) k nx H L = z from h)
        have hev := opnd_ok hg he hv
        cases v <;> try (exact (hz _ hk.symm).elim)
        case bool r =>
        have hev : a.eval c = .bool r := hev
        cases r with
        | true => exact wp_cond_true hev (ih m (Nat.lt_succ_self m) hfit.1 hr hg he hk hQ)
        | false => exact wp_cond_false hev (ih m (Nat.lt_succ_self m) hfit.2 hr hg he hk hQ)
      | seq x y =>
        have hfit : (codeFit n x && codeFit n y) = true := hfit
        rw [Bool.and_eq_true] at hfit
        refine wp_seq (ih m (Nat.lt_succ_self m) hfit.1 hr hg he (show exec C call m x e (fun r => (X.rec (exec C call m y r.2) (fun i => M.ret (.ext i, r.2)) (M.ret (.ret, r.2)) r.1 : M (X × T AV)) k) nx H L = z from h) ?_)
        intro t e' nx' H' D a' w' hk hst
        cases t with
        | nrm =>
          obtain ⟨ρ1, k1, k2, k3, k4, k5⟩ := hst
          refine ih m (Nat.lt_succ_self m) hfit.2 k3 k5 k2 hk ?_
          intro x e2 nx2 H2 D2 a2 w2 hk2 hst2
          exact hQ x e2 nx2 H2 (D2 ++ D) a2 w2 (by rw [List.append_assoc]; exact hk2) (hst2.trans k1 k4)
        | ext i => exact hQ (.ext i) e' nx' H' D a' w' hk hst
        | ret => exact hQ .ret e' nx' H' D a' w' hk hst
      | block id c =>
        refine wp_block (ih m (Nat.lt_succ_self m) hfit hr hg he (show exec C call m c e (fun r => exBlock id r.1 r.2 k) nx H L = z from h) ?_)
        intro t e' nx' H' D a' w' hk hst
        cases t with
        | nrm => exact hQ .nrm e' nx' H' D a' w' hk hst
        | ret => exact hQ .ret e' nx' H' D a' w' hk hst
        | ext i =>
          rcases bcM_ok (show (bc (Nat.beq i id) (M.ret (.nrm, e')) (M.ret (.ext i, e')) : M (X × T AV)) k nx' H' (D ++ L) = z from hk) with ⟨h1, h2⟩ | ⟨h1, h2⟩
          · have := Nat.eq_of_beq_eq_true h1
            subst this
            simp only [exitOf, Exit.inBlock, if_true]
            exact hQ .nrm e' nx' H' D a' w' h2 hst
          · have : ¬ i = id := fun e => by subst e; rw [Nat.beq_refl] at h1; cases h1
            simp only [exitOf, Exit.inBlock, if_neg this]
            exact hQ (.ext i) e' nx' H' D a' w' h2 hst
      | loop c =>
        have hfit : codeFit n c = true := hfit
        refine wp_loop_n (fun m1 a1 w1 => m1 ≤ m + 1 ∧ ∃ e1 nx1 H1 D1, exec C call m1 (.loop c) e1 k nx1 H1 (D1 ++ L) = z ∧ St ν ρ nx w n e1 nx1 H1 D1 a1 w1) (m + 1) ?_ ?_
        · exact ⟨Nat.le_refl _, e, nx, H, [], h, St.here hr hg he⟩
        · intro m1 a1 w1 ⟨hle, e1, nx1, H1, D1, h1, hst⟩
          cases m1 with
          | zero => exact (hz _ h1.symm).elim
          | succ p =>
            obtain ⟨ρ1, k1, k2, k3, k4, k5⟩ := hst
            refine ih p (by omega) hfit k3 k5 k2 (show exec C call p c e1 (fun r => (X.rec (exec C call p (.loop c) r.2) (fun i => M.ret (.ext i, r.2)) (M.ret (.ret, r.2)) r.1 : M (X × T AV)) k) nx1 H1 (D1 ++ L) = z from h1) ?_
            intro t e' nx' H' D a' w' hk hst
            have hst2 := hst.trans k1 k4
            cases t with
            | nrm => exact ⟨p, Nat.lt_succ_self p, by omega, e', nx', H', D ++ D1, by rw [List.append_assoc]; exact hk, hst2⟩
            | ext i => exact hQ (.ext i) e' nx' H' (D ++ D1) a' w' (by rw [List.append_assoc]; exact hk) hst2
            | ret => exact hQ .ret e' nx' H' (D ++ D1) a' w' (by rw [List.append_assoc]; exact hk) hst2
end
end Go.AM
namespace Go.AM
/-! # Soundness, part 24: functions -/
section
variable {C : Cx} {ν : Vl} {ρ : Nm} {nx n : Nat} {H : T AB} {L : Log} {w : World} {z : Ans} {e : T AV} {a : Act}
theorem slots_get : ∀ {l : List AV} {i : Nat} {e : T AV} {t : Nat}, (slots l i e).get t = if i ≤ t ∧ t < i + l.length then l[t - i]? else e.get t := by
  intro l
  induction l with
  | nil => intro i e t; rw [if_neg (by simp)]; rfl
  | cons x l ih =>
    intro i e t
    show (slots l (i + 1) (e.put i (some x))).get t = _
    rw [ih, T.get_put]
    by_cases h1 : t = i
    · subst h1
      rw [if_neg (by omega), if_pos rfl, if_pos (by simp)]
      simp
    · rw [if_neg h1]
      by_cases h2 : i + 1 ≤ t ∧ t < i + 1 + l.length
      · rw [if_pos h2, if_pos (by simp; omega), show t - i = (t - (i + 1)) + 1 by omega]
        simp
      · rw [if_neg h2, if_neg (by simp; omega)]
theorem get_leaf {t : Nat} : (T.leaf : T AV).get t = none := T.get_leaf t
theorem slots_ER {args : List AV} {vs : List Value} {m : Nat} (h : VRs ν ρ args vs) : ER ν ρ m (slots args 0 .leaf) { tmps := (⟨vs⟩ : Array Value) ++ Array.replicate (m - (⟨vs⟩ : Array Value).size) undef, defers := [] } := by
  refine ⟨rfl, by simp; omega, fun t x hx => ?_⟩
  rw [slots_get] at hx
  by_cases ht : 0 ≤ t ∧ t < 0 + args.length
  · rw [if_pos ht] at hx
    obtain ⟨v, hv, hxv⟩ := h.get hx
    have hlt : t < vs.length := (List.getElem?_eq_some_iff.1 hv).1
    simp only [Array.getD_eq_getD_getElem?]
    rw [Array.getElem?_append_left (by simpa using hlt)]
    have hv : (⟨vs⟩ : Array Value)[t]? = some v := by simpa using hv
    rw [hv]
    exact hxv
  · rw [if_neg ht, get_leaf] at hx; cases hx
def resF (tmps : Array Value) : ResultVar → Sem Value
  | .tmp t => pure (tmps.getD t undef)
  | .cell a t => do loadVar t (← asAddr (tmps.getD a undef))
theorem results_eq (fn : Func) (tmps : Array Value) : results fn tmps = (do
    let vs ← fn.results.mapM (resF tmps)
    pure (if h : vs.size = 1 then vs[0] else .tuple vs)) := by
  unfold results
  congr 1
theorem resultsA_ok (ok : ν.Ok C.bd) (hr : HR ν ρ nx H w) (hz : Yes z) (he : ER ν ρ n e a) : ∀ {l : List ResultVar} {L : Log} {k : List AV → Nat → T AB → Log → Ans}, resultsA C e l k nx H L = z →
    ∃ xs vs D, k xs nx H (D ++ L) = z ∧ VRs ν ρ xs vs ∧ (∀ y ∈ D, y.2 = false) ∧ (l.mapM (resF a.tmps)).run C.P w = .ok vs w := by
  intro l
  induction l with
  | nil => intro L k h; exact ⟨[], [], [], h, VRs.mk0, by simp, rfl⟩
  | cons r l ih =>
    intro L k h
    cases r with
    | tmp t =>
      obtain ⟨x, hx, hk⟩ := lift_ok hz (show ((M.lift "result" (e.get t)).bind fun v => (resultsA C e l).bind fun vs => M.ret (v :: vs) : M (List AV)) k nx H L = z from h)
      obtain ⟨xs, vs, D, h1, h2, h3, h4⟩ := ih (k := fun vs => k (x :: vs)) hk
      refine ⟨x :: xs, _ :: vs, D, h1, VRs.mk (he.slot t x hx) h2, h3, ?_⟩
      rw [List.mapM_cons]
      simp only [Sem.run_bind, resF, Sem.run_pure, Result.andThen_ok]
      rw [show (List.mapM (resF a.tmps) l).run C.P w = .ok vs w from h4]
      rfl
    | cell y t =>
      obtain ⟨p, hp, hk⟩ := lift_ok hz (show ((M.lift "result cell" (e.get y)).bind fun p => ((match p with
        | .ptr b off => load C t b off
        | _ => M.no "result cell" : M AV).bind fun v => (resultsA C e l).bind fun vs => M.ret (v :: vs)) : M (List AV)) k nx H L = z from h)
      have hv := he.slot y p hp
      cases p <;> try (exact (hz _ hk.symm).elim)
      case ptr b off =>
      obtain ⟨x, v, h1, h2, h3⟩ := load_seen (k := fun v => ((resultsA C e l).bind fun vs => M.ret (v :: vs) : M (List AV)) k) ok hr hz hv hk
      obtain ⟨xs, vs, D, q1, q2, q3, q4⟩ := ih (k := fun vs => k (x :: vs)) h1
      refine ⟨x :: xs, v :: vs, D ++ [(b, false)], by rw [List.append_assoc]; exact q1, VRs.mk h3 q2, ?_, ?_⟩
      · intro y hy
        rcases List.mem_append.1 hy with hy | hy
        · exact q3 y hy
        · simp at hy; subst hy; rfl
      · rw [List.mapM_cons]
        obtain ⟨r, sz, o, _, _, hpv⟩ := hv
        rw [hpv] at h2
        have h2 : (loadVar t ⟨r, o, none⟩).run C.P w = .ok v w := by simpa [Instr.loadAt, Instr.sureAddr] using h2
        have h5 : (resF a.tmps (.cell y t)).run C.P w = .ok v w := by
          simp only [resF, hpv, asAddr, Sem.run_bind, Sem.run_pure, Result.andThen_ok, h2]
        simp only [Sem.run_bind, h5, Result.andThen_ok, q4, Sem.run_pure]
theorem oneOf_ok {xs : List AV} {vs : List Value} (h : VRs ν ρ xs vs) : VR ν ρ (oneOf xs) (if h : (⟨vs⟩ : Array Value).size = 1 then (⟨vs⟩ : Array Value)[0] else .tuple ⟨vs⟩) := by
  cases xs with
  | nil => have := h.nil; subst this; exact ⟨[], VRs.mk0, rfl⟩
  | cons x xs =>
    obtain ⟨v, vs', rfl, h1, h2⟩ := h.cons
    cases xs with
    | nil => have := h2.nil; subst this; exact h1
    | cons y ys =>
      obtain ⟨u, vs'', rfl, h3, h4⟩ := h2.cons
      rw [dif_neg (by simp)]
      exact ⟨_, VRs.mk h1 h2, rfl⟩
def FitP (P : Program) : Prop := ∀ (f : FuncId) (fn : Func), P.funcs[f]? = some fn → fnFit fn = true
theorem callText_ok (ok : ν.Ok C.bd) (hpl : PlainOk C) (hfit : FitP C.P) {call : Nat → List AV → M AV} (hc : CallOk C ν call) (hdr : DrawOk C ν call) (hr : HR ν ρ nx H w) (hg : Glob ρ) (hz : Yes z) {f : Nat} {args : List AV} {vs : List Value} (hv : VRs ν ρ args vs)
    {k : AV → Nat → T AB → Log → Ans} {o : Oper} (h : callText C call f args k nx H L = z) : OpOk C ν ρ nx L w k z o a ((callFunc f ⟨vs⟩).run C.P w) := by
  obtain ⟨⟨c, rs⟩, hfb, hk⟩ := lift_ok hz h
  obtain ⟨fn, hfn, hfb⟩ := ob_some hfb
  obtain ⟨c', hbody, hfb⟩ := ob_some hfb
  cases hfb
  rw [lget_eq] at hfn
  have hfn : C.P.funcs[f]? = some fn := by simpa using hfn
  have hf := hfit f fn hfn
  unfold fnFit at hf
  rw [Bool.and_eq_true, hbody] at hf
  have hname : (fn.name == "runtime.NumGoroutine") = false := by simpa using hf.1
  have hrun : (callFunc f ⟨vs⟩).run C.P w = .ok (.enter f ⟨vs⟩) w := by
    have h2 : ¬ fn.name = "runtime.NumGoroutine" := by simpa using hname
    simp [callFunc, hfn, h2, hbody]
  rw [hrun]
  intro next Q hn
  rw [Oper.upon_enter]
  refine calls_of_wp hfn hbody (exec_ok ok hpl hc hdr hz 1000000 hf.2 hr hg (slots_ER hv) hk ?_)
  have fin : ∀ {e' nx' H' D a' w'}, (resultsA C e' fn.results.toList) (fun vs => k (oneOf vs)) nx' H' (D ++ L) = z → St ν ρ nx w fn.ntmps e' nx' H' D a' w' →
      a'.defers = [] ∧ ∃ v, (results fn a'.tmps).run C.P w' = .ok v w' ∧ next (a.put o.dst v) w' := by
    intro e' nx' H' D a' w' hk ⟨ρ1, k1, k2, k3, k4, k5⟩
    obtain ⟨xs, us, D2, h1, h2, h3, h4⟩ := resultsA_ok ok k3 hz k2 hk
    refine ⟨k2.defers, _, ?_, hn _ _ _ (D2 ++ D) ρ1 _ w' (by rw [List.append_assoc]; exact h1) k1 (oneOf_ok h2) k3 (k4.more fun x hx => List.mem_append_right _ hx)⟩
    have hm : (fn.results.mapM (resF a'.tmps)).run C.P w' = .ok ⟨us⟩ w' := by
      rw [Array.mapM_eq_mapM_toList]
      rw [map_eq_pure_bind]
      simp only [Sem.run_bind, h4, Result.andThen_ok, Sem.run_pure]
    rw [results_eq]
    simp only [Sem.run_bind, hm, Result.andThen_ok, Sem.run_pure]
  intro x e' nx' H' D a' w' hk hst
  cases x with
  | ext i => exact (hz _ hk.symm).elim
  | nrm => exact fin hk hst
  | ret => exact fin hk hst
def ExtOk (C : Cx) (ν : Vl) : Prop := ∀ {call : Nat → List AV → M AV} {f : Nat} {args : List AV} {m : M AV} {ρ : Nm} {nx : Nat} {H : T AB} {L : Log} {w : World} {k : AV → Nat → T AB → Log → Ans} {z : Ans} {vs : List Value} {o : Oper} {a : Act},
  CallOk C ν call → C.ext C.bd call f args = some m → HR ν ρ nx H w → Glob ρ → Yes z → VRs ν ρ args vs → m k nx H L = z → OpOk C ν ρ nx L w k z o a ((callFunc f ⟨vs⟩).run C.P w)
theorem callN_ok (ok : ν.Ok C.bd) (hpl : PlainOk C) (hfit : FitP C.P) (hdr : ∀ {call : Nat → List AV → M AV}, CallOk C ν call → DrawOk C ν call) (hx : ExtOk C ν) : ∀ m, CallOk C ν (callN C m) := by
  intro m
  induction m with
  | zero => intro ρ nx H L w k z f args vs o a hr hg hz hv h; exact (hz _ h.symm).elim
  | succ m ih =>
    intro ρ nx H L w k z f args vs o a hr hg hz hv h
    have h : callStep C (callN C m) f args k nx H L = z := h
    unfold callStep at h
    cases he : C.ext C.bd (callN C m) f args with
    | none => rw [he] at h; exact callText_ok ok hpl hfit ih (hdr ih) hr hg hz hv h
    | some q => rw [he] at h; exact hx ih he hr hg hz hv h
end
end Go.AM
namespace Go.AM
/-! # Soundness, part 25: what is done depends on the blocks that are touched, alone -/
def Cl (nx : Nat) (H : T AB) : Prop := ∀ b, nx ≤ b → H.get b = none
/-- a course of a computation -/
structure LocAt {α : Type} (m : M α) (nx : Nat) (H : T AB) (x : α) (nx' : Nat) (H' : T AB) (D : Log) : Prop where
  runs : ∀ k L, m k nx H L = k x nx' H' (D ++ L)
  le : nx ≤ nx'
  cl : Cl nx' H'
  keep : ∀ b, (b, true) ∉ D → H'.get b = H.get b
  had : ∀ b u, (b, u) ∈ D → b < nx → ∃ A, H.get b = some A
  low : ∀ b u, (b, u) ∈ D → b < nx'
  loc : ∀ H2, Cl nx H2 → (∀ b u, (b, u) ∈ D → b < nx → H2.get b = H.get b) →
    ∃ H2', (∀ k L, m k nx H2 L = k x nx' H2' (D ++ L)) ∧ (∀ b, (b, true) ∈ D → H2'.get b = H'.get b) ∧ (∀ b, (b, true) ∉ D → H2'.get b = H2.get b)
structure Loc {α : Type} (m : M α) : Prop where
  go : ∀ nx H, Cl nx H → (∃ s, ∀ k L, m k nx H L = .no s) ∨ ∃ x nx' H' D, LocAt m nx H x nx' H' D
namespace Loc
variable {α β : Type}
theorem ret {a : α} : Loc (M.ret a) := ⟨fun nx H hc => .inr ⟨a, nx, H, [], fun _ _ => rfl, Nat.le_refl _, hc, fun _ _ => rfl, fun _ _ h => by simp at h, fun _ _ h => by simp at h, fun H2 _ _ => ⟨H2, fun _ _ => rfl, fun _ h => by simp at h, fun _ _ => rfl⟩⟩⟩
theorem no {s : String} : Loc (M.no s : M α) := ⟨fun _ _ _ => .inl ⟨s, fun _ _ => rfl⟩⟩
theorem lift {s : String} {o : Option α} : Loc (M.lift s o) := by
  cases o with
  | none => exact ⟨fun _ _ _ => .inl ⟨s, fun _ _ => rfl⟩⟩
  | some a => exact ret
theorem rd {b : Nat} : Loc (M.rd b) := by
  refine ⟨fun nx H hc => ?_⟩
  cases hb : H.get b with
  | none => exact .inl ⟨_, fun k L => by unfold M.rd; rw [hb]⟩
  | some A =>
    have hlt : b < nx := by
      rcases Nat.lt_or_ge b nx with h | h
      · exact h
      · rw [hc b h] at hb; cases hb
    refine .inr ⟨A, nx, H, [(b, false)], fun k L => by unfold M.rd; rw [hb]; rfl, Nat.le_refl _, hc, fun _ _ => rfl, ?_, ?_, fun H2 hc2 hag => ⟨H2, fun k L => ?_, fun _ h => by simp at h, fun _ _ => rfl⟩⟩
    · intro c u h hlt; simp at h; rw [h.1]; exact ⟨A, hb⟩
    · intro c u h; simp at h; rw [h.1]; exact hlt
    · unfold M.rd; rw [hag b false (by simp) hlt, hb]; rfl
theorem wr {b : Nat} {X : Option AB} : Loc (M.wr b X) := by
  refine ⟨fun nx H hc => ?_⟩
  cases hb : H.get b with
  | none => exact .inl ⟨_, fun k L => by unfold M.wr; rw [hb]⟩
  | some A =>
    have hlt : b < nx := by
      rcases Nat.lt_or_ge b nx with h | h
      · exact h
      · rw [hc b h] at hb; cases hb
    refine .inr ⟨(), nx, H.put b X, [(b, true)], fun k L => by unfold M.wr; rw [hb]; rfl, Nat.le_refl _, ?_, ?_, ?_, ?_, fun H2 hc2 hag => ⟨H2.put b X, fun k L => ?_, ?_, ?_⟩⟩
    · intro c hle; rw [T.get_put, if_neg (by omega)]; exact hc c hle
    · intro c h; simp at h; rw [T.get_put, if_neg h]
    · intro c u h hlt; simp at h; rw [h.1]; exact ⟨A, hb⟩
    · intro c u h; simp at h; rw [h.1]; exact hlt
    · unfold M.wr; rw [hag b true (by simp) hlt, hb]; rfl
    · intro c h; simp at h; subst h; rw [T.get_put, T.get_put, if_pos rfl, if_pos rfl]
    · intro c h; simp at h; rw [T.get_put, if_neg h]
theorem nw {A : AB} : Loc (M.nw A) := by
  refine ⟨fun nx H hc => ?_⟩
  refine .inr ⟨nx, nx + 1, H.put nx (some A), [(nx, true)], fun k L => rfl, Nat.le_succ _, ?_, ?_, ?_, ?_, fun H2 hc2 hag => ⟨H2.put nx (some A), fun k L => rfl, ?_, ?_⟩⟩
  · intro c hle; rw [T.get_put, if_neg (by omega)]; exact hc c (by omega)
  · intro c h; simp at h; rw [T.get_put, if_neg h]
  · intro c u h hlt; simp at h; omega
  · intro c u h; simp at h; omega
  · intro c h; simp at h; subst h; rw [T.get_put, T.get_put, if_pos rfl, if_pos rfl]
  · intro c h; simp at h; rw [T.get_put, if_neg h]
theorem bind {m : M α} {f : α → M β} (hm : Loc m) (hf : ∀ x, Loc (f x)) : Loc (m.bind f) := by
  refine ⟨fun nx H hc => ?_⟩
  rcases hm.go nx H hc with ⟨s, h⟩ | ⟨x, nx1, H1, D1, h1⟩
  · exact .inl ⟨s, fun k L => h _ L⟩
  · rcases (hf x).go nx1 H1 h1.cl with ⟨s, h⟩ | ⟨y, nx2, H2, D2, h2⟩
    · exact .inl ⟨s, fun k L => by show m (fun a => f a k) nx H L = _; rw [h1.runs]; exact h k _⟩
    · refine .inr ⟨y, nx2, H2, D2 ++ D1, fun k L => ?_, Nat.le_trans h1.le h2.le, h2.cl, ?_, ?_, ?_, ?_⟩
      · show m (fun a => f a k) nx H L = _
        rw [h1.runs, h2.runs, List.append_assoc]
      · intro b hb
        rw [h2.keep b fun h => hb (List.mem_append_left _ h), h1.keep b fun h => hb (List.mem_append_right _ h)]
      · intro b u hb hlt
        rcases List.mem_append.1 hb with hb | hb
        · obtain ⟨A, hA⟩ := h2.had b u hb (Nat.lt_of_lt_of_le hlt h1.le)
          by_cases hw : (b, true) ∈ D1
          · exact h1.had b true hw hlt
          · rw [h1.keep b hw] at hA; exact ⟨A, hA⟩
        · exact h1.had b u hb hlt
      · intro b u hb
        rcases List.mem_append.1 hb with hb | hb
        · exact h2.low b u hb
        · exact Nat.lt_of_lt_of_le (h1.low b u hb) h2.le
      · intro G hG hag
        obtain ⟨G1, g1, g2, g3⟩ := h1.loc G hG fun b u hb => hag b u (List.mem_append_right _ hb)
        have hG1 : Cl nx1 G1 := by
          intro b hb
          by_cases hw : (b, true) ∈ D1
          · rw [g2 b hw]; exact h1.cl b hb
          · rw [g3 b hw]; exact hG b (Nat.le_trans h1.le hb)
        obtain ⟨G2, q1, q2, q3⟩ := h2.loc G1 hG1 fun b u hb hlt => by
          by_cases hw : (b, true) ∈ D1
          · exact g2 b hw
          · rw [g3 b hw, h1.keep b hw]
            rcases Nat.lt_or_ge b nx with h | h
            · exact hag b u (List.mem_append_left _ hb) h
            · rw [hG b h, hc b h]
        refine ⟨G2, fun k L => ?_, fun b hb => ?_, fun b hb => ?_⟩
        · show m (fun a => f a k) nx G L = _
          rw [g1, q1, List.append_assoc]
        · by_cases hw : (b, true) ∈ D2
          · exact q2 b hw
          · rcases List.mem_append.1 hb with hb | hb
            · exact (hw hb).elim
            · rw [q3 b hw, g2 b hb, h2.keep b hw]
        · rw [q3 b fun h => hb (List.mem_append_left _ h), g3 b fun h => hb (List.mem_append_right _ h)]
theorem bc {c : Bool} {x y : M α} (hx : Loc x) (hy : Loc y) : Loc (AM.bc c x y) := by
  cases c
  · exact hy
  · exact hx
end Loc
end Go.AM
namespace Go.AM
/-! # Soundness, part 26: every operation is local -/
section
variable {C : Cx}
theorem loc_load {t : TypeId} {b : Nat} {off : SI} : Loc (load C t b off) := by
  unfold load
  repeat' first
    | with_reducible exact Loc.no
    | with_reducible exact Loc.ret
    | with_reducible exact Loc.lift
    | with_reducible exact Loc.rd
    | with_reducible exact Loc.wr
    | with_reducible exact Loc.nw
    | with_reducible apply Loc.bind
    | with_reducible apply Loc.bc
    | intro _
    | split
theorem loc_store {t : TypeId} {b : Nat} {off : SI} {v : AV} : Loc (store C t b off v) := by
  unfold store
  repeat' first
    | with_reducible exact Loc.no
    | with_reducible exact Loc.ret
    | with_reducible exact Loc.lift
    | with_reducible exact Loc.rd
    | with_reducible exact Loc.wr
    | with_reducible exact Loc.nw
    | with_reducible apply Loc.bind
    | with_reducible apply Loc.bc
    | intro _
    | split
theorem loc_ptrEq {t : TypeId} {a b : Nat} {i j : SI} : Loc (ptrEq C t a i b j) := by
  unfold ptrEq
  repeat' first
    | with_reducible exact Loc.no
    | with_reducible exact Loc.ret
    | with_reducible exact Loc.lift
    | with_reducible exact Loc.rd
    | with_reducible exact Loc.wr
    | with_reducible exact Loc.nw
    | with_reducible apply Loc.bind
    | with_reducible apply Loc.bc
    | intro _
    | split
theorem loc_binOp2 {op : BinOp} {t : TypeId} {x y : AV} : Loc (binOp2 C op t x y) := by
  unfold binOp2
  repeat' first
    | with_reducible exact Loc.no
    | with_reducible exact Loc.ret
    | with_reducible exact Loc.lift
    | with_reducible exact Loc.rd
    | with_reducible exact Loc.wr
    | with_reducible exact Loc.nw
    | with_reducible exact loc_ptrEq
    | with_reducible apply Loc.bind
    | with_reducible apply Loc.bc
    | intro _
    | split
theorem loc_binOp {op : BinOp} {t : TypeId} {x y : AV} : Loc (binOp C op t x y) := by
  unfold binOp
  repeat' first
    | with_reducible exact Loc.no
    | with_reducible exact Loc.ret
    | with_reducible exact Loc.lift
    | with_reducible exact Loc.rd
    | with_reducible exact Loc.wr
    | with_reducible exact Loc.nw
    | with_reducible exact loc_binOp2
    | with_reducible apply Loc.bind
    | with_reducible apply Loc.bc
    | intro _
    | split
theorem loc_convInt {t : TypeId} {x : AV} : Loc (convInt C t x) := by
  unfold convInt
  repeat' first
    | with_reducible exact Loc.no
    | with_reducible exact Loc.ret
    | with_reducible exact Loc.lift
    | with_reducible exact Loc.rd
    | with_reducible exact Loc.wr
    | with_reducible exact Loc.nw
    | with_reducible apply Loc.bind
    | with_reducible apply Loc.bc
    | intro _
    | split
theorem loc_convStr {t : TypeId} {x : AV} : Loc (convStr C t x) := by
  unfold convStr
  repeat' first
    | with_reducible exact Loc.no
    | with_reducible exact Loc.ret
    | with_reducible exact Loc.lift
    | with_reducible exact Loc.rd
    | with_reducible exact Loc.wr
    | with_reducible exact Loc.nw
    | with_reducible apply Loc.bind
    | with_reducible apply Loc.bc
    | intro _
    | split
theorem loc_convSl {s t : TypeId} {x : AV} : Loc (convSl C s t x) := by
  unfold convSl
  repeat' first
    | with_reducible exact Loc.no
    | with_reducible exact Loc.ret
    | with_reducible exact Loc.lift
    | with_reducible exact Loc.rd
    | with_reducible exact Loc.wr
    | with_reducible exact Loc.nw
    | with_reducible apply Loc.bind
    | with_reducible apply Loc.bc
    | intro _
    | split
theorem loc_conv {s t : TypeId} {x : AV} : Loc (conv C s t x) := by
  unfold conv
  repeat' first
    | with_reducible exact Loc.no
    | with_reducible exact Loc.ret
    | with_reducible exact Loc.lift
    | with_reducible exact Loc.rd
    | with_reducible exact Loc.wr
    | with_reducible exact Loc.nw
    | with_reducible exact loc_convInt
    | with_reducible exact loc_convStr
    | with_reducible exact loc_convSl
    | with_reducible apply Loc.bind
    | with_reducible apply Loc.bc
    | intro _
    | split
theorem loc_sliceM {t : TypeId} {x : AV} {l h m : Option SI} : Loc (sliceM C t x l h m) := by
  unfold sliceM
  repeat' first
    | with_reducible exact Loc.no
    | with_reducible exact Loc.ret
    | with_reducible exact Loc.lift
    | with_reducible exact Loc.rd
    | with_reducible exact Loc.wr
    | with_reducible exact Loc.nw
    | with_reducible apply Loc.bind
    | with_reducible apply Loc.bc
    | intro _
    | split
theorem loc_srcCt {n : Nat} {b : Bool} {x : AV} : Loc (srcCt C n b x) := by
  unfold srcCt
  repeat' first
    | with_reducible exact Loc.no
    | with_reducible exact Loc.ret
    | with_reducible exact Loc.lift
    | with_reducible exact Loc.rd
    | with_reducible exact Loc.wr
    | with_reducible exact Loc.nw
    | with_reducible apply Loc.bind
    | with_reducible apply Loc.bc
    | intro _
    | split
theorem loc_appNew {n : SI} {c : Ct} {z : Nat} : Loc (appNew n c z) := by
  unfold appNew
  repeat' first
    | with_reducible exact Loc.no
    | with_reducible exact Loc.ret
    | with_reducible exact Loc.lift
    | with_reducible exact Loc.rd
    | with_reducible exact Loc.wr
    | with_reducible exact Loc.nw
    | with_reducible apply Loc.bind
    | with_reducible apply Loc.bc
    | intro _
    | split
theorem loc_appRoom {n b : Nat} {o l : SI} {cp : Cp} {nd : SI} {c : Ct} : Loc (appRoom C n b o l cp nd c) := by
  unfold appRoom
  repeat' first
    | with_reducible exact Loc.no
    | with_reducible exact Loc.ret
    | with_reducible exact Loc.lift
    | with_reducible exact Loc.rd
    | with_reducible exact Loc.wr
    | with_reducible exact Loc.nw
    | with_reducible apply Loc.bind
    | with_reducible apply Loc.bc
    | intro _
    | split
theorem loc_appGe {n b : Nat} {o nd : SI} {c : Ct} : Loc (appGe n b o nd c) := by
  unfold appGe
  repeat' first
    | with_reducible exact Loc.no
    | with_reducible exact Loc.ret
    | with_reducible exact Loc.lift
    | with_reducible exact Loc.rd
    | with_reducible exact Loc.wr
    | with_reducible exact Loc.nw
    | with_reducible exact loc_appNew
    | with_reducible apply Loc.bind
    | with_reducible apply Loc.bc
    | intro _
    | split
theorem loc_appGrow {t : TypeId} {n b : Nat} {o l : SI} {cp : Cp} {nd : SI} {c : Ct} {r : Option Bool} : Loc (appGrow C t n b o l cp nd c r) := by
  unfold appGrow
  repeat' first
    | with_reducible exact Loc.no
    | with_reducible exact Loc.ret
    | with_reducible exact Loc.lift
    | with_reducible exact Loc.rd
    | with_reducible exact Loc.wr
    | with_reducible exact Loc.nw
    | with_reducible exact loc_appNew
    | with_reducible exact loc_appGe
    | with_reducible apply Loc.bind
    | with_reducible apply Loc.bc
    | intro _
    | split
theorem loc_appNil {t : TypeId} {z : Nat} {n : SI} {c : Ct} : Loc (appNil C t z n c) := by
  unfold appNil
  repeat' first
    | with_reducible exact Loc.no
    | with_reducible exact Loc.ret
    | with_reducible exact Loc.lift
    | with_reducible exact Loc.rd
    | with_reducible exact Loc.wr
    | with_reducible exact Loc.nw
    | with_reducible exact loc_appNew
    | with_reducible apply Loc.bind
    | with_reducible apply Loc.bc
    | intro _
    | split
theorem loc_appSl {t : TypeId} {n b : Nat} {o l : SI} {cp : Cp} {nd : SI} {c : Ct} : Loc (appSl C t n b o l cp nd c) := by
  unfold appSl
  repeat' first
    | with_reducible exact Loc.no
    | with_reducible exact Loc.ret
    | with_reducible exact Loc.lift
    | with_reducible exact Loc.rd
    | with_reducible exact Loc.wr
    | with_reducible exact Loc.nw
    | with_reducible exact loc_appRoom
    | with_reducible exact loc_appGrow
    | with_reducible apply Loc.bind
    | with_reducible apply Loc.bc
    | intro _
    | split
theorem loc_append {t : TypeId} {s x : AV} : Loc (append C t s x) := by
  unfold append
  repeat' first
    | with_reducible exact Loc.no
    | with_reducible exact Loc.ret
    | with_reducible exact Loc.lift
    | with_reducible exact Loc.rd
    | with_reducible exact Loc.wr
    | with_reducible exact Loc.nw
    | with_reducible exact loc_srcCt
    | with_reducible exact loc_appNil
    | with_reducible exact loc_appSl
    | with_reducible apply Loc.bind
    | with_reducible apply Loc.bc
    | intro _
    | split
theorem loc_clear {t : TypeId} {x : AV} : Loc (clearOp C t x) := by
  unfold clearOp
  repeat' first
    | with_reducible exact Loc.no
    | with_reducible exact Loc.ret
    | with_reducible exact Loc.lift
    | with_reducible exact Loc.rd
    | with_reducible exact Loc.wr
    | with_reducible exact Loc.nw
    | with_reducible apply Loc.bind
    | with_reducible apply Loc.bc
    | intro _
    | split
theorem loc_builtin {b : Builtin} {ts : List TypeId} {l : List AV} : Loc (builtin C b ts l) := by
  unfold builtin
  repeat' first
    | with_reducible exact Loc.no
    | with_reducible exact Loc.ret
    | with_reducible exact Loc.lift
    | with_reducible exact Loc.rd
    | with_reducible exact Loc.wr
    | with_reducible exact Loc.nw
    | with_reducible exact loc_append
    | with_reducible exact loc_clear
    | with_reducible apply Loc.bind
    | with_reducible apply Loc.bc
    | intro _
    | split
theorem loc_lookup {t : TypeId} {x k : AV} {o : Bool} : Loc (lookup C t x k o) := by
  unfold lookup
  repeat' first
    | with_reducible exact Loc.no
    | with_reducible exact Loc.ret
    | with_reducible exact Loc.lift
    | with_reducible exact Loc.rd
    | with_reducible exact Loc.wr
    | with_reducible exact Loc.nw
    | with_reducible apply Loc.bind
    | with_reducible apply Loc.bc
    | intro _
    | split
theorem loc_mapUpdate {t : TypeId} {x k v : AV} : Loc (mapUpdate C t x k v) := by
  unfold mapUpdate
  repeat' first
    | with_reducible exact Loc.no
    | with_reducible exact Loc.ret
    | with_reducible exact Loc.lift
    | with_reducible exact Loc.rd
    | with_reducible exact Loc.wr
    | with_reducible exact Loc.nw
    | with_reducible apply Loc.bind
    | with_reducible apply Loc.bc
    | intro _
    | split
theorem loc_makeB {e : TypeId} {l c : SI} : Loc (makeB C e l c) := by
  unfold makeB
  repeat' first
    | with_reducible exact Loc.no
    | with_reducible exact Loc.ret
    | with_reducible exact Loc.lift
    | with_reducible exact Loc.rd
    | with_reducible exact Loc.wr
    | with_reducible exact Loc.nw
    | with_reducible apply Loc.bind
    | with_reducible apply Loc.bc
    | intro _
    | split
theorem loc_makeR {e : TypeId} {s : Nat} {l c : SI} : Loc (makeR C e s l c) := by
  unfold makeR
  repeat' first
    | with_reducible exact Loc.no
    | with_reducible exact Loc.ret
    | with_reducible exact Loc.lift
    | with_reducible exact Loc.rd
    | with_reducible exact Loc.wr
    | with_reducible exact Loc.nw
    | with_reducible apply Loc.bind
    | with_reducible apply Loc.bc
    | intro _
    | split
theorem loc_makeSlice {t : TypeId} {l c : AV} : Loc (makeSlice C t l c) := by
  unfold makeSlice
  repeat' first
    | with_reducible exact Loc.no
    | with_reducible exact Loc.ret
    | with_reducible exact Loc.lift
    | with_reducible exact Loc.rd
    | with_reducible exact Loc.wr
    | with_reducible exact Loc.nw
    | with_reducible exact loc_makeB
    | with_reducible exact loc_makeR
    | with_reducible apply Loc.bind
    | with_reducible apply Loc.bc
    | intro _
    | split
theorem loc_arg {e : T AV} {x : Operand} : Loc (arg e x) := Loc.lift
theorem loc_opPick {e : T AV} {c a b : Operand} : Loc (opPick e c a b) := by
  unfold opPick
  repeat' first
    | with_reducible exact Loc.no
    | with_reducible exact Loc.ret
    | with_reducible exact Loc.lift
    | with_reducible exact Loc.rd
    | with_reducible exact Loc.wr
    | with_reducible exact Loc.nw
    | with_reducible exact loc_arg
    | with_reducible apply Loc.bind
    | with_reducible apply Loc.bc
    | intro _
    | split
theorem loc_opAlloc {t : TypeId} : Loc (opAlloc C t) := by
  unfold opAlloc
  repeat' first
    | with_reducible exact Loc.no
    | with_reducible exact Loc.ret
    | with_reducible exact Loc.lift
    | with_reducible exact Loc.rd
    | with_reducible exact Loc.wr
    | with_reducible exact Loc.nw
    | with_reducible exact loc_arg
    | with_reducible apply Loc.bind
    | with_reducible apply Loc.bc
    | intro _
    | split
theorem loc_opBox {e : T AV} {x : Operand} : Loc (opBox e x) := by
  unfold opBox
  repeat' first
    | with_reducible exact Loc.no
    | with_reducible exact Loc.ret
    | with_reducible exact Loc.lift
    | with_reducible exact Loc.rd
    | with_reducible exact Loc.wr
    | with_reducible exact Loc.nw
    | with_reducible exact loc_arg
    | with_reducible apply Loc.bind
    | with_reducible apply Loc.bc
    | intro _
    | split
theorem loc_opBuild {e : T AV} {t : TypeId} {ps : List (Nat × Operand)} : Loc (opBuild C e t ps) := by
  unfold opBuild
  repeat' first
    | with_reducible exact Loc.no
    | with_reducible exact Loc.ret
    | with_reducible exact Loc.lift
    | with_reducible exact Loc.rd
    | with_reducible exact Loc.wr
    | with_reducible exact Loc.nw
    | with_reducible exact loc_arg
    | with_reducible apply Loc.bind
    | with_reducible apply Loc.bc
    | intro _
    | split
theorem loc_opBuildSlice {e : T AV} {t : TypeId} {n : Nat} {ps : List (Nat × Operand)} : Loc (opBuildSlice C e t n ps) := by
  unfold opBuildSlice
  repeat' first
    | with_reducible exact Loc.no
    | with_reducible exact Loc.ret
    | with_reducible exact Loc.lift
    | with_reducible exact Loc.rd
    | with_reducible exact Loc.wr
    | with_reducible exact Loc.nw
    | with_reducible exact loc_arg
    | with_reducible apply Loc.bind
    | with_reducible apply Loc.bc
    | intro _
    | split
theorem loc_opLoad {e : T AV} {t : TypeId} {x : Operand} : Loc (opLoad C e t x) := by
  unfold opLoad
  repeat' first
    | with_reducible exact Loc.no
    | with_reducible exact Loc.ret
    | with_reducible exact Loc.lift
    | with_reducible exact Loc.rd
    | with_reducible exact Loc.wr
    | with_reducible exact Loc.nw
    | with_reducible exact loc_arg
    | with_reducible exact loc_load
    | with_reducible apply Loc.bind
    | with_reducible apply Loc.bc
    | intro _
    | split
theorem loc_opStore {e : T AV} {t : TypeId} {x y : Operand} : Loc (opStore C e t x y) := by
  unfold opStore
  repeat' first
    | with_reducible exact Loc.no
    | with_reducible exact Loc.ret
    | with_reducible exact Loc.lift
    | with_reducible exact Loc.rd
    | with_reducible exact Loc.wr
    | with_reducible exact Loc.nw
    | with_reducible exact loc_arg
    | with_reducible exact loc_store
    | with_reducible apply Loc.bind
    | with_reducible apply Loc.bc
    | intro _
    | split
theorem loc_opNil {e : T AV} {x : Operand} : Loc (opNil e x) := by
  unfold opNil
  repeat' first
    | with_reducible exact Loc.no
    | with_reducible exact Loc.ret
    | with_reducible exact Loc.lift
    | with_reducible exact Loc.rd
    | with_reducible exact Loc.wr
    | with_reducible exact Loc.nw
    | with_reducible exact loc_arg
    | with_reducible apply Loc.bind
    | with_reducible apply Loc.bc
    | intro _
    | split
theorem loc_opBin {e : T AV} {op : BinOp} {t : TypeId} {x y : Operand} : Loc (opBin C e op t x y) := by
  unfold opBin
  repeat' first
    | with_reducible exact Loc.no
    | with_reducible exact Loc.ret
    | with_reducible exact Loc.lift
    | with_reducible exact Loc.rd
    | with_reducible exact Loc.wr
    | with_reducible exact Loc.nw
    | with_reducible exact loc_arg
    | with_reducible exact loc_binOp
    | with_reducible apply Loc.bind
    | with_reducible apply Loc.bc
    | intro _
    | split
theorem loc_opUn {e : T AV} {op : UnOp} {x : Operand} : Loc (opUn C e op x) := by
  unfold opUn
  repeat' first
    | with_reducible exact Loc.no
    | with_reducible exact Loc.ret
    | with_reducible exact Loc.lift
    | with_reducible exact Loc.rd
    | with_reducible exact Loc.wr
    | with_reducible exact Loc.nw
    | with_reducible exact loc_arg
    | with_reducible apply Loc.bind
    | with_reducible apply Loc.bc
    | intro _
    | split
theorem loc_opConv {e : T AV} {s t : TypeId} {x : Operand} : Loc (opConv C e s t x) := by
  unfold opConv
  repeat' first
    | with_reducible exact Loc.no
    | with_reducible exact Loc.ret
    | with_reducible exact Loc.lift
    | with_reducible exact Loc.rd
    | with_reducible exact Loc.wr
    | with_reducible exact Loc.nw
    | with_reducible exact loc_arg
    | with_reducible exact loc_conv
    | with_reducible apply Loc.bind
    | with_reducible apply Loc.bc
    | intro _
    | split
theorem loc_opFunc {e : T AV} {f : Fn} {a b : List Operand} : Loc (opFunc e f a b) := by
  unfold opFunc
  repeat' first
    | with_reducible exact Loc.no
    | with_reducible exact Loc.ret
    | with_reducible exact Loc.lift
    | with_reducible exact Loc.rd
    | with_reducible exact Loc.wr
    | with_reducible exact Loc.nw
    | with_reducible exact loc_arg
    | with_reducible apply Loc.bind
    | with_reducible apply Loc.bc
    | intro _
    | split
theorem loc_opMap {r : Option Operand} : Loc (opMap r) := by
  unfold opMap
  repeat' first
    | with_reducible exact Loc.no
    | with_reducible exact Loc.ret
    | with_reducible exact Loc.lift
    | with_reducible exact Loc.rd
    | with_reducible exact Loc.wr
    | with_reducible exact Loc.nw
    | with_reducible exact loc_arg
    | with_reducible apply Loc.bind
    | with_reducible apply Loc.bc
    | intro _
    | split
theorem loc_opMake {e : T AV} {t : TypeId} {x y : Operand} : Loc (opMake C e t x y) := by
  unfold opMake
  repeat' first
    | with_reducible exact Loc.no
    | with_reducible exact Loc.ret
    | with_reducible exact Loc.lift
    | with_reducible exact Loc.rd
    | with_reducible exact Loc.wr
    | with_reducible exact Loc.nw
    | with_reducible exact loc_arg
    | with_reducible exact loc_makeSlice
    | with_reducible apply Loc.bind
    | with_reducible apply Loc.bc
    | intro _
    | split
theorem loc_opSlice {e : T AV} {t : TypeId} {x : Operand} {l h m : Option Operand} : Loc (opSlice C e t x l h m) := by
  unfold opSlice
  repeat' first
    | with_reducible exact Loc.no
    | with_reducible exact Loc.ret
    | with_reducible exact Loc.lift
    | with_reducible exact Loc.rd
    | with_reducible exact Loc.wr
    | with_reducible exact Loc.nw
    | with_reducible exact loc_arg
    | with_reducible exact loc_sliceM
    | with_reducible apply Loc.bind
    | with_reducible apply Loc.bc
    | intro _
    | split
theorem loc_opFieldAddr {e : T AV} {t : TypeId} {x : Operand} {f : Nat} : Loc (opFieldAddr C e t x f) := by
  unfold opFieldAddr
  repeat' first
    | with_reducible exact Loc.no
    | with_reducible exact Loc.ret
    | with_reducible exact Loc.lift
    | with_reducible exact Loc.rd
    | with_reducible exact Loc.wr
    | with_reducible exact Loc.nw
    | with_reducible exact loc_arg
    | with_reducible apply Loc.bind
    | with_reducible apply Loc.bc
    | intro _
    | split
theorem loc_opField {e : T AV} {t : TypeId} {x : Operand} {f : Nat} : Loc (opField C e t x f) := by
  unfold opField
  repeat' first
    | with_reducible exact Loc.no
    | with_reducible exact Loc.ret
    | with_reducible exact Loc.lift
    | with_reducible exact Loc.rd
    | with_reducible exact Loc.wr
    | with_reducible exact Loc.nw
    | with_reducible exact loc_arg
    | with_reducible apply Loc.bind
    | with_reducible apply Loc.bc
    | intro _
    | split
theorem loc_opIndexAddr {e : T AV} {t : TypeId} {x y : Operand} : Loc (opIndexAddr C e t x y) := by
  unfold opIndexAddr
  repeat' first
    | with_reducible exact Loc.no
    | with_reducible exact Loc.ret
    | with_reducible exact Loc.lift
    | with_reducible exact Loc.rd
    | with_reducible exact Loc.wr
    | with_reducible exact Loc.nw
    | with_reducible exact loc_arg
    | with_reducible apply Loc.bind
    | with_reducible apply Loc.bc
    | intro _
    | split
theorem loc_opIndex {e : T AV} {t : TypeId} {x y : Operand} : Loc (opIndex C e t x y) := by
  unfold opIndex
  repeat' first
    | with_reducible exact Loc.no
    | with_reducible exact Loc.ret
    | with_reducible exact Loc.lift
    | with_reducible exact Loc.rd
    | with_reducible exact Loc.wr
    | with_reducible exact Loc.nw
    | with_reducible exact loc_arg
    | with_reducible apply Loc.bind
    | with_reducible apply Loc.bc
    | intro _
    | split
theorem loc_opLookup {e : T AV} {t : TypeId} {x y : Operand} {o : Bool} : Loc (opLookup C e t x y o) := by
  unfold opLookup
  repeat' first
    | with_reducible exact Loc.no
    | with_reducible exact Loc.ret
    | with_reducible exact Loc.lift
    | with_reducible exact Loc.rd
    | with_reducible exact Loc.wr
    | with_reducible exact Loc.nw
    | with_reducible exact loc_arg
    | with_reducible exact loc_lookup
    | with_reducible apply Loc.bind
    | with_reducible apply Loc.bc
    | intro _
    | split
theorem loc_opMapUpdate {e : T AV} {t : TypeId} {x y u : Operand} : Loc (opMapUpdate C e t x y u) := by
  unfold opMapUpdate
  repeat' first
    | with_reducible exact Loc.no
    | with_reducible exact Loc.ret
    | with_reducible exact Loc.lift
    | with_reducible exact Loc.rd
    | with_reducible exact Loc.wr
    | with_reducible exact Loc.nw
    | with_reducible exact loc_arg
    | with_reducible exact loc_mapUpdate
    | with_reducible apply Loc.bind
    | with_reducible apply Loc.bc
    | intro _
    | split
theorem loc_opExtract {e : T AV} {x : Operand} {i : Nat} : Loc (opExtract e x i) := by
  unfold opExtract
  repeat' first
    | with_reducible exact Loc.no
    | with_reducible exact Loc.ret
    | with_reducible exact Loc.lift
    | with_reducible exact Loc.rd
    | with_reducible exact Loc.wr
    | with_reducible exact Loc.nw
    | with_reducible exact loc_arg
    | with_reducible apply Loc.bind
    | with_reducible apply Loc.bc
    | intro _
    | split
def LocC (call : Nat → List AV → M AV) : Prop := ∀ f l, Loc (call f l)
theorem loc_opCall {call : Nat → List AV → M AV} (hc : LocC call) {e : T AV} {c : Call} : Loc (opCall C call e c) := by
  unfold opCall
  repeat' first
    | with_reducible exact Loc.no
    | with_reducible exact Loc.ret
    | with_reducible exact Loc.lift
    | with_reducible exact Loc.rd
    | with_reducible exact Loc.wr
    | with_reducible exact Loc.nw
    | with_reducible exact loc_arg
    | with_reducible exact loc_builtin
    | exact hc _ _
    | with_reducible apply Loc.bind
    | with_reducible apply Loc.bc
    | intro _
    | split
theorem loc_execOp {call : Nat → List AV → M AV} (hc : LocC call) {e : T AV} {o : Op} : Loc (execOp C call e o) := by
  cases o
  case call c => exact loc_opCall hc
  case move => exact loc_arg
  case assign => exact loc_arg
  case pick => exact loc_opPick
  case alloc => exact loc_opAlloc
  case box => exact loc_opBox
  case build => exact loc_opBuild
  case buildSlice => exact loc_opBuildSlice
  case load => exact loc_opLoad
  case store => exact loc_opStore
  case nilCheck => exact loc_opNil
  case binOp => exact loc_opBin
  case unOp => exact loc_opUn
  case convert => exact loc_opConv
  case makeFunc => exact loc_opFunc
  case makeMap => exact loc_opMap
  case makeSlice => exact loc_opMake
  case slice => exact loc_opSlice
  case fieldAddr => exact loc_opFieldAddr
  case field => exact loc_opField
  case indexAddr => exact loc_opIndexAddr
  case index => exact loc_opIndex
  case lookup => exact loc_opLookup
  case mapUpdate => exact loc_opMapUpdate
  case extract => exact loc_opExtract
  all_goals exact Loc.no
end
end Go.AM
namespace Go.AM
/-! # Soundness, part 27: code and functions are local -/
namespace Loc
variable {α β : Type}
/-- a computation whose log is handed on -/
theorem logged {m : M α} {f : α → Log → M β} (hm : Loc m) (hf : ∀ x l, Loc (f x l)) : Loc (fun k nx H L => m (fun x nx H l => f x l k nx H (l ++ L)) nx H [] : M β) := by
  refine ⟨fun nx H hc => ?_⟩
  rcases hm.go nx H hc with ⟨s, h⟩ | ⟨x, nx1, H1, D1, h1⟩
  · exact .inl ⟨s, fun k L => h _ _⟩
  · have e : ∀ L, (D1 ++ [] : Log) ++ L = D1 ++ L := fun L => by rw [List.append_nil]
    rcases (hf x (D1 ++ [])).go nx1 H1 h1.cl with ⟨s, h⟩ | ⟨y, nx2, H2, D2, h2⟩
    · refine .inl ⟨s, fun k L => ?_⟩
      show m (fun x nx H l => f x l k nx H (l ++ L)) nx H [] = _
      rw [h1.runs]; exact h k _
    · refine .inr ⟨y, nx2, H2, D2 ++ D1, fun k L => ?_, Nat.le_trans h1.le h2.le, h2.cl, ?_, ?_, ?_, ?_⟩
      · show m (fun x nx H l => f x l k nx H (l ++ L)) nx H [] = _
        rw [h1.runs, h2.runs, e, List.append_assoc]
      · intro b hb
        rw [h2.keep b fun h => hb (List.mem_append_left _ h), h1.keep b fun h => hb (List.mem_append_right _ h)]
      · intro b u hb hlt
        rcases List.mem_append.1 hb with hb | hb
        · obtain ⟨A, hA⟩ := h2.had b u hb (Nat.lt_of_lt_of_le hlt h1.le)
          by_cases hw : (b, true) ∈ D1
          · exact h1.had b true hw hlt
          · rw [h1.keep b hw] at hA; exact ⟨A, hA⟩
        · exact h1.had b u hb hlt
      · intro b u hb
        rcases List.mem_append.1 hb with hb | hb
        · exact h2.low b u hb
        · exact Nat.lt_of_lt_of_le (h1.low b u hb) h2.le
      · intro G hG hag
        obtain ⟨G1, g1, g2, g3⟩ := h1.loc G hG fun b u hb => hag b u (List.mem_append_right _ hb)
        have hG1 : Cl nx1 G1 := by
          intro b hb
          by_cases hw : (b, true) ∈ D1
          · rw [g2 b hw]; exact h1.cl b hb
          · rw [g3 b hw]; exact hG b (Nat.le_trans h1.le hb)
        obtain ⟨G2, q1, q2, q3⟩ := h2.loc G1 hG1 fun b u hb hlt => by
          by_cases hw : (b, true) ∈ D1
          · exact g2 b hw
          · rw [g3 b hw, h1.keep b hw]
            rcases Nat.lt_or_ge b nx with h | h
            · exact hag b u (List.mem_append_left _ hb) h
            · rw [hG b h, hc b h]
        refine ⟨G2, fun k L => ?_, fun b hb => ?_, fun b hb => ?_⟩
        · show m (fun x nx H l => f x l k nx H (l ++ L)) nx G [] = _
          rw [g1, q1, e, List.append_assoc]
        · by_cases hw : (b, true) ∈ D2
          · exact q2 b hw
          · rcases List.mem_append.1 hb with hb | hb
            · exact (hw hb).elim
            · rw [q3 b hw, g2 b hb, h2.keep b hw]
        · rw [q3 b fun h => hb (List.mem_append_left _ h), g3 b fun h => hb (List.mem_append_right _ h)]
end Loc
section
variable {C : Cx} {call : Nat → List AV → M AV}
theorem loc_wanted {α : Type} {all : List Oper} {e : T AV} {g : Option (Nat × Bool)} {y n : M α} (hy : Loc y) (hn : Loc n) : Loc (wantedA all e g y n) := by
  cases g with
  | none => exact hy
  | some g => exact Loc.bind (m := M.lift "guard" (yieldA all e g)) Loc.lift fun w => Loc.bc hy hn
theorem loc_execOps (hc : LocC call) {all : List Oper} : ∀ {l : List Oper} {e : T AV}, Loc (execOps C call all l e) := by
  intro l
  induction l with
  | nil => intro e; exact Loc.ret
  | cons o l ih => intro e; exact loc_wanted (Loc.bind (loc_execOp hc) fun x => ih) ih
theorem loc_execOpsL (hc : LocC call) {all : List Oper} : ∀ {l : List Oper} {e : T AV} {ls : List Log}, Loc (execOpsL C call all l e ls) := by
  intro l
  induction l with
  | nil => intro e ls; exact Loc.ret
  | cons o l ih => intro e ls; exact loc_wanted (Loc.logged (f := fun x l1 => execOpsL C call all l (putDst e o.dst x) (l1 :: ls)) (loc_execOp hc) fun x l1 => ih) ih
theorem loc_exRegion (hc : LocC call) {ops : List Oper} {d : Bool} {e : T AV} : Loc (exRegion C call ops d e) :=
  Loc.bc (Loc.bind (loc_execOpsL hc) fun r => Loc.bc Loc.ret Loc.no) (Loc.bind (loc_execOps hc) fun e => Loc.ret)
theorem loc_exec (hc : LocC call) : ∀ (m : Nat) {c : Code} {e : T AV}, Loc (exec C call m c e) := by
  intro m
  induction m with
  | zero => intro c e; exact Loc.no
  | succ m ih =>
    intro c e
    show Loc (exStep C call (exec C call m) c e)
    cases c with
    | skip => exact Loc.ret
    | label l => exact Loc.ret
    | exit id => exact Loc.ret
    | ret => exact Loc.ret
    | rangeFunc f ps x y => exact Loc.no
    | scope c => exact Loc.no
    | goto l => exact Loc.no
    | refuse s => exact Loc.no
    | region id ops d => exact loc_exRegion hc
    | cond c x y =>
      refine Loc.bind (m := arg e c) loc_arg fun v => ?_
      cases v <;> first | exact Loc.bc ih ih | exact Loc.no
    | seq x y =>
      refine Loc.bind (m := exec C call m x e) ih fun r => ?_
      obtain ⟨t, e'⟩ := r
      cases t with
      | nrm => exact ih
      | ext i => exact Loc.ret
      | ret => exact Loc.ret
    | block id c =>
      refine Loc.bind (m := exec C call m c e) ih fun r => ?_
      obtain ⟨t, e'⟩ := r
      cases t with
      | nrm => exact Loc.ret
      | ext i => exact Loc.bc Loc.ret Loc.ret
      | ret => exact Loc.ret
    | loop c =>
      refine Loc.bind (m := exec C call m c e) ih fun r => ?_
      obtain ⟨t, e'⟩ := r
      cases t with
      | nrm => exact ih
      | ext i => exact Loc.ret
      | ret => exact Loc.ret
theorem loc_results {e : T AV} : ∀ {l : List ResultVar}, Loc (resultsA C e l) := by
  intro l
  induction l with
  | nil => exact Loc.ret
  | cons r l ih =>
    cases r with
    | tmp t => exact Loc.bind (m := M.lift "result" (e.get t)) Loc.lift fun v => Loc.bind ih fun vs => Loc.ret
    | cell y t =>
      refine Loc.bind (m := M.lift "result cell" (e.get y)) Loc.lift fun p => ?_
      refine Loc.bind ?_ fun v => Loc.bind ih fun vs => Loc.ret
      cases p <;> first | exact loc_load | exact Loc.no
theorem loc_callText (hc : LocC call) {f : Nat} {args : List AV} : Loc (callText C call f args) := by
  refine Loc.bind (m := M.lift "no such function" (funcBody C f)) Loc.lift fun fb => Loc.bind (loc_exec hc 1000000) fun r => ?_
  obtain ⟨t, e'⟩ := r
  cases t with
  | nrm => exact Loc.bind loc_results fun vs => Loc.ret
  | ext i => exact Loc.no
  | ret => exact Loc.bind loc_results fun vs => Loc.ret
/-- what is answered in the place of a text is local -/
def LocX (C : Cx) : Prop := ∀ {call : Nat → List AV → M AV} {f : Nat} {args : List AV} {m : M AV}, LocC call → C.ext C.bd call f args = some m → Loc m
theorem loc_callN (hx : LocX C) : ∀ m, LocC (callN C m) := by
  intro m
  induction m with
  | zero => intro f args; exact Loc.no
  | succ m ih =>
    intro f args
    show Loc (callStep C (callN C m) f args)
    unfold callStep
    cases h : C.ext C.bd (callN C m) f args with
    | none => exact loc_callText ih
    | some q => exact hx ih h
end
end Go.AM
namespace Go.AM
/-! # Soundness, part 28: an operation looks at its operands, alone -/
section
variable {C : Cx} {call : Nat → List AV → M AV} {e e' : T AV}
theorem opnds_congr : ∀ {l : List Operand}, (∀ x ∈ l, opnd e x = opnd e' x) → opnds e l = opnds e' l := by
  intro l
  induction l with
  | nil => intro _; rfl
  | cons o l ih =>
    intro h
    show ob (opnd e o) (fun a => ob (opnds e l) fun l => some (a :: l)) = ob (opnd e' o) (fun a => ob (opnds e' l) fun l => some (a :: l))
    rw [h o (List.mem_cons_self ..), ih fun x hx => h x (List.mem_cons_of_mem _ hx)]
theorem parts_congr : ∀ {l : List (Nat × Operand)}, (∀ x ∈ l, opnd e x.2 = opnd e' x.2) → parts e l = parts e' l := by
  intro l
  induction l with
  | nil => intro _; rfl
  | cons o l ih =>
    intro h
    show ob (opnd e o.2) (fun a => ob (parts e l) fun l => some ((o.1, a) :: l)) = ob (opnd e' o.2) (fun a => ob (parts e' l) fun l => some ((o.1, a) :: l))
    rw [h o (List.mem_cons_self ..), ih fun x hx => h x (List.mem_cons_of_mem _ hx)]
theorem opndo_congr {o : Option Operand} (h : ∀ x ∈ o.toList, opnd e x = opnd e' x) : opndo e o = opndo e' o := by
  cases o with
  | none => rfl
  | some o =>
    show ob (opnd e o) (fun a => some (some a)) = ob (opnd e' o) (fun a => some (some a))
    rw [h o (by simp)]
theorem execOp_congr {o : Op} (h : ∀ x ∈ o.operands.toList, opnd e x = opnd e' x) : execOp C call e o = execOp C call e' o := by
  cases o
  case move x => show arg e x = arg e' x; unfold arg; rw [h x (by simp [Op.operands])]
  case assign x => show arg e x = arg e' x; unfold arg; rw [h x (by simp [Op.operands])]
  case pick c a b => show opPick e c a b = opPick e' c a b; unfold opPick arg; rw [h c (by simp [Op.operands]), h a (by simp [Op.operands]), h b (by simp [Op.operands])]
  case box t x => show opBox e x = opBox e' x; unfold opBox; rw [h x (by simp [Op.operands])]
  case build t ps => show opBuild C e t ps.toList = opBuild C e' t ps.toList; unfold opBuild; rw [parts_congr fun x hx => h x.2 (by simp only [Op.operands]; exact List.mem_map_of_mem hx)]
  case buildSlice t n ps => show opBuildSlice C e t n ps.toList = opBuildSlice C e' t n ps.toList; unfold opBuildSlice; rw [parts_congr fun x hx => h x.2 (by simp only [Op.operands]; exact List.mem_map_of_mem hx)]
  case load t x => show opLoad C e t x = opLoad C e' t x; unfold opLoad arg; rw [h x (by simp [Op.operands])]
  case store t x y => show opStore C e t x y = opStore C e' t x y; unfold opStore arg; rw [h x (by simp [Op.operands]), h y (by simp [Op.operands])]
  case nilCheck x => show opNil e x = opNil e' x; unfold opNil arg; rw [h x (by simp [Op.operands])]
  case binOp op t x y r => show opBin C e op t x y = opBin C e' op t x y; unfold opBin arg; rw [h x (by simp [Op.operands]), h y (by simp [Op.operands])]
  case unOp op t x => show opUn C e op x = opUn C e' op x; unfold opUn arg; rw [h x (by simp [Op.operands])]
  case convert s t x => show opConv C e s t x = opConv C e' s t x; unfold opConv arg; rw [h x (by simp [Op.operands])]
  case makeFunc f a b =>
    show opFunc e f a.toList b.toList = opFunc e' f a.toList b.toList
    have ha : opnds e a.toList = opnds e' a.toList := opnds_congr fun x hx => h x (by simp only [Op.operands, Array.toList_append]; exact List.mem_append_left _ hx)
    have hb : opnds e b.toList = opnds e' b.toList := opnds_congr fun x hx => h x (by simp only [Op.operands, Array.toList_append]; exact List.mem_append_right _ hx)
    unfold opFunc; rw [ha, hb]
  case makeSlice t x y => show opMake C e t x y = opMake C e' t x y; unfold opMake arg; rw [h x (by simp [Op.operands]), h y (by simp [Op.operands])]
  case slice t x l hh m =>
    show opSlice C e t x l hh m = opSlice C e' t x l hh m
    have h1 : opndo e l = opndo e' l := opndo_congr fun y hy => h y (by simp only [Op.operands, Array.toList_append]; simp at hy ⊢; simp [hy])
    have h2 : opndo e hh = opndo e' hh := opndo_congr fun y hy => h y (by simp only [Op.operands, Array.toList_append]; simp at hy ⊢; simp [hy])
    have h3 : opndo e m = opndo e' m := opndo_congr fun y hy => h y (by simp only [Op.operands, Array.toList_append]; simp at hy ⊢; simp [hy])
    unfold opSlice arg; rw [h x (by simp [Op.operands]), h1, h2, h3]
  case fieldAddr s x f => show opFieldAddr C e s x f = opFieldAddr C e' s x f; unfold opFieldAddr arg; rw [h x (by simp [Op.operands])]
  case field s x f => show opField C e s x f = opField C e' s x f; unfold opField arg; rw [h x (by simp [Op.operands])]
  case indexAddr t x y => show opIndexAddr C e t x y = opIndexAddr C e' t x y; unfold opIndexAddr arg; rw [h x (by simp [Op.operands]), h y (by simp [Op.operands])]
  case index t x y => show opIndex C e t x y = opIndex C e' t x y; unfold opIndex arg; rw [h x (by simp [Op.operands]), h y (by simp [Op.operands])]
  case lookup t x y c => show opLookup C e t x y c = opLookup C e' t x y c; unfold opLookup arg; rw [h x (by simp [Op.operands]), h y (by simp [Op.operands])]
  case mapUpdate t m x y => show opMapUpdate C e t m x y = opMapUpdate C e' t m x y; unfold opMapUpdate arg; rw [h m (by simp [Op.operands]), h x (by simp [Op.operands]), h y (by simp [Op.operands])]
  case extract x i => show opExtract e x i = opExtract e' x i; unfold opExtract arg; rw [h x (by simp [Op.operands])]
  case call c =>
    show opCall C call e c = opCall C call e' c
    have ha : opnds e c.args.toList = opnds e' c.args.toList := opnds_congr fun x hx => h x (by simp only [Op.operands, Call.operands, Array.toList_append]; exact List.mem_append_right _ hx)
    unfold opCall
    rw [ha]
    cases hcal : c.callee with
    | builtin b => rfl
    | invoke r m => rfl
    | value f =>
      have hf : arg e f = arg e' f := by unfold arg; rw [h f (by simp [Op.operands, Call.operands, hcal])]
      simp only [hf]
  all_goals rfl
end
end Go.AM
