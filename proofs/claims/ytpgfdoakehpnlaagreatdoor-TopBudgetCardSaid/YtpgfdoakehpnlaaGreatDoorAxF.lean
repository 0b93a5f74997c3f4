import Derived.Test.YtpgfdoakehpnlaaGreatDoorAxE
import Derived.Orders
import Derived.Test.YtpgfdoakehpnlaaGreatDoorAxB
set_option linter.unusedVariables false
set_option linter.unusedSimpArgs false
namespace Go.AM
/-! # Soundness, part 23: regions in the text's order, code, functions -/
/-- the bits, as a function of the place -/
def Bits (bs : List Nat) (i : Nat) : Nat := (bs[bs.length - 1 - i]?).getD 0
def tmpOf : Operand → Option Nat
  | .tmp t => some t
  | _ => none
/-- the slots that an operation looks at -/
def looksA (all : List Oper) (o : Oper) : List Nat := o.op.operands.toList.filterMap tmpOf ++ (match o.guard with
  | some g => ((all[g.1]?).bind (·.dst)).toList
  | none => [])
def slotsOffB (all : List Oper) (o p : Oper) : Bool := (match o.dst with
  | none => true
  | some d => !(looksA all p).contains d && !(p.dst == some d)) && (match p.dst with
  | none => true
  | some d => !(looksA all o).contains d)
/-- what is asked of a region whose order is drawn -/
noncomputable def regFit (all : List Oper) : Bool := (all.zipIdx.all fun p => p.1.after.toList.all fun e => bc (Region.binds .any e) (Nat.ble (e.on + 1) p.2) true) &&
  (all.zipIdx.all fun p => all.zipIdx.all fun q => bc (Nat.ble (q.2 + 1) p.2) (Nat.testBit (Bits (before all []) p.2) q.2 || slotsOffB all p.1 q.1) true)
/-- does every operation write a slot that there is? -/
def opFit (n : Nat) (o : Oper) : Bool := match o.dst with
  | none => true
  | some d => Nat.ble (d + 1) n
noncomputable def codeFit (n : Nat) : Code → Bool
  | .region _ ops d => ops.toList.all (opFit n) && bc d (regFit ops.toList) true
  | .seq a b => codeFit n a && codeFit n b
  | .cond _ a b => codeFit n a && codeFit n b
  | .block _ c => codeFit n c
  | .loop c => codeFit n c
  | _ => true
noncomputable def fnFit (fn : Func) : Bool := !(fn.name == "runtime.NumGoroutine") && (match fn.body with
  | none => true
  | some c => codeFit fn.ntmps c)
def exitOf : X → Exit
  | .nrm => .normal
  | .ext id => .exit id
  | .ret => .ret
/-- a state behind some steps -/
def St (ν : Vl) (ρ0 : Nm) (nx0 : Nat) (w0 : World) (n : Nat) (e : T AV) (nx : Nat) (H : T AB) (D : Log) (a : Act) (w : World) : Prop :=
  ∃ ρ, Low nx0 ρ0 nx ρ ∧ ER ν ρ n e a ∧ HR ν ρ nx H w ∧ Stp ρ0 w0 ρ w D ∧ Glob ρ
theorem St.trans {ν : Vl} {ρ0 ρ1 : Nm} {nx0 nx1 : Nat} {w0 w1 : World} {n : Nat} {e : T AV} {nx : Nat} {H : T AB} {D D1 : Log} {a : Act} {w : World} (h1 : Low nx0 ρ0 nx1 ρ1) (h2 : Stp ρ0 w0 ρ1 w1 D1) (h : St ν ρ1 nx1 w1 n e nx H D a w) :
    St ν ρ0 nx0 w0 n e nx H (D ++ D1) a w := by
  obtain ⟨ρ, k1, k2, k3, k4, k5⟩ := h
  exact ⟨ρ, h1.trans k1, k2, k3, h2.trans k4, k5⟩
theorem St.here {ν : Vl} {ρ : Nm} {nx : Nat} {w : World} {n : Nat} {e : T AV} {H : T AB} {a : Act} (hr : HR ν ρ nx H w) (hg : Glob ρ) (he : ER ν ρ n e a) : St ν ρ nx w n e nx H [] a w :=
  ⟨ρ, .refl, he, hr, .refl _ _ _, hg⟩
/-- a loop, with a number that falls -/
theorem wp_loop_n {P : Program} {Q : Exit → Act → World → Prop} {a : Act} {w : World} {c : Code} (J : Nat → Act → World → Prop) (m : Nat) (h₀ : J m a w)
    (round : ∀ m a w, J m a w → c.wp P (Exit.then (fun a' w' => ∃ m', m' < m ∧ J m' a' w') Q) a w) : (Code.loop c).wp P Q a w := by
  intro b k cs
  have key : ∀ m a w, J m a w → ∃ e a' w', Q e a' w' ∧ Arrives P (lone (b.at a (.code c :: .inLoop c :: k)) cs w) b k cs e a' w' := by
    intro m
    induction m using Nat.strongRecOn with
    | _ m ih =>
      intro a w hJ
      obtain ⟨e, a₁, w₁, hq, harr⟩ := round m a w hJ b (.inLoop c :: k) cs
      cases e with
      | normal =>
        obtain ⟨m', hlt, hJ'⟩ := hq
        obtain ⟨e₂, a₂, w₂, hq₂, harr₂⟩ := ih m' hlt a₁ w₁ hJ'
        exact ⟨e₂, a₂, w₂, hq₂, .of_steps (Steps.trans harr (.one step_inLoop)) harr₂⟩
      | exit id => exact ⟨_, a₁, w₁, hq, .pass (x := .inLoop c) rfl (fun _ _ => .inl (by simp)) harr⟩
      | goto l => exact ⟨_, a₁, w₁, hq, .pass (x := .inLoop c) rfl (fun _ _ => .inl (by simp)) harr⟩
      | ret => exact ⟨_, a₁, w₁, hq, .pass (x := .inLoop c) rfl (fun _ _ => .inl (by simp)) harr⟩
      | panic ch => exact ⟨_, a₁, w₁, hq, .pass (x := .inLoop c) rfl (fun _ _ => .inl (by simp)) harr⟩
      | outgrown => exact ⟨_, a₁, w₁, hq, .pass (x := .inLoop c) rfl (fun _ _ => .inl (by simp)) harr⟩
  obtain ⟨e, a', w', hq, harr⟩ := key m a w h₀
  exact ⟨e, a', w', hq, .of_steps (.one step_loop) harr⟩
section
variable {C : Cx} {ν : Vl} {ρ : Nm} {nx n : Nat} {H : T AB} {L : Log} {w : World} {z : Ans} {e : T AV} {a : Act}
theorem VR.noBool {x : AV} {v : Value} (h : VR ν ρ x v) (hx : ∀ b, x ≠ .bool b) : ∀ b, v ≠ .bool b := by
  intro b hv
  subst hv
  cases x <;> first | (exact hx _ rfl) | (cases h; done) | skip
  case ptr => obtain ⟨_, _, _, _, _, h⟩ := h; cases h
  case sl => obtain ⟨_, _, _, _, _, _, _, _, _, _, _, h⟩ := h; cases h
  case fn => obtain ⟨_, _, _, _, h⟩ := h; cases h
  case agg => obtain ⟨_, _, _, h⟩ := h; cases h
  case tup => obtain ⟨_, _, h⟩ := h; cases h
  case map => obtain ⟨_, _, _, h⟩ := h; cases h
theorem yield_ok (he : ER ν ρ n e a) {all : Array Oper} {g : Nat × Bool} {b : Bool} (h : yieldA all.toList e g = some b) : (yielded all a.tmps g.1 == some g.2) = b := by
  obtain ⟨p, hp, h⟩ := ob_some h
  obtain ⟨d, hd, h⟩ := ob_some h
  obtain ⟨x, hx, h⟩ := ob_some h
  rw [lget_eq] at hp
  have hp : all[g.1]? = some p := by simpa using hp
  have hv := he.slot d x hx
  unfold yielded
  rw [hp]
  simp only [Option.bind_some, hd]
  cases hs : a.tmps[d]? with
  | none =>
    rw [Array.getD_eq_getD_getElem?, hs] at hv
    cases x <;> first | (cases h; rfl) | skip
    case bool q => cases hv
  | some v =>
    rw [Array.getD_eq_getD_getElem?, hs] at hv
    have hv : VR ν ρ x v := hv
    by_cases hb : ∃ q, x = .bool q
    · obtain ⟨q, rfl⟩ := hb
      have hv : v = _ := hv
      subst hv
      cases h
      obtain ⟨g1, g2⟩ := g
      cases q <;> cases g2 <;> rfl
    · have h1 := hv.noBool (fun b e => hb ⟨b, e⟩)
      have hf : b = false := by
        cases x <;> first | (cases h; rfl) | skip
        case bool => exact (hb ⟨_, rfl⟩).elim
      subst hf
      cases v <;> first | rfl | skip
      case bool => exact (h1 _ rfl).elim
theorem wanted_ok {α : Type} (he : ER ν ρ n e a) (hz : Yes z) {all : Array Oper} {o : Oper} {y m : M α} {k : α → Nat → T AB → Log → Ans} (h : wantedA all.toList e o.guard y m k nx H L = z) :
    (Region.wanted o (yielded all a.tmps) = true ∧ y k nx H L = z) ∨ (Region.wanted o (yielded all a.tmps) = false ∧ m k nx H L = z) := by
  unfold Region.wanted
  cases hg : o.guard with
  | none => rw [hg] at h; exact .inl ⟨rfl, h⟩
  | some g =>
    rw [hg] at h
    obtain ⟨b, hb, h⟩ := lift_ok hz (show ((M.lift "guard" (yieldA all.toList e g)).bind fun w => bc w y m) k nx H L = z from h)
    have := yield_ok he hb
    obtain ⟨g1, g2⟩ := g
    simp only at this ⊢
    rw [this]
    cases b with
    | true => exact .inl ⟨rfl, h⟩
    | false => exact .inr ⟨rfl, h⟩
theorem ops_ok (ok : ν.Ok C.bd) (hpl : PlainOk C) {call : Nat → List AV → M AV} (hc : CallOk C ν call) {all : Array Oper} {Q : Exit → Act → World → Prop} (hz : Yes z) :
    ∀ {l : List Oper} {i : Nat} {ρ : Nm} {nx : Nat} {H : T AB} {L : Log} {w : World} {e : T AV} {a : Act} {k : T AV → Nat → T AB → Log → Ans}, (∀ j, l[j]? = all[i + j]?) → l.all (opFit n) = true → HR ν ρ nx H w → Glob ρ → ER ν ρ n e a →
      execOps C call all.toList l e k nx H L = z → (∀ e' nx' H' D a' w', k e' nx' H' (D ++ L) = z → St ν ρ nx w n e' nx' H' D a' w' → Q .normal a' w') → wpOps C.P all Q (List.range' i l.length) a w := by
  intro l
  induction l with
  | nil => intro i ρ nx H L w e a k _ _ hr hg he h hQ; exact hQ e nx H [] a w h (St.here hr hg he)
  | cons o l ih =>
    intro i ρ nx H L w e a k hl hfit hr hg he h hQ
    have ho : all[i]? = some o := by simpa using (hl 0).symm
    rw [List.all_cons, Bool.and_eq_true] at hfit
    have hl' : ∀ j, l[j]? = all[i + 1 + j]? := fun j => by have := hl (j + 1); simpa [Nat.add_assoc, Nat.add_comm 1 j] using this
    have hd : ∀ d, o.dst = some d → d < n := by
      intro d hd
      have := hfit.1
      unfold opFit at this
      rw [hd] at this
      exact Nat.le_of_ble_eq_true this
    rw [List.length_cons, List.range'_succ, wpOps_cons]
    unfold wpOp
    rw [ho]
    simp only
    rcases wanted_ok he hz (show wantedA all.toList e o.guard ((execOp C call e o.op).bind fun x => execOps C call all.toList l (putDst e o.dst x)) (execOps C call all.toList l (putDst e o.dst (.tup []))) k nx H L = z from h) with ⟨hw, h1⟩ | ⟨hw, h1⟩
    · rw [if_pos hw]
      refine .inl (execOp_ok ok hpl hc hr hg he hz h1 _ Q ?_)
      intro x nx' H' D ρ' v w' hk hnx hx hr' hs
      refine ih hl' hfit.2 hr' (hg.ext hs.ext) ((he.ext hs.ext).put hd hx) hk ?_
      intro e2 nx2 H2 D2 a2 w2 hk2 hst
      exact hQ e2 nx2 H2 (D2 ++ D) a2 w2 (by rw [List.append_assoc]; exact hk2) (hst.trans hnx hs)
    · rw [if_neg (by rw [hw]; simp)]
      exact ih hl' hfit.2 hr hg (he.put hd VR_undef) h1 hQ

/-- a region whose order is drawn -/
def DrawOk (C : Cx) (ν : Vl) (call : Nat → List AV → M AV) : Prop :=
  ∀ {n : Nat} {id : Nat} {ops : Array Oper} {ρ : Nm} {nx : Nat} {H : T AB} {L : Log} {w : World} {e : T AV} {a : Act} {k : (X × T AV) → Nat → T AB → Log → Ans} {z : Ans} {Q : Exit → Act → World → Prop},
    Yes z → ops.toList.all (opFit n) = true → regFit ops.toList = true → HR ν ρ nx H w → Glob ρ → ER ν ρ n e a → exRegion C call ops.toList true e k nx H L = z →
    (∀ x e' nx' H' D a' w', k (x, e') nx' H' (D ++ L) = z → St ν ρ nx w n e' nx' H' D a' w' → Q (exitOf x) a' w') → (Code.region id ops true).wp C.P Q a w
theorem exec_ok (ok : ν.Ok C.bd) (hpl : PlainOk C) {call : Nat → List AV → M AV} (hc : CallOk C ν call) (hdr : DrawOk C ν call) (hz : Yes z) : ∀ (m : Nat) {c : Code} {ρ : Nm} {nx : Nat} {H : T AB} {L : Log} {w : World} {e : T AV} {a : Act} {k : (X × T AV) → Nat → T AB → Log → Ans} {Q : Exit → Act → World → Prop},
    codeFit n c = true → HR ν ρ nx H w → Glob ρ → ER ν ρ n e a → exec C call m c e k nx H L = z →
    (∀ x e' nx' H' D a' w', k (x, e') nx' H' (D ++ L) = z → St ν ρ nx w n e' nx' H' D a' w' → Q (exitOf x) a' w') → c.wp C.P Q a w := by
  intro m
  induction m using Nat.strongRecOn with
  | _ m ih =>
    intro c ρ nx H L w e a k Q hfit hr hg he h hQ
    cases m with
    | zero => exact (hz _ h.symm).elim
    | succ m =>
      have hstop : ∀ x, k (x, e) nx H L = z → Q (exitOf x) a w := fun x hk => hQ x e nx H [] a w hk (St.here hr hg he)
      have h : exStep C call (exec C call m) c e k nx H L = z := h
      cases c with
      | skip => exact wp_skip (hstop .nrm h)
      | label l => exact wp_label (hstop .nrm h)
      | exit id => exact wp_exit (hstop (.ext id) h)
      | ret => exact wp_ret (hstop .ret h)
      | rangeFunc f ps x y => exact (hz _ h.symm).elim
      | scope c => exact (hz _ h.symm).elim
      | goto l => exact (hz _ h.symm).elim
      | refuse s => exact (hz _ h.symm).elim
      | region id ops d =>
        have hfit2 : (ops.toList.all (opFit n) && bc d (regFit ops.toList) true) = true := hfit
        rw [Bool.and_eq_true] at hfit2
        cases d with
        | true => exact hdr hz hfit2.1 hfit2.2 hr hg he h hQ
        | false =>
          refine wp_region ?_
          have h : execOps C call ops.toList ops.toList e (fun e => k (.nrm, e)) nx H L = z := h
          have := ops_ok (Q := Q) ok hpl hc hz (l := ops.toList) (i := 0) (by intro j; simp) hfit2.1 hr hg he h (fun e' nx' H' D a' w' hk hst => hQ .nrm e' nx' H' D a' w' hk hst)
          rw [Array.length_toList, ← List.range_eq_range'] at this
          exact this
      | cond c x y =>
        have hfit : (codeFit n x && codeFit n y) = true := hfit
        rw [Bool.and_eq_true] at hfit
        obtain ⟨v, hv, hk⟩ := lift_ok hz (show ((arg e c).bind fun v => (match v with
          | .bool r => bc r (exec C call m x e) (exec C call m y e)
          | _ => M.no "cond") : M (X × T AV)) k nx H L = z from h)
        have hev := opnd_ok hg he hv
        cases v <;> try (exact (hz _ hk.symm).elim)
        case bool r =>
        have hev : a.eval c = .bool r := hev
        cases r with
        | true => exact wp_cond_true hev (ih m (Nat.lt_succ_self m) hfit.1 hr hg he hk hQ)
        | false => exact wp_cond_false hev (ih m (Nat.lt_succ_self m) hfit.2 hr hg he hk hQ)
      | seq x y =>
        have hfit : (codeFit n x && codeFit n y) = true := hfit
        rw [Bool.and_eq_true] at hfit
        refine wp_seq (ih m (Nat.lt_succ_self m) hfit.1 hr hg he (show exec C call m x e (fun r => (X.rec (exec C call m y r.2) (fun i => M.ret (.ext i, r.2)) (M.ret (.ret, r.2)) r.1 : M (X × T AV)) k) nx H L = z from h) ?_)
        intro t e' nx' H' D a' w' hk hst
        cases t with
        | nrm =>
          obtain ⟨ρ1, k1, k2, k3, k4, k5⟩ := hst
          refine ih m (Nat.lt_succ_self m) hfit.2 k3 k5 k2 hk ?_
          intro x e2 nx2 H2 D2 a2 w2 hk2 hst2
          exact hQ x e2 nx2 H2 (D2 ++ D) a2 w2 (by rw [List.append_assoc]; exact hk2) (hst2.trans k1 k4)
        | ext i => exact hQ (.ext i) e' nx' H' D a' w' hk hst
        | ret => exact hQ .ret e' nx' H' D a' w' hk hst
      | block id c =>
        refine wp_block (ih m (Nat.lt_succ_self m) hfit hr hg he (show exec C call m c e (fun r => exBlock id r.1 r.2 k) nx H L = z from h) ?_)
        intro t e' nx' H' D a' w' hk hst
        cases t with
        | nrm => exact hQ .nrm e' nx' H' D a' w' hk hst
        | ret => exact hQ .ret e' nx' H' D a' w' hk hst
        | ext i =>
          rcases bcM_ok (show (bc (Nat.beq i id) (M.ret (.nrm, e')) (M.ret (.ext i, e')) : M (X × T AV)) k nx' H' (D ++ L) = z from hk) with ⟨h1, h2⟩ | ⟨h1, h2⟩
          · have := Nat.eq_of_beq_eq_true h1
            subst this
            simp only [exitOf, Exit.inBlock, if_true]
            exact hQ .nrm e' nx' H' D a' w' h2 hst
          · have : ¬ i = id := fun e => by subst e; rw [Nat.beq_refl] at h1; cases h1
            simp only [exitOf, Exit.inBlock, if_neg this]
            exact hQ (.ext i) e' nx' H' D a' w' h2 hst
      | loop c =>
        have hfit : codeFit n c = true := hfit
        refine wp_loop_n (fun m1 a1 w1 => m1 ≤ m + 1 ∧ ∃ e1 nx1 H1 D1, exec C call m1 (.loop c) e1 k nx1 H1 (D1 ++ L) = z ∧ St ν ρ nx w n e1 nx1 H1 D1 a1 w1) (m + 1) ?_ ?_
        · exact ⟨Nat.le_refl _, e, nx, H, [], h, St.here hr hg he⟩
        · intro m1 a1 w1 ⟨hle, e1, nx1, H1, D1, h1, hst⟩
          cases m1 with
          | zero => exact (hz _ h1.symm).elim
          | succ p =>
            obtain ⟨ρ1, k1, k2, k3, k4, k5⟩ := hst
            refine ih p (by omega) hfit k3 k5 k2 (show exec C call p c e1 (fun r => (X.rec (exec C call p (.loop c) r.2) (fun i => M.ret (.ext i, r.2)) (M.ret (.ret, r.2)) r.1 : M (X × T AV)) k) nx1 H1 (D1 ++ L) = z from h1) ?_
            intro t e' nx' H' D a' w' hk hst
            have hst2 := hst.trans k1 k4
            cases t with
            | nrm => exact ⟨p, Nat.lt_succ_self p, by omega, e', nx', H', D ++ D1, by rw [List.append_assoc]; exact hk, hst2⟩
            | ext i => exact hQ (.ext i) e' nx' H' (D ++ D1) a' w' (by rw [List.append_assoc]; exact hk) hst2
            | ret => exact hQ .ret e' nx' H' (D ++ D1) a' w' (by rw [List.append_assoc]; exact hk) hst2
end
end Go.AM
namespace Go.AM
/-! # Soundness, part 24: functions -/
section
variable {C : Cx} {ν : Vl} {ρ : Nm} {nx n : Nat} {H : T AB} {L : Log} {w : World} {z : Ans} {e : T AV} {a : Act}
theorem slots_get : ∀ {l : List AV} {i : Nat} {e : T AV} {t : Nat}, (slots l i e).get t = if i ≤ t ∧ t < i + l.length then l[t - i]? else e.get t := by
  intro l
  induction l with
  | nil => intro i e t; rw [if_neg (by simp)]; rfl
  | cons x l ih =>
    intro i e t
    show (slots l (i + 1) (e.put i (some x))).get t = _
    rw [ih, T.get_put]
    by_cases h1 : t = i
    · subst h1
      rw [if_neg (by omega), if_pos rfl, if_pos (by simp)]
      simp
    · rw [if_neg h1]
      by_cases h2 : i + 1 ≤ t ∧ t < i + 1 + l.length
      · rw [if_pos h2, if_pos (by simp; omega), show t - i = (t - (i + 1)) + 1 by omega]
        simp
      · rw [if_neg h2, if_neg (by simp; omega)]
theorem get_leaf {t : Nat} : (T.leaf : T AV).get t = none := T.get_leaf t
theorem slots_ER {args : List AV} {vs : List Value} {m : Nat} (h : VRs ν ρ args vs) : ER ν ρ m (slots args 0 .leaf) { tmps := (⟨vs⟩ : Array Value) ++ Array.replicate (m - (⟨vs⟩ : Array Value).size) undef, defers := [] } := by
  refine ⟨rfl, by simp; omega, fun t x hx => ?_⟩
  rw [slots_get] at hx
  by_cases ht : 0 ≤ t ∧ t < 0 + args.length
  · rw [if_pos ht] at hx
    obtain ⟨v, hv, hxv⟩ := h.get hx
    have hlt : t < vs.length := (List.getElem?_eq_some_iff.1 hv).1
    simp only [Array.getD_eq_getD_getElem?]
    rw [Array.getElem?_append_left (by simpa using hlt)]
    have hv : (⟨vs⟩ : Array Value)[t]? = some v := by simpa using hv
    rw [hv]
    exact hxv
  · rw [if_neg ht, get_leaf] at hx; cases hx
def resF (tmps : Array Value) : ResultVar → Sem Value
  | .tmp t => pure (tmps.getD t undef)
  | .cell a t => do loadVar t (← asAddr (tmps.getD a undef))
theorem results_eq (fn : Func) (tmps : Array Value) : results fn tmps = (do
    let vs ← fn.results.mapM (resF tmps)
    pure (if h : vs.size = 1 then vs[0] else .tuple vs)) := by
  unfold results
  congr 1
theorem resultsA_ok (ok : ν.Ok C.bd) (hr : HR ν ρ nx H w) (hz : Yes z) (he : ER ν ρ n e a) : ∀ {l : List ResultVar} {L : Log} {k : List AV → Nat → T AB → Log → Ans}, resultsA C e l k nx H L = z →
    ∃ xs vs D, k xs nx H (D ++ L) = z ∧ VRs ν ρ xs vs ∧ (∀ y ∈ D, y.2 = false) ∧ (l.mapM (resF a.tmps)).run C.P w = .ok vs w := by
  intro l
  induction l with
  | nil => intro L k h; exact ⟨[], [], [], h, VRs.mk0, by simp, rfl⟩
  | cons r l ih =>
    intro L k h
    cases r with
    | tmp t =>
      obtain ⟨x, hx, hk⟩ := lift_ok hz (show ((M.lift "result" (e.get t)).bind fun v => (resultsA C e l).bind fun vs => M.ret (v :: vs) : M (List AV)) k nx H L = z from h)
      obtain ⟨xs, vs, D, h1, h2, h3, h4⟩ := ih (k := fun vs => k (x :: vs)) hk
      refine ⟨x :: xs, _ :: vs, D, h1, VRs.mk (he.slot t x hx) h2, h3, ?_⟩
      rw [List.mapM_cons]
      simp only [Sem.run_bind, resF, Sem.run_pure, Result.andThen_ok]
      rw [show (List.mapM (resF a.tmps) l).run C.P w = .ok vs w from h4]
      rfl
    | cell y t =>
      obtain ⟨p, hp, hk⟩ := lift_ok hz (show ((M.lift "result cell" (e.get y)).bind fun p => ((match p with
        | .ptr b off => load C t b off
        | _ => M.no "result cell" : M AV).bind fun v => (resultsA C e l).bind fun vs => M.ret (v :: vs)) : M (List AV)) k nx H L = z from h)
      have hv := he.slot y p hp
      cases p <;> try (exact (hz _ hk.symm).elim)
      case ptr b off =>
      obtain ⟨x, v, h1, h2, h3⟩ := load_seen (k := fun v => ((resultsA C e l).bind fun vs => M.ret (v :: vs) : M (List AV)) k) ok hr hz hv hk
      obtain ⟨xs, vs, D, q1, q2, q3, q4⟩ := ih (k := fun vs => k (x :: vs)) h1
      refine ⟨x :: xs, v :: vs, D ++ [(b, false)], by rw [List.append_assoc]; exact q1, VRs.mk h3 q2, ?_, ?_⟩
      · intro y hy
        rcases List.mem_append.1 hy with hy | hy
        · exact q3 y hy
        · simp at hy; subst hy; rfl
      · rw [List.mapM_cons]
        obtain ⟨r, sz, o, _, _, hpv⟩ := hv
        rw [hpv] at h2
        have h2 : (loadVar t ⟨r, o, none⟩).run C.P w = .ok v w := by simpa [Instr.loadAt, Instr.sureAddr] using h2
        have h5 : (resF a.tmps (.cell y t)).run C.P w = .ok v w := by
          simp only [resF, hpv, asAddr, Sem.run_bind, Sem.run_pure, Result.andThen_ok, h2]
        simp only [Sem.run_bind, h5, Result.andThen_ok, q4, Sem.run_pure]
theorem oneOf_ok {xs : List AV} {vs : List Value} (h : VRs ν ρ xs vs) : VR ν ρ (oneOf xs) (if h : (⟨vs⟩ : Array Value).size = 1 then (⟨vs⟩ : Array Value)[0] else .tuple ⟨vs⟩) := by
  cases xs with
  | nil => have := h.nil; subst this; exact ⟨[], VRs.mk0, rfl⟩
  | cons x xs =>
    obtain ⟨v, vs', rfl, h1, h2⟩ := h.cons
    cases xs with
    | nil => have := h2.nil; subst this; exact h1
    | cons y ys =>
      obtain ⟨u, vs'', rfl, h3, h4⟩ := h2.cons
      rw [dif_neg (by simp)]
      exact ⟨_, VRs.mk h1 h2, rfl⟩
def FitP (P : Program) : Prop := ∀ (f : FuncId) (fn : Func), P.funcs[f]? = some fn → fnFit fn = true
theorem callText_ok (ok : ν.Ok C.bd) (hpl : PlainOk C) (hfit : FitP C.P) {call : Nat → List AV → M AV} (hc : CallOk C ν call) (hdr : DrawOk C ν call) (hr : HR ν ρ nx H w) (hg : Glob ρ) (hz : Yes z) {f : Nat} {args : List AV} {vs : List Value} (hv : VRs ν ρ args vs)
    {k : AV → Nat → T AB → Log → Ans} {o : Oper} (h : callText C call f args k nx H L = z) : OpOk C ν ρ nx L w k z o a ((callFunc f ⟨vs⟩).run C.P w) := by
  obtain ⟨⟨c, rs⟩, hfb, hk⟩ := lift_ok hz h
  obtain ⟨fn, hfn, hfb⟩ := ob_some hfb
  obtain ⟨c', hbody, hfb⟩ := ob_some hfb
  cases hfb
  rw [lget_eq] at hfn
  have hfn : C.P.funcs[f]? = some fn := by simpa using hfn
  have hf := hfit f fn hfn
  unfold fnFit at hf
  rw [Bool.and_eq_true, hbody] at hf
  have hname : (fn.name == "runtime.NumGoroutine") = false := by simpa using hf.1
  have hrun : (callFunc f ⟨vs⟩).run C.P w = .ok (.enter f ⟨vs⟩) w := by
    have h2 : ¬ fn.name = "runtime.NumGoroutine" := by simpa using hname
    simp [callFunc, hfn, h2, hbody]
  rw [hrun]
  intro next Q hn
  rw [Oper.upon_enter]
  refine calls_of_wp hfn hbody (exec_ok ok hpl hc hdr hz 1000000 hf.2 hr hg (slots_ER hv) hk ?_)
  have fin : ∀ {e' nx' H' D a' w'}, (resultsA C e' fn.results.toList) (fun vs => k (oneOf vs)) nx' H' (D ++ L) = z → St ν ρ nx w fn.ntmps e' nx' H' D a' w' →
      a'.defers = [] ∧ ∃ v, (results fn a'.tmps).run C.P w' = .ok v w' ∧ next (a.put o.dst v) w' := by
    intro e' nx' H' D a' w' hk ⟨ρ1, k1, k2, k3, k4, k5⟩
    obtain ⟨xs, us, D2, h1, h2, h3, h4⟩ := resultsA_ok ok k3 hz k2 hk
    refine ⟨k2.defers, _, ?_, hn _ _ _ (D2 ++ D) ρ1 _ w' (by rw [List.append_assoc]; exact h1) k1 (oneOf_ok h2) k3 (k4.more fun x hx => List.mem_append_right _ hx)⟩
    have hm : (fn.results.mapM (resF a'.tmps)).run C.P w' = .ok ⟨us⟩ w' := by
      rw [Array.mapM_eq_mapM_toList]
      rw [map_eq_pure_bind]
      simp only [Sem.run_bind, h4, Result.andThen_ok, Sem.run_pure]
    rw [results_eq]
    simp only [Sem.run_bind, hm, Result.andThen_ok, Sem.run_pure]
  intro x e' nx' H' D a' w' hk hst
  cases x with
  | ext i => exact (hz _ hk.symm).elim
  | nrm => exact fin hk hst
  | ret => exact fin hk hst
def ExtOk (C : Cx) (ν : Vl) : Prop := ∀ {call : Nat → List AV → M AV} {f : Nat} {args : List AV} {m : M AV} {ρ : Nm} {nx : Nat} {H : T AB} {L : Log} {w : World} {k : AV → Nat → T AB → Log → Ans} {z : Ans} {vs : List Value} {o : Oper} {a : Act},
  CallOk C ν call → C.ext C.bd call f args = some m → HR ν ρ nx H w → Glob ρ → Yes z → VRs ν ρ args vs → m k nx H L = z → OpOk C ν ρ nx L w k z o a ((callFunc f ⟨vs⟩).run C.P w)
theorem callN_ok (ok : ν.Ok C.bd) (hpl : PlainOk C) (hfit : FitP C.P) (hdr : ∀ {call : Nat → List AV → M AV}, CallOk C ν call → DrawOk C ν call) (hx : ExtOk C ν) : ∀ m, CallOk C ν (callN C m) := by
  intro m
  induction m with
  | zero => intro ρ nx H L w k z f args vs o a hr hg hz hv h; exact (hz _ h.symm).elim
  | succ m ih =>
    intro ρ nx H L w k z f args vs o a hr hg hz hv h
    have h : callStep C (callN C m) f args k nx H L = z := h
    unfold callStep at h
    cases he : C.ext C.bd (callN C m) f args with
    | none => rw [he] at h; exact callText_ok ok hpl hfit ih (hdr ih) hr hg hz hv h
    | some q => rw [he] at h; exact hx ih he hr hg hz hv h
end
end Go.AM
namespace Go.AM
/-! # Soundness, part 25: what is done depends on the blocks that are touched, alone -/
def Cl (nx : Nat) (H : T AB) : Prop := ∀ b, nx ≤ b → H.get b = none
/-- a course of a computation -/
structure LocAt {α : Type} (m : M α) (nx : Nat) (H : T AB) (x : α) (nx' : Nat) (H' : T AB) (D : Log) : Prop where
  runs : ∀ k L, m k nx H L = k x nx' H' (D ++ L)
  le : nx ≤ nx'
  cl : Cl nx' H'
  keep : ∀ b, (b, true) ∉ D → H'.get b = H.get b
  had : ∀ b u, (b, u) ∈ D → b < nx → ∃ A, H.get b = some A
  low : ∀ b u, (b, u) ∈ D → b < nx'
  loc : ∀ H2, Cl nx H2 → (∀ b u, (b, u) ∈ D → b < nx → H2.get b = H.get b) →
    ∃ H2', (∀ k L, m k nx H2 L = k x nx' H2' (D ++ L)) ∧ (∀ b, (b, true) ∈ D → H2'.get b = H'.get b) ∧ (∀ b, (b, true) ∉ D → H2'.get b = H2.get b)
structure Loc {α : Type} (m : M α) : Prop where
  go : ∀ nx H, Cl nx H → (∃ s, ∀ k L, m k nx H L = .no s) ∨ ∃ x nx' H' D, LocAt m nx H x nx' H' D
namespace Loc
variable {α β : Type}
theorem ret {a : α} : Loc (M.ret a) := ⟨fun nx H hc => .inr ⟨a, nx, H, [], fun _ _ => rfl, Nat.le_refl _, hc, fun _ _ => rfl, fun _ _ h => by simp at h, fun _ _ h => by simp at h, fun H2 _ _ => ⟨H2, fun _ _ => rfl, fun _ h => by simp at h, fun _ _ => rfl⟩⟩⟩
theorem no {s : String} : Loc (M.no s : M α) := ⟨fun _ _ _ => .inl ⟨s, fun _ _ => rfl⟩⟩
theorem lift {s : String} {o : Option α} : Loc (M.lift s o) := by
  cases o with
  | none => exact ⟨fun _ _ _ => .inl ⟨s, fun _ _ => rfl⟩⟩
  | some a => exact ret
theorem rd {b : Nat} : Loc (M.rd b) := by
  refine ⟨fun nx H hc => ?_⟩
  cases hb : H.get b with
  | none => exact .inl ⟨_, fun k L => by unfold M.rd; rw [hb]⟩
  | some A =>
    have hlt : b < nx := by
      rcases Nat.lt_or_ge b nx with h | h
      · exact h
      · rw [hc b h] at hb; cases hb
    refine .inr ⟨A, nx, H, [(b, false)], fun k L => by unfold M.rd; rw [hb]; rfl, Nat.le_refl _, hc, fun _ _ => rfl, ?_, ?_, fun H2 hc2 hag => ⟨H2, fun k L => ?_, fun _ h => by simp at h, fun _ _ => rfl⟩⟩
    · intro c u h hlt; simp at h; rw [h.1]; exact ⟨A, hb⟩
    · intro c u h; simp at h; rw [h.1]; exact hlt
    · unfold M.rd; rw [hag b false (by simp) hlt, hb]; rfl
theorem wr {b : Nat} {X : Option AB} : Loc (M.wr b X) := by
  refine ⟨fun nx H hc => ?_⟩
  cases hb : H.get b with
  | none => exact .inl ⟨_, fun k L => by unfold M.wr; rw [hb]⟩
  | some A =>
    have hlt : b < nx := by
      rcases Nat.lt_or_ge b nx with h | h
      · exact h
      · rw [hc b h] at hb; cases hb
    refine .inr ⟨(), nx, H.put b X, [(b, true)], fun k L => by unfold M.wr; rw [hb]; rfl, Nat.le_refl _, ?_, ?_, ?_, ?_, fun H2 hc2 hag => ⟨H2.put b X, fun k L => ?_, ?_, ?_⟩⟩
    · intro c hle; rw [T.get_put, if_neg (by omega)]; exact hc c hle
    · intro c h; simp at h; rw [T.get_put, if_neg h]
    · intro c u h hlt; simp at h; rw [h.1]; exact ⟨A, hb⟩
    · intro c u h; simp at h; rw [h.1]; exact hlt
    · unfold M.wr; rw [hag b true (by simp) hlt, hb]; rfl
    · intro c h; simp at h; subst h; rw [T.get_put, T.get_put, if_pos rfl, if_pos rfl]
    · intro c h; simp at h; rw [T.get_put, if_neg h]
theorem nw {A : AB} : Loc (M.nw A) := by
  refine ⟨fun nx H hc => ?_⟩
  refine .inr ⟨nx, nx + 1, H.put nx (some A), [(nx, true)], fun k L => rfl, Nat.le_succ _, ?_, ?_, ?_, ?_, fun H2 hc2 hag => ⟨H2.put nx (some A), fun k L => rfl, ?_, ?_⟩⟩
  · intro c hle; rw [T.get_put, if_neg (by omega)]; exact hc c (by omega)
  · intro c h; simp at h; rw [T.get_put, if_neg h]
  · intro c u h hlt; simp at h; omega
  · intro c u h; simp at h; omega
  · intro c h; simp at h; subst h; rw [T.get_put, T.get_put, if_pos rfl, if_pos rfl]
  · intro c h; simp at h; rw [T.get_put, if_neg h]
theorem bind {m : M α} {f : α → M β} (hm : Loc m) (hf : ∀ x, Loc (f x)) : Loc (m.bind f) := by
  refine ⟨fun nx H hc => ?_⟩
  rcases hm.go nx H hc with ⟨s, h⟩ | ⟨x, nx1, H1, D1, h1⟩
  · exact .inl ⟨s, fun k L => h _ L⟩
  · rcases (hf x).go nx1 H1 h1.cl with ⟨s, h⟩ | ⟨y, nx2, H2, D2, h2⟩
    · exact .inl ⟨s, fun k L => by show m (fun a => f a k) nx H L = _; rw [h1.runs]; exact h k _⟩
    · refine .inr ⟨y, nx2, H2, D2 ++ D1, fun k L => ?_, Nat.le_trans h1.le h2.le, h2.cl, ?_, ?_, ?_, ?_⟩
      · show m (fun a => f a k) nx H L = _
        rw [h1.runs, h2.runs, List.append_assoc]
      · intro b hb
        rw [h2.keep b fun h => hb (List.mem_append_left _ h), h1.keep b fun h => hb (List.mem_append_right _ h)]
      · intro b u hb hlt
        rcases List.mem_append.1 hb with hb | hb
        · obtain ⟨A, hA⟩ := h2.had b u hb (Nat.lt_of_lt_of_le hlt h1.le)
          by_cases hw : (b, true) ∈ D1
          · exact h1.had b true hw hlt
          · rw [h1.keep b hw] at hA; exact ⟨A, hA⟩
        · exact h1.had b u hb hlt
      · intro b u hb
        rcases List.mem_append.1 hb with hb | hb
        · exact h2.low b u hb
        · exact Nat.lt_of_lt_of_le (h1.low b u hb) h2.le
      · intro G hG hag
        obtain ⟨G1, g1, g2, g3⟩ := h1.loc G hG fun b u hb => hag b u (List.mem_append_right _ hb)
        have hG1 : Cl nx1 G1 := by
          intro b hb
          by_cases hw : (b, true) ∈ D1
          · rw [g2 b hw]; exact h1.cl b hb
          · rw [g3 b hw]; exact hG b (Nat.le_trans h1.le hb)
        obtain ⟨G2, q1, q2, q3⟩ := h2.loc G1 hG1 fun b u hb hlt => by
          by_cases hw : (b, true) ∈ D1
          · exact g2 b hw
          · rw [g3 b hw, h1.keep b hw]
            rcases Nat.lt_or_ge b nx with h | h
            · exact hag b u (List.mem_append_left _ hb) h
            · rw [hG b h, hc b h]
        refine ⟨G2, fun k L => ?_, fun b hb => ?_, fun b hb => ?_⟩
        · show m (fun a => f a k) nx G L = _
          rw [g1, q1, List.append_assoc]
        · by_cases hw : (b, true) ∈ D2
          · exact q2 b hw
          · rcases List.mem_append.1 hb with hb | hb
            · exact (hw hb).elim
            · rw [q3 b hw, g2 b hb, h2.keep b hw]
        · rw [q3 b fun h => hb (List.mem_append_left _ h), g3 b fun h => hb (List.mem_append_right _ h)]
theorem bc {c : Bool} {x y : M α} (hx : Loc x) (hy : Loc y) : Loc (AM.bc c x y) := by
  cases c
  · exact hy
  · exact hx
end Loc
end Go.AM
namespace Go.AM
/-! # Soundness, part 26: every operation is local -/
section
variable {C : Cx}
theorem loc_load {t : TypeId} {b : Nat} {off : SI} : Loc (load C t b off) := by
  unfold load
  repeat' first
    | with_reducible exact Loc.no
    | with_reducible exact Loc.ret
    | with_reducible exact Loc.lift
    | with_reducible exact Loc.rd
    | with_reducible exact Loc.wr
    | with_reducible exact Loc.nw
    | with_reducible apply Loc.bind
    | with_reducible apply Loc.bc
    | intro _
    | split
theorem loc_store {t : TypeId} {b : Nat} {off : SI} {v : AV} : Loc (store C t b off v) := by
  unfold store
  repeat' first
    | with_reducible exact Loc.no
    | with_reducible exact Loc.ret
    | with_reducible exact Loc.lift
    | with_reducible exact Loc.rd
    | with_reducible exact Loc.wr
    | with_reducible exact Loc.nw
    | with_reducible apply Loc.bind
    | with_reducible apply Loc.bc
    | intro _
    | split
theorem loc_ptrEq {t : TypeId} {a b : Nat} {i j : SI} : Loc (ptrEq C t a i b j) := by
  unfold ptrEq
  repeat' first
    | with_reducible exact Loc.no
    | with_reducible exact Loc.ret
    | with_reducible exact Loc.lift
    | with_reducible exact Loc.rd
    | with_reducible exact Loc.wr
    | with_reducible exact Loc.nw
    | with_reducible apply Loc.bind
    | with_reducible apply Loc.bc
    | intro _
    | split
theorem loc_binOp2 {op : BinOp} {t : TypeId} {x y : AV} : Loc (binOp2 C op t x y) := by
  unfold binOp2
  repeat' first
    | with_reducible exact Loc.no
    | with_reducible exact Loc.ret
    | with_reducible exact Loc.lift
    | with_reducible exact Loc.rd
    | with_reducible exact Loc.wr
    | with_reducible exact Loc.nw
    | with_reducible exact loc_ptrEq
    | with_reducible apply Loc.bind
    | with_reducible apply Loc.bc
    | intro _
    | split
theorem loc_binOp {op : BinOp} {t : TypeId} {x y : AV} : Loc (binOp C op t x y) := by
  unfold binOp
  repeat' first
    | with_reducible exact Loc.no
    | with_reducible exact Loc.ret
    | with_reducible exact Loc.lift
    | with_reducible exact Loc.rd
    | with_reducible exact Loc.wr
    | with_reducible exact Loc.nw
    | with_reducible exact loc_binOp2
    | with_reducible apply Loc.bind
    | with_reducible apply Loc.bc
    | intro _
    | split
theorem loc_convInt {t : TypeId} {x : AV} : Loc (convInt C t x) := by
  unfold convInt
  repeat' first
    | with_reducible exact Loc.no
    | with_reducible exact Loc.ret
    | with_reducible exact Loc.lift
    | with_reducible exact Loc.rd
    | with_reducible exact Loc.wr
    | with_reducible exact Loc.nw
    | with_reducible apply Loc.bind
    | with_reducible apply Loc.bc
    | intro _
    | split
theorem loc_convStr {t : TypeId} {x : AV} : Loc (convStr C t x) := by
  unfold convStr
  repeat' first
    | with_reducible exact Loc.no
    | with_reducible exact Loc.ret
    | with_reducible exact Loc.lift
    | with_reducible exact Loc.rd
    | with_reducible exact Loc.wr
    | with_reducible exact Loc.nw
    | with_reducible apply Loc.bind
    | with_reducible apply Loc.bc
    | intro _
    | split
theorem loc_convSl {s t : TypeId} {x : AV} : Loc (convSl C s t x) := by
  unfold convSl
  repeat' first
    | with_reducible exact Loc.no
    | with_reducible exact Loc.ret
    | with_reducible exact Loc.lift
    | with_reducible exact Loc.rd
    | with_reducible exact Loc.wr
    | with_reducible exact Loc.nw
    | with_reducible apply Loc.bind
    | with_reducible apply Loc.bc
    | intro _
    | split
theorem loc_conv {s t : TypeId} {x : AV} : Loc (conv C s t x) := by
  unfold conv
  repeat' first
    | with_reducible exact Loc.no
    | with_reducible exact Loc.ret
    | with_reducible exact Loc.lift
    | with_reducible exact Loc.rd
    | with_reducible exact Loc.wr
    | with_reducible exact Loc.nw
    | with_reducible exact loc_convInt
    | with_reducible exact loc_convStr
    | with_reducible exact loc_convSl
    | with_reducible apply Loc.bind
    | with_reducible apply Loc.bc
    | intro _
    | split
theorem loc_sliceM {t : TypeId} {x : AV} {l h m : Option SI} : Loc (sliceM C t x l h m) := by
  unfold sliceM
  repeat' first
    | with_reducible exact Loc.no
    | with_reducible exact Loc.ret
    | with_reducible exact Loc.lift
    | with_reducible exact Loc.rd
    | with_reducible exact Loc.wr
    | with_reducible exact Loc.nw
    | with_reducible apply Loc.bind
    | with_reducible apply Loc.bc
    | intro _
    | split
theorem loc_srcCt {n : Nat} {b : Bool} {x : AV} : Loc (srcCt C n b x) := by
  unfold srcCt
  repeat' first
    | with_reducible exact Loc.no
    | with_reducible exact Loc.ret
    | with_reducible exact Loc.lift
    | with_reducible exact Loc.rd
    | with_reducible exact Loc.wr
    | with_reducible exact Loc.nw
    | with_reducible apply Loc.bind
    | with_reducible apply Loc.bc
    | intro _
    | split
theorem loc_appNew {n : SI} {c : Ct} {z : Nat} : Loc (appNew n c z) := by
  unfold appNew
  repeat' first
    | with_reducible exact Loc.no
    | with_reducible exact Loc.ret
    | with_reducible exact Loc.lift
    | with_reducible exact Loc.rd
    | with_reducible exact Loc.wr
    | with_reducible exact Loc.nw
    | with_reducible apply Loc.bind
    | with_reducible apply Loc.bc
    | intro _
    | split
theorem loc_appRoom {n b : Nat} {o l : SI} {cp : Cp} {nd : SI} {c : Ct} : Loc (appRoom C n b o l cp nd c) := by
  unfold appRoom
  repeat' first
    | with_reducible exact Loc.no
    | with_reducible exact Loc.ret
    | with_reducible exact Loc.lift
    | with_reducible exact Loc.rd
    | with_reducible exact Loc.wr
    | with_reducible exact Loc.nw
    | with_reducible apply Loc.bind
    | with_reducible apply Loc.bc
    | intro _
    | split
theorem loc_appGe {n b : Nat} {o nd : SI} {c : Ct} : Loc (appGe n b o nd c) := by
  unfold appGe
  repeat' first
    | with_reducible exact Loc.no
    | with_reducible exact Loc.ret
    | with_reducible exact Loc.lift
    | with_reducible exact Loc.rd
    | with_reducible exact Loc.wr
    | with_reducible exact Loc.nw
    | with_reducible exact loc_appNew
    | with_reducible apply Loc.bind
    | with_reducible apply Loc.bc
    | intro _
    | split
theorem loc_appGrow {t : TypeId} {n b : Nat} {o l : SI} {cp : Cp} {nd : SI} {c : Ct} {r : Option Bool} : Loc (appGrow C t n b o l cp nd c r) := by
  unfold appGrow
  repeat' first
    | with_reducible exact Loc.no
    | with_reducible exact Loc.ret
    | with_reducible exact Loc.lift
    | with_reducible exact Loc.rd
    | with_reducible exact Loc.wr
    | with_reducible exact Loc.nw
    | with_reducible exact loc_appNew
    | with_reducible exact loc_appGe
    | with_reducible apply Loc.bind
    | with_reducible apply Loc.bc
    | intro _
    | split
theorem loc_appNil {t : TypeId} {z : Nat} {n : SI} {c : Ct} : Loc (appNil C t z n c) := by
  unfold appNil
  repeat' first
    | with_reducible exact Loc.no
    | with_reducible exact Loc.ret
    | with_reducible exact Loc.lift
    | with_reducible exact Loc.rd
    | with_reducible exact Loc.wr
    | with_reducible exact Loc.nw
    | with_reducible exact loc_appNew
    | with_reducible apply Loc.bind
    | with_reducible apply Loc.bc
    | intro _
    | split
theorem loc_appSl {t : TypeId} {n b : Nat} {o l : SI} {cp : Cp} {nd : SI} {c : Ct} : Loc (appSl C t n b o l cp nd c) := by
  unfold appSl
  repeat' first
    | with_reducible exact Loc.no
    | with_reducible exact Loc.ret
    | with_reducible exact Loc.lift
    | with_reducible exact Loc.rd
    | with_reducible exact Loc.wr
    | with_reducible exact Loc.nw
    | with_reducible exact loc_appRoom
    | with_reducible exact loc_appGrow
    | with_reducible apply Loc.bind
    | with_reducible apply Loc.bc
    | intro _
    | split
theorem loc_append {t : TypeId} {s x : AV} : Loc (append C t s x) := by
  unfold append
  repeat' first
    | with_reducible exact Loc.no
    | with_reducible exact Loc.ret
    | with_reducible exact Loc.lift
    | with_reducible exact Loc.rd
    | with_reducible exact Loc.wr
    | with_reducible exact Loc.nw
    | with_reducible exact loc_srcCt
    | with_reducible exact loc_appNil
    | with_reducible exact loc_appSl
    | with_reducible apply Loc.bind
    | with_reducible apply Loc.bc
    | intro _
    | split
theorem loc_clear {t : TypeId} {x : AV} : Loc (clearOp C t x) := by
  unfold clearOp
  repeat' first
    | with_reducible exact Loc.no
    | with_reducible exact Loc.ret
    | with_reducible exact Loc.lift
    | with_reducible exact Loc.rd
    | with_reducible exact Loc.wr
    | with_reducible exact Loc.nw
    | with_reducible apply Loc.bind
    | with_reducible apply Loc.bc
    | intro _
    | split
theorem loc_builtin {b : Builtin} {ts : List TypeId} {l : List AV} : Loc (builtin C b ts l) := by
  unfold builtin
  repeat' first
    | with_reducible exact Loc.no
    | with_reducible exact Loc.ret
    | with_reducible exact Loc.lift
    | with_reducible exact Loc.rd
    | with_reducible exact Loc.wr
    | with_reducible exact Loc.nw
    | with_reducible exact loc_append
    | with_reducible exact loc_clear
    | with_reducible apply Loc.bind
    | with_reducible apply Loc.bc
    | intro _
    | split
theorem loc_lookup {t : TypeId} {x k : AV} {o : Bool} : Loc (lookup C t x k o) := by
  unfold lookup
  repeat' first
    | with_reducible exact Loc.no
    | with_reducible exact Loc.ret
    | with_reducible exact Loc.lift
    | with_reducible exact Loc.rd
    | with_reducible exact Loc.wr
    | with_reducible exact Loc.nw
    | with_reducible apply Loc.bind
    | with_reducible apply Loc.bc
    | intro _
    | split
theorem loc_mapUpdate {t : TypeId} {x k v : AV} : Loc (mapUpdate C t x k v) := by
  unfold mapUpdate
  repeat' first
    | with_reducible exact Loc.no
    | with_reducible exact Loc.ret
    | with_reducible exact Loc.lift
    | with_reducible exact Loc.rd
    | with_reducible exact Loc.wr
    | with_reducible exact Loc.nw
    | with_reducible apply Loc.bind
    | with_reducible apply Loc.bc
    | intro _
    | split
theorem loc_makeB {e : TypeId} {l c : SI} : Loc (makeB C e l c) := by
  unfold makeB
  repeat' first
    | with_reducible exact Loc.no
    | with_reducible exact Loc.ret
    | with_reducible exact Loc.lift
    | with_reducible exact Loc.rd
    | with_reducible exact Loc.wr
    | with_reducible exact Loc.nw
    | with_reducible apply Loc.bind
    | with_reducible apply Loc.bc
    | intro _
    | split
theorem loc_makeR {e : TypeId} {s : Nat} {l c : SI} : Loc (makeR C e s l c) := by
  unfold makeR
  repeat' first
    | with_reducible exact Loc.no
    | with_reducible exact Loc.ret
    | with_reducible exact Loc.lift
    | with_reducible exact Loc.rd
    | with_reducible exact Loc.wr
    | with_reducible exact Loc.nw
    | with_reducible apply Loc.bind
    | with_reducible apply Loc.bc
    | intro _
    | split
theorem loc_makeSlice {t : TypeId} {l c : AV} : Loc (makeSlice C t l c) := by
  unfold makeSlice
  repeat' first
    | with_reducible exact Loc.no
    | with_reducible exact Loc.ret
    | with_reducible exact Loc.lift
    | with_reducible exact Loc.rd
    | with_reducible exact Loc.wr
    | with_reducible exact Loc.nw
    | with_reducible exact loc_makeB
    | with_reducible exact loc_makeR
    | with_reducible apply Loc.bind
    | with_reducible apply Loc.bc
    | intro _
    | split
theorem loc_arg {e : T AV} {x : Operand} : Loc (arg e x) := Loc.lift
theorem loc_opPick {e : T AV} {c a b : Operand} : Loc (opPick e c a b) := by
  unfold opPick
  repeat' first
    | with_reducible exact Loc.no
    | with_reducible exact Loc.ret
    | with_reducible exact Loc.lift
    | with_reducible exact Loc.rd
    | with_reducible exact Loc.wr
    | with_reducible exact Loc.nw
    | with_reducible exact loc_arg
    | with_reducible apply Loc.bind
    | with_reducible apply Loc.bc
    | intro _
    | split
theorem loc_opAlloc {t : TypeId} : Loc (opAlloc C t) := by
  unfold opAlloc
  repeat' first
    | with_reducible exact Loc.no
    | with_reducible exact Loc.ret
    | with_reducible exact Loc.lift
    | with_reducible exact Loc.rd
    | with_reducible exact Loc.wr
    | with_reducible exact Loc.nw
    | with_reducible exact loc_arg
    | with_reducible apply Loc.bind
    | with_reducible apply Loc.bc
    | intro _
    | split
theorem loc_opBox {e : T AV} {x : Operand} : Loc (opBox e x) := by
  unfold opBox
  repeat' first
    | with_reducible exact Loc.no
    | with_reducible exact Loc.ret
    | with_reducible exact Loc.lift
    | with_reducible exact Loc.rd
    | with_reducible exact Loc.wr
    | with_reducible exact Loc.nw
    | with_reducible exact loc_arg
    | with_reducible apply Loc.bind
    | with_reducible apply Loc.bc
    | intro _
    | split
theorem loc_opBuild {e : T AV} {t : TypeId} {ps : List (Nat × Operand)} : Loc (opBuild C e t ps) := by
  unfold opBuild
  repeat' first
    | with_reducible exact Loc.no
    | with_reducible exact Loc.ret
    | with_reducible exact Loc.lift
    | with_reducible exact Loc.rd
    | with_reducible exact Loc.wr
    | with_reducible exact Loc.nw
    | with_reducible exact loc_arg
    | with_reducible apply Loc.bind
    | with_reducible apply Loc.bc
    | intro _
    | split
theorem loc_opBuildSlice {e : T AV} {t : TypeId} {n : Nat} {ps : List (Nat × Operand)} : Loc (opBuildSlice C e t n ps) := by
  unfold opBuildSlice
  repeat' first
    | with_reducible exact Loc.no
    | with_reducible exact Loc.ret
    | with_reducible exact Loc.lift
    | with_reducible exact Loc.rd
    | with_reducible exact Loc.wr
    | with_reducible exact Loc.nw
    | with_reducible exact loc_arg
    | with_reducible apply Loc.bind
    | with_reducible apply Loc.bc
    | intro _
    | split
theorem loc_opLoad {e : T AV} {t : TypeId} {x : Operand} : Loc (opLoad C e t x) := by
  unfold opLoad
  repeat' first
    | with_reducible exact Loc.no
    | with_reducible exact Loc.ret
    | with_reducible exact Loc.lift
    | with_reducible exact Loc.rd
    | with_reducible exact Loc.wr
    | with_reducible exact Loc.nw
    | with_reducible exact loc_arg
    | with_reducible exact loc_load
    | with_reducible apply Loc.bind
    | with_reducible apply Loc.bc
    | intro _
    | split
theorem loc_opStore {e : T AV} {t : TypeId} {x y : Operand} : Loc (opStore C e t x y) := by
  unfold opStore
  repeat' first
    | with_reducible exact Loc.no
    | with_reducible exact Loc.ret
    | with_reducible exact Loc.lift
    | with_reducible exact Loc.rd
    | with_reducible exact Loc.wr
    | with_reducible exact Loc.nw
    | with_reducible exact loc_arg
    | with_reducible exact loc_store
    | with_reducible apply Loc.bind
    | with_reducible apply Loc.bc
    | intro _
    | split
theorem loc_opNil {e : T AV} {x : Operand} : Loc (opNil e x) := by
  unfold opNil
  repeat' first
    | with_reducible exact Loc.no
    | with_reducible exact Loc.ret
    | with_reducible exact Loc.lift
    | with_reducible exact Loc.rd
    | with_reducible exact Loc.wr
    | with_reducible exact Loc.nw
    | with_reducible exact loc_arg
    | with_reducible apply Loc.bind
    | with_reducible apply Loc.bc
    | intro _
    | split
theorem loc_opBin {e : T AV} {op : BinOp} {t : TypeId} {x y : Operand} : Loc (opBin C e op t x y) := by
  unfold opBin
  repeat' first
    | with_reducible exact Loc.no
    | with_reducible exact Loc.ret
    | with_reducible exact Loc.lift
    | with_reducible exact Loc.rd
    | with_reducible exact Loc.wr
    | with_reducible exact Loc.nw
    | with_reducible exact loc_arg
    | with_reducible exact loc_binOp
    | with_reducible apply Loc.bind
    | with_reducible apply Loc.bc
    | intro _
    | split
theorem loc_opUn {e : T AV} {op : UnOp} {x : Operand} : Loc (opUn C e op x) := by
  unfold opUn
  repeat' first
    | with_reducible exact Loc.no
    | with_reducible exact Loc.ret
    | with_reducible exact Loc.lift
    | with_reducible exact Loc.rd
    | with_reducible exact Loc.wr
    | with_reducible exact Loc.nw
    | with_reducible exact loc_arg
    | with_reducible apply Loc.bind
    | with_reducible apply Loc.bc
    | intro _
    | split
theorem loc_opConv {e : T AV} {s t : TypeId} {x : Operand} : Loc (opConv C e s t x) := by
  unfold opConv
  repeat' first
    | with_reducible exact Loc.no
    | with_reducible exact Loc.ret
    | with_reducible exact Loc.lift
    | with_reducible exact Loc.rd
    | with_reducible exact Loc.wr
    | with_reducible exact Loc.nw
    | with_reducible exact loc_arg
    | with_reducible exact loc_conv
    | with_reducible apply Loc.bind
    | with_reducible apply Loc.bc
    | intro _
    | split
theorem loc_opFunc {e : T AV} {f : Fn} {a b : List Operand} : Loc (opFunc e f a b) := by
  unfold opFunc
  repeat' first
    | with_reducible exact Loc.no
    | with_reducible exact Loc.ret
    | with_reducible exact Loc.lift
    | with_reducible exact Loc.rd
    | with_reducible exact Loc.wr
    | with_reducible exact Loc.nw
    | with_reducible exact loc_arg
    | with_reducible apply Loc.bind
    | with_reducible apply Loc.bc
    | intro _
    | split
theorem loc_opMap {r : Option Operand} : Loc (opMap r) := by
  unfold opMap
  repeat' first
    | with_reducible exact Loc.no
    | with_reducible exact Loc.ret
    | with_reducible exact Loc.lift
    | with_reducible exact Loc.rd
    | with_reducible exact Loc.wr
    | with_reducible exact Loc.nw
    | with_reducible exact loc_arg
    | with_reducible apply Loc.bind
    | with_reducible apply Loc.bc
    | intro _
    | split
theorem loc_opMake {e : T AV} {t : TypeId} {x y : Operand} : Loc (opMake C e t x y) := by
  unfold opMake
  repeat' first
    | with_reducible exact Loc.no
    | with_reducible exact Loc.ret
    | with_reducible exact Loc.lift
    | with_reducible exact Loc.rd
    | with_reducible exact Loc.wr
    | with_reducible exact Loc.nw
    | with_reducible exact loc_arg
    | with_reducible exact loc_makeSlice
    | with_reducible apply Loc.bind
    | with_reducible apply Loc.bc
    | intro _
    | split
theorem loc_opSlice {e : T AV} {t : TypeId} {x : Operand} {l h m : Option Operand} : Loc (opSlice C e t x l h m) := by
  unfold opSlice
  repeat' first
    | with_reducible exact Loc.no
    | with_reducible exact Loc.ret
    | with_reducible exact Loc.lift
    | with_reducible exact Loc.rd
    | with_reducible exact Loc.wr
    | with_reducible exact Loc.nw
    | with_reducible exact loc_arg
    | with_reducible exact loc_sliceM
    | with_reducible apply Loc.bind
    | with_reducible apply Loc.bc
    | intro _
    | split
theorem loc_opFieldAddr {e : T AV} {t : TypeId} {x : Operand} {f : Nat} : Loc (opFieldAddr C e t x f) := by
  unfold opFieldAddr
  repeat' first
    | with_reducible exact Loc.no
    | with_reducible exact Loc.ret
    | with_reducible exact Loc.lift
    | with_reducible exact Loc.rd
    | with_reducible exact Loc.wr
    | with_reducible exact Loc.nw
    | with_reducible exact loc_arg
    | with_reducible apply Loc.bind
    | with_reducible apply Loc.bc
    | intro _
    | split
theorem loc_opField {e : T AV} {t : TypeId} {x : Operand} {f : Nat} : Loc (opField C e t x f) := by
  unfold opField
  repeat' first
    | with_reducible exact Loc.no
    | with_reducible exact Loc.ret
    | with_reducible exact Loc.lift
    | with_reducible exact Loc.rd
    | with_reducible exact Loc.wr
    | with_reducible exact Loc.nw
    | with_reducible exact loc_arg
    | with_reducible apply Loc.bind
    | with_reducible apply Loc.bc
    | intro _
    | split
theorem loc_opIndexAddr {e : T AV} {t : TypeId} {x y : Operand} : Loc (opIndexAddr C e t x y) := by
  unfold opIndexAddr
  repeat' first
    | with_reducible exact Loc.no
    | with_reducible exact Loc.ret
    | with_reducible exact Loc.lift
    | with_reducible exact Loc.rd
    | with_reducible exact Loc.wr
    | with_reducible exact Loc.nw
    | with_reducible exact loc_arg
    | with_reducible apply Loc.bind
    | with_reducible apply Loc.bc
    | intro _
    | split
theorem loc_opIndex {e : T AV} {t : TypeId} {x y : Operand} : Loc (opIndex C e t x y) := by
  unfold opIndex
  repeat' first
    | with_reducible exact Loc.no
    | with_reducible exact Loc.ret
    | with_reducible exact Loc.lift
    | with_reducible exact Loc.rd
    | with_reducible exact Loc.wr
    | with_reducible exact Loc.nw
    | with_reducible exact loc_arg
    | with_reducible apply Loc.bind
    | with_reducible apply Loc.bc
    | intro _
    | split
theorem loc_opLookup {e : T AV} {t : TypeId} {x y : Operand} {o : Bool} : Loc (opLookup C e t x y o) := by
  unfold opLookup
  repeat' first
    | with_reducible exact Loc.no
    | with_reducible exact Loc.ret
    | with_reducible exact Loc.lift
    | with_reducible exact Loc.rd
    | with_reducible exact Loc.wr
    | with_reducible exact Loc.nw
    | with_reducible exact loc_arg
    | with_reducible exact loc_lookup
    | with_reducible apply Loc.bind
    | with_reducible apply Loc.bc
    | intro _
    | split
theorem loc_opMapUpdate {e : T AV} {t : TypeId} {x y u : Operand} : Loc (opMapUpdate C e t x y u) := by
  unfold opMapUpdate
  repeat' first
    | with_reducible exact Loc.no
    | with_reducible exact Loc.ret
    | with_reducible exact Loc.lift
    | with_reducible exact Loc.rd
    | with_reducible exact Loc.wr
    | with_reducible exact Loc.nw
    | with_reducible exact loc_arg
    | with_reducible exact loc_mapUpdate
    | with_reducible apply Loc.bind
    | with_reducible apply Loc.bc
    | intro _
    | split
theorem loc_opExtract {e : T AV} {x : Operand} {i : Nat} : Loc (opExtract e x i) := by
  unfold opExtract
  repeat' first
    | with_reducible exact Loc.no
    | with_reducible exact Loc.ret
    | with_reducible exact Loc.lift
    | with_reducible exact Loc.rd
    | with_reducible exact Loc.wr
    | with_reducible exact Loc.nw
    | with_reducible exact loc_arg
    | with_reducible apply Loc.bind
    | with_reducible apply Loc.bc
    | intro _
    | split
def LocC (call : Nat → List AV → M AV) : Prop := ∀ f l, Loc (call f l)
theorem loc_opCall {call : Nat → List AV → M AV} (hc : LocC call) {e : T AV} {c : Call} : Loc (opCall C call e c) := by
  unfold opCall
  repeat' first
    | with_reducible exact Loc.no
    | with_reducible exact Loc.ret
    | with_reducible exact Loc.lift
    | with_reducible exact Loc.rd
    | with_reducible exact Loc.wr
    | with_reducible exact Loc.nw
    | with_reducible exact loc_arg
    | with_reducible exact loc_builtin
    | exact hc _ _
    | with_reducible apply Loc.bind
    | with_reducible apply Loc.bc
    | intro _
    | split
theorem loc_execOp {call : Nat → List AV → M AV} (hc : LocC call) {e : T AV} {o : Op} : Loc (execOp C call e o) := by
  cases o
  case call c => exact loc_opCall hc
  case move => exact loc_arg
  case assign => exact loc_arg
  case pick => exact loc_opPick
  case alloc => exact loc_opAlloc
  case box => exact loc_opBox
  case build => exact loc_opBuild
  case buildSlice => exact loc_opBuildSlice
  case load => exact loc_opLoad
  case store => exact loc_opStore
  case nilCheck => exact loc_opNil
  case binOp => exact loc_opBin
  case unOp => exact loc_opUn
  case convert => exact loc_opConv
  case makeFunc => exact loc_opFunc
  case makeMap => exact loc_opMap
  case makeSlice => exact loc_opMake
  case slice => exact loc_opSlice
  case fieldAddr => exact loc_opFieldAddr
  case field => exact loc_opField
  case indexAddr => exact loc_opIndexAddr
  case index => exact loc_opIndex
  case lookup => exact loc_opLookup
  case mapUpdate => exact loc_opMapUpdate
  case extract => exact loc_opExtract
  all_goals exact Loc.no
end
end Go.AM
namespace Go.AM
/-! # Soundness, part 27: code and functions are local -/
namespace Loc
variable {α β : Type}
/-- a computation whose log is handed on -/
theorem logged {m : M α} {f : α → Log → M β} (hm : Loc m) (hf : ∀ x l, Loc (f x l)) : Loc (fun k nx H L => m (fun x nx H l => f x l k nx H (l ++ L)) nx H [] : M β) := by
  refine ⟨fun nx H hc => ?_⟩
  rcases hm.go nx H hc with ⟨s, h⟩ | ⟨x, nx1, H1, D1, h1⟩
  · exact .inl ⟨s, fun k L => h _ _⟩
  · have e : ∀ L, (D1 ++ [] : Log) ++ L = D1 ++ L := fun L => by rw [List.append_nil]
    rcases (hf x (D1 ++ [])).go nx1 H1 h1.cl with ⟨s, h⟩ | ⟨y, nx2, H2, D2, h2⟩
    · refine .inl ⟨s, fun k L => ?_⟩
      show m (fun x nx H l => f x l k nx H (l ++ L)) nx H [] = _
      rw [h1.runs]; exact h k _
    · refine .inr ⟨y, nx2, H2, D2 ++ D1, fun k L => ?_, Nat.le_trans h1.le h2.le, h2.cl, ?_, ?_, ?_, ?_⟩
      · show m (fun x nx H l => f x l k nx H (l ++ L)) nx H [] = _
        rw [h1.runs, h2.runs, e, List.append_assoc]
      · intro b hb
        rw [h2.keep b fun h => hb (List.mem_append_left _ h), h1.keep b fun h => hb (List.mem_append_right _ h)]
      · intro b u hb hlt
        rcases List.mem_append.1 hb with hb | hb
        · obtain ⟨A, hA⟩ := h2.had b u hb (Nat.lt_of_lt_of_le hlt h1.le)
          by_cases hw : (b, true) ∈ D1
          · exact h1.had b true hw hlt
          · rw [h1.keep b hw] at hA; exact ⟨A, hA⟩
        · exact h1.had b u hb hlt
      · intro b u hb
        rcases List.mem_append.1 hb with hb | hb
        · exact h2.low b u hb
        · exact Nat.lt_of_lt_of_le (h1.low b u hb) h2.le
      · intro G hG hag
        obtain ⟨G1, g1, g2, g3⟩ := h1.loc G hG fun b u hb => hag b u (List.mem_append_right _ hb)
        have hG1 : Cl nx1 G1 := by
          intro b hb
          by_cases hw : (b, true) ∈ D1
          · rw [g2 b hw]; exact h1.cl b hb
          · rw [g3 b hw]; exact hG b (Nat.le_trans h1.le hb)
        obtain ⟨G2, q1, q2, q3⟩ := h2.loc G1 hG1 fun b u hb hlt => by
          by_cases hw : (b, true) ∈ D1
          · exact g2 b hw
          · rw [g3 b hw, h1.keep b hw]
            rcases Nat.lt_or_ge b nx with h | h
            · exact hag b u (List.mem_append_left _ hb) h
            · rw [hG b h, hc b h]
        refine ⟨G2, fun k L => ?_, fun b hb => ?_, fun b hb => ?_⟩
        · show m (fun x nx H l => f x l k nx H (l ++ L)) nx G [] = _
          rw [g1, q1, e, List.append_assoc]
        · by_cases hw : (b, true) ∈ D2
          · exact q2 b hw
          · rcases List.mem_append.1 hb with hb | hb
            · exact (hw hb).elim
            · rw [q3 b hw, g2 b hb, h2.keep b hw]
        · rw [q3 b fun h => hb (List.mem_append_left _ h), g3 b fun h => hb (List.mem_append_right _ h)]
end Loc
section
variable {C : Cx} {call : Nat → List AV → M AV}
theorem loc_wanted {α : Type} {all : List Oper} {e : T AV} {g : Option (Nat × Bool)} {y n : M α} (hy : Loc y) (hn : Loc n) : Loc (wantedA all e g y n) := by
  cases g with
  | none => exact hy
  | some g => exact Loc.bind (m := M.lift "guard" (yieldA all e g)) Loc.lift fun w => Loc.bc hy hn
theorem loc_execOps (hc : LocC call) {all : List Oper} : ∀ {l : List Oper} {e : T AV}, Loc (execOps C call all l e) := by
  intro l
  induction l with
  | nil => intro e; exact Loc.ret
  | cons o l ih => intro e; exact loc_wanted (Loc.bind (loc_execOp hc) fun x => ih) ih
theorem loc_execOpsL (hc : LocC call) {all : List Oper} : ∀ {l : List Oper} {e : T AV} {ls : List Log}, Loc (execOpsL C call all l e ls) := by
  intro l
  induction l with
  | nil => intro e ls; exact Loc.ret
  | cons o l ih => intro e ls; exact loc_wanted (Loc.logged (f := fun x l1 => execOpsL C call all l (putDst e o.dst x) (l1 :: ls)) (loc_execOp hc) fun x l1 => ih) ih
theorem loc_exRegion (hc : LocC call) {ops : List Oper} {d : Bool} {e : T AV} : Loc (exRegion C call ops d e) :=
  Loc.bc (Loc.bind (loc_execOpsL hc) fun r => Loc.bc Loc.ret Loc.no) (Loc.bind (loc_execOps hc) fun e => Loc.ret)
theorem loc_exec (hc : LocC call) : ∀ (m : Nat) {c : Code} {e : T AV}, Loc (exec C call m c e) := by
  intro m
  induction m with
  | zero => intro c e; exact Loc.no
  | succ m ih =>
    intro c e
    show Loc (exStep C call (exec C call m) c e)
    cases c with
    | skip => exact Loc.ret
    | label l => exact Loc.ret
    | exit id => exact Loc.ret
    | ret => exact Loc.ret
    | rangeFunc f ps x y => exact Loc.no
    | scope c => exact Loc.no
    | goto l => exact Loc.no
    | refuse s => exact Loc.no
    | region id ops d => exact loc_exRegion hc
    | cond c x y =>
      refine Loc.bind (m := arg e c) loc_arg fun v => ?_
      cases v <;> first | exact Loc.bc ih ih | exact Loc.no
    | seq x y =>
      refine Loc.bind (m := exec C call m x e) ih fun r => ?_
      obtain ⟨t, e'⟩ := r
      cases t with
      | nrm => exact ih
      | ext i => exact Loc.ret
      | ret => exact Loc.ret
    | block id c =>
      refine Loc.bind (m := exec C call m c e) ih fun r => ?_
      obtain ⟨t, e'⟩ := r
      cases t with
      | nrm => exact Loc.ret
      | ext i => exact Loc.bc Loc.ret Loc.ret
      | ret => exact Loc.ret
    | loop c =>
      refine Loc.bind (m := exec C call m c e) ih fun r => ?_
      obtain ⟨t, e'⟩ := r
      cases t with
      | nrm => exact ih
      | ext i => exact Loc.ret
      | ret => exact Loc.ret
theorem loc_results {e : T AV} : ∀ {l : List ResultVar}, Loc (resultsA C e l) := by
  intro l
  induction l with
  | nil => exact Loc.ret
  | cons r l ih =>
    cases r with
    | tmp t => exact Loc.bind (m := M.lift "result" (e.get t)) Loc.lift fun v => Loc.bind ih fun vs => Loc.ret
    | cell y t =>
      refine Loc.bind (m := M.lift "result cell" (e.get y)) Loc.lift fun p => ?_
      refine Loc.bind ?_ fun v => Loc.bind ih fun vs => Loc.ret
      cases p <;> first | exact loc_load | exact Loc.no
theorem loc_callText (hc : LocC call) {f : Nat} {args : List AV} : Loc (callText C call f args) := by
  refine Loc.bind (m := M.lift "no such function" (funcBody C f)) Loc.lift fun fb => Loc.bind (loc_exec hc 1000000) fun r => ?_
  obtain ⟨t, e'⟩ := r
  cases t with
  | nrm => exact Loc.bind loc_results fun vs => Loc.ret
  | ext i => exact Loc.no
  | ret => exact Loc.bind loc_results fun vs => Loc.ret
/-- what is answered in the place of a text is local -/
def LocX (C : Cx) : Prop := ∀ {call : Nat → List AV → M AV} {f : Nat} {args : List AV} {m : M AV}, LocC call → C.ext C.bd call f args = some m → Loc m
theorem loc_callN (hx : LocX C) : ∀ m, LocC (callN C m) := by
  intro m
  induction m with
  | zero => intro f args; exact Loc.no
  | succ m ih =>
    intro f args
    show Loc (callStep C (callN C m) f args)
    unfold callStep
    cases h : C.ext C.bd (callN C m) f args with
    | none => exact loc_callText ih
    | some q => exact hx ih h
end
end Go.AM
namespace Go.AM
/-! # Soundness, part 28: an operation looks at its operands, alone -/
section
variable {C : Cx} {call : Nat → List AV → M AV} {e e' : T AV}
theorem opnds_congr : ∀ {l : List Operand}, (∀ x ∈ l, opnd e x = opnd e' x) → opnds e l = opnds e' l := by
  intro l
  induction l with
  | nil => intro _; rfl
  | cons o l ih =>
    intro h
    show ob (opnd e o) (fun a => ob (opnds e l) fun l => some (a :: l)) = ob (opnd e' o) (fun a => ob (opnds e' l) fun l => some (a :: l))
    rw [h o (List.mem_cons_self ..), ih fun x hx => h x (List.mem_cons_of_mem _ hx)]
theorem parts_congr : ∀ {l : List (Nat × Operand)}, (∀ x ∈ l, opnd e x.2 = opnd e' x.2) → parts e l = parts e' l := by
  intro l
  induction l with
  | nil => intro _; rfl
  | cons o l ih =>
    intro h
    show ob (opnd e o.2) (fun a => ob (parts e l) fun l => some ((o.1, a) :: l)) = ob (opnd e' o.2) (fun a => ob (parts e' l) fun l => some ((o.1, a) :: l))
    rw [h o (List.mem_cons_self ..), ih fun x hx => h x (List.mem_cons_of_mem _ hx)]
theorem opndo_congr {o : Option Operand} (h : ∀ x ∈ o.toList, opnd e x = opnd e' x) : opndo e o = opndo e' o := by
  cases o with
  | none => rfl
  | some o =>
    show ob (opnd e o) (fun a => some (some a)) = ob (opnd e' o) (fun a => some (some a))
    rw [h o (by simp)]
theorem execOp_congr {o : Op} (h : ∀ x ∈ o.operands.toList, opnd e x = opnd e' x) : execOp C call e o = execOp C call e' o := by
  cases o
  case move x => show arg e x = arg e' x; unfold arg; rw [h x (by simp [Op.operands])]
  case assign x => show arg e x = arg e' x; unfold arg; rw [h x (by simp [Op.operands])]
  case pick c a b => show opPick e c a b = opPick e' c a b; unfold opPick arg; rw [h c (by simp [Op.operands]), h a (by simp [Op.operands]), h b (by simp [Op.operands])]
  case box t x => show opBox e x = opBox e' x; unfold opBox; rw [h x (by simp [Op.operands])]
  case build t ps => show opBuild C e t ps.toList = opBuild C e' t ps.toList; unfold opBuild; rw [parts_congr fun x hx => h x.2 (by simp only [Op.operands]; exact List.mem_map_of_mem hx)]
  case buildSlice t n ps => show opBuildSlice C e t n ps.toList = opBuildSlice C e' t n ps.toList; unfold opBuildSlice; rw [parts_congr fun x hx => h x.2 (by simp only [Op.operands]; exact List.mem_map_of_mem hx)]
  case load t x => show opLoad C e t x = opLoad C e' t x; unfold opLoad arg; rw [h x (by simp [Op.operands])]
  case store t x y => show opStore C e t x y = opStore C e' t x y; unfold opStore arg; rw [h x (by simp [Op.operands]), h y (by simp [Op.operands])]
  case nilCheck x => show opNil e x = opNil e' x; unfold opNil arg; rw [h x (by simp [Op.operands])]
  case binOp op t x y r => show opBin C e op t x y = opBin C e' op t x y; unfold opBin arg; rw [h x (by simp [Op.operands]), h y (by simp [Op.operands])]
  case unOp op t x => show opUn C e op x = opUn C e' op x; unfold opUn arg; rw [h x (by simp [Op.operands])]
  case convert s t x => show opConv C e s t x = opConv C e' s t x; unfold opConv arg; rw [h x (by simp [Op.operands])]
  case makeFunc f a b =>
    show opFunc e f a.toList b.toList = opFunc e' f a.toList b.toList
    have ha : opnds e a.toList = opnds e' a.toList := opnds_congr fun x hx => h x (by simp only [Op.operands, Array.toList_append]; exact List.mem_append_left _ hx)
    have hb : opnds e b.toList = opnds e' b.toList := opnds_congr fun x hx => h x (by simp only [Op.operands, Array.toList_append]; exact List.mem_append_right _ hx)
    unfold opFunc; rw [ha, hb]
  case makeSlice t x y => show opMake C e t x y = opMake C e' t x y; unfold opMake arg; rw [h x (by simp [Op.operands]), h y (by simp [Op.operands])]
  case slice t x l hh m =>
    show opSlice C e t x l hh m = opSlice C e' t x l hh m
    have h1 : opndo e l = opndo e' l := opndo_congr fun y hy => h y (by simp only [Op.operands, Array.toList_append]; simp at hy ⊢; simp [hy])
    have h2 : opndo e hh = opndo e' hh := opndo_congr fun y hy => h y (by simp only [Op.operands, Array.toList_append]; simp at hy ⊢; simp [hy])
    have h3 : opndo e m = opndo e' m := opndo_congr fun y hy => h y (by simp only [Op.operands, Array.toList_append]; simp at hy ⊢; simp [hy])
    unfold opSlice arg; rw [h x (by simp [Op.operands]), h1, h2, h3]
  case fieldAddr s x f => show opFieldAddr C e s x f = opFieldAddr C e' s x f; unfold opFieldAddr arg; rw [h x (by simp [Op.operands])]
  case field s x f => show opField C e s x f = opField C e' s x f; unfold opField arg; rw [h x (by simp [Op.operands])]
  case indexAddr t x y => show opIndexAddr C e t x y = opIndexAddr C e' t x y; unfold opIndexAddr arg; rw [h x (by simp [Op.operands]), h y (by simp [Op.operands])]
  case index t x y => show opIndex C e t x y = opIndex C e' t x y; unfold opIndex arg; rw [h x (by simp [Op.operands]), h y (by simp [Op.operands])]
  case lookup t x y c => show opLookup C e t x y c = opLookup C e' t x y c; unfold opLookup arg; rw [h x (by simp [Op.operands]), h y (by simp [Op.operands])]
  case mapUpdate t m x y => show opMapUpdate C e t m x y = opMapUpdate C e' t m x y; unfold opMapUpdate arg; rw [h m (by simp [Op.operands]), h x (by simp [Op.operands]), h y (by simp [Op.operands])]
  case extract x i => show opExtract e x i = opExtract e' x i; unfold opExtract arg; rw [h x (by simp [Op.operands])]
  case call c =>
    show opCall C call e c = opCall C call e' c
    have ha : opnds e c.args.toList = opnds e' c.args.toList := opnds_congr fun x hx => h x (by simp only [Op.operands, Call.operands, Array.toList_append]; exact List.mem_append_right _ hx)
    unfold opCall
    rw [ha]
    cases hcal : c.callee with
    | builtin b => rfl
    | invoke r m => rfl
    | value f =>
      have hf : arg e f = arg e' f := by unfold arg; rw [h f (by simp [Op.operands, Call.operands, hcal])]
      simp only [hf]
  all_goals rfl
end
end Go.AM
namespace Go.AM
/-! # Soundness, part 29: a drawn region's run in the text's order, laid out -/
def WantA (all : List Oper) (e : T AV) (g : Option (Nat × Bool)) (b : Bool) : Prop := match g with
  | none => b = true
  | some g => yieldA all e g = some b
/-- one operation of the run -/
structure StepR (C : Cx) (call : Nat → List AV → M AV) (all : List Oper) (o : Oper) (e : T AV) (nx : Nat) (H : T AB) (x : AV) (e' : T AV) (nx' : Nat) (H' : T AB) (D : Log) : Prop where
  put : e' = putDst e o.dst x
  did : (WantA all e o.guard true ∧ LocAt (execOp C call e o.op) nx H x nx' H' D) ∨ (WantA all e o.guard false ∧ x = .tup [] ∧ nx' = nx ∧ H' = H ∧ D = [])
/-- a sequence with a new head -/
def consF {α : Type} (a : α) (f : Nat → α) : Nat → α
  | 0 => a
  | i+1 => f i
section
variable {C : Cx} {call : Nat → List AV → M AV} {z : Ans}
theorem want_of {α : Type} {all : List Oper} {e : T AV} {g : Option (Nat × Bool)} {y n : M α} {k : α → Nat → T AB → Log → Ans} {nx : Nat} {H : T AB} {L : Log} (hz : Yes z) (h : wantedA all e g y n k nx H L = z) :
    (WantA all e g true ∧ y k nx H L = z) ∨ (WantA all e g false ∧ n k nx H L = z) := by
  cases g with
  | none => exact .inl ⟨rfl, h⟩
  | some g =>
    obtain ⟨b, hb, h⟩ := lift_ok hz (show ((M.lift "guard" (yieldA all e g)).bind fun w => bc w y n) k nx H L = z from h)
    cases b with
    | true => exact .inl ⟨hb, h⟩
    | false => exact .inr ⟨hb, h⟩
theorem unroll (hc : LocC call) (hz : Yes z) {all : List Oper} : ∀ {l : List Oper} {e : T AV} {nx : Nat} {H : T AB} {L : Log} {ls : List Log} {k : (T AV × List Log) → Nat → T AB → Log → Ans}, Cl nx H → execOpsL C call all l e ls k nx H L = z →
    ∃ (E : Nat → T AV) (NX : Nat → Nat) (HH : Nat → T AB) (X : Nat → AV) (DD : Nat → Log) (D : Log), E 0 = e ∧ NX 0 = nx ∧ HH 0 = H ∧
      (∀ i o, l[i]? = some o → StepR C call all o (E i) (NX i) (HH i) (X i) (E (i+1)) (NX (i+1)) (HH (i+1)) (DD i)) ∧ (∀ i, i ≤ l.length → Cl (NX i) (HH i)) ∧
      k (E l.length, ((List.range l.length).map DD).reverse ++ ls) (NX l.length) (HH l.length) (D ++ L) = z ∧ (∀ i y, i < l.length → y ∈ DD i → y ∈ D) := by
  intro l
  induction l with
  | nil =>
    intro e nx H L ls k hcl h
    exact ⟨fun _ => e, fun _ => nx, fun _ => H, fun _ => .tup [], fun _ => [], [], rfl, rfl, rfl, fun i o ho => by simp at ho, fun _ _ => hcl, h, fun i y hi => by simp at hi⟩
  | cons o l ih =>
    intro e nx H L ls k hcl h
    rcases want_of hz (show wantedA all e o.guard (fun k nx H L => execOp C call e o.op (fun x nx H l1 => execOpsL C call all l (putDst e o.dst x) (l1 :: ls) k nx H (l1 ++ L)) nx H []) (execOpsL C call all l (putDst e o.dst (.tup [])) ([] :: ls)) k nx H L = z from h) with ⟨hw, h1⟩ | ⟨hw, h1⟩
    · rcases (loc_execOp hc (e := e) (o := o.op)).go nx H hcl with ⟨s, hs⟩ | ⟨x, nx1, H1, D1, hl⟩
      · rw [hs] at h1; exact (hz _ h1.symm).elim
      · rw [hl.runs] at h1
        obtain ⟨E, NX, HH, X, DD, D, a1, a2, a3, a4, a5, a6, a7⟩ := ih hl.cl h1
        refine ⟨consF e E, consF nx NX, consF H HH, consF x X, consF D1 DD, D ++ D1, rfl, rfl, rfl, ?_, ?_, ?_, ?_⟩
        · intro i p hp
          cases i with
          | zero =>
            simp at hp; subst hp
            refine ⟨a1, .inl ⟨hw, ?_⟩⟩
            show LocAt _ nx H x (NX 0) (HH 0) D1
            rw [a2, a3]; exact hl
          | succ i => exact a4 i p (by simpa using hp)
        · intro i hi
          cases i with
          | zero => exact hcl
          | succ i => exact a5 i (by simpa using hi)
        · show k (E l.length, _) (NX l.length) (HH l.length) _ = z
          rw [List.length_cons, List.range_succ_eq_map, List.map_cons, List.map_map, List.reverse_cons, List.append_assoc]
          rw [List.append_nil] at a6
          rw [List.append_assoc]
          exact a6
        · intro i y hi hy
          cases i with
          | zero => exact List.mem_append_right _ hy
          | succ i => exact List.mem_append_left _ (a7 i y (by simpa using hi) hy)
    · obtain ⟨E, NX, HH, X, DD, D, a1, a2, a3, a4, a5, a6, a7⟩ := ih hcl h1
      refine ⟨consF e E, consF nx NX, consF H HH, consF (.tup []) X, consF [] DD, D, rfl, rfl, rfl, ?_, ?_, ?_, ?_⟩
      · intro i p hp
        cases i with
        | zero =>
          simp at hp; subst hp
          exact ⟨a1, .inr ⟨hw, rfl, a2, a3, rfl⟩⟩
        | succ i => exact a4 i p (by simpa using hp)
      · intro i hi
        cases i with
        | zero => exact hcl
        | succ i => exact a5 i (by simpa using hi)
      · show k (E l.length, _) (NX l.length) (HH l.length) _ = z
        rw [List.length_cons, List.range_succ_eq_map, List.map_cons, List.map_map, List.reverse_cons, List.append_assoc]
        exact a6
      · intro i y hi hy
        cases i with
        | zero => cases hy
        | succ i => exact a7 i y (by simpa using hi) hy
end
end Go.AM
namespace Go.AM
/-! # Soundness, part 30: what the check of a drawn region says -/
theorem meets_false {a b : Log} (h : meets a b = false) {x : Nat} {u v : Bool} (ha : (x, u) ∈ a) (hb : (x, v) ∈ b) : u = false ∧ v = false := by
  have h1 : meets a b = true ∨ (u = false ∧ v = false) := by
    cases hu : u || v with
    | true =>
      left
      unfold meets
      rw [List.any_eq_true]
      refine ⟨_, ha, ?_⟩
      simp only [List.any_eq_true]
      exact ⟨_, hb, by simp [hu]⟩
    | false => right; simpa using hu
  rcases h1 with h1 | h1
  · rw [h] at h1; cases h1
  · exact h1
theorem apart1_spec {b : Nat} {l : Log} : ∀ {ms : List Log} {k : Nat}, ms.length = k → apart1 b l ms k = true → ∀ j, j < k → ∀ m, ms[k - 1 - j]? = some m → Nat.testBit b j = true ∨ meets l m = false := by
  intro ms
  induction ms with
  | nil => intro k hk _ j hj; simp at hk; omega
  | cons m ms ih =>
    intro k hk h j hj q hq
    simp only [List.length_cons] at hk
    simp only [apart1, Bool.and_eq_true] at h
    rcases Nat.lt_or_ge j (k - 1) with hlt | hge
    · refine ih (k := k - 1) (by omega) h.2 j hlt q ?_
      rw [show k - 1 - j = (k - 1 - 1 - j) + 1 by omega] at hq
      simpa using hq
    · have : j = k - 1 := by omega
      subst this
      rw [Nat.sub_self] at hq
      simp at hq; subst hq
      simpa using h.1
theorem apartAll_spec : ∀ {bs : List Nat} {ls : List Log} {n : Nat}, bs.length = n → ls.length = n → apartAll bs ls n = true → ∀ i j, i < n → j < i → ∀ b l m, bs[n - 1 - i]? = some b → ls[n - 1 - i]? = some l → ls[n - 1 - j]? = some m →
    Nat.testBit b j = true ∨ meets l m = false := by
  intro bs
  induction bs with
  | nil => intro ls n hb hl _ i j hi; simp at hb; omega
  | cons b bs ih =>
    intro ls n hb hl h i j hi hj b' l' m' h1 h2 h3
    cases ls with
    | nil => simp at hl; simp at hb; omega
    | cons l ls =>
      simp only [List.length_cons] at hb hl
      simp only [apartAll, Bool.and_eq_true] at h
      rcases Nat.lt_or_ge i (n - 1) with hlt | hge
      · refine ih (n := n - 1) (by omega) (by omega) h.2 i j hlt hj b' l' m' ?_ ?_ ?_
        · rw [show n - 1 - i = (n - 1 - 1 - i) + 1 by omega] at h1; simpa using h1
        · rw [show n - 1 - i = (n - 1 - 1 - i) + 1 by omega] at h2; simpa using h2
        · rw [show n - 1 - j = (n - 1 - 1 - j) + 1 by omega] at h3; simpa using h3
      · have : i = n - 1 := by omega
        subst this
        rw [Nat.sub_self] at h1 h2
        simp at h1 h2; subst h1; subst h2
        cases l with
        | nil => right; rfl
        | cons y l =>
          refine apart1_spec (k := n - 1) (by omega) h.1 j hj m' ?_
          rw [show n - 1 - j = (n - 1 - 1 - j) + 1 by omega] at h3; simpa using h3
/-- edges rise -/
def Rising (ops : List Oper) : Prop := ∀ i o, ops[i]? = some o → ∀ e ∈ o.after.toList, Region.binds .any e = true → e.on < i
/-- those ahead of an operation, by the bits -/
noncomputable def befBits (o : Oper) (acc : List Nat) : Nat := o.after.toList.foldl (fun s e => if Region.binds .any e then Nat.lor s (Nat.lor (2 ^ e.on) ((lget acc (Nat.sub (Nat.sub acc.length 1) e.on)).getD 0)) else s) 0
theorem foldBits {acc : List Nat} {j : Nat} : ∀ {es : List Edge} {s : Nat}, Nat.testBit (es.foldl (fun s e => if Region.binds .any e then Nat.lor s (Nat.lor (2 ^ e.on) ((lget acc (Nat.sub (Nat.sub acc.length 1) e.on)).getD 0)) else s) s) j = true →
    Nat.testBit s j = true ∨ ∃ e ∈ es, Region.binds .any e = true ∧ (j = e.on ∨ Nat.testBit ((lget acc (Nat.sub (Nat.sub acc.length 1) e.on)).getD 0) j = true) := by
  intro es
  induction es with
  | nil => intro s h; exact .inl h
  | cons e es ih =>
    intro s h
    rw [List.foldl_cons] at h
    rcases ih h with h | ⟨e', he, hb, hj⟩
    · by_cases hbd : Region.binds .any e = true
      · rw [if_pos hbd] at h
        have h : Nat.testBit (s ||| (2 ^ e.on ||| ((lget acc (Nat.sub (Nat.sub acc.length 1) e.on)).getD 0))) j = true := h
        rw [Nat.testBit_or, Nat.testBit_or, Bool.or_eq_true, Bool.or_eq_true, Nat.testBit_two_pow] at h
        rcases h with h | h | h
        · exact .inl h
        · exact .inr ⟨e, List.mem_cons_self .., hbd, .inl (by simpa using (of_decide_eq_true h).symm)⟩
        · exact .inr ⟨e, List.mem_cons_self .., hbd, .inr h⟩
      · rw [if_neg hbd] at h; exact .inl h
    · exact .inr ⟨e', List.mem_cons_of_mem _ he, hb, hj⟩
theorem before_length : ∀ {ops : List Oper} {acc : List Nat}, (before ops acc).length = ops.length + acc.length := by
  intro ops
  induction ops with
  | nil => intro acc; simp [before]
  | cons o ops ih => intro acc; simp only [before, ih, List.length_cons]; omega
/-- what a bit stands for -/
def Just (all : List Oper) (bs : List Nat) : Prop := ∀ i o, i < bs.length → all[i]? = some o → ∀ j, Nat.testBit (Bits bs i) j = true → ∃ e ∈ o.after.toList, Region.binds .any e = true ∧ (j = e.on ∨ Nat.testBit (Bits bs e.on) j = true)
theorem Bits_cons {b : Nat} {bs : List Nat} {i : Nat} (h : i < bs.length) : Bits (b :: bs) i = Bits bs i := by
  unfold Bits
  rw [List.length_cons, show bs.length + 1 - 1 - i = (bs.length - 1 - i) + 1 by omega]
  simp
theorem before_just {all : List Oper} (hr : Rising all) : ∀ {ops : List Oper} {acc : List Nat}, (∀ j, ops[j]? = all[acc.length + j]?) → Just all acc → Just all (before ops acc) := by
  intro ops
  induction ops with
  | nil => intro acc _ h; exact h
  | cons o ops ih =>
    intro acc hl h
    show Just all (before ops (befBits o acc :: acc))
    refine ih (fun j => by have := hl (j + 1); simpa [Nat.add_assoc, Nat.add_comm 1 j] using this) ?_
    intro i p hi hp j hj
    rcases Nat.lt_or_ge i acc.length with hlt | hge
    · rw [Bits_cons hlt] at hj
      obtain ⟨e, he, hb, hj⟩ := h i p hlt hp j hj
      have := hr i p hp e he hb
      refine ⟨e, he, hb, hj.imp id fun hj => ?_⟩
      rw [Bits_cons (by omega)]; exact hj
    · have hi : i = acc.length := by simp at hi; omega
      subst hi
      have ho : all[acc.length]? = some o := by have := hl 0; simpa using this.symm
      rw [ho] at hp; cases hp
      have hb0 : Bits (befBits o acc :: acc) acc.length = befBits o acc := by unfold Bits; simp
      rw [hb0] at hj
      rcases foldBits hj with hj | ⟨e, he, hb, hj⟩
      · simp at hj
      · have hlt := hr _ o ho e he hb
        refine ⟨e, he, hb, hj.imp id fun hj => ?_⟩
        rw [Bits_cons hlt]
        rw [lget_eq] at hj
        exact hj
end Go.AM
namespace Go.AM
/-! # Soundness, part 31: a drawn region, where some operations are done: slots and blocks -/
/-- two operations share no slot -/
def slotsOff (all : List Oper) (o p : Oper) : Prop := (∀ d, o.dst = some d → d ∉ looksA all p ∧ p.dst ≠ some d) ∧ (∀ d, p.dst = some d → d ∉ looksA all o)
theorem slotsOff.symm {all : List Oper} {o p : Oper} (h : slotsOff all o p) : slotsOff all p o :=
  ⟨fun d hd => ⟨h.2 d hd, fun ho => (h.1 d ho).2 hd⟩, fun d hd => (h.1 d hd).1⟩
def SlotsApart (all : List Oper) (bs : List Nat) : Prop := ∀ i j o p, j < i → all[i]? = some o → all[j]? = some p → Nat.testBit (Bits bs i) j = true ∨ slotsOff all o p
/-- two operations that are not ordered -/
def Free (bs : List Nat) (i j : Nat) : Prop := i ≠ j ∧ (j < i → Nat.testBit (Bits bs i) j = false) ∧ (i < j → Nat.testBit (Bits bs j) i = false)
theorem Free.slots {all : List Oper} {bs : List Nat} (h : SlotsApart all bs) {i j : Nat} {o p : Oper} (hf : Free bs i j) (hi : all[i]? = some o) (hj : all[j]? = some p) : slotsOff all o p := by
  rcases Nat.lt_trichotomy i j with hlt | he | hgt
  · rcases h j i p o hlt hj hi with h1 | h1
    · rw [hf.2.2 hlt] at h1; cases h1
    · exact h1.symm
  · exact (hf.1 he).elim
  · rcases h i j o p hgt hi hj with h1 | h1
    · rw [hf.2.1 hgt] at h1; cases h1
    · exact h1
/-- the slots, where the operations of S are done -/
noncomputable def sval (all : List Oper) (E0 : T AV) (X : Nat → AV) (S : Nat → Bool) : Nat → Nat → Option AV
  | 0, t => E0.get t
  | m+1, t => if S m = true ∧ (all[m]?).bind (·.dst) = some t then some (X m) else sval all E0 X S m t
/-- the blocks -/
noncomputable def hval (H0 : T AB) (HH : Nat → T AB) (DD : Nat → Log) (S : Nat → Bool) : Nat → Nat → Option AB
  | 0, b => H0.get b
  | m+1, b => if S m = true ∧ (b, true) ∈ DD m then (HH (m+1)).get b else hval H0 HH DD S m b
theorem putDst_get {e : T AV} {d : Option Nat} {x : AV} {t : Nat} : (putDst e d x).get t = if d = some t then some x else e.get t := by
  cases d with
  | none => rw [if_neg (by simp)]; rfl
  | some d =>
    show (e.put d (some x)).get t = _
    rw [T.get_put]
    by_cases h : t = d
    · subst h; rw [if_pos rfl, if_pos rfl]
    · rw [if_neg h, if_neg (by simpa using Ne.symm h)]
section
variable {C : Cx} {call : Nat → List AV → M AV} {all : List Oper} {bs : List Nat} {E : Nat → T AV} {NX : Nat → Nat} {HH : Nat → T AB} {X : Nat → AV} {DD : Nat → Log} {S : Nat → Bool} {i : Nat}
/-- the run of a region, and what the checks say of it -/
structure RunR (C : Cx) (call : Nat → List AV → M AV) (all : List Oper) (bs : List Nat) (E : Nat → T AV) (NX : Nat → Nat) (HH : Nat → T AB) (X : Nat → AV) (DD : Nat → Log) : Prop where
  step : ∀ i o, all[i]? = some o → StepR C call all o (E i) (NX i) (HH i) (X i) (E (i+1)) (NX (i+1)) (HH (i+1)) (DD i)
  cl : ∀ i, i ≤ all.length → Cl (NX i) (HH i)
  off : ∀ i j, i < all.length → j < all.length → Free bs i j → meets (DD i) (DD j) = false
  slots : SlotsApart all bs
theorem RunR.get {i : Nat} (hi : i < all.length) : ∃ o, all[i]? = some o := ⟨_, List.getElem?_eq_getElem hi⟩
theorem RunR.E_val (h : RunR C call all bs E NX HH X DD) (t : Nat) : ∀ m, m ≤ all.length → (E m).get t = sval all (E 0) X (fun _ => true) m t := by
  intro m
  induction m with
  | zero => intro _; rfl
  | succ m ih =>
    intro hm
    obtain ⟨o, ho⟩ := RunR.get (all := all) (i := m) (by omega)
    rw [(h.step m o ho).put, putDst_get]
    simp only [sval, ho, Option.bind_some, true_and]
    rw [ih (by omega)]
theorem RunR.H_val (h : RunR C call all bs E NX HH X DD) (b : Nat) : ∀ m, m ≤ all.length → (HH m).get b = hval (HH 0) HH DD (fun _ => true) m b := by
  intro m
  induction m with
  | zero => intro _; rfl
  | succ m ih =>
    intro hm
    obtain ⟨o, ho⟩ := RunR.get (all := all) (i := m) (by omega)
    simp only [hval, true_and]
    by_cases hb : (b, true) ∈ DD m
    · rw [if_pos hb]
    · rw [if_neg hb, ← ih (by omega)]
      rcases (h.step m o ho).did with ⟨_, hl⟩ | ⟨_, _, _, hH, _⟩
      · exact hl.keep b hb
      · rw [hH]
theorem RunR.mono (h : RunR C call all bs E NX HH X DD) : ∀ {i j : Nat}, i ≤ j → j ≤ all.length → NX i ≤ NX j := by
  intro i j hij
  induction j with
  | zero => intro _; have : i = 0 := by omega
            subst this; exact Nat.le_refl _
  | succ j ih =>
    intro hj
    rcases Nat.lt_or_ge i (j + 1) with hlt | hge
    · refine Nat.le_trans (ih (by omega) (by omega)) ?_
      obtain ⟨o, ho⟩ := RunR.get (all := all) (i := j) (by omega)
      rcases (h.step j o ho).did with ⟨_, hl⟩ | ⟨_, _, hn, _, _⟩
      · exact hl.le
      · rw [hn]; exact Nat.le_refl _
    · have : i = j + 1 := by omega
      subst this; exact Nat.le_refl _
/-- operation i is not done, and may be done now -/
structure Due (all : List Oper) (bs : List Nat) (S : Nat → Bool) (i : Nat) : Prop where
  lt : i < all.length
  no : S i = false
  ahead : ∀ m, m < i → S m = false → Free bs i m
  behind : ∀ m, i < m → m < all.length → S m = true → Free bs i m
theorem RunR.slot_now (h : RunR C call all bs E NX HH X DD) (hd : Due all bs S i) {o : Oper} (ho : all[i]? = some o) {t : Nat} (ht : t ∈ looksA all o) : sval all (E 0) X S all.length t = (E i).get t := by
  rw [h.E_val t i (Nat.le_of_lt hd.lt)]
  have key : ∀ m, m ≤ all.length → sval all (E 0) X S m t = sval all (E 0) X (fun _ => true) (min m i) t := by
    intro m
    induction m with
    | zero => intro _; rw [Nat.zero_min]; rfl
    | succ m ih =>
      intro hm
      obtain ⟨p, hp⟩ := RunR.get (all := all) (i := m) (by omega)
      have hne : Free bs i m → (all[m]?).bind (·.dst) ≠ some t := by
        intro hf he
        rw [hp] at he
        exact (hf.slots h.slots ho hp).2 t he ht
      have ih := ih (by omega)
      simp only [sval]
      rcases Nat.lt_trichotomy m i with hlt | he | hgt
      · rw [Nat.min_eq_left (by omega)]
        rw [Nat.min_eq_left (by omega)] at ih
        simp only [sval, true_and]
        cases hS : S m with
        | true => simp only [true_and]; rw [ih]
        | false => rw [if_neg (by simp), if_neg (hne (hd.ahead m hlt hS)), ih]
      · subst he
        rw [hd.no, if_neg (by simp), ih, Nat.min_eq_right (by omega), Nat.min_eq_right (by omega)]
      · rw [Nat.min_eq_right (by omega)]
        rw [Nat.min_eq_right (by omega)] at ih
        cases hS : S m with
        | true => rw [if_neg (fun hh => hne (hd.behind m hgt (by omega) hS) hh.2), ih]
        | false => rw [if_neg (by simp), ih]
  rw [key all.length (Nat.le_refl _), Nat.min_eq_right (Nat.le_of_lt hd.lt)]
theorem RunR.block_now (h : RunR C call all bs E NX HH X DD) (hd : Due all bs S i) {b : Nat} {u : Bool} (hb : (b, u) ∈ DD i) : hval (HH 0) HH DD S all.length b = (HH i).get b := by
  rw [h.H_val b i (Nat.le_of_lt hd.lt)]
  have key : ∀ m, m ≤ all.length → hval (HH 0) HH DD S m b = hval (HH 0) HH DD (fun _ => true) (min m i) b := by
    intro m
    induction m with
    | zero => intro _; rw [Nat.zero_min]; rfl
    | succ m ih =>
      intro hm
      have hne : Free bs i m → (b, true) ∉ DD m := by
        intro hf he
        have := (meets_false (h.off i m hd.lt (by omega) hf) hb he).2
        cases this
      have ih := ih (by omega)
      simp only [hval]
      rcases Nat.lt_trichotomy m i with hlt | he | hgt
      · rw [Nat.min_eq_left (by omega)]
        rw [Nat.min_eq_left (by omega)] at ih
        simp only [hval, true_and]
        cases hS : S m with
        | true => simp only [true_and]; rw [ih]
        | false => rw [if_neg (by simp), if_neg (hne (hd.ahead m hlt hS)), ih]
      · subst he
        rw [hd.no, if_neg (by simp), ih, Nat.min_eq_right (by omega), Nat.min_eq_right (by omega)]
      · rw [Nat.min_eq_right (by omega)]
        rw [Nat.min_eq_right (by omega)] at ih
        cases hS : S m with
        | true => rw [if_neg (fun hh => hne (hd.behind m hgt (by omega) hS) hh.2), ih]
        | false => rw [if_neg (by simp), ih]
  rw [key all.length (Nat.le_refl _), Nat.min_eq_right (Nat.le_of_lt hd.lt)]
/-- operation i is done besides -/
def also (S : Nat → Bool) (i : Nat) : Nat → Bool := fun m => if m = i then true else S m
theorem RunR.slot_then (h : RunR C call all bs E NX HH X DD) (hd : Due all bs S i) {o : Oper} (ho : all[i]? = some o) (t : Nat) :
    sval all (E 0) X (also S i) all.length t = if o.dst = some t then some (X i) else sval all (E 0) X S all.length t := by
  have key : ∀ m, m ≤ all.length → sval all (E 0) X (also S i) m t = if i < m ∧ o.dst = some t then some (X i) else sval all (E 0) X S m t := by
    intro m
    induction m with
    | zero => intro _; rw [if_neg (by omega)]; rfl
    | succ m ih =>
      intro hm
      obtain ⟨p, hp⟩ := RunR.get (all := all) (i := m) (by omega)
      have ih := ih (by omega)
      simp only [sval]
      rcases Nat.lt_trichotomy m i with hlt | he | hgt
      · rw [if_neg (by omega)] at ih
        rw [show also S i m = S m by unfold also; rw [if_neg (by omega)], ih]
        rw [if_neg (show ¬ (i < m + 1 ∧ _) by omega)]
      · subst he
        rw [if_neg (by omega)] at ih
        rw [show also S m m = true by unfold also; rw [if_pos rfl], ih, hd.no, ho]
        simp
      · have hsm : also S i m = S m := by unfold also; rw [if_neg (by omega)]
        rw [hsm, ih]
        by_cases hS : S m = true ∧ (all[m]?).bind (·.dst) = some t
        · rw [if_pos hS, if_pos hS]
          have : o.dst ≠ some t := by
            intro he
            have h2 := hS.2
            rw [hp] at h2
            exact (((hd.behind m hgt (by omega) hS.1).slots h.slots ho hp).1 t he).2 h2
          rw [if_neg (fun hh => this hh.2)]
        · rw [if_neg hS, if_neg hS]
          by_cases he : o.dst = some t
          · rw [if_pos ⟨hgt, he⟩, if_pos ⟨by omega, he⟩]
          · rw [if_neg (fun hh => he hh.2), if_neg (fun hh => he hh.2)]
  rw [key all.length (Nat.le_refl _)]
  have := hd.lt
  by_cases he : o.dst = some t
  · rw [if_pos ⟨this, he⟩, if_pos he]
  · rw [if_neg (fun hh => he hh.2), if_neg he]
theorem RunR.block_then (h : RunR C call all bs E NX HH X DD) (hd : Due all bs S i) (b : Nat) :
    hval (HH 0) HH DD (also S i) all.length b = if (b, true) ∈ DD i then (HH (i+1)).get b else hval (HH 0) HH DD S all.length b := by
  have key : ∀ m, m ≤ all.length → hval (HH 0) HH DD (also S i) m b = if i < m ∧ (b, true) ∈ DD i then (HH (i+1)).get b else hval (HH 0) HH DD S m b := by
    intro m
    induction m with
    | zero => intro _; rw [if_neg (by omega)]; rfl
    | succ m ih =>
      intro hm
      have ih := ih (by omega)
      simp only [hval]
      rcases Nat.lt_trichotomy m i with hlt | he | hgt
      · rw [if_neg (by omega)] at ih
        rw [show also S i m = S m by unfold also; rw [if_neg (by omega)], ih]
        rw [if_neg (show ¬ (i < m + 1 ∧ _) by omega)]
      · subst he
        rw [if_neg (by omega)] at ih
        rw [show also S m m = true by unfold also; rw [if_pos rfl], ih, hd.no]
        simp
      · have hsm : also S i m = S m := by unfold also; rw [if_neg (by omega)]
        rw [hsm, ih]
        by_cases hS : S m = true ∧ (b, true) ∈ DD m
        · rw [if_pos hS, if_pos hS]
          have : (b, true) ∉ DD i := by
            intro he
            have := (meets_false (h.off i m hd.lt (by omega) (hd.behind m hgt (by omega) hS.1)) he hS.2).1
            cases this
          rw [if_neg (fun hh => this hh.2)]
        · rw [if_neg hS, if_neg hS]
          by_cases he : (b, true) ∈ DD i
          · rw [if_pos ⟨hgt, he⟩, if_pos ⟨by omega, he⟩]
          · rw [if_neg (fun hh => he hh.2), if_neg (fun hh => he hh.2)]
  rw [key all.length (Nat.le_refl _)]
  have := hd.lt
  by_cases he : (b, true) ∈ DD i
  · rw [if_pos ⟨this, he⟩, if_pos he]
  · rw [if_neg (fun hh => he hh.2), if_neg he]
end
end Go.AM
namespace Go.AM
/-! # Soundness, part 32: names below a bound; what an operation's law says is there -/
/-- the names below a bound -/
def cut (ρ : Nm) (nx : Nat) : Nm := fun b => if b < nx then ρ b else none
/-- names that are known lie below a bound -/
def Supp (ρ : Nm) (nx : Nat) : Prop := ∀ b, nx ≤ b → ρ b = none
theorem cut_get {ρ ρ1 : Nm} {nx b : Nat} {p q : Nat × Nat} (hs : Supp ρ1 nx) (h1 : ρ1 b = some p) (h : ρ b = some q) : cut ρ nx b = some q := by
  unfold cut
  rw [if_pos]
  · exact h
  · rcases Nat.lt_or_ge b nx with hlt | hge
    · exact hlt
    · rw [hs b hge] at h1; cases h1
section
variable {ν : Vl} {ρ ρ1 : Nm} {nx : Nat}
mutual
theorem VR.cut (hs : Supp ρ1 nx) : ∀ {a : AV} {v v1 : Value}, VR ν ρ1 a v1 → VR ν ρ a v → VR ν (AM.cut ρ nx) a v
  | .bool _, _, _, _, k => k
  | .int _ _, _, _, _, k => k
  | .str _, _, _, _, k => k
  | .flt _ _, _, _, _, k => k
  | .ptr _ _, _, _, h, k => let ⟨_, _, _, h1, _⟩ := h; let ⟨r, sz, o, a, b, c⟩ := k; ⟨r, sz, o, cut_get hs h1 a, b, c⟩
  | .nilp, _, _, _, k => k
  | .sl _ _ _ _ _, _, _, h, k => let ⟨_, _, _, _, _, h1, _⟩ := h; let ⟨r, sz, o, n, c, a, b⟩ := k; ⟨r, sz, o, n, c, cut_get hs h1 a, b⟩
  | .nils, _, _, _, k => k
  | .fn _ _ _, _, _, h, k => let ⟨_, _, h1, h2, _⟩ := h; let ⟨as, bs, a, b, c⟩ := k; ⟨as, bs, VRs.cut hs h1 a, VRs.cut hs h2 b, c⟩
  | .nilf, _, _, _, k => k
  | .agg _, _, _, h, k => let ⟨_, h1, _⟩ := h; let ⟨vs, a, b⟩ := k; ⟨vs, VRs.cut hs h1 a, b⟩
  | .tup _, _, _, h, k => let ⟨_, h1, _⟩ := h; let ⟨vs, a, b⟩ := k; ⟨vs, VRs.cut hs h1 a, b⟩
  | .map _, _, _, h, k => let ⟨_, _, h1, _⟩ := h; let ⟨r, sz, a, b⟩ := k; ⟨r, sz, cut_get hs h1 a, b⟩
  | .nilm, _, _, _, k => k
  | .nili, _, _, _, k => k
theorem VRs.cut (hs : Supp ρ1 nx) : ∀ {a : List AV} {v v1 : List Value}, VRs ν ρ1 a v1 → VRs ν ρ a v → VRs ν (AM.cut ρ nx) a v
  | [], _, _, _, k => k
  | _ :: _, _, _, h, k => let ⟨_, _, _, h1, h2⟩ := h; let ⟨v, vs, a, b, c⟩ := k; ⟨v, vs, a, VR.cut hs h1 b, VRs.cut hs h2 c⟩
end
theorem MR.cut (hs : Supp ρ1 nx) {es : List (AV × AV)} : ∀ {l l1 : List MapEntry}, MR ν ρ1 es l1 → MR ν ρ es l → MR ν (AM.cut ρ nx) es l := by
  induction es with
  | nil => intro l l1 _ k; exact k
  | cons p es ih =>
    intro l l1 h k
    obtain ⟨_, _, _, h1, h2, h3⟩ := h
    obtain ⟨e, l', rfl, k1, k2, k3⟩ := k
    exact ⟨e, l', rfl, h1.cut hs k1, h2.cut hs k2, ih h3 k3⟩
theorem LR.cut (hs : Supp ρ1 nx) : ∀ {l : List Nat} {bs bs1 : List (Nat × Nat)}, LR ρ1 l bs1 → LR ρ l bs → LR (AM.cut ρ nx) l bs
  | [], _, _, _, k => k
  | b :: l, _, _, h, k => by
    obtain ⟨_, _, _, h1, h2⟩ := h.cons
    obtain ⟨p, ps, rfl, k1, k2⟩ := k.cons
    exact LR.mk (cut_get hs h1 k1) (LR.cut hs h2 k2)
theorem BR.cut (hs : Supp ρ1 nx) {A : AB} {s1 sz : Nat} {o1 obj : Obj} (h : BR ν ρ1 A s1 o1) (k : BR ν ρ A sz obj) : BR ν (AM.cut ρ nx) A sz obj := by
  cases A with
  | row cs => obtain ⟨_, h1, _⟩ := h; obtain ⟨vs, k1, k2⟩ := k; exact ⟨vs, h1.cut hs k1, k2⟩
  | byt s => exact k
  | map es => obtain ⟨_, _, _, h1⟩ := h; obtain ⟨l, c, k1, k2⟩ := k; exact ⟨l, c, k1, h1.cut hs k2⟩
  | lt j l => obtain ⟨_, _, _, _, h1, _⟩ := h; obtain ⟨vs, bs, k1, k2, k3, k4⟩ := k; exact ⟨vs, bs, k1, k2, h1.cut hs k3, k4⟩
end
theorem cut_supp (ρ : Nm) (nx : Nat) : Supp (cut ρ nx) nx := fun b hb => by unfold cut; rw [if_neg (by omega)]
theorem cut_ext (ρ : Nm) (nx : Nat) : Ext (cut ρ nx) ρ := fun b p h => by
  unfold cut at h
  by_cases hb : b < nx
  · rw [if_pos hb] at h; exact h
  · rw [if_neg hb] at h; cases h
/-- a heap, without the blocks that are not wanted -/
theorem heap_keep {α : Type} (p : Nat → Bool) {H : T α} : ∀ {M : Nat}, (∀ b, M ≤ b → H.get b = none) → ∃ G : T α, ∀ b, G.get b = if p b = true then H.get b else none := by
  have key : ∀ M (H : T α), ∃ G : T α, ∀ b, G.get b = if b < M ∧ p b = false then none else H.get b := by
    intro M
    induction M with
    | zero => intro H; exact ⟨H, fun b => by rw [if_neg (by omega)]⟩
    | succ M ih =>
      intro H
      obtain ⟨G, hG⟩ := ih H
      cases hp : p M with
      | true =>
        refine ⟨G, fun b => ?_⟩
        rw [hG]
        by_cases hb : b = M
        · subst hb; rw [if_neg (by omega), if_neg (by rw [hp]; simp)]
        · by_cases hl : b < M ∧ p b = false
          · rw [if_pos hl, if_pos ⟨by omega, hl.2⟩]
          · rw [if_neg hl, if_neg (fun hh => hl ⟨by omega, hh.2⟩)]
      | false =>
        refine ⟨G.put M none, fun b => ?_⟩
        rw [T.get_put, hG]
        by_cases hb : b = M
        · subst hb; rw [if_pos rfl, if_pos ⟨by omega, hp⟩]
        · rw [if_neg hb]
          by_cases hl : b < M ∧ p b = false
          · rw [if_pos hl, if_pos ⟨by omega, hl.2⟩]
          · rw [if_neg hl, if_neg (fun hh => hl ⟨by omega, hh.2⟩)]
  intro M hM
  obtain ⟨G, hG⟩ := key M H
  refine ⟨G, fun b => ?_⟩
  rw [hG]
  cases hp : p b with
  | true => rw [if_neg (by simp), if_pos rfl]
  | false =>
    rw [if_neg (by simp : ¬ false = true)]
    by_cases hlt : b < M
    · rw [if_pos ⟨hlt, rfl⟩]
    · rw [if_neg (fun hh => hlt hh.1)]; exact hM b (by omega)
/-- two heaps, the one over the other where a list tells -/
theorem heap_over {H G : T AB} : ∀ D : Log, ∃ F : T AB, ∀ b, F.get b = if (b, true) ∈ D then G.get b else H.get b := by
  intro D
  induction D with
  | nil => exact ⟨H, fun b => by simp⟩
  | cons y D ih =>
    obtain ⟨F, hF⟩ := ih
    obtain ⟨c, u⟩ := y
    cases u with
    | false => exact ⟨F, fun b => by rw [hF]; simp⟩
    | true =>
      refine ⟨F.put c (G.get c), fun b => ?_⟩
      rw [T.get_put, hF]
      by_cases hb : b = c
      · subst hb; rw [if_pos rfl, if_pos (by simp)]
      · rw [if_neg hb]; simp [hb]
section
variable {C : Cx} {ν : Vl} {ρ : Nm} {nx : Nat} {L : Log} {w : World} {k : AV → Nat → T AB → Log → Ans} {z : Ans} {a : Act}
/-- there is an outcome -/
theorem OpOk.outcome {o : Oper} {r : Result Next} (h : OpOk C ν ρ nx L w k z o a r) :
    ∃ x nx' H' D ρ' v w', k x nx' H' (D ++ L) = z ∧ Low nx ρ nx' ρ' ∧ VR ν ρ' x v ∧ HR ν ρ' nx' H' w' ∧ Stp ρ w ρ' w' D := by
  have h := h (fun _ _ => ∃ x nx' H' D ρ' v w', k x nx' H' (D ++ L) = z ∧ Low nx ρ nx' ρ' ∧ VR ν ρ' x v ∧ HR ν ρ' nx' H' w' ∧ Stp ρ w ρ' w' D) (fun _ _ _ => False)
    (fun x nx' H' D ρ' v w' h1 h2 h3 h4 h5 => ⟨x, nx', H', D, ρ', v, w', h1, h2, h3, h4, h5⟩)
  cases r with
  | ok n w' =>
    cases n <;> first | (exact h) | (exact h.elim) | skip
    case enter f args =>
      obtain ⟨e, w'', fr, hR, _⟩ := h []
      cases e with
      | returned v => exact hR
      | panicked c => exact hR.elim
      | outgrown => obtain ⟨_, _, hq⟩ := hR; exact hq.elim
    case row row args =>
      obtain ⟨v, w'', hR, _⟩ := h default []
      exact hR
  | halt x w' => cases x <;> exact h.elim
end
end Go.AM
namespace Go.AM
/-! # Soundness, part 33: a drawn region, one operation -/
section
variable {C : Cx} {ν : Vl} {call : Nat → List AV → M AV} {all : List Oper} {bs : List Nat} {E : Nat → T AV} {NX : Nat → Nat} {HH : Nat → T AB} {X : Nat → AV} {DD : Nat → Log} {S : Nat → Bool} {i n : Nat} {ρ0 : Nm} {w0 : World} {D : Log} {ρ : Nm} {eS : T AV} {HS : T AB} {a : Act} {w : World}
/-- the state where the operations of S are done -/
structure Mid (ν : Vl) (n : Nat) (all : List Oper) (E : Nat → T AV) (NX : Nat → Nat) (HH : Nat → T AB) (X : Nat → AV) (DD : Nat → Log) (ρ0 : Nm) (w0 : World) (D : Log) (S : Nat → Bool) (ρ : Nm) (eS : T AV) (HS : T AB) (a : Act) (w : World) : Prop where
  slots : ∀ t, eS.get t = sval all (E 0) X S all.length t
  heap : ∀ b, HS.get b = hval (HH 0) HH DD S all.length b
  er : ER ν ρ n eS a
  blk : ∀ b A, HS.get b = some A → ∃ r sz obj, ρ b = some (r, sz) ∧ w.heap[r]? = some obj ∧ BR ν ρ A sz obj
  inj : ∀ b c A B r s t, HS.get b = some A → HS.get c = some B → ρ b = some (r, s) → ρ c = some (r, t) → b = c
  old : ∀ b r s, ρ b = some (r, s) → r < w.heap.size
  supp : ∀ b p, ρ b = some p → b < NX 0 ∨ ∃ j, j < all.length ∧ S j = true ∧ NX j ≤ b ∧ b < NX (j + 1)
  stp : Stp ρ0 w0 ρ w D
  low : ∀ b, b < NX 0 → ρ b = ρ0 b
  glob : Glob ρ
/-- the names, where operation i is done besides -/
def rejoin (ρ ρ' : Nm) (x y : Nat) : Nm := fun b => if x ≤ b ∧ b < y then ρ' b else ρ b
theorem get_leaf' {α : Type} {t : Nat} : (T.leaf : T α).get t = none := T.get_leaf t
theorem pick_slots {H : T AV} : ∀ l : List Nat, ∃ G : T AV, ∀ t, G.get t = if t ∈ l then H.get t else none := by
  intro l
  induction l with
  | nil => exact ⟨.leaf, fun t => by rw [get_leaf', if_neg (by simp)]⟩
  | cons x l ih =>
    obtain ⟨G, hG⟩ := ih
    refine ⟨G.put x (H.get x), fun t => ?_⟩
    rw [T.get_put, hG]
    by_cases h : t = x
    · subst h; rw [if_pos rfl, if_pos (by simp)]
    · rw [if_neg h]; simp [h]
/-- the state behind one operation more -/
theorem Mid.next (h : RunR C call all bs E NX HH X DD) (hd : Due all bs S i) (hm : Mid ν n all E NX HH X DD ρ0 w0 D S ρ eS HS a w) {o : Oper} (ho : all[i]? = some o)
    (hl : LocAt (execOp C call (E i) o.op) (NX i) (HH i) (X i) (NX (i+1)) (HH (i+1)) (DD i)) (hdst : ∀ d, o.dst = some d → d < n) (hD : ∀ y, y ∈ DD i → y ∈ D)
    (hfree : ∀ b, NX i ≤ b → b < NX (i+1) → ρ b = none) (hnow : ∀ b u, (b, u) ∈ DD i → HS.get b = (HH i).get b) {G' : T AB} (g2 : ∀ b, (b, true) ∈ DD i → G'.get b = (HH (i+1)).get b)
    {ρ' : Nm} {v : Value} {w' : World} (hlow : Low (NX i) (cut ρ (NX i)) (NX (i+1)) ρ') (hx : VR ν ρ' (X i) v) (hr' : HR ν ρ' (NX (i+1)) G' w') (hs' : Stp (cut ρ (NX i)) w ρ' w' (DD i)) :
    ∃ eS' HS', Mid ν n all E NX HH X DD ρ0 w0 D (also S i) (rejoin ρ ρ' (NX i) (NX (i+1))) eS' HS' (a.put o.dst v) w' := by
  have hi := hd.lt
  have h0i : NX 0 ≤ NX i := h.mono (Nat.zero_le _) (Nat.le_of_lt hi)
  obtain ⟨F, hF⟩ := heap_over (H := HS) (G := HH (i+1)) (DD i)
  have e1 : Ext ρ (rejoin ρ ρ' (NX i) (NX (i+1))) := by
    intro b p hb
    unfold rejoin
    rw [if_neg]
    · exact hb
    · intro hh; rw [hfree b hh.1 hh.2] at hb; cases hb
  have hin : ∀ b, b < NX i → ρ' b = ρ b := fun b hb => by rw [hlow.2 b hb]; unfold cut; rw [if_pos hb]
  have e2 : Ext ρ' (rejoin ρ ρ' (NX i) (NX (i+1))) := by
    intro b p hb
    have hlt : b < NX (i+1) := by
      rcases Nat.lt_or_ge b (NX (i+1)) with h1 | h1
      · exact h1
      · rw [hr'.new b h1] at hb; cases hb
    unfold rejoin
    by_cases h1 : NX i ≤ b
    · rw [if_pos ⟨h1, hlt⟩]; exact hb
    · rw [if_neg (fun hh => h1 hh.1), ← hin b (by omega)]; exact hb
  -- a block that is written and was there
  have hwas : ∀ b u, (b, u) ∈ DD i → b < NX i → ∃ A, HS.get b = some A := fun b u hb hlt => by rw [hnow b u hb]; exact hl.had b u hb hlt
  -- rows of other blocks are not written
  have hrow : ∀ c A r t, HS.get c = some A → (c, true) ∉ DD i → ρ c = some (r, t) → w'.heap[r]? = w.heap[r]? := by
    intro c A r t hcA hcw hcr
    refine hs'.frame r (hm.old c r t hcr) fun b s hb hbr => ?_
    have hlt : b < NX i := by
      rcases Nat.lt_or_ge b (NX i) with h1 | h1
      · exact h1
      · rw [cut_supp ρ _ b h1] at hbr; cases hbr
    obtain ⟨B, hB⟩ := hwas b true hb hlt
    have := hm.inj b c B A r s t hB hcA (cut_ext ρ _ b _ hbr) hcr
    subst this
    exact hcw hb
  -- a written block and another one lie apart
  have hapart : ∀ b c A r s t, (b, true) ∈ DD i → ρ' b = some (r, s) → HS.get c = some A → (c, true) ∉ DD i → ρ c = some (r, t) → False := by
    intro b c A r s t hb hbr hcA hcw hcr
    rcases Nat.lt_or_ge b (NX i) with hlt | hge
    · obtain ⟨B, hB⟩ := hwas b true hb hlt
      have := hm.inj b c B A r s t hB hcA (by rw [← hin b hlt]; exact hbr) hcr
      subst this
      exact hcw hb
    · rcases hs'.own b r s (cut_supp ρ _ b hge) hbr with h1 | ⟨c', t', hc', hr1⟩
      · have := hm.old c r t hcr; omega
      · have hlt : c' < NX i := by
          rcases Nat.lt_or_ge c' (NX i) with h2 | h2
          · exact h2
          · rw [cut_supp ρ _ c' h2] at hr1; cases hr1
        obtain ⟨B, hB⟩ := hwas c' true hc' hlt
        have := hm.inj c' c B A r t' t hB hcA (cut_ext ρ _ c' _ hr1) hcr
        subst this
        exact hcw hc'
  -- what a block's name is now
  have hof : ∀ b A, F.get b = some A → ((b, true) ∈ DD i ∧ G'.get b = some A ∧ rejoin ρ ρ' (NX i) (NX (i+1)) b = ρ' b) ∨ ((b, true) ∉ DD i ∧ HS.get b = some A ∧ rejoin ρ ρ' (NX i) (NX (i+1)) b = ρ b) := by
    intro b A hb
    rw [hF] at hb
    by_cases hw : (b, true) ∈ DD i
    · rw [if_pos hw, ← g2 b hw] at hb
      left
      refine ⟨hw, hb, ?_⟩
      obtain ⟨r, sz, obj, hp, _⟩ := hr'.blk b A hb
      rw [hp]; exact e2 b _ hp
    · rw [if_neg hw] at hb
      right
      refine ⟨hw, hb, ?_⟩
      obtain ⟨r, sz, obj, hp, _⟩ := hm.blk b A hb
      rw [hp]; exact e1 b _ hp
  refine ⟨putDst eS o.dst (X i), F, ?_⟩
  refine ⟨fun t => ?_, fun b => ?_, (hm.er.ext e1).put hdst (hx.ext e2), fun b A hb => ?_, fun b c A B r s t hb hc h1 h2 => ?_, fun b r s hb => ?_, fun b p hb => ?_, ?_, fun b hb => ?_, hm.glob.ext e1⟩
  · rw [putDst_get, h.slot_then hd ho, hm.slots]
  · rw [hF, h.block_then hd, hm.heap]
  · rcases hof b A hb with ⟨hw, h1, h2⟩ | ⟨hw, h1, h2⟩
    · obtain ⟨r, sz, obj, q1, q2, q3⟩ := hr'.blk b A h1
      exact ⟨r, sz, obj, by rw [h2]; exact q1, q2, q3.ext e2⟩
    · obtain ⟨r, sz, obj, q1, q2, q3⟩ := hm.blk b A h1
      exact ⟨r, sz, obj, by rw [h2]; exact q1, by rw [hrow b A r sz h1 hw q1]; exact q2, q3.ext e1⟩
  · rcases hof b A hb with ⟨hw, k1, k2⟩ | ⟨hw, k1, k2⟩ <;> rcases hof c B hc with ⟨hw', q1, q2⟩ | ⟨hw', q1, q2⟩ <;> rw [k2] at h1 <;> rw [q2] at h2
    · exact hr'.inj b c A B r s t k1 q1 h1 h2
    · exact (hapart b c B r s t hw h1 q1 hw' h2).elim
    · exact (hapart c b A r t s hw' h2 k1 hw h1).elim
    · exact hm.inj b c A B r s t k1 q1 h1 h2
  · unfold rejoin at hb
    split at hb
    · exact hr'.old b r s hb
    · exact Nat.lt_of_lt_of_le (hm.old b r s hb) hs'.size
  · unfold rejoin at hb
    split at hb
    · rename_i hh; exact .inr ⟨i, hi, by unfold also; rw [if_pos rfl], hh.1, hh.2⟩
    · rcases hm.supp b p hb with h1 | ⟨j, h1, h2, h3, h4⟩
      · exact .inl h1
      · exact .inr ⟨j, h1, by unfold also; split <;> first | rfl | exact h2, h3, h4⟩
  · have hstp : Stp ρ w (rejoin ρ ρ' (NX i) (NX (i+1))) w' (DD i) := by
      refine ⟨e1, hs'.os, hs'.tape, hs'.output, hs'.size, fun r hr hn => hs'.frame r hr fun b s hb hbr => hn b s hb (cut_ext ρ _ b _ hbr), fun b r s hb hb' => ?_⟩
      unfold rejoin at hb'
      split at hb'
      · rename_i hh
        exact (hs'.own b r s (cut_supp ρ _ b hh.1) hb').imp id fun ⟨c, t, hc, hcr⟩ => ⟨c, t, hc, cut_ext ρ _ c _ hcr⟩
      · rw [hb] at hb'; cases hb'
    exact (hm.stp.trans hstp).more fun y hy => by
      rcases List.mem_append.1 hy with hy | hy
      · exact hD y hy
      · exact hy
  · unfold rejoin
    rw [if_neg (by omega)]
    exact hm.low b hb
theorem Mid.step (ok : ν.Ok C.bd) (hpl : PlainOk C) (hc : CallOk C ν call) (h : RunR C call all bs E NX HH X DD) (hd : Due all bs S i) (hm : Mid ν n all E NX HH X DD ρ0 w0 D S ρ eS HS a w) {o : Oper} (ho : all[i]? = some o)
    (hl : LocAt (execOp C call (E i) o.op) (NX i) (HH i) (X i) (NX (i+1)) (HH (i+1)) (DD i)) {ρi : Nm} {wi : World} {ai : Act} (hv : HR ν ρi (NX i) (HH i) wi) (hve : ER ν ρi n (E i) ai) (hdst : ∀ d, o.dst = some d → d < n)
    (hg0 : ∀ g, g < nGlob → g < NX 0) (hD : ∀ y, y ∈ DD i → y ∈ D) {next : Act → World → Prop} {Q : Exit → Act → World → Prop}
    (hn : ∀ ρ' eS' HS' a' w', Mid ν n all E NX HH X DD ρ0 w0 D (also S i) ρ' eS' HS' a' w' → next a' w') : o.wp C.P a w next Q := by
  have hi := hd.lt
  have h0i : NX 0 ≤ NX i := h.mono (Nat.zero_le _) (Nat.le_of_lt hi)
  have hsupi : Supp ρi (NX i) := hv.new
  -- a name of the interval is free
  have hfree : ∀ b, NX i ≤ b → b < NX (i+1) → ρ b = none := by
    intro b h1 h2
    cases hb : ρ b with
    | none => rfl
    | some p =>
      rcases hm.supp b p hb with h3 | ⟨j, h3, h4, h5, h6⟩
      · omega
      · rcases Nat.lt_trichotomy j i with hlt | he | hgt
        · have := h.mono (show j + 1 ≤ i by omega) (Nat.le_of_lt hi); omega
        · subst he; rw [hd.no] at h4; cases h4
        · have := h.mono (show i + 1 ≤ j by omega) (Nat.le_of_lt h3); omega
  have hnow : ∀ b u, (b, u) ∈ DD i → HS.get b = (HH i).get b := fun b u hb => by rw [hm.heap]; exact h.block_now hd hb
  have hbound : ∀ b, NX all.length ≤ b → HS.get b = none := by
    intro b hb
    cases hA : HS.get b with
    | none => rfl
    | some A =>
      obtain ⟨r, sz, obj, hp, _⟩ := hm.blk b A hA
      rcases hm.supp b _ hp with h3 | ⟨j, h3, h4, h5, h6⟩
      · have := h.mono (Nat.zero_le all.length) (Nat.le_refl _); omega
      · have := h.mono (show j + 1 ≤ all.length by omega) (Nat.le_refl _); omega
  obtain ⟨G, hG⟩ := heap_keep (fun b => (DD i).any (fun y => y.1 == b) && decide (b < NX i)) hbound
  have hGt : ∀ b u, (b, u) ∈ DD i → b < NX i → G.get b = HS.get b := by
    intro b u hb hlt
    rw [hG, if_pos]
    rw [Bool.and_eq_true]
    exact ⟨List.any_eq_true.2 ⟨_, hb, by simp⟩, by simpa using hlt⟩
  have hGs : ∀ b A, G.get b = some A → HS.get b = some A ∧ b < NX i ∧ ∃ u, (b, u) ∈ DD i := by
    intro b A hb
    rw [hG] at hb
    split at hb
    · rename_i hp
      rw [Bool.and_eq_true] at hp
      obtain ⟨⟨c, u⟩, hy, he⟩ := List.any_eq_true.1 hp.1
      have he : c = b := by simpa using he
      subst he
      exact ⟨hb, by simpa using hp.2, u, hy⟩
    · cases hb
  have hclG : Cl (NX i) G := by
    intro b hb
    cases hA : G.get b with
    | none => rfl
    | some A => have := (hGs b A hA).2.1; omega
  have hHR : HR ν (cut ρ (NX i)) (NX i) G w := by
    refine ⟨fun b A hb => ?_, fun b c A B r s t hb hc' h1 h2 => ?_, cut_supp ρ _, fun b r s hb => hm.old b r s (cut_ext ρ _ b _ hb)⟩
    · obtain ⟨h1, h2, u, h3⟩ := hGs b A hb
      obtain ⟨r, sz, obj, k1, k2, k3⟩ := hm.blk b A h1
      obtain ⟨r1, sz1, obj1, q1, q2, q3⟩ := hv.blk b A (by rw [← hnow b u h3]; exact h1)
      exact ⟨r, sz, obj, by unfold cut; rw [if_pos h2]; exact k1, k2, q3.cut hsupi k3⟩
    · exact hm.inj b c A B r s t (hGs b A hb).1 (hGs c B hc').1 (cut_ext ρ _ b _ h1) (cut_ext ρ _ c _ h2)
  obtain ⟨G', g1, g2, g3⟩ := hl.loc G hclG fun b u hb hlt => by rw [hGt b u hb hlt, hnow b u hb]
  -- the slots that are looked at
  obtain ⟨ec, hec⟩ := pick_slots (H := eS) (looksA all o)
  have hslot : ∀ t, t ∈ looksA all o → eS.get t = (E i).get t := fun t ht => by rw [hm.slots]; exact h.slot_now hd ho ht
  have hER : ER ν (cut ρ (NX i)) n ec a := by
    refine ⟨hm.er.defers, hm.er.size, fun t x hx => ?_⟩
    rw [hec] at hx
    split at hx
    · rename_i ht
      have h1 := hm.er.slot t x hx
      have h2 := hve.slot t x (by rw [← hslot t ht]; exact hx)
      exact h2.cut hsupi h1
    · cases hx
  have hcong : execOp C call ec o.op = execOp C call (E i) o.op := by
    refine execOp_congr fun x hx => ?_
    cases x with
    | tmp t =>
      have ht : t ∈ looksA all o := List.mem_append_left _ (List.mem_filterMap.2 ⟨_, hx, rfl⟩)
      show ec.get t = (E i).get t
      rw [hec, if_pos ht, hslot t ht]
    | const v => rfl
    | global g => rfl
    | func f => rfl
  have hgl : Glob (cut ρ (NX i)) := by
    intro g hg
    obtain ⟨sz, hsz⟩ := hm.glob g hg
    refine ⟨sz, ?_⟩
    unfold cut
    rw [if_pos (Nat.lt_of_lt_of_le (hg0 g hg) h0i)]
    exact hsz
  have hrun : execOp C call ec o.op (fun x nx H L => Ans.ok x nx H L) (NX i) G [] = Ans.ok (X i) (NX (i+1)) G' (DD i ++ []) := by rw [hcong]; exact g1 _ _
  refine execOp_ok ok hpl hc hHR hgl hER (z := Ans.ok (X i) (NX (i+1)) G' (DD i ++ [])) (fun s hs => by cases hs) hrun next Q ?_
  intro x nx' H' D1 ρ' v w' hk hlow hx hr' hs'
  have hk : Ans.ok x nx' H' (D1 ++ []) = Ans.ok (X i) (NX (i+1)) G' (DD i ++ []) := hk
  rw [List.append_nil, List.append_nil] at hk
  injection hk with e1 e2 e3 e4
  subst e1; subst e2; subst e3; subst e4
  obtain ⟨eS', HS', hmid⟩ := Mid.next h hd hm ho hl hdst hD hfree hnow g2 hlow hx hr' hs'
  exact hn _ _ _ _ _ hmid
end
end Go.AM
namespace Go.AM
/-! # Soundness, part 34: a drawn region -/
section
variable {C : Cx} {ν : Vl} {call : Nat → List AV → M AV} {all : List Oper} {bs : List Nat} {E : Nat → T AV} {NX : Nat → Nat} {HH : Nat → T AB} {X : Nat → AV} {DD : Nat → Log} {S : Nat → Bool} {i n : Nat} {ρ0 : Nm} {w0 : World} {D : Log} {ρ : Nm} {eS : T AV} {HS : T AB} {a : Act} {w : World}
/-- an operation that is not wanted -/
theorem Mid.skip (h : RunR C call all bs E NX HH X DD) (hd : Due all bs S i) (hm : Mid ν n all E NX HH X DD ρ0 w0 D S ρ eS HS a w) {o : Oper} (ho : all[i]? = some o) (hx : X i = .tup []) (hD : DD i = [])
    (hdst : ∀ d, o.dst = some d → d < n) : Mid ν n all E NX HH X DD ρ0 w0 D (also S i) ρ (putDst eS o.dst (.tup [])) HS (a.put o.dst undef) w := by
  refine ⟨fun t => ?_, fun b => ?_, hm.er.put hdst VR_undef, hm.blk, hm.inj, hm.old, fun b p hb => ?_, hm.stp, hm.low, hm.glob⟩
  · rw [putDst_get, h.slot_then hd ho, hm.slots, hx]
  · rw [h.block_then hd, hm.heap, hD, if_neg (by simp)]
  · rcases hm.supp b p hb with h1 | ⟨j, h1, h2, h3, h4⟩
    · exact .inl h1
    · exact .inr ⟨j, h1, by unfold also; split <;> first | rfl | exact h2, h3, h4⟩
/-- a run in the text's order: there is one -/
theorem virt (ok : ν.Ok C.bd) (hpl : PlainOk C) (hc : CallOk C ν call) (h : RunR C call all bs E NX HH X DD) (hfit : all.all (opFit n) = true) (hr : HR ν ρ (NX 0) (HH 0) w) (hg : Glob ρ) (he : ER ν ρ n (E 0) a) :
    ∀ i, i ≤ all.length → ∃ ρi wi ai, HR ν ρi (NX i) (HH i) wi ∧ ER ν ρi n (E i) ai ∧ Glob ρi := by
  intro i
  induction i with
  | zero => intro _; exact ⟨ρ, w, a, hr, he, hg⟩
  | succ i ih =>
    intro hi
    obtain ⟨ρi, wi, ai, h1, h2, h3⟩ := ih (by omega)
    obtain ⟨o, ho⟩ := RunR.get (all := all) (i := i) (by omega)
    have hdst : ∀ d, o.dst = some d → d < n := by
      intro d hd
      have := List.all_eq_true.1 hfit o (List.mem_of_getElem? ho)
      unfold opFit at this
      rw [hd] at this
      exact Nat.le_of_ble_eq_true this
    have hs := h.step i o ho
    rcases hs.did with ⟨_, hl⟩ | ⟨_, hx, hn, hH, _⟩
    · have hrun : execOp C call (E i) o.op (fun x nx H L => Ans.ok x nx H L) (NX i) (HH i) [] = Ans.ok (X i) (NX (i+1)) (HH (i+1)) (DD i ++ []) := hl.runs _ _
      obtain ⟨x, nx', H', D1, ρ', v, w', hk, hlow, hv, hr', hs'⟩ := (execOp_ok ok hpl hc h1 h3 h2 (z := Ans.ok (X i) (NX (i+1)) (HH (i+1)) (DD i ++ [])) (fun s hs => by cases hs) hrun).outcome
      injection hk with e1 e2 e3 e4
      subst e1; subst e2; subst e3
      exact ⟨ρ', w', ai.put o.dst v, hr', by rw [hs.put]; exact (h2.ext hs'.ext).put hdst hv, h3.ext hs'.ext⟩
    · exact ⟨ρi, wi, ai.put o.dst undef, by rw [hn, hH]; exact h1, by rw [hs.put, hx]; exact h2.put hdst VR_undef, h3⟩
end
end Go.AM
namespace Go.AM
/-! # Soundness, part 35: a drawn region, whatever the order -/
section
variable {C : Cx} {ν : Vl} {call : Nat → List AV → M AV} {ops : Array Oper} {bs : List Nat} {E : Nat → T AV} {NX : Nat → Nat} {HH : Nat → T AB} {X : Nat → AV} {DD : Nat → Log} {n : Nat} {ρ0 : Nm} {w0 : World} {D : Log} {Q : Exit → Act → World → Prop}
theorem ready_mem {listed : Array Bool} {i : Nat} (h : i ∈ Region.ready .any ops listed) : i < ops.size ∧ listed.getD i true = false ∧ ∃ o, ops[i]? = some o ∧ ∀ e ∈ o.after.toList, Region.binds .any e = true → listed.getD e.on false = true := by
  unfold Region.ready at h
  rw [List.mem_filter, List.mem_range, Bool.and_eq_true] at h
  obtain ⟨h1, h2, h3⟩ := h
  refine ⟨h1, by simpa using h2, ?_⟩
  have ho : ops[i]? = some ops[i] := by simp [h1]
  rw [ho] at h3
  refine ⟨_, ho, fun e he hb => ?_⟩
  simp only [Option.map_some, Option.getD_some] at h3
  rw [Array.all_eq_true'] at h3
  have := h3 e (by simpa using he)
  rw [hb] at this
  simpa using this
theorem mem_ready' {listed : Array Bool} {i : Nat} {o : Oper} (h1 : i < ops.size) (h2 : listed.getD i true = false) (ho : ops[i]? = some o) (h3 : ∀ e ∈ o.after.toList, Region.binds .any e = true → listed.getD e.on false = true) : i ∈ Region.ready .any ops listed := by
  unfold Region.ready
  rw [List.mem_filter, List.mem_range, Bool.and_eq_true]
  refine ⟨h1, by simpa using h2, ?_⟩
  rw [ho]
  simp only [Option.map_some, Option.getD_some]
  rw [Array.all_eq_true']
  intro e he
  by_cases hb : Region.binds .any e = true
  · rw [hb, h3 e (by simpa using he) hb]; rfl
  · have : Region.binds .any e = false := by simpa using hb
    rw [this]; rfl
theorem getD_tf {listed : Array Bool} {m : Nat} (h : m < listed.size) : listed.getD m true = listed.getD m false := by
  simp [Array.getD_eq_getD_getElem?, h]
theorem any_ok (ok : ν.Ok C.bd) (hpl : PlainOk C) (hc : CallOk C ν call) (h : RunR C call ops.toList bs E NX HH X DD) (hrise : Rising ops.toList) (hjust : Just ops.toList bs) (hbs : bs.length = ops.toList.length) (hfit : ops.toList.all (opFit n) = true)
    (hvirt : ∀ i, i ≤ ops.toList.length → ∃ ρi wi ai, HR ν ρi (NX i) (HH i) wi ∧ ER ν ρi n (E i) ai ∧ Glob ρi) (hg0 : ∀ g, g < nGlob → g < NX 0) (hD : ∀ i y, i < ops.toList.length → y ∈ DD i → y ∈ D)
    (hQ : ∀ S ρ eS HS a w, (∀ m, m < ops.toList.length → S m = true) → Mid ν n ops.toList E NX HH X DD ρ0 w0 D S ρ eS HS a w → Q .normal a w) :
    ∀ (fuel : Nat) (listed : Array Bool) (U : List Nat) (ρ : Nm) (eS : T AV) (HS : T AB) (a : Act) (w : World), listed.size = ops.size → U.Nodup → U.length = fuel → (∀ m, m ∈ U ↔ m < ops.size ∧ listed.getD m true = false) →
      (∀ i j, i < ops.size → listed.getD i true = true → Nat.testBit (Bits bs i) j = true → listed.getD j true = true) → Mid ν n ops.toList E NX HH X DD ρ0 w0 D (fun m => listed.getD m true) ρ eS HS a w →
      wpAny C.P .any ops Q fuel listed a w := by
  intro fuel
  induction fuel with
  | zero =>
    intro listed U ρ eS HS a w hsz hU hlen hmem hclosed hm
    have hall : ∀ m, m < ops.size → listed.getD m true = true := by
      intro m hlt
      cases hb : listed.getD m true with
      | true => rfl
      | false =>
        have := (hmem m).2 ⟨hlt, hb⟩
        rw [List.eq_nil_of_length_eq_zero hlen] at this
        cases this
    refine ⟨?_, hQ _ _ _ _ _ _ (fun m hlt => hall m (by simpa using hlt)) hm⟩
    cases hr : Region.ready .any ops listed with
    | nil => rfl
    | cons i l =>
      have := ready_mem (ops := ops) (listed := listed) (i := i) (by rw [hr]; exact List.mem_cons_self ..)
      rw [hall i this.1] at this
      cases this.2.1
  | succ fuel ih =>
    intro listed U ρ eS HS a w hsz hU hlen hmem hclosed hm
    refine ⟨fun hnil => ?_, fun i hi => ?_⟩
    · exfalso
      have hno : ∀ k, k ∉ U := by
        intro k
        induction k using Nat.strongRecOn with
        | _ k ihk =>
          intro hk
          obtain ⟨h1, h2⟩ := (hmem k).1 hk
          have ho : ops[k]? = some ops[k] := by simp [h1]
          have : k ∈ Region.ready .any ops listed := mem_ready' h1 h2 ho fun e he hb => by
            have hlt := hrise k _ (by simp) e he hb
            rw [← getD_tf (by rw [hsz]; omega)]
            cases hv : listed.getD e.on true with
            | true => rfl
            | false => exact (ihk e.on hlt ((hmem _).2 ⟨by omega, hv⟩)).elim
          rw [hnil] at this; cases this
      cases U with
      | nil => cases hlen
      | cons k U => exact hno k (List.mem_cons_self ..)
    · obtain ⟨hlt, hun, o, ho, hedge⟩ := ready_mem hi
      have hoL : ops.toList[i]? = some o := by simpa using ho
      have hnb : ∀ m, listed.getD m true = false → Nat.testBit (Bits bs i) m = true → False := by
        intro m hm1 hm2
        obtain ⟨e, he, hb, hj⟩ := hjust i o (by rw [hbs]; simpa using hlt) hoL m hm2
        have hon := hrise i o hoL e he hb
        have hl1 : listed.getD e.on true = true := by rw [getD_tf (by rw [hsz]; omega)]; exact hedge e he hb
        rcases hj with hj | hj
        · subst hj; rw [hm1] at hl1; cases hl1
        · rw [hclosed e.on m (by omega) hl1 hj] at hm1; cases hm1
      have hdue : Due ops.toList bs (fun m => listed.getD m true) i := by
        refine ⟨by simpa using hlt, hun, fun m hmi hm1 => ⟨by omega, fun _ => ?_, fun hh => by omega⟩, fun m hmi hml hm1 => ⟨by omega, fun hh => by omega, fun _ => ?_⟩⟩
        · cases hb : Nat.testBit (Bits bs i) m with
          | false => rfl
          | true => exact (hnb m hm1 hb).elim
        · cases hb : Nat.testBit (Bits bs m) i with
          | false => rfl
          | true =>
            have := hclosed m i (by simpa using hml) hm1 hb
            rw [hun] at this; cases this
      have hdst : ∀ d, o.dst = some d → d < n := by
        intro d hd
        have := List.all_eq_true.1 hfit o (List.mem_of_getElem? hoL)
        unfold opFit at this
        rw [hd] at this
        exact Nat.le_of_ble_eq_true this
      have halso : (fun m => (listed.setIfInBounds i true).getD m true) = also (fun m => listed.getD m true) i := by
        funext m
        unfold also
        simp only [Array.getD_eq_getD_getElem?]
        by_cases hmi : m = i
        · subst hmi; rw [if_pos rfl]; simp [hsz, hlt]
        · rw [if_neg hmi, Array.getElem?_setIfInBounds_ne (Ne.symm hmi)]
      have goon : ∀ {ρ' eS' HS' a' w'}, Mid ν n ops.toList E NX HH X DD ρ0 w0 D (also (fun m => listed.getD m true) i) ρ' eS' HS' a' w' → wpAny C.P .any ops Q fuel (listed.setIfInBounds i true) a' w' := by
        intro ρ' eS' HS' a' w' hm'
        rw [← halso] at hm'
        have hget : ∀ m, (listed.setIfInBounds i true).getD m true = also (fun m => listed.getD m true) i m := fun m => congrFun halso m
        refine ih _ (U.erase i) ρ' eS' HS' a' w' (by simp [hsz]) (hU.erase i) ?_ ?_ ?_ hm'
        · rw [List.length_erase_of_mem ((hmem i).2 ⟨hlt, hun⟩), hlen]; rfl
        · intro m
          rw [hU.mem_erase_iff, hmem, hget]
          unfold also
          by_cases hmi : m = i
          · subst hmi; simp
          · rw [if_neg hmi]; simp [hmi]
        · intro p j hp hp1 hb
          rw [hget] at hp1 ⊢
          unfold also at hp1 ⊢
          by_cases hji : j = i
          · rw [if_pos hji]
          · rw [if_neg hji]
            by_cases hpi : p = i
            · subst hpi
              cases hv : listed.getD j true with
              | true => exact hv
              | false => exact (hnb j hv hb).elim
            · rw [if_neg hpi] at hp1
              exact hclosed p j hp hp1 hb
      -- the guard
      have hs := h.step i o hoL
      have hwant : ∀ b, WantA ops.toList (E i) o.guard b → Region.wanted o (yielded ops a.tmps) = b := by
        intro b hb
        unfold Region.wanted
        cases hgd : o.guard with
        | none => rw [hgd] at hb; have hb : b = true := hb; rw [hb]
        | some g =>
          rw [hgd] at hb
          have hb : yieldA ops.toList (E i) g = some b := hb
          have hb2 : yieldA ops.toList eS g = some b := by
            obtain ⟨p, hp, hb⟩ := ob_some hb
            obtain ⟨d, hd, hb⟩ := ob_some hb
            obtain ⟨x, hx, hb⟩ := ob_some hb
            have ht : d ∈ looksA ops.toList o := by
              refine List.mem_append_right _ ?_
              rw [hgd]
              rw [lget_eq] at hp
              simp only [hp, Option.bind_some, hd]
              simp
            have : eS.get d = some x := by rw [hm.slots, h.slot_now hdue hoL ht]; exact hx
            unfold yieldA
            rw [hp, ob_of, hd, ob_of, this, ob_of]
            exact hb
          exact yield_ok hm.er hb2
      unfold wpOp
      rw [ho]
      simp only
      rcases hs.did with ⟨hw, hl⟩ | ⟨hw, hx, hnx, hH, hDi⟩
      · rw [if_pos (hwant true hw)]
        obtain ⟨ρi, wi, ai, v1, v2, _⟩ := hvirt i (by simpa using Nat.le_of_lt hlt)
        exact .inl (Mid.step ok hpl hc h hdue hm hoL hl v1 v2 hdst hg0 (fun y => hD i y (by simpa using hlt)) (fun ρ' eS' HS' a' w' hm' => goon hm'))
      · rw [if_neg (by rw [hwant false hw]; simp)]
        exact goon (Mid.skip h hdue hm hoL hx hDi hdst)
end
end Go.AM
