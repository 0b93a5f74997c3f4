import Derived.Test.YtpgfdoakehpnlaaGreatDoorProg
import Derived.Test.YtpgfdoakehpnlaaGreatDoorAxH
import Derived.Test.YtpgfdoakehpnlaaGreatDoorAxK
set_option linter.unusedVariables false
set_option linter.unusedSimpArgs false
namespace Go.AM
open Go Go.Proofs
/-! # The program: closed facts -/
set_option maxRecDepth 100000 in
theorem fitAll : Tryz.prog.funcs.toList.all fnFit = true := by decide +kernel
theorem fitP : FitP Tryz.prog := by
  intro f fn h
  exact List.all_eq_true.1 fitAll fn (List.mem_of_getElem? (by simpa using h))
theorem mixed : Tryz.prog.follows .mixedOrders = true := by decide
end Go.AM
namespace Go.AM
/-! # Soundness, part 42: functions without arguments that make one block, always the same -/
/-- the same number, or known text? -/
def eqSS : SS → SS → Bool
  | [], [] => true
  | .lit l n :: s, .lit m k :: t => Nat.beq l m && (Nat.beq n k && eqSS s t)
  | _, _ => false
noncomputable def eqAt : AV → AV → Bool
  | .int k (.k n), .int j (.k m) => Nat.beq (kIx k) (kIx j) && ieq n m
  | .str s, .str t => eqSS s t
  | _, _ => false
noncomputable def eqRow : List AV → List AV → Bool
  | [], [] => true
  | x :: a, y :: b => eqAt x y && eqRow a b
  | _, _ => false
theorem eqSS_eq : ∀ {s t : SS}, eqSS s t = true → s = t := by
  intro s
  induction s with
  | nil => intro t h; cases t with
    | nil => rfl
    | cons _ _ => cases h
  | cons p s ih =>
    intro t h
    cases t with
    | nil => cases p <;> cases h
    | cons q t =>
      cases p <;> cases q <;> first | cases h; done | skip
      simp only [eqSS, Bool.and_eq_true] at h
      rw [Nat.eq_of_beq_eq_true h.1, Nat.eq_of_beq_eq_true h.2.1, ih h.2.2]
theorem eqAt_eq {x y : AV} (h : eqAt x y = true) : x = y ∧ ∀ (ν : Vl) (ρ ρ' : Nm) (v : Value), VR ν ρ x v → VR ν ρ' x v := by
  unfold eqAt at h
  split at h
  · rename_i k n j m
    rw [Bool.and_eq_true] at h
    obtain ⟨h1, h2⟩ := h
    rw [kIx_eq, beq_iff_eq] at h1
    rw [ieq_eq] at h2
    have h2 := of_decide_eq_true h2
    subst h1; subst h2
    exact ⟨rfl, fun ν ρ ρ' v h => h⟩
  · exact ⟨congrArg AV.str (eqSS_eq h), fun ν ρ ρ' v h => h⟩
  · cases h
theorem eqRow_eq : ∀ {a b : List AV}, eqRow a b = true → a = b ∧ ∀ (ν : Vl) (ρ ρ' : Nm) (v : List Value), VRs ν ρ a v → VRs ν ρ' a v := by
  intro a
  induction a with
  | nil => intro b h; cases b with
    | nil => exact ⟨rfl, fun _ _ _ _ h => h⟩
    | cons _ _ => cases h
  | cons x a ih =>
    intro b h
    cases b with
    | nil => cases h
    | cons y b =>
      simp only [eqRow, Bool.and_eq_true] at h
      obtain ⟨h1, h2⟩ := eqAt_eq h.1
      obtain ⟨h3, h4⟩ := ih h.2
      refine ⟨by rw [h1, h3], fun ν ρ ρ' v ⟨u, us, e, k1, k2⟩ => ⟨u, us, e, h2 _ _ _ _ k1, h4 _ _ _ _ k2⟩⟩
/-- nothing old was written -/
def newW (D : Log) : Bool := D.all fun x => Nat.ble 6 x.1 || !x.2
section
variable {C C0 : Cx} {ν : Vl} {ρ : Nm} {nx : Nat} {H : T AB} {L : Log} {w : World} {k : AV → Nat → T AB → Log → Ans} {z : Ans} {a : Act} {o : Oper}
theorem closed_ok (hP : C0.P = C.P) {call0 : Cll} (hc : CallOk C0 ν call0) {f : Nat} {ret : Nat → AV} {cs cs' : List AV} {b nx' : Nat} {H' : T AB} {D : Log}
    (hrun : call0 f [] fin 6 .leaf [] = .ok (ret b) nx' H' D) (hb : H'.get b = some (.row cs')) (hcs : eqRow cs' cs = true) (hD : newW D = true) (hb6 : 6 ≤ b)
    (hret : ∀ (ρ ρ2 : Nm) (b c : Nat) (v : Value), ρ b = ρ2 c → VR ν ρ (ret b) v → VR ν ρ2 (ret c) v)
    (hr : HR ν ρ nx H w) (hg : Glob ρ) (h : ((M.nw (.row cs)).bind fun b => M.ret (ret b)) k nx H L = z) : OpOk C ν ρ nx L w k z o a ((callFunc f ⟨[]⟩).run C.P w) := by
  obtain ⟨hcs, hpl⟩ := eqRow_eq hcs
  subst hcs
  let ρ0 : Nm := fun b => if b < 6 then ρ b else none
  have hr0 : HR ν ρ0 6 .leaf w := by
    refine ⟨fun b A hb => ?_, fun b c A B r s t hb => ?_, fun b hb => ?_, fun b r s hb => ?_⟩
    · rw [T.get_leaf] at hb; cases hb
    · rw [T.get_leaf] at hb; cases hb
    · exact if_neg (by omega)
    · by_cases h6 : b < 6
      · exact hr.old b r s (by simpa [ρ0, h6] using hb)
      · simp [ρ0, h6] at hb
  have hg0 : Glob ρ0 := fun g hgl => by
    obtain ⟨sz, e⟩ := hg g hgl
    exact ⟨sz, by have : g < 6 := hgl; simp [ρ0, this, e]⟩
  have hD0 : ∀ c r s, (c, true) ∈ D → ρ0 c ≠ some (r, s) := by
    intro c r s hc e
    have := List.all_eq_true.1 hD (c, true) hc
    simp at this
    have h6 : ¬ c < 6 := by omega
    simp [ρ0, h6] at e
  have hop := hc (o := o) (a := a) (k := fin) (z := .ok (ret b) nx' H' D) (L := []) hr0 hg0 (fun _ e => by cases e) VRs.mk0 hrun
  intro next Q hn
  rw [← hP]
  refine hop next Q ?_
  intro x nx1 H1 D1 ρ' v w' he hlow hv hr' hst
  have he : Ans.ok x nx1 H1 (D1 ++ []) = .ok (ret b) nx' H' D := he
  injection he with e1 e2 e3 e4
  rw [List.append_nil] at e4
  subst e1; subst e2; subst e3; subst e4
  obtain ⟨r, sz, obj, hp, hw, hbr⟩ := hr'.blk b _ hb
  have hnx : ρ nx = none := hr.new nx (Nat.le_refl _)
  have hnew : w.heap.size ≤ r := by
    rcases hst.own b r sz (by simp [ρ0]; omega) hp with h | ⟨c, t, h1, h2⟩
    · exact h
    · exact (hD0 c r t h1 h2).elim
  have hfr : ∀ q, q < w.heap.size → w'.heap[q]? = w.heap[q]? := fun q hq => hst.frame q hq fun c s hc => hD0 c q s hc
  have hlt : r < w'.heap.size := (Array.getElem?_eq_some_iff.1 hw).1
  have hext := upd_ext hnx (r, sz)
  refine hn (ret nx) (nx + 1) (H.put nx (some (.row cs'))) [(nx, true)] (upd ρ nx (r, sz)) v w' h ⟨Nat.le_succ _, fun c hc => by simp only [upd]; rw [if_neg (by omega)]⟩ (hret ρ' (upd ρ nx (r, sz)) b nx v (by rw [upd_same]; exact hp) hv) ?_ ?_
  · refine ⟨fun c A hA => ?_, fun c d A B q s t hA hB h1 h2 => ?_, fun c hc => ?_, fun c q s hq => ?_⟩
    · rw [T.get_put] at hA
      by_cases e : c = nx
      · subst e
        rw [if_pos rfl] at hA; cases hA
        obtain ⟨vs, k1, k2⟩ := hbr
        exact ⟨r, sz, obj, upd_same _ _ _, hw, vs, hpl _ _ _ _ k1, k2⟩
      · rw [if_neg e] at hA
        obtain ⟨q, s, ob, k1, k2, k3⟩ := hr.blk c A hA
        exact ⟨q, s, ob, hext _ _ k1, by rw [hfr q (hr.old _ _ _ k1)]; exact k2, k3.ext hext⟩
    · rw [T.get_put] at hA hB
      by_cases e : c = nx
      · by_cases e2 : d = nx
        · rw [e, e2]
        · rw [e, upd_same] at h1
          rw [if_neg e2] at hB
          simp only [upd, if_neg e2] at h2
          cases h1
          have := hr.old _ _ _ h2; omega
      · rw [if_neg e] at hA
        simp only [upd, if_neg e] at h1
        by_cases e2 : d = nx
        · rw [e2, upd_same] at h2
          cases h2
          have := hr.old _ _ _ h1; omega
        · rw [if_neg e2] at hB
          simp only [upd, if_neg e2] at h2
          exact hr.inj c d A B q s t hA hB h1 h2
    · simp only [upd]; rw [if_neg (by omega)]; exact hr.new c (by omega)
    · by_cases e : c = nx
      · rw [e, upd_same] at hq; cases hq; exact hlt
      · simp only [upd, if_neg e] at hq
        exact Nat.lt_of_lt_of_le (hr.old _ _ _ hq) hst.size
  · refine ⟨hext, hst.os, hst.tape, hst.output, hst.size, fun q hq _ => hfr q hq, fun c q s h1 h2 => ?_⟩
    by_cases e : c = nx
    · rw [e, upd_same] at h2; cases h2; exact .inl hnew
    · simp only [upd, if_neg e] at h2
      rw [h1] at h2; cases h2
end
end Go.AM
