import Derived.Test.YtpgfdoakehpnlaaGreatDoorAvL
import Derived.Test.YtpgfdoakehpnlaaGreatDoorAvP
import Derived.Test.YtpgfdoakehpnlaaGreatDoorAvQ
set_option linter.unusedVariables false
set_option linter.unusedSimpArgs false
namespace Go.AM
open Go Go.Proofs
set_option linter.unusedVariables false
/-! # The program: what stands in the place of texts -/
def plainL : List Nat := [7, 8, 36, 37, 49, 50, 73, 74, 83, 84, 133, 134, 155, 156, 165, 166, 170, 171, 212, 213, 237, 238, 357, 358, 380, 381, 391, 392, 424, 425, 431, 432]
set_option maxRecDepth 100000 in
theorem plainAll : plainL.all (fun t => !(Tryz.prog.stoodInHeld t)) = true := by decide +kernel
/-- the context, and the one without the two closed functions -/
noncomputable def CX (bd : Bd) : Cx := { P := Tryz.prog, bd, plain := plainL, ext := extB Tryz.prog }
noncomputable def CA : Cx := { P := Tryz.prog, bd := [], plain := plainL, ext := extA Tryz.prog }
noncomputable def CK : Cx := { P := Tryz.prog, bd := [], plain := plainL, ext := extK Tryz.prog }
theorem plainX (bd : Bd) : PlainOk (CX bd) := by
  intro t ht
  have := List.all_eq_true.1 plainAll t ht
  show Tryz.prog.stoodInHeld t = false
  simpa using this
theorem plainA : PlainOk CA := by
  intro t ht
  have := List.all_eq_true.1 plainAll t ht
  show Tryz.prog.stoodInHeld t = false
  simpa using this
theorem plainK : PlainOk CK := by
  intro t ht
  have := List.all_eq_true.1 plainAll t ht
  show Tryz.prog.stoodInHeld t = false
  simpa using this
theorem entry232 : Entry Tryz.prog 232 Extern.BytealgIndexByte.indexByte := ⟨_, Tryz.func232, by kernel_rfl, by kernel_rfl, by kernel_rfl, by kernel_rfl⟩
theorem entry342 : Entry Tryz.prog 342 Extern.BytealgCount.count := ⟨_, Tryz.func342, by kernel_rfl, by kernel_rfl, by kernel_rfl, by kernel_rfl⟩
theorem body211 : hasBody Tryz.prog 211 = true := by kernel_rfl
theorem body323 : hasBody Tryz.prog 323 = true := by kernel_rfl
section
variable {ν : Vl}
theorem extK_case {C : Cx} (hP : C.P = Tryz.prog) {bd : Bd} {call : Cll} {f : Nat} {args : List AV} {m : M AV} {ρ : Nm} {nx : Nat} {H : T AB} {L : Log} {w : World} {k : AV → Nat → T AB → Log → Ans} {z : Ans} {vs : List Value} {o : Oper} {a : Act}
    (hc : CallOk C ν call) (he : extK Tryz.prog bd call f args = some m) (hr : HR ν ρ nx H w) (hg : Glob ρ) (hz : Yes z) (hv : VRs ν ρ args vs) (h : m k nx H L = z) : OpOk C ν ρ nx L w k z o a ((callFunc f ⟨vs⟩).run C.P w) := by
  have hfit : FitP C.P := by rw [hP]; exact fitP
  unfold extK at he
  split at he
  · obtain ⟨h1, he⟩ := bc_some he
    cases he
    exact ext_index (by rw [hP]; exact entry232) hr (Nat.le_of_ble_eq_true h1) hv h
  · cases he
    exact ext_index0 (by rw [hP]; exact entry232) hr hv h
  · obtain ⟨h1, he⟩ := bc_some he
    cases he
    exact ext_count (by rw [hP]; exact entry342) hr (Nat.le_of_ble_eq_true h1) hv h
  · cases he
    exact ext_count0 (by rw [hP]; exact entry342) hr hv h
  · obtain ⟨h1, he⟩ := bc_some he
    cases he
    exact ext_guard hP hfit hc (by rw [hP]; exact h1) hr hg hz hv h
  · cases he
    exact ext_insert hfit (by rw [hP]; exact insOk211) (by rw [hP]; exact body211) hr hg hz hv h
  · cases he
    exact ext_insert hfit (by rw [hP]; exact insOk323) (by rw [hP]; exact body323) hr hg hz hv h
  · cases he
end
/-- a context of this program, with the one table of answers or the other -/
structure IsC (C : Cx) (ext : Program → Bd → Cll → Nat → List AV → Option (M AV)) : Prop where
  P : C.P = Tryz.prog
  ext : ∀ call f args, C.ext C.bd call f args = ext Tryz.prog C.bd call f args
  plain : PlainOk C
section
variable {ν : Vl} {C : Cx}
theorem extOkK (h : IsC C extK) : ExtOk C ν := fun hc he hr hg hz hv hm => extK_case h.P hc ((h.ext _ _ _).symm.trans he) hr hg hz hv hm
theorem locXK (h : IsC C extK) : LocX C := fun hc he => loc_extK hc ((h.ext _ _ _).symm.trans he)
theorem callK (h : IsC C extK) (ok : ν.Ok C.bd) (m : Nat) : CallOk C ν (callN C m) := callN_all ok h.plain (by rw [h.P]; exact fitP) (by rw [h.P]; exact mixed) (extOkK h) (locXK h) m
end
theorem isK : IsC CK extK := ⟨rfl, fun _ _ _ => rfl, plainK⟩
theorem isX (bd : Bd) : IsC (CX bd) extB := ⟨rfl, fun _ _ _ => rfl, plainX bd⟩
theorem isA : IsC CA extA := ⟨rfl, fun _ _ _ => rfl, plainA⟩
/-! ## the two closed functions, run once -/
noncomputable def rowIs (H : T AB) (b : Nat) (cs : List AV) : Bool := match H.get b with
  | some (.row cs') => eqRow cs' cs
  | _ => false
noncomputable def chkSl (l z : Nat) (cs : List AV) : Ans → Bool
  | .ok (.sl b (.k 0) (.k (.ofNat n)) (.ge (.k (.ofNat c))) z') _ H D => Nat.beq n l && (Nat.beq c l && (Nat.beq z' z && (Nat.ble 6 b && (rowIs H b cs && newW D))))
  | _ => false
noncomputable def chkPtr (cs : List AV) : Ans → Bool
  | .ok (.ptr b (.k 0)) _ H D => Nat.ble 6 b && (rowIs H b cs && newW D)
  | _ => false
theorem rowIs_spec {H : T AB} {b : Nat} {cs : List AV} (h : rowIs H b cs = true) : ∃ cs', H.get b = some (.row cs') ∧ eqRow cs' cs = true := by
  unfold rowIs at h
  split at h
  · rename_i cs' e; exact ⟨cs', e, h⟩
  · cases h
theorem chkSl_spec {l z : Nat} {cs : List AV} {A : Ans} (h : chkSl l z cs A = true) : ∃ b nx H D cs', A = .ok (.sl b (.k 0) (.k (.ofNat l)) (.ge (.k (.ofNat l))) z) nx H D ∧ H.get b = some (.row cs') ∧ eqRow cs' cs = true ∧ newW D = true ∧ 6 ≤ b := by
  unfold chkSl at h
  split at h
  · rename_i b n c z' nx H D
    simp only [Bool.and_eq_true] at h
    obtain ⟨h1, h2, h3, h4, h5, h6⟩ := h
    obtain ⟨cs', h7, h8⟩ := rowIs_spec h5
    have h1 := Nat.eq_of_beq_eq_true h1
    have h2 := Nat.eq_of_beq_eq_true h2
    have h3 := Nat.eq_of_beq_eq_true h3
    subst h1; subst h2; subst h3
    exact ⟨b, nx, H, D, cs', rfl, h7, h8, h6, Nat.le_of_ble_eq_true h4⟩
  · cases h
theorem chkPtr_spec {cs : List AV} {A : Ans} (h : chkPtr cs A = true) : ∃ b nx H D cs', A = .ok (.ptr b (.k 0)) nx H D ∧ H.get b = some (.row cs') ∧ eqRow cs' cs = true ∧ newW D = true ∧ 6 ≤ b := by
  unfold chkPtr at h
  split at h
  · rename_i b nx H D
    simp only [Bool.and_eq_true] at h
    obtain ⟨h4, h5, h6⟩ := h
    obtain ⟨cs', h7, h8⟩ := rowIs_spec h5
    exact ⟨b, nx, H, D, cs', rfl, h7, h8, h6, Nat.le_of_ble_eq_true h4⟩
  · cases h
theorem extInK : ExtIn CK extIsK := by
  intro f hf call args
  show extK Tryz.prog [] call f args = none
  have h : f ≠ 232 ∧ f ≠ 342 ∧ f ≠ 304 ∧ f ≠ 211 ∧ f ≠ 323 := by
    refine ⟨?_, ?_, ?_, ?_, ?_⟩ <;> (intro h; subst h; revert hf; decide)
  obtain ⟨h1, h2, h3, h4, h7⟩ := h
  unfold extK
  split <;> first | rfl | exact (h1 rfl).elim | exact (h2 rfl).elim | exact (h3 rfl).elim | exact (h4 rfl).elim | exact (h7 rfl).elim
set_option maxRecDepth 100000 in
theorem run186 : chkSl 61 2 row186 (callG CK extIsK 1000 186 [] fin 6 .leaf []) = true := by kernel_rfl
set_option maxRecDepth 100000 in
theorem run299 : chkPtr row299 (callG CK extIsK 1000 299 [] fin 6 .leaf []) = true := by kernel_rfl
theorem ext_within {C : Cx} {ν : Vl} {ρ : Nm} {nx : Nat} {H : T AB} {L : Log} {w : World} {k : AV → Nat → T AB → Log → Ans} {z : Ans} {vs : List Value} {o : Oper} {a : Act} (hP : C.P = Tryz.prog) {n lo hi : Int} {v : List (Nat × Int)} {x : AV}
    (hr : HR ν ρ nx H w) (hv : VRs ν ρ [.int .i64 (.lin n v), .int .i64 (.k lo), .int .i64 (.k hi)] vs) (hx : withinS n v lo hi = some x) (h : (M.ret x : M AV) k nx H L = z) : OpOk C ν ρ nx L w k z o a ((callFunc 12 ⟨vs⟩).run C.P w) := by
  obtain ⟨v1, l1, rfl, e1, h1⟩ := hv.cons
  obtain ⟨v2, l2, rfl, e2, h2⟩ := h1.cons
  obtain ⟨v3, l3, rfl, e3, h3⟩ := h2.cons
  cases h3.nil
  have e1 : v1 = .int .i64 (n + linD ν v) := e1
  have e2 : v2 = .int .i64 lo := e2
  have e3 : v3 = .int .i64 hi := e3
  subst e1; subst e2; subst e3
  unfold withinS at hx
  obtain ⟨k1, hx⟩ := bc_some hx
  obtain ⟨k2, hx⟩ := bc_some hx
  cases hx
  simp only [Bool.and_eq_true, decide_eq_true_eq] at k2
  obtain ⟨q, hq⟩ := linD_dvd (ν := ν) k1
  rw [hP, hasBody_run fitP (by kernel_rfl)]
  intro next Q hn
  rw [Oper.upon_enter, hP]
  refine (within_any _ lo hi w k2.1 k2.2.1 k2.2.2).mono ?_
  rintro e w' ⟨rfl, rfl⟩
  refine hn _ nx H [] ρ _ w' h .refl ?_ hr (.refl _ _ _)
  show Value.int .i64 _ = .int .i64 (lo + n % (hi - lo + 1))
  rw [hq, Int.add_mul_emod_self_left]
section
variable {ν : Vl} {C : Cx}
theorem okK : ν.Ok ([] : Bd) := fun i lo hi h => by rw [lget_eq] at h; simp at h
set_option maxRecDepth 100000 in
theorem extA_case (hP : C.P = Tryz.prog) {bd : Bd} {call : Cll} {f : Nat} {args : List AV} {m : M AV} {ρ : Nm} {nx : Nat} {H : T AB} {L : Log} {w : World} {k : AV → Nat → T AB → Log → Ans} {z : Ans} {vs : List Value} {o : Oper} {a : Act}
    (hc : CallOk C ν call) (he : extA Tryz.prog bd call f args = some m) (hr : HR ν ρ nx H w) (hg : Glob ρ) (hz : Yes z) (hv : VRs ν ρ args vs) (hm : m k nx H L = z) : OpOk C ν ρ nx L w k z o a ((callFunc f ⟨vs⟩).run C.P w) := by
  unfold extA at he
  split at he
  · cases he
    cases hv.nil
    obtain ⟨b, nx', H', D, cs', h1, h2, h3, h4, h5⟩ := chkSl_spec run186
    rw [callG_eq CK extInK] at h1
    exact closed_ok (C0 := CK) (C := C) (isK.P.trans hP.symm) (callK isK okK 1000) (ret := fun b => .sl b (.k 0) (.k (.ofNat 61)) (.ge (.k (.ofNat 61))) 2) h1 h2 h3 h4 h5 (fun ρ ρ2 b c v e hv => by
      obtain ⟨r, sz, o, n, cc, k1, k2⟩ := hv
      exact ⟨r, sz, o, n, cc, e ▸ k1, k2⟩) hr hg hm
  · cases he
    cases hv.nil
    obtain ⟨b, nx', H', D, cs', h1, h2, h3, h4, h5⟩ := chkPtr_spec run299
    rw [callG_eq CK extInK] at h1
    exact closed_ok (C0 := CK) (C := C) (isK.P.trans hP.symm) (callK isK okK 1000) (ret := fun b => .ptr b (.k 0)) h1 h2 h3 h4 h5 (fun ρ ρ2 b c v e hv => by
      obtain ⟨r, sz, o, k1, k2⟩ := hv
      exact ⟨r, sz, o, e ▸ k1, k2⟩) hr hg hm
  · obtain ⟨x, hx, he⟩ := ob_some he
    cases he
    exact ext_within hP hr hv hx hm
  · exact extK_case hP hc he hr hg hz hv hm
theorem extOkA (h : IsC C extA) : ExtOk C ν := fun hc he hr hg hz hv hm => extA_case h.P hc ((h.ext _ _ _).symm.trans he) hr hg hz hv hm
theorem locXA (h : IsC C extA) : LocX C := fun hc he => loc_extA hc ((h.ext _ _ _).symm.trans he)
theorem callA (h : IsC C extA) (ok : ν.Ok C.bd) (m : Nat) : CallOk C ν (callN C m) := callN_all ok h.plain (by rw [h.P]; exact fitP) (by rw [h.P]; exact mixed) (extOkA h) (locXA h) m
end
/-! ## awake, run once -/
noncomputable def H0 : T AB := T.leaf.put 0 (some (.row (powZ.map fun n => .int .u64 (.k n))))
theorem pow_VRs (ν : Vl) (ρ : Nm) : ∀ l : List Int, VRs ν ρ (l.map fun n => .int .u64 (.k n)) (l.map fun n => .int .u64 n) := by
  intro l
  induction l with
  | nil => exact VRs.mk0
  | cons n l ih => exact VRs.mk rfl ih
theorem H0_get {b : Nat} {A : AB} (hA : H0.get b = some A) : b = 0 ∧ A = .row (powZ.map fun n => .int .u64 (.k n)) := by
  unfold H0 at hA
  rw [T.get_put] at hA
  by_cases e : b = 0
  · rw [if_pos e] at hA; cases hA; exact ⟨e, rfl⟩
  · rw [if_neg e, T.get_leaf] at hA; cases hA
theorem powEq_eq : ∀ {l : List Int} {cs : List AV}, powEq l cs = true → cs = l.map fun n => .int .u64 (.k n) := by
  intro l
  induction l with
  | nil => intro cs h; cases cs with
    | nil => rfl
    | cons _ _ => cases h
  | cons n l ih =>
    intro cs h
    unfold powEq at h
    split at h
    · cases ‹(n :: l : List Int) = []›
    · rename_i n' l' m cs' e
      cases e
      cases hq : ieq n m with
      | false => rw [hq] at h; cases h
      | true =>
        rw [hq] at h
        rw [ieq_eq] at hq
        have := of_decide_eq_true hq
        subst this
        rw [ih h]; rfl
    · cases h
/-- it answers true, and has written to nothing old -/
noncomputable def chkT : Ans → Bool
  | .ok (.bool true) _ _ D => newW D
  | _ => false
theorem chkT_spec {A : Ans} (h : chkT A = true) : ∃ nx H D, A = .ok (.bool true) nx H D ∧ newW D = true := by
  unfold chkT at h
  split at h
  · rename_i nx H D; exact ⟨nx, H, D, rfl, h⟩
  · cases h
set_option maxRecDepth 100000 in
theorem runAwake : chkT (callF CA 1000 10 [] fin 6 H0 []) = true := by kernel_rfl
section
variable {ν : Vl} {C : Cx} {ρ : Nm} {nx : Nat} {H : T AB} {L : Log} {w : World} {k : AV → Nat → T AB → Log → Ans} {z : Ans} {a : Act} {o : Oper}
theorem inA : ExtIn CA extIs := fun f hf call args => (isA.ext call f args).trans (extA_none hf call args)
set_option maxRecDepth 100000 in
theorem ext_awake (hP : C.P = Tryz.prog) (hr : HR ν ρ nx H w) (hg : Glob ρ) (hz : Yes z) (h : ((M.rd 0).bind fun A => M.lift "awake" (awk A)) k nx H L = z) : OpOk C ν ρ nx L w k z o a ((callFunc 10 ⟨[]⟩).run C.P w) := by
  obtain ⟨A, hA, h'⟩ := rd_ok hz h
  obtain ⟨x, hx, h''⟩ := lift_ok hz h'
  clear h' h
  have hrow : A = .row (powZ.map fun n => .int .u64 (.k n)) ∧ x = .bool true := by
    unfold awk at hx
    split at hx
    · obtain ⟨h1, h2⟩ := bc_some hx
      cases h2
      exact ⟨by rw [powEq_eq h1], rfl⟩
    · cases hx
  obtain ⟨rfl, rfl⟩ := hrow
  let ρ0 : Nm := fun b => if b < 6 then ρ b else none
  have hr0 : HR ν ρ0 6 H0 w := by
    refine ⟨fun b A hb => ?_, fun b c A B r s t hb hc _ _ => ?_, fun b hb => if_neg (by omega), fun b r s hb => ?_⟩
    · obtain ⟨rfl, rfl⟩ := H0_get hb
      obtain ⟨r, sz, obj, k1, k2, vs, k3, k4⟩ := hr.blk 0 _ hA
      have : vs = powZ.map fun n => .int .u64 n := by
        clear k4
        revert vs
        generalize powZ = l
        induction l with
        | nil => intro vs k3; exact k3.nil
        | cons n l ih =>
          intro vs k3
          obtain ⟨v, vs', rfl, e1, e2⟩ := k3.cons
          have e1 : v = .int .u64 n := e1
          rw [e1, ih vs' e2]; rfl
      subst this
      exact ⟨r, sz, obj, by simpa [ρ0] using k1, k2, _, pow_VRs ν ρ0 powZ, k4⟩
    · rw [(H0_get hb).1, (H0_get hc).1]
    · by_cases h6 : b < 6
      · exact hr.old b r s (by simpa [ρ0, h6] using hb)
      · simp [ρ0, h6] at hb
  have hg0 : Glob ρ0 := fun g hgl => by
    obtain ⟨sz, e⟩ := hg g hgl
    exact ⟨sz, by have : g < 6 := hgl; simp [ρ0, this, e]⟩
  obtain ⟨nx1, H1, D1, hrun, hD⟩ := chkT_spec runAwake
  rw [callF_eq CA inA] at hrun
  have hD0 : ∀ c r s, (c, true) ∈ D1 → ρ0 c ≠ some (r, s) := by
    intro c r s hc e
    have := List.all_eq_true.1 hD (c, true) hc
    simp at this
    have h6 : ¬ c < 6 := by omega
    simp [ρ0, h6] at e
  have hop := @callA ν CA isA okK 1000 ρ0 6 H0 [] w fin (.ok (.bool true) nx1 H1 D1) 10 [] [] o a hr0 hg0 (fun _ e => by cases e) VRs.mk0 hrun
  intro next Q hn
  rw [hP, ← isA.P]
  refine hop next Q ?_
  intro y nx2 H2 D2 ρ' v w' he hlow hv hr' hst
  have he : Ans.ok y nx2 H2 (D2 ++ []) = .ok (.bool true) nx1 H1 D1 := he
  injection he with e1 e2 e3 e4
  rw [List.append_nil] at e4
  subst e1; subst e4
  have hfr : ∀ q, q < w.heap.size → w'.heap[q]? = w.heap[q]? := fun q hq => hst.frame q hq fun c s hc => hD0 c q s hc
  refine hn (.bool true) nx H [(0, false)] ρ v w' h'' .refl hv ?_ ⟨.refl ρ, hst.os, hst.tape, hst.output, hst.size, fun q hq _ => hfr q hq, fun b r s h1 h2 => by rw [h1] at h2; cases h2⟩
  refine ⟨fun c B hB => ?_, hr.inj, hr.new, fun b r s hb => Nat.lt_of_lt_of_le (hr.old b r s hb) hst.size⟩
  obtain ⟨r, s, ob, k1, k2, k3⟩ := hr.blk c B hB
  exact ⟨r, s, ob, k1, by rw [hfr r (hr.old _ _ _ k1)]; exact k2, k3⟩
theorem extOkB (h : IsC C extB) : ExtOk C ν := by
  intro call f args m ρ nx H L w k z vs o a hc he hr hg hz hv hm
  have he := (h.ext _ _ _).symm.trans he
  unfold extB at he
  split at he
  · cases he
    cases hv.nil
    exact ext_awake h.P hr hg hz hm
  · exact extA_case h.P hc he hr hg hz hv hm
theorem locXB (h : IsC C extB) : LocX C := fun hc he => loc_extB hc ((h.ext _ _ _).symm.trans he)
theorem callB (h : IsC C extB) (ok : ν.Ok C.bd) (m : Nat) : CallOk C ν (callN C m) := callN_all ok h.plain (by rw [h.P]; exact fitP) (by rw [h.P]; exact mixed) (extOkB h) (locXB h) m
noncomputable def extIsB (f : Nat) : Bool := bc (Nat.beq f 10) true (extIs f)
theorem inB (bd : Bd) : ExtIn (CX bd) extIsB := by
  intro f hf call args
  refine ((isX bd).ext call f args).trans ?_
  have h10 : f ≠ 10 := by intro e; subst e; cases hf
  have h2 : extIs f = false := by
    unfold extIsB at hf
    cases h : Nat.beq f 10 with
    | true => rw [h] at hf; cases hf
    | false => rw [h] at hf; exact hf
  unfold extB
  split
  · exact (h10 rfl).elim
  · exact extA_none h2 call _
set_option maxRecDepth 100000 in
/-- THE SOUNDNESS: the quick form, run by the kernel, tells what a call does -/
theorem callX (bd : Bd) (ok : ν.Ok bd) (m : Nat) : CallOk (CX bd) ν (callG (CX bd) extIsB m) := by
  rw [callG_eq (CX bd) (inB bd) m]
  exact @callB ν (CX bd) (isX bd) ok m
end
end Go.AM
