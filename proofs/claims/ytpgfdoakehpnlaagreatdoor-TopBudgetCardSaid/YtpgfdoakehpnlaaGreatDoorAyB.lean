import Derived.Test.YtpgfdoakehpnlaaGreatDoorAyA
import Derived.Deep.Slices
set_option linter.unusedVariables false
set_option linter.unusedSimpArgs false
namespace Go.AM
open Go Go.Proofs
set_option linter.unusedVariables false
/-! # TopBudget: a round -/
/-- what is looked at in a state -/
noncomputable def staFit (i : Nat) (s : Sta) : Bool := bc (Nat.ble 8 s.nx) (bc (s.H.all fun p => topB i p.2) (s.e.all fun p => bc (Nat.beq p.1 80) false (bc (Nat.beq p.1 81) false true)) false) false
noncomputable def hdFit (s : Sta) : Bool := s.e.all fun p => Nat.ble p.1 99
theorem staFit_of {i : Nat} {s : Sta} (h : staFit i s = true) : 8 ≤ s.nx ∧ s.H.all (fun p => topB i p.2) = true ∧ (s.e.all fun p => bc (Nat.beq p.1 80) false (bc (Nat.beq p.1 81) false true)) = true := by
  obtain ⟨h1, h⟩ := bc2 h
  obtain ⟨h2, h3⟩ := bc2 h
  exact ⟨Nat.le_of_ble_eq_true h1, h2, h3⟩
theorem staFit_mk {i : Nat} {s : Sta} (h1 : 8 ≤ s.nx) (h2 : s.H.all (fun p => topB i p.2) = true) (h3 : (s.e.all fun p => bc (Nat.beq p.1 80) false (bc (Nat.beq p.1 81) false true)) = true) : staFit i s = true := by
  unfold staFit
  rw [h2, h3, show Nat.ble 8 s.nx = true from Nat.ble_eq_true_of_le h1]; rfl
theorem nilE_1 (p : Nat × AV) : (nilE p).1 = p.1 := by
  unfold nilE
  cases h : Nat.beq p.1 2 with
  | true => exact (Nat.eq_of_beq_eq_true h).symm
  | false => rfl
theorem staFit_nil {i : Nat} {s : Sta} (h : staFit i s = true) : staFit i (nilS s) = true := by
  obtain ⟨h1, h2, h3⟩ := staFit_of h
  refine staFit_mk h1 ?_ ?_
  · exact h2
  · show (s.e.map nilE).all _ = true
    rw [List.all_eq_true] at h3 ⊢
    intro p hp
    obtain ⟨q, hq, rfl⟩ := List.mem_map.1 hp
    rw [nilE_1]; exact h3 q hq
theorem staFit_nilB {i : Nat} {s : Sta} {nil : Bool} (h : staFit i s = true) : staFit i (nilB nil s) = true := by
  cases nil with
  | true => exact staFit_nil h
  | false => exact h
theorem topB_z (i j : Nat) (A : AB) : topB i (zAB j A) = topB i A := by cases A <;> rfl
theorem staFit_zero {i j : Nat} {s : Sta} (h : staFit i s = true) : staFit i (zeroS j s) = true := by
  obtain ⟨h1, h2, h3⟩ := staFit_of h
  refine staFit_mk h1 ?_ ?_
  · show (s.H.map fun p => (p.1, zAB j p.2)).all _ = true
    rw [List.all_eq_true] at h2 ⊢
    intro p hp
    obtain ⟨q, hq, rfl⟩ := List.mem_map.1 hp
    show topB i (zAB j q.2) = true
    rw [topB_z]; exact h2 q hq
  · show (s.e.map fun p => (p.1, zAV j p.2)).all _ = true
    rw [List.all_eq_true] at h3 ⊢
    intro p hp
    obtain ⟨q, hq, rfl⟩ := List.mem_map.1 hp
    exact h3 q hq
theorem noneAt {i k : Nat} {s : Sta} (h : staFit i s = true) (hk : k = 80 ∨ k = 81) : (mkT (outE s.e)).get k = none := by
  obtain ⟨_, _, h3⟩ := staFit_of h
  cases hg : (mkT (outE s.e)).get k with
  | none => rfl
  | some x =>
    have := List.all_eq_true.1 h3 _ (List.mem_filter.1 (mkT_get hg)).1
    rcases hk with rfl | rfl <;> cases this
theorem outE_self {s : Sta} (h : hdFit s = true) : outE s.e = s.e := List.filter_eq_self.2 fun p hp => List.all_eq_true.1 h p hp
theorem hdFit_nilB {s : Sta} {nil : Bool} (h : hdFit s = true) : hdFit (nilB nil s) = true := by
  cases nil with
  | false => exact h
  | true =>
    show (s.e.map nilE).all _ = true
    unfold hdFit at h
    rw [List.all_eq_true] at h ⊢
    intro p hp
    obtain ⟨q, hq, rfl⟩ := List.mem_map.1 hp
    rw [nilE_1]; exact h q hq
/-- the runs of a round -/
structure Runs (i : Nat) (s m s' : Sta) : Prop where
  p1 : ∀ known hit, (hit = true → known = true) → (i = 0 → known = false) → part1B i known hit s m = true ∧ part1S i known hit false s m = true ∧ part1S i known hit true s m = true
  p2 : ∀ size nil, size ≤ 4 → (nil = true → 3 ≤ size) → part2B i size nil m s' = true
  fm : staFit i m = true
  fs : staFit i s' = true
  hs : hdFit s' = true
section
variable {D : Dat} {W : World} {ρ0 ρ : Nm} {a : Act} {w : World} {Q : Exit → Act → World → Prop}
/-- at the loop's head -/
def HS (W : World) (ρ0 : Nm) (D : Dat) (s : Sta) (ρ : Nm) (a : Act) (w : World) : Prop := SW (nuD D) W ρ0 ρ0 n6 (mkT s.e) s.nx (mkT s.H) [] ρ a w
theorem sz_short (h : D.sn ≤ D.i) : D.sz D.i = 0 := by unfold Dat.sz; rw [if_neg (by omega)]
theorem size_le (D : Dat) : D.size ≤ 4 := by
  unfold Dat.size
  split
  · split <;> omega
  · split
    · omega
    · split <;> omega
/-- behind a round's second part -/
structure Beh (D Dm : Dat) : Prop where
  mid : Dm.Mid
  same : SameA D Dm
  i : Dm.i = D.i
  first : Dm.i = 0 → Dm.ds = [Dm.cur]
theorem SameA.trans {A B C : Dat} (h : SameA A B) (k : SameA B C) : SameA A C := ⟨k.bI.trans h.bI, k.ln.trans h.ln, k.lp.trans h.lp, k.sn.trans h.sn, k.sp.trans h.sp, fun j hj => (k.q j hj).trans (h.q j hj)⟩
theorem roundB (h0 : ∀ b, 8 ≤ b → ρ0 b = none) (hMm : Mem W ρ0 D) (hD : D.Head) {nil : Bool} {s m s' : Sta} (hr : Runs D.i s m s') (hl : D.i < D.ln) (hl2 : (D.ln : Int) ≤ bBig) (hs2 : (D.sn : Int) ≤ bBig) (hnil : nil = true → D.sn = 0) (hs : HS W ρ0 D (nilB nil s) ρ a w)
    (hnext : ∀ Dm e nx H L ρ' a' w', Beh D Dm → told (bdX Dm.i (bx2 Dm.i Dm.size)) (qTop (Nat.succ Dm.i) 1) ⟨Dm.i, true, true, Nat.ble 3 Dm.size, bc (Nat.beq Dm.size 0) true (Nat.beq Dm.size 3), 2, 0⟩ (nilB nil s') e .leaf nx H = true → newW8 L = true → SW (nuD Dm) W ρ0 ρ0 n6 e nx H L ρ' a' w' → Q .normal a' w') :
    c6B.wp Tryz.prog Q a w := by
  have hG := hD.good
  -- what comes behind the first part
  have key : ∀ (bd : Bd) (c : TC), (nuD D).Ok bd → c.i = D.i → c.mode = 1 → (c.known = true → D.known = true) → (c.hit = false → D.found = false) → (c.zero = true → D.sz D.i = 0) →
      ∀ e f nx H L ρ' a6 a33 w', told bd (qTop D.i 2) c (bc (Nat.ble 3 D.size) (zeroS D.i (nilB nil m)) m) e f nx H = true → newW8 L = true → SW (nuD D) W ρ0 ρ0 n6 e nx H L ρ' a6 w' → SW (nuD D) W ρ0 ρ0 n33 f nx H L ρ' a33 w' → Rest Q a6 a33 w' := by
    intro bd c ok ci cm ck ch cz e f nx H L ρ' a6 a33 w' ht hL h6 h33
    have hfm : staFit D.i (bc (Nat.ble 3 D.size) (zeroS D.i (nilB nil m)) m) = true := by
      cases Nat.ble 3 D.size with
      | true => exact staFit_zero (staFit_nilB hr.fm)
      | false => exact hr.fm
    have hrun := hr.p2 D.size nil (size_le D) (fun hn => by
      have : D.sz D.i = 0 := sz_short (by have := hnil hn; omega)
      exact Nat.le_of_ble_eq_true ((size_zero D).2 this))
    unfold part2B at hrun
    generalize (bc (Nat.ble 3 D.size) (zeroS D.i (nilB nil m)) m) = m' at ht hfm hrun
    obtain ⟨M, R, asg, k1, k2, k3, k4⟩ := told_ok ht
    obtain ⟨f1, f2, f3⟩ := staFit_of hfm
    have hN : Nx (nuD D) (nuD (D.mid asg)) ⟨c.i, c.known, c.hit, c.zero, c.put, c.mode, m'.nx⟩ asg := Nx.mid ci f1 cm ck ch cz (fun h => List.length_eq_zero_iff.1 (by have := hD.dl; omega))
    have hq := okA_ok (D := D) ok (show (0 : Int) ≤ qTop D.i 2 from by unfold qTop; rw [Int.ofNat_eq_natCast]; omega) k4
    have hM := hD.mid (asg := asg) hq
    have ht' : m'.H.all (fun p => topB c.i p.2) = true := by rw [ci]; exact f2
    have g6 := h6.retold h0 hN hL ht' k1 k3
    have g33 := h33.retold h0 hN hL ht' k2 k3
    have hbk : BOk (D.mid asg) (bx2 (D.mid asg).i (D.mid asg).size) := bOk2 hM.q hM.kn hl2 hs2
    refine walkRest (D := D.mid asg) hM.good (bdX_ok hM.good hM.arg hbk) hrun g6 g33 (noneAt hfm (.inl rfl)) (noneAt hfm (.inr rfl)) ?_
    intro e2 nx2 H2 L2 ρ2 a2 w2 ht2 hL2 hs2
    refine hnext (D.mid asg) e2 nx2 H2 L2 ρ2 a2 w2 ⟨hM, sameA_mid, rfl, fun h => ?_⟩ ht2 hL2 hs2
    exact ds'_first (List.length_eq_zero_iff.1 (by have := hD.dl; have h : D.i = 0 := h; omega))
  have hkf : D.found = true → D.known = true := found_known hD.sub
  have hk0 : D.i = 0 → D.known = false := fun h => by
    have : D.ds = [] := List.length_eq_zero_iff.1 (by have := hD.dl; omega)
    unfold Dat.known; rw [this]; rfl
  obtain ⟨r1, r2, r3⟩ := hr.p1 D.known D.found hkf hk0
  have ck : D.known = true → D.known = true := id
  have ch : D.found = false → D.found = false := id
  by_cases hsh : D.sn ≤ D.i
  · -- no size is left
    have hz := sz_short hsh
    have hb3 := (size_zero D).2 hz
    have ok : (nuD D).Ok (bdX D.i (bx1 D.i D.known D.found true)) := bdX_ok hG hD.arg (bOk1 hD.q rfl rfl hl hl2 (fun _ => hsh) (fun h => by cases h))
    have hrun : part1S D.i D.known D.found nil s m = true := by cases nil with
      | true => exact r3
      | false => exact r2
    unfold part1S at hrun
    refine walkB h0 hG ok hMm D.hi hl (short := true) (fun h => by cases h) hrun hs ?_
    intro e f nx H L ρ' a6 a33 w' hg hL h6 h33
    refine key _ ⟨D.i, D.known, D.found, true, false, 1, 0⟩ ok rfl rfl ck ch (fun _ => hz) e f nx H L ρ' a6 a33 w' ?_ hL h6 h33
    rw [hb3]; exact hg
  · have hn : nil = false := by
      cases nil with
      | false => rfl
      | true => have := hnil rfl; omega
    subst hn
    have ok : (nuD D).Ok (bdX D.i (bx1 D.i D.known D.found false)) := bdX_ok hG hD.arg (bOk1 hD.q rfl rfl hl hl2 (fun h => by cases h) (fun _ => ⟨by omega, hs2⟩))
    unfold part1B at r1
    refine walkB h0 hG ok hMm D.hi hl (short := false) (fun _ => by omega) r1 hs ?_
    intro e f nx H L ρ' a6 a33 w' hg hL h6 h33
    rw [Bool.and_eq_true] at hg
    cases hb3 : Nat.ble 3 D.size with
    | true =>
      have hz := (size_zero D).1 hb3
      refine key _ ⟨D.i, D.known, D.found, true, false, 1, 0⟩ ok rfl rfl ck ch (fun _ => hz) e f nx H L ρ' a6 a33 w' ?_ hL h6 h33
      rw [hb3]; exact hg.2
    | false =>
      refine key _ ⟨D.i, D.known, D.found, false, false, 1, 0⟩ ok rfl rfl ck ch (fun h => by cases h) e f nx H L ρ' a6 a33 w' ?_ hL h6 h33
      rw [hb3]; exact hg.1
/-- from a round's head to the next one's -/
theorem round_ok (h0 : ∀ b, 8 ≤ b → ρ0 b = none) (hMm : Mem W ρ0 D) (hD : D.Head) {nil : Bool} {s m s' : Sta} (hr : Runs D.i s m s') (hi : D.i + 1 ≤ 14) (hl : D.i < D.ln) (hl2 : (D.ln : Int) ≤ bBig) (hs2 : (D.sn : Int) ≤ bBig) (hnil : nil = true → D.sn = 0) (hs : HS W ρ0 D (nilB nil s) ρ a w)
    (hnext : ∀ D' ρ' a' w', D'.Head → SameA D D' → D'.i = D.i + 1 → HS W ρ0 D' (nilB nil s') ρ' a' w' → Q .normal a' w') : c6B.wp Tryz.prog Q a w := by
  refine roundB h0 hMm hD hr hl hl2 hs2 hnil hs ?_
  intro Dm e nx H L ρ' a' w' hB ht hL hs'
  obtain ⟨M, R, asg, k1, _, k3, k4⟩ := told_ok ht
  have hM := hB.mid
  have hi' : Dm.i + 1 ≤ 14 := by rw [hB.i]; exact hi
  have hfs : staFit Dm.i (nilB nil s') = true := by rw [hB.i]; exact staFit_nilB hr.fs
  obtain ⟨f1, f2, f3⟩ := staFit_of hfs
  have hbk : BOk Dm (bx2 Dm.i Dm.size) := bOk2 hM.q hM.kn (by rw [hB.same.ln]; exact hl2) (by rw [hB.same.sn]; exact hs2)
  have ok := bdX_ok hM.good hM.arg hbk
  have hq := okA_ok (D := Dm) ok (show (0 : Int) ≤ qTop (Nat.succ Dm.i) 1 from by unfold qTop; rw [Int.ofNat_eq_natCast]; omega) k4
  have hN : Nx (nuD Dm) (nuD (Dm.next asg hi')) ⟨Dm.i, true, true, Nat.ble 3 Dm.size, bc (Nat.beq Dm.size 0) true (Nat.beq Dm.size 3), 2, (nilB nil s').nx⟩ asg :=
    Nx.next hi' hM.ge.eb rfl f1 rfl (fun _ => hM.kn) (size_fit Dm) (fun h => (size_zero Dm).1 h) hB.first hM.kn
  have g6 := hs'.retold h0 hN hL f2 k1 k3
  rw [outE_self (hdFit_nilB hr.hs)] at g6
  exact hnext (Dm.next asg hi') _ a' w' (hM.next hi' hq) (hB.same.trans (sameA_next hi')) (by show Dm.i + 1 = _; rw [hB.i]) g6
end
end Go.AM
namespace Go.AM
open Go Go.Proofs Go.ChangeShapes Go.WideShapes Go.ChangeAt Go.RowKit
set_option linter.unusedVariables false
/-! # TopBudget: the way out, the end -/
abbrev TrueAt (W : World) (e : Ending) (W' : World) : Prop := e = .returned (.bool true) ∧ Below W.heap.size W W'
/-- when the loop is left -/
def EndAt (W : World) (ρ0 : Nm) (a : Act) (w : World) : Prop := a.defers = [] ∧ n6 ≤ a.tmps.size ∧ ∃ ρ E, Stp ρ0 W ρ w E ∧ newW8 E = true
noncomputable def outK : Nat → KE := fun j => bc (Nat.beq j 0) (fun _ _ _ L => endK true L) noS
section
variable {D : Dat} {bd : Bd} {W : World} {ρ0 ρb ρ : Nm} {e : T AV} {nx : Nat} {H : T AB} {L : Log} {a : Act} {w : World} {Q : Exit → Act → World → Prop}
theorem SW.reset {n : Nat} (hs : SW (nuD D) W ρ0 ρb n e nx H L ρ a w) (hL : newW8 L = true) : SW (nuD D) W ρ0 ρb n e nx H [] ρ a w := ⟨hs.er, hs.hr, hs.gl, hs.ext, by
  obtain ⟨E, h1, h2⟩ := hs.bs
  exact ⟨L ++ E, h1, newW8_app hL h2⟩⟩
theorem out_ok (hG : D.Good) (ok : (nuD D).Ok bd) (hrun : chk8 (runC bd c6B noS outK e nx H []) = true) (hs : SW (nuD D) W ρ0 ρ0 n6 e nx H [] ρ a w) (hQ : ∀ a' w', EndAt W ρ0 a' w' → Q (.exit 0) a' w') : c6B.wp Tryz.prog Q a w := by
  obtain ⟨y1, y2, y3, hA, hn⟩ := chk8_spec hrun
  have hz : Yes (Ans.ok (.bool true) y1 y2 y3) := fun _ e => by cases e
  have hf := fit6c
  refine runC_ok hG ok hz (fit_of hf (by simp)) hA hs (fun _ _ _ _ _ _ _ h _ => (hz _ h.symm).elim) fun i e2 nx2 H2 L2 ρ2 a2 w2 h hs => ?_
  have h : (bc (Nat.beq i 0) (fun _ _ _ L => endK true L) noS : KE) e2 nx2 H2 L2 = _ := h
  cases hb : Nat.beq i 0 with
  | false => rw [hb] at h; exact (hz _ h.symm).elim
  | true =>
    rw [hb] at h
    have hi := Nat.eq_of_beq_eq_true hb
    subst hi
    have h : Ans.ok (.bool true) 0 .leaf L2 = Ans.ok (.bool true) y1 y2 y3 := h
    injection h with _ _ _ h
    subst h
    obtain ⟨E, k1, k2⟩ := hs.bs
    exact hQ a2 w2 ⟨hs.er.defers, hs.er.size, ρ2, _, k1, newW8_app hn k2⟩
end
/-! ## the end -/
def D00 : Dat := ⟨0, 0, fun _ => 0, 0, fun _ => 0, 0, by omega, [], [], fun _ => 0⟩
theorem D00_head : D00.Head where
  arg := ⟨⟨by show bMin ≤ 0; unfold bMin; omega, by show 0 ≤ bBig; unfold bBig; omega⟩, fun _ _ => ⟨by show bMin ≤ 0; unfold bMin; omega, by show 0 ≤ bBig; unfold bBig; omega⟩, fun _ _ => ⟨by show bMin ≤ 0; unfold bMin; omega, by show 0 ≤ bBig; unfold bBig; omega⟩, rfl, rfl⟩
  dr := fun d h => by cases h
  dn := List.nodup_nil
  dl := Nat.le_refl _
  ge := ⟨fun e h => (by cases h), List.nodup_nil, Nat.le_refl _, fun e h => (by cases h), List.nodup_nil, (bud_in D00).1⟩
  sub := fun e h => by cases h
  q := fun j _ _ => ⟨Int.le_refl _, by show (0 : Int) ≤ qTop 0 1; unfold qTop; rw [Int.ofNat_eq_natCast]; omega⟩
theorem D00_ok : (nuD D00).Ok (bdX 0 bxP) := bdX_ok D00_head.good D00_head.arg (bOkP (fun _ _ _ => rfl) (by show (0 : Int) ≤ bBig; unfold bBig; omega) (by show (0 : Int) ≤ bBig; unfold bBig; omega))
noncomputable def isT6 (o : Option AV) : Bool := match o with
  | some (.bool true) => true
  | _ => false
theorem c6E_eq : c6E = .seq (sL c6E) .ret := by kernel_rfl
theorem c6E_fit : codeFit n6 (sL c6E) = true := by kernel_rfl
set_option maxRecDepth 100000 in
theorem endRun : chk8 (runL (bdX 0 bxP) [sL c6E] (fun e nx H L => endK (isT6 (e.get 6)) L) .leaf 6 H0 []) = true := by kernel_rfl
theorem res6 : Tryz.f6.results = #[.tmp 6] := by kernel_rfl
theorem results6 {a : Act} {w : World} (hv : a.tmps.getD 6 undef = .bool true) : (results Tryz.f6 a.tmps).run Tryz.prog w = .ok (.bool true) w := by
  have h4 : ((#[ResultVar.tmp 6] : Array ResultVar).toList.mapM (resF a.tmps)).run Tryz.prog w = .ok [.bool true] w := by
    show ((([ResultVar.tmp 6] : List ResultVar).mapM (resF a.tmps)).run Tryz.prog w) = _
    rw [List.mapM_cons]
    simp only [Sem.run_bind, resF, Sem.run_pure, Result.andThen_ok, hv]
    rfl
  have hm : ((#[ResultVar.tmp 6] : Array ResultVar).mapM (resF a.tmps)).run Tryz.prog w = .ok ⟨[.bool true]⟩ w := by
    rw [Array.mapM_eq_mapM_toList, map_eq_pure_bind]
    simp only [Sem.run_bind, h4, Result.andThen_ok, Sem.run_pure]
  rw [results_eq, res6]
  simp only [Sem.run_bind, hm, Result.andThen_ok, Sem.run_pure]
  rfl
theorem below_of {W w : World} {ρ0 ρ : Nm} {E : Log} (h8 : ∀ b, 8 ≤ b → ρ0 b = none) (hs : Stp ρ0 W ρ w E) (hE : newW8 E = true) : Below W.heap.size W w :=
  ⟨hs.os, hs.tape, hs.output, hs.size, fun r hr => hs.frame r hr fun c s hc e => by
    have h6 := List.all_eq_true.1 hE (c, true) hc
    simp at h6
    rw [h8 c h6] at e; cases e⟩
theorem rho0_8 (W : World) : ∀ b, 8 ≤ b → rho0 W b = none := fun b hb => if_neg (by omega)
theorem end_ok {W w : World} {ρ0 : Nm} {a : Act} (hL : laidMetH Tryz.prog laidTop W) (h8 : ∀ b, 8 ≤ b → ρ0 b = none) (h : EndAt W ρ0 a w) : c6E.wp Tryz.prog (bodyPost Tryz.prog Tryz.f6 (TrueAt W)) a w := by
  obtain ⟨hd, hsz, ρ, E, hst, hE⟩ := h
  have hb := below_of h8 hst hE
  obtain ⟨b1, b2, b3, b4, b5⟩ := hb
  have hr : HR (nuD D00) (rho0 W) 6 H0 w := by
    have hr := HR0 hL (nuD D00)
    refine ⟨fun b A hA => ?_, hr.inj, hr.new, fun b r s hb => Nat.lt_of_lt_of_le (hr.old b r s hb) b4⟩
    obtain ⟨r, sz, obj, h1, h2, h3⟩ := hr.blk b A hA
    exact ⟨r, sz, obj, h1, by rw [b5 r (hr.old b r sz h1)]; exact h2, h3⟩
  have hs : SW (nuD D00) w (rho0 W) (rho0 W) n6 .leaf 6 H0 [] (rho0 W) a w := ⟨⟨hd, hsz, fun t x hx => by rw [T.get_leaf] at hx; cases hx⟩, hr, glob0 W, fun _ _ h => h, [], Stp.refl _ _ _, rfl⟩
  obtain ⟨y1, y2, y3, hA, hn⟩ := chk8_spec endRun
  have hz : Yes (Ans.ok (.bool true) y1 y2 y3) := fun _ e => by cases e
  rw [c6E_eq]
  refine wp_seq (runC_go D00_head.good D00_ok hz c6E_fit hA hs fun e1 nx1 H1 L1 ρ1 a1 w1 h hs => ?_)
  refine wp_ret ?_
  have h : endK (isT6 (e1.get 6)) L1 = Ans.ok (.bool true) y1 y2 y3 := h
  unfold endK at h
  cases hg : isT6 (e1.get 6) with
  | false => rw [hg] at h; cases h
  | true =>
    rw [hg] at h
    have h : Ans.ok (.bool true) 0 .leaf L1 = Ans.ok (.bool true) y1 y2 y3 := h
    injection h with _ _ _ h
    subst h
    obtain ⟨E1, k1, k2⟩ := hs.bs
    have hb2 := below_of (rho0_8 W) k1 (newW8_app hn k2)
    obtain ⟨c1, c2, c3, c4, c5⟩ := hb2
    have hv : a1.tmps.getD 6 undef = .bool true := by
      unfold isT6 at hg
      split at hg
      · rename_i he; exact hs.er.slot 6 _ he
      · cases hg
    exact ⟨hs.er.defers, _, results6 hv, rfl, c1.trans b1, c2.trans b2, c3.trans b3, Nat.le_trans b4 c4, fun r hr => (c5 r (Nat.lt_of_lt_of_le hr b4)).trans (b5 r hr)⟩
end Go.AM
namespace Go.AM
open Go Go.Proofs Go.ChangeShapes Go.WideShapes Go.ChangeAt Go.RowKit
set_option linter.unusedVariables false
/-! # TopBudget: the rounds -/
noncomputable def has10 (s : Sta) : Bool := (outE s.e).any fun p => bc (Nat.beq p.1 10) (avEq 8 p.2 (.int .i64 (.k 15))) false
noncomputable def isL1 (v : AV) : Bool := match v with
  | .sl _ _ (.lin 0 [(36, 1)]) _ _ => true
  | _ => false
noncomputable def has1 (s : Sta) : Bool := (outE s.e).any fun p => bc (Nat.beq p.1 1) (isL1 p.2) false
/-- all runs -/
structure AllRuns (st mt : Nat → Sta) : Prop where
  rounds : ∀ i, i ≤ 14 → Runs i (st i) (mt i) (st (i + 1))
  outs : ∀ i nil, i ≤ 14 → outB i (nilB nil (st i)) = true
  l10 : ∀ nil, has10 (nilB nil (st 15)) = true
  l1 : ∀ nil, has1 (nilB nil (st 15)) = true
  pre : ∀ nil, preB nil (st 0) = true
  f0 : staFit 0 (st 0) = true
  h0 : hdFit (st 0) = true
/-! ## behind the last round -/
noncomputable def bxL (lo hi : Int) : BX := ⟨(0, 4000), (0, 3000), (lo, hi), (0, bBig), (0, 1), (0, 1), (-4000, 3000), qTop 14 2⟩
set_option maxRecDepth 100000 in
theorem last_a (b : Nat) (o : SI) (c : Cp) (z nx : Nat) : chk8 (runC (bdX 14 (bxL 0 15)) c6B noS outK (mkT [(1, .sl b o (.lin 0 [(36, 1)]) c z), (10, .int .i64 (.k 15))]) nx .leaf []) = true := by kernel_rfl
set_option maxRecDepth 100000 in
theorem last_b (b : Nat) (o : SI) (c : Cp) (z nx : Nat) : chk8 (runC (bdX 14 (bxL 16 bBig)) c6B noS outK (mkT [(1, .sl b o (.lin 0 [(36, 1)]) c z), (10, .int .i64 (.k 15))]) nx .leaf []) = true := by kernel_rfl
structure Last (D0 D : Dat) (W : World) (ρ0 ρ : Nm) (a : Act) (w : World) : Prop where
  mid : D.Mid
  i : D.i = 14
  same : SameA D0 D
  is : ∃ (b : Nat) (o : SI) (c : Cp) (z nx : Nat), SW (nuD D) W ρ0 ρ0 n6 (mkT [(1, .sl b o (.lin 0 [(36, 1)]) c z), (10, .int .i64 (.k 15))]) nx .leaf [] ρ a w
section
variable {D0 D : Dat} {W : World} {ρ0 ρ : Nm} {a : Act} {w : World} {Q : Exit → Act → World → Prop}
theorem last_of {e : T AV} {nx : Nat} {H : T AB} {L : Log} {bd : Bd} {top : Int} {c : TC} {s : Sta} (h10 : has10 s = true) (h1 : has1 s = true) (ht : told bd top c s e .leaf nx H = true) (hL : newW8 L = true) (hs : SW (nuD D) W ρ0 ρ0 n6 e nx H L ρ a w) :
    ∃ (b : Nat) (o : SI) (c : Cp) (z nx : Nat), SW (nuD D) W ρ0 ρ0 n6 (mkT [(1, .sl b o (.lin 0 [(36, 1)]) c z), (10, .int .i64 (.k 15))]) nx .leaf [] ρ a w := by
  obtain ⟨M, R, asg, k1, _, _, _⟩ := told_ok ht
  unfold okE at k1
  rw [List.all_eq_true] at k1
  obtain ⟨p, hp, hp2⟩ := List.any_eq_true.1 h10
  obtain ⟨p1, p2⟩ := bc2 hp2
  have p1 := Nat.eq_of_beq_eq_true p1
  have p2 := avEq_of 8 _ _ p2
  obtain ⟨r, hr, hr2⟩ := List.any_eq_true.1 h1
  obtain ⟨r1, r2⟩ := bc2 hr2
  have r1 := Nat.eq_of_beq_eq_true r1
  -- the round's number
  have e10 : e.get 10 = some (.int .i64 (.k 15)) := by
    have := k1 p hp
    rw [p1, p2] at this
    cases hg : e.get 10 with
    | none => rw [hg] at this; cases this
    | some x =>
      rw [hg] at this
      cases x <;> first | (cases this; done) | skip
      rename_i k d
      obtain ⟨q1, q2⟩ := bc2 (show bc (decide (IntKind.i64 = k)) (okSame d (.k 15)) false = true from this)
      have q1 := of_decide_eq_true q1
      obtain ⟨q2, _⟩ := bc2 q2
      rw [siEq_of q2, ← q1]
  have e1 : ∃ b o c z, e.get 1 = some (.sl b o (.lin 0 [(36, 1)]) c z) := by
    have := k1 r hr
    rw [r1] at this
    cases hg : e.get 1 with
    | none => rw [hg] at this; cases this
    | some x =>
      rw [hg] at this
      unfold isL1 at r2
      split at r2
      · rename_i b o cp z hx
        rw [hx] at this
        cases x <;> first | (cases this; done) | skip
        rename_i b2 o2 l2 c2 z2
        obtain ⟨_, q⟩ := bc2 (show bc (okN _ M b2 b) (bc (okSI _ asg o2 o) (bc (okSame l2 (.lin 0 [(36, 1)])) (bc (okCp _ asg c2 cp) (Nat.beq z z2) false) false) false) false = true from this)
        obtain ⟨_, q⟩ := bc2 q
        obtain ⟨q, _⟩ := bc2 q
        obtain ⟨q, _⟩ := bc2 q
        exact ⟨b2, o2, c2, z2, by rw [siEq_of q]⟩
      · cases r2
  obtain ⟨b, o, cp, z, e1⟩ := e1
  refine ⟨b, o, cp, z, nx, (hs.er.less fun i x hx => ?_), (hs.hr.less fun b A hA => by rw [T.get_leaf] at hA; cases hA), hs.gl, hs.ext, (hs.reset hL).bs⟩
  have := mkT_get hx
  rcases List.mem_cons.1 this with h | h
  · cases h; exact e1
  · rcases List.mem_cons.1 h with h | h
    · cases h; exact e10
    · cases h
theorem bOkL {lo hi : Int} (hD : D.Mid) (hi14 : D.i = 14) (h1 : lo ≤ D.ln) (h2 : (D.ln : Int) ≤ hi) (hs2 : (D.sn : Int) ≤ bBig) : BOk D (bxL lo hi) := by
  have hz4 := sz_le' D
  have hb := bud_in D
  have hkn : (0 : Int) ≤ (if D.known then 1 else 0) ∧ (if D.known then (1 : Int) else 0) ≤ 1 := by split <;> omega
  have hfd : (0 : Int) ≤ (if D.found then 1 else 0) ∧ (if D.found then (1 : Int) else 0) ≤ 1 := by split <;> omega
  exact ⟨⟨by show (0 : Int) ≤ _; omega, hz4⟩, hb, ⟨h1, h2⟩, ⟨by show (0 : Int) ≤ _; omega, hs2⟩, hkn, hfd, ⟨by show (-4000 : Int) ≤ _; omega, by show _ ≤ (3000 : Int); omega⟩, fun j a b => by have := hD.q j a b; rw [hi14] at this; exact this⟩
theorem last_ok (h : Last D0 D W ρ0 ρ a w) (hl2 : (D.ln : Int) ≤ bBig) (hs2 : (D.sn : Int) ≤ bBig) (hQ : ∀ a' w', EndAt W ρ0 a' w' → Q (.exit 0) a' w') : c6B.wp Tryz.prog Q a w := by
  obtain ⟨b, o, c, z, nx, hs⟩ := h.is
  have hG := h.mid.good
  by_cases hle : D.ln ≤ 15
  · have ok := bdX_ok hG h.mid.arg (bOkL h.mid h.i (lo := 0) (hi := 15) (by omega) (by omega) hs2)
    rw [h.i] at ok
    exact out_ok hG ok (last_a b o c z nx) hs hQ
  · have ok := bdX_ok hG h.mid.arg (bOkL h.mid h.i (lo := 16) (hi := bBig) (by omega) hl2 hs2)
    rw [h.i] at ok
    exact out_ok hG ok (last_b b o c z nx) hs hQ
/-! ## all rounds -/
theorem rounds_ok (h0 : ∀ b, 8 ≤ b → ρ0 b = none) (hMm : Mem W ρ0 D) {st mt : Nat → Sta} (hR : AllRuns st mt) {nil : Bool} (hD : D.Head) (hi : D.i = 0) (hl2 : (D.ln : Int) ≤ bBig) (hs2 : (D.sn : Int) ≤ bBig) (hnil : nil = true → D.sn = 0) (hs : HS W ρ0 D (nilB nil (st 0)) ρ a w)
    (hQ : ∀ a' w', EndAt W ρ0 a' w' → Q (.exit 0) a' w') : (Code.loop c6B).wp Tryz.prog Q a w := by
  refine wp_loop_n (fun m a w => (m = 0 ∧ ∃ D' ρ', Last D D' W ρ0 ρ' a w) ∨ (∃ D' ρ', D'.Head ∧ SameA D D' ∧ D'.i + m = 15 ∧ HS W ρ0 D' (nilB nil (st D'.i)) ρ' a w)) 15 (.inr ⟨D, ρ, hD, ⟨rfl, rfl, rfl, rfl, rfl, fun _ _ => rfl⟩, by omega, by rw [hi]; exact hs⟩) ?_
  rintro m a w (⟨rfl, D', ρ', hL⟩ | ⟨D', ρ', hD', hA, hm, hs'⟩)
  · exact last_ok hL (by rw [hL.same.ln]; exact hl2) (by rw [hL.same.sn]; exact hs2) hQ
  · have h14 := D'.hi
    have hr := hR.rounds D'.i h14
    by_cases hlt : D'.i < D'.ln
    · by_cases hi' : D'.i + 1 ≤ 14
      · refine round_ok h0 (hMm.same hA) hD' hr hi' hlt (by rw [hA.ln]; exact hl2) (by rw [hA.sn]; exact hs2) (fun h => by rw [hA.sn]; exact hnil h) hs' ?_
        intro D2 ρ2 a2 w2 hD2 hA2 hi2 hs2'
        exact ⟨m - 1, by omega, .inr ⟨D2, ρ2, hD2, hA.trans hA2, by omega, by rw [hi2]; exact hs2'⟩⟩
      · have h14' : D'.i = 14 := by omega
        refine roundB h0 (hMm.same hA) hD' hr hlt (by rw [hA.ln]; exact hl2) (by rw [hA.sn]; exact hs2) (fun h => by rw [hA.sn]; exact hnil h) hs' ?_
        intro Dm e nx H L ρ2 a2 w2 hB ht hL hsw
        refine ⟨m - 1, by omega, .inl ⟨by omega, Dm, ρ2, hB.mid, by rw [hB.i]; exact h14', hA.trans hB.same, ?_⟩⟩
        rw [h14'] at ht
        exact last_of (hR.l10 nil) (hR.l1 nil) ht hL hsw
    · have ok := bdX_ok hD'.good hD'.arg (bOkE hD'.q (by omega) (by rw [hA.sn]; exact hs2))
      exact out_ok hD'.good ok (hR.outs D'.i nil h14) hs' hQ
end
end Go.AM
namespace Go.AM
open Go Go.Proofs Go.ChangeShapes Go.WideShapes Go.ChangeAt Go.RowKit
set_option linter.unusedVariables false
/-! # TopBudget: the whole way -/
noncomputable section
/-- the names at the beginning: the packages' variables, the rounds' row, the sizes' row -/
def rhoB (W : World) (pl ps : Option (Nat × Nat)) : Nm := fun b => if b < 6 then rho0 W b else if b = 6 then pl else if b = 7 then ps else none
/-- no rounds -/
def n6E (p : Nat × AV) : Nat × AV := bc (Nat.beq p.1 1) (1, .nils) p
def nolS (s : Sta) : Sta := ⟨s.e.map n6E, s.nx, s.H⟩
def noneB (nil : Bool) : Bool := chk8 (runL (bdX 0 bxP) cs6 (runC (bdX 0 bxP) c6B noS outK) (mkT (nolS (nilB nil s6)).e) 8 (mkT (nolS (nilB nil s6)).H) [])
end
set_option maxRecDepth 100000 in
theorem none_f : noneB false = true := by kernel_rfl
set_option maxRecDepth 100000 in
theorem none_t : noneB true = true := by kernel_rfl
theorem rhoB_8 (W : World) (pl ps : Option (Nat × Nat)) : ∀ b, 8 ≤ b → rhoB W pl ps b = none := fun b hb => by unfold rhoB; rw [if_neg (by omega), if_neg (by omega), if_neg (by omega)]
theorem globB (W : World) (pl ps : Option (Nat × Nat)) : Glob (rhoB W pl ps) := fun g hg => by
  obtain ⟨sz, h⟩ := glob0 W g hg
  exact ⟨sz, by unfold rhoB; rw [if_pos (show g < 6 from hg)]; exact h⟩
section
variable {D : Dat} {W : World} {pl ps : Option (Nat × Nat)}
theorem argsE (i j : Nat) (v0 v1 v2 : AV) : ∀ t x, (mkT [(0, v0), (1, v1), (2, v2)]).get t = some x → (slots [v0, v1, v2] 0 .leaf).get t = some x := by
  intro t x hx
  have := mkT_get hx
  rw [slots_get]
  rcases List.mem_cons.1 this with h | h
  · cases h; rfl
  · rcases List.mem_cons.1 h with h | h
    · cases h; rfl
    · rcases List.mem_cons.1 h with h | h
      · cases h; rfl
      · cases h
set_option maxRecDepth 100000 in
/-- ahead of the rounds -/
theorem pre_go {bd : Bd} {z : Ans} (hz : Yes z) (hG : D.Good) (ok : (nuD D).Ok bd) {v0 v1 v2 : AV} {H : T AB} {k : KE} (h : runL bd cs6 k (mkT [(0, v0), (1, v1), (2, v2)]) 8 H [] = z) {vs : List Value} (hv : VRs (nuD D) (rhoB W pl ps) [v0, v1, v2] vs) (hr : HR (nuD D) (rhoB W pl ps) 8 H W)
    (hk : ∀ e' nx' H' L' ρ' a' w', k e' nx' H' L' = z → SW (nuD D) W (rhoB W pl ps) (rhoB W pl ps) n6 e' nx' H' L' ρ' a' w' →
      (Code.loop c6B).wp Tryz.prog (Exit.inBlock 0 (Exit.then (c6E.wp Tryz.prog (bodyPost Tryz.prog Tryz.f6 (TrueAt W))) (bodyPost Tryz.prog Tryz.f6 (TrueAt W)))) a' w') : Calls Tryz.prog 6 ⟨vs⟩ W (TrueAt W) := by
  have hf := fit6a
  unfold cs6 at hf h
  refine calls_of_wp (fn := Tryz.f6) Tryz.func6 body6_eq ?_
  have hs : SW (nuD D) W (rhoB W pl ps) (rhoB W pl ps) n6 (mkT [(0, v0), (1, v1), (2, v2)]) 8 H [] (rhoB W pl ps) { tmps := (⟨vs⟩ : Array Value) ++ Array.replicate (Tryz.f6.ntmps - (⟨vs⟩ : Array Value).size) undef, defers := [] } W :=
    ⟨(slots_ER hv).less (argsE 0 0 v0 v1 v2), hr, globB W pl ps, fun _ _ h => h, [], Stp.refl _ _ _, rfl⟩
  refine wp_seq (runC_go hG ok hz (fit_of hf (by simp)) h hs fun e1 nx1 H1 L1 ρ1 a1 w1 h hs => ?_)
  show Code.wp _ _ _ a1 w1
  refine wp_seq (runC_go hG ok hz (fit_of hf (by simp)) h hs fun e1 nx1 H1 L1 ρ1 a1 w1 h hs => ?_)
  show Code.wp _ _ _ a1 w1
  refine wp_seq (runC_go hG ok hz (fit_of hf (by simp)) h hs fun e1 nx1 H1 L1 ρ1 a1 w1 h hs => ?_)
  show Code.wp _ _ _ a1 w1
  refine wp_seq (runC_go hG ok hz (fit_of hf (by simp)) h hs fun e1 nx1 H1 L1 ρ1 a1 w1 h hs => ?_)
  show Code.wp _ _ _ a1 w1
  refine wp_seq (runC_go hG ok hz (fit_of hf (by simp)) h hs fun e1 nx1 H1 L1 ρ1 a1 w1 h hs => ?_)
  show Code.wp _ _ _ a1 w1
  refine wp_seq (runC_go hG ok hz (fit_of hf (by simp)) h hs fun e1 nx1 H1 L1 ρ1 a1 w1 h hs => ?_)
  show Code.wp _ _ _ a1 w1
  refine wp_seq (runC_go hG ok hz (fit_of hf (by simp)) h hs fun e1 nx1 H1 L1 ρ1 a1 w1 h hs => ?_)
  show Code.wp _ _ _ a1 w1
  refine wp_seq (wp_seq (runC_go hG ok hz (fit_of hf (by simp)) h hs fun e1 nx1 H1 L1 ρ1 a1 w1 h hs => ?_))
  show Code.wp _ _ _ a1 w1
  exact wp_block (hk _ _ _ _ _ _ _ h hs)
theorem leave {W : World} {ρ0 : Nm} (hL : laidMetH Tryz.prog laidTop W) (h8 : ∀ b, 8 ≤ b → ρ0 b = none) {a : Act} {w : World} (h : EndAt W ρ0 a w) :
    Exit.inBlock 0 (Exit.then (c6E.wp Tryz.prog (bodyPost Tryz.prog Tryz.f6 (TrueAt W))) (bodyPost Tryz.prog Tryz.f6 (TrueAt W))) (.exit 0) a w := by
  unfold Exit.inBlock
  simp only [if_true]
  exact end_ok hL h8 h
/-- the arguments, as they come -/
noncomputable def vB : AV := .int .i64 (.lin 0 [(34, 1)])
noncomputable def vL : AV := .sl 6 (.lin 0 [(262, 1)]) (.lin 0 [(36, 1)]) (.ge (.lin 0 [(36, 1)])) 4
noncomputable def vS (nil : Bool) : AV := bc nil .nils (.sl 7 (.lin 0 [(263, 1)]) (.lin 0 [(37, 1)]) (.ge (.lin 0 [(37, 1)])) 1)
/-- the first data -/
structure Dat.First (D : Dat) : Prop where
  i : D.i = 0
  ds : D.ds = []
  es : D.es = []
  q : ∀ j, j < 262 → D.q j = 0
  bI : bMin ≤ D.bI ∧ D.bI ≤ bBig
  lp : ∀ t, t ≤ 14 → bMin ≤ D.lp t ∧ D.lp t ≤ bBig
  sp : ∀ t, t ≤ 14 → bMin ≤ D.sp t ∧ D.sp t ≤ bBig
  ln : (D.ln : Int) ≤ bBig
  sn : (D.sn : Int) ≤ bBig
theorem Dat.First.head (h : D.First) : D.Head where
  arg := ⟨h.bI, h.lp, h.sp, h.q 32 (by omega), h.q 35 (by omega)⟩
  dr := fun d hd => by rw [h.ds] at hd; cases hd
  dn := by rw [h.ds]; exact List.nodup_nil
  dl := by rw [h.ds]; exact Nat.zero_le _
  ge := by
    rw [h.es]
    exact ⟨fun e h => (by cases h), List.nodup_nil, Nat.zero_le _, fun e h => (by cases h), List.nodup_nil, (bud_in D).1⟩
  sub := fun e he => by rw [h.es] at he; cases he
  q := fun j _ _ => by
    rw [h.q j (by omega)]
    exact ⟨Int.le_refl _, by show (0 : Int) ≤ qTop D.i 1; unfold qTop; rw [Int.ofNat_eq_natCast]; omega⟩
theorem Dat.First.ok (h : D.First) : (nuD D).Ok (bdX 0 bxP) := by
  have := bdX_ok h.head.good h.head.arg (bOkP (fun j _ _ => h.q j (by omega)) h.ln h.sn)
  rw [h.i] at this; exact this
/-- there are rounds, or might be -/
theorem budget_some {st mt : Nat → Sta} (hR : AllRuns st mt) (hL : laidMetH Tryz.prog laidTop W) (hD : D.First) (hMm : Mem W (rhoB W pl ps) D) {nil : Bool} (hnil : nil = true → D.sn = 0) {vs : List Value} (hv : VRs (nuD D) (rhoB W pl ps) [vB, vL, vS nil] vs)
    (hr : HR (nuD D) (rhoB W pl ps) 8 (mkT (nilB nil s6).H) W) : Calls Tryz.prog 6 ⟨vs⟩ W (TrueAt W) := by
  have hp := hR.pre nil
  unfold preB at hp
  obtain ⟨y1, y2, y3, hA, hn⟩ := chk8_spec hp
  have hz : Yes (Ans.ok (.bool true) y1 y2 y3) := fun _ e => by cases e
  have he : (nilB nil s6).e = [(0, vB), (1, vL), (2, vS nil)] := by cases nil <;> rfl
  rw [he] at hA
  have h8 := rhoB_8 W pl ps
  refine pre_go hz hD.head.good hD.ok hA hv hr ?_
  intro e1 nx1 H1 L1 ρ1 a1 w1 h hs
  unfold endK at h
  cases hg : told (bdX 0 bxP) (qTop 0 1) ⟨0, false, false, false, false, 0, 0⟩ (nilB nil (st 0)) e1 .leaf nx1 H1 with
  | false => rw [hg] at h; cases h
  | true =>
    rw [hg] at h
    have h : Ans.ok (.bool true) 0 .leaf L1 = Ans.ok (.bool true) y1 y2 y3 := h
    injection h with _ _ _ h
    subst h
    obtain ⟨M, R, asg, k1, _, k3, k4⟩ := told_ok hg
    obtain ⟨f1, f2, f3⟩ := staFit_of (staFit_nilB (nil := nil) hR.f0)
    have hN : Nx (nuD D) (nuD (D.pre asg)) ⟨0, false, false, false, false, 0, (nilB nil (st 0)).nx⟩ asg := Nx.pre hD.i.symm f1 rfl rfl hD.es
    have hq := okA_ok (D := D) hD.ok (show (0 : Int) ≤ qTop 0 1 from by unfold qTop; rw [Int.ofNat_eq_natCast]; omega) k4
    have g6 := hs.retold h8 hN hn f2 k1 k3
    rw [outE_self (hdFit_nilB hR.h0)] at g6
    exact rounds_ok h8 (hMm.same sameA_pre) hR (D := D.pre asg) (nil := nil) (hD.head.pre hD.i hq) hD.i hD.ln hD.sn hnil g6 fun a' w' hE => leave hL h8 hE
/-- there are none -/
theorem budget_none (hL : laidMetH Tryz.prog laidTop W) (hD : D.First) {nil : Bool} {vs : List Value} (hv : VRs (nuD D) (rhoB W pl ps) [vB, .nils, vS nil] vs)
    (hr : HR (nuD D) (rhoB W pl ps) 8 (mkT (nolS (nilB nil s6)).H) W) : Calls Tryz.prog 6 ⟨vs⟩ W (TrueAt W) := by
  have hp : noneB nil = true := by cases nil with
    | true => exact none_t
    | false => exact none_f
  unfold noneB at hp
  obtain ⟨y1, y2, y3, hA, hn⟩ := chk8_spec hp
  have hz : Yes (Ans.ok (.bool true) y1 y2 y3) := fun _ e => by cases e
  have he : (nolS (nilB nil s6)).e = [(0, vB), (1, .nils), (2, vS nil)] := by cases nil <;> rfl
  rw [he] at hA
  have h8 := rhoB_8 W pl ps
  refine pre_go hz hD.head.good hD.ok hA hv hr ?_
  intro e1 nx1 H1 L1 ρ1 a1 w1 h hs
  have hf := fit6c
  refine wp_loop_rounds 1 ?_
  show c6B.wp Tryz.prog _ a1 w1
  refine runC_ok hD.head.good hD.ok hz (fit_of hf (by simp)) h hs (fun _ _ _ _ _ _ _ h _ => (hz _ h.symm).elim) fun i e2 nx2 H2 L2 ρ2 a2 w2 h hs => ?_
  have h : (bc (Nat.beq i 0) (fun _ _ _ L => endK true L) noS : KE) e2 nx2 H2 L2 = _ := h
  cases hb : Nat.beq i 0 with
  | false => rw [hb] at h; exact (hz _ h.symm).elim
  | true =>
    rw [hb] at h
    have hi := Nat.eq_of_beq_eq_true hb
    subst hi
    have h : Ans.ok (.bool true) 0 .leaf L2 = Ans.ok (.bool true) y1 y2 y3 := h
    injection h with _ _ _ h
    subst h
    obtain ⟨E, k1, k2⟩ := hs.bs
    exact leave hL h8 ⟨hs.er.defers, hs.er.size, ρ2, _, k1, newW8_app hn k2⟩
end
end Go.AM
namespace Go.AM
open Go Go.Proofs Go.ChangeShapes Go.WideShapes Go.ChangeAt Go.RowKit
set_option linter.unusedVariables false
/-! # TopBudget: at any number, rounds and sizes -/
/-- a slice, as it was handed in: of n elements of c cells, whose cell j is a number -/
def Sly (W : World) (v : Value) (n C j : Nat) (Z : Nat → Int) : Prop :=
  (v = .slice none 0 0 ∧ n = 0) ∨ ∃ r o c, v = .slice (some ⟨r, o, none⟩) n c ∧ n ≤ c ∧ (c : Int) ≤ bBig ∧ r < W.heap.size ∧ ∀ t, t < n → W.cell? ⟨r, o + (C * t + j), none⟩ = some (.int .i64 (Z t))
/-- the place of a slice, if it has one -/
theorem Sly.at {W : World} {v : Value} {n C j : Nat} {Z : Nat → Int} (h : Sly W v n C j Z) : ∃ (nil : Bool) (p : Option (Nat × Nat)) (o : Nat), (nil = true → v = .slice none 0 0 ∧ n = 0 ∧ p = none) ∧
    (nil = false → ∃ r c, p = some (r, o + c * C) ∧ v = .slice (some ⟨r, o, none⟩) n c ∧ n ≤ c ∧ (c : Int) ≤ bBig ∧ r < W.heap.size ∧ ∀ t, t < n → W.cell? ⟨r, o + (C * t + j), none⟩ = some (.int .i64 (Z t))) := by
  rcases h with ⟨h1, h2⟩ | ⟨r, o, c, h1, h2, h3, h4, h5⟩
  · exact ⟨true, none, 0, fun _ => ⟨h1, h2, rfl⟩, fun h => by cases h⟩
  · exact ⟨false, some (r, o + c * C), o, (fun h => by cases h), fun _ => ⟨r, c, rfl, h1, h2, h3, h4, h5⟩⟩
theorem s6H (nil : Bool) : (nilB nil s6).H = H6 := by cases nil <;> rfl
theorem nolH (nil : Bool) : (nolS (nilB nil s6)).H = H6 := by cases nil <;> rfl
theorem mkH6 : mkT H6 = H0 := rfl
theorem HRB {W : World} (hL : laidMetH Tryz.prog laidTop W) (ν : Vl) {pl ps : Option (Nat × Nat)} (h1 : ∀ r s, pl = some (r, s) → r < W.heap.size) (h2 : ∀ r s, ps = some (r, s) → r < W.heap.size) : HR ν (rhoB W pl ps) 8 (mkT H6) W := by
  have hr := HR0 hL ν
  rw [mkH6]
  refine ⟨fun b A hA => ?_, fun b c A B r s t hA hB _ _ => ?_, fun b hb => rhoB_8 W pl ps b hb, fun b r s hb => ?_⟩
  · obtain ⟨r, sz, obj, k1, k2, k3⟩ := hr.blk b A hA
    have hext : Ext (rho0 W) (rhoB W pl ps) := fun b p hb => by
      have h6 : b < 6 := by
        by_cases h : b < 6
        · exact h
        · unfold rho0 at hb; rw [if_neg h] at hb; cases hb
      unfold rhoB; rw [if_pos h6]; exact hb
    exact ⟨r, sz, obj, hext _ _ k1, k2, k3.ext hext⟩
  · rw [(H0_get hA).1, (H0_get hB).1]
  · unfold rhoB at hb
    by_cases h6 : b < 6
    · rw [if_pos h6] at hb; exact hr.old b r s hb
    · rw [if_neg h6] at hb
      by_cases e6 : b = 6
      · rw [if_pos e6] at hb; exact h1 r s hb
      · rw [if_neg e6] at hb
        by_cases e7 : b = 7
        · rw [if_pos e7] at hb; exact h2 r s hb
        · rw [if_neg e7] at hb; cases hb
theorem budget_any {st mt : Nat → Sta} (hR : AllRuns st mt) (b : Int) (v1 v2 : Value) (n1 n2 : Nat) (Z1 Z2 : Nat → Int) (W : World) (hL : laidMetH Tryz.prog laidTop W) (hb : bMin ≤ b ∧ b ≤ bBig) (h1 : Sly W v1 n1 4 1 Z1) (h2 : Sly W v2 n2 1 0 Z2)
    (hz1 : ∀ t, bMin ≤ Z1 t ∧ Z1 t ≤ bBig) (hz2 : ∀ t, bMin ≤ Z2 t ∧ Z2 t ≤ bBig) : Calls Tryz.prog 6 ⟨[.int .i64 b, v1, v2]⟩ W (TrueAt W) := by
  obtain ⟨nil1, pl, o1, f1, g1⟩ := h1.at
  obtain ⟨nil2, ps, o2, f2, g2⟩ := h2.at
  let D : Dat := ⟨b, n1, Z1, n2, Z2, 0, by omega, [], [], fun j => if j = 262 then o1 else if j = 263 then o2 else 0⟩
  have hn1 : (n1 : Int) ≤ bBig := by
    cases nil1 with
    | true => obtain ⟨_, h, _⟩ := f1 rfl; rw [h]; unfold bBig; omega
    | false => obtain ⟨r, c, _, _, h3, h4, _⟩ := g1 rfl; omega
  have hn2 : (n2 : Int) ≤ bBig := by
    cases nil2 with
    | true => obtain ⟨_, h, _⟩ := f2 rfl; rw [h]; unfold bBig; omega
    | false => obtain ⟨r, c, _, _, h3, h4, _⟩ := g2 rfl; omega
  have hD : D.First := ⟨rfl, rfl, rfl, fun j hj => by show (if j = 262 then (o1 : Int) else if j = 263 then (o2 : Int) else 0) = 0; rw [if_neg (by omega), if_neg (by omega)], hb, fun t _ => hz1 t, fun t _ => hz2 t, hn1, hn2⟩
  have hr : HR (nuD D) (rhoB W pl ps) 8 (mkT H6) W := HRB hL _ (fun r s h => by
    cases nil1 with
    | true => obtain ⟨_, _, h'⟩ := f1 rfl; rw [h'] at h; cases h
    | false => obtain ⟨r', c, h', _, _, _, h5, _⟩ := g1 rfl; rw [h'] at h; cases h; exact h5) (fun r s h => by
    cases nil2 with
    | true => obtain ⟨_, _, h'⟩ := f2 rfl; rw [h'] at h; cases h
    | false => obtain ⟨r', c, h', _, _, _, h5, _⟩ := g2 rfl; rw [h'] at h; cases h; exact h5)
  have r6 : rhoB W pl ps 6 = pl := rfl
  have r7 : rhoB W pl ps 7 = ps := rfl
  have hvB : VR (nuD D) (rhoB W pl ps) vB (.int .i64 b) := VR_let (by rw [n_of _ (by omega), m_bI])
  have hvS : VR (nuD D) (rhoB W pl ps) (vS nil2) v2 := by
    cases nil2 with
    | true => obtain ⟨h, _, _⟩ := f2 rfl; exact h
    | false =>
      obtain ⟨r, c, k1, k2, k3, k4, k5, k6⟩ := g2 rfl
      refine ⟨r, o2 + c * 1, o2, n2, c, by rw [r7]; exact k1, .inr ?_, ?_, ?_, k3, Nat.le_refl _, k2⟩
      · show (0 : Int) + (1 * (nuD D).n 263 + 0) = (o2 : Nat)
        rw [n_of _ (by omega), m_263]; show (0 : Int) + (1 * (o2 : Int) + 0) = _; omega
      · show (0 : Int) + (1 * (nuD D).n 37 + 0) = (n2 : Nat)
        rw [n_of _ (by omega), m_sn]; show (0 : Int) + (1 * (n2 : Int) + 0) = _; omega
      · show (0 : Int) + (1 * (nuD D).n 37 + 0) ≤ (c : Nat)
        rw [n_of _ (by omega), m_sn]; show (0 : Int) + (1 * (n2 : Int) + 0) ≤ _; omega
  cases nil1 with
  | true =>
    obtain ⟨h, _, _⟩ := f1 rfl
    refine budget_none (pl := pl) (ps := ps) hL hD (nil := nil2) (VRs.mk hvB (VRs.mk (show v1 = .slice none 0 0 from h) (VRs.mk hvS VRs.mk0))) ?_
    rw [nolH]; exact hr
  | false =>
    obtain ⟨r, c, k1, k2, k3, k4, k5, k6⟩ := g1 rfl
    have hvL : VR (nuD D) (rhoB W pl ps) vL v1 := by
      refine ⟨r, o1 + c * 4, o1, n1, c, by rw [r6]; exact k1, .inr ?_, ?_, ?_, k3, Nat.le_refl _, k2⟩
      · show (0 : Int) + (1 * (nuD D).n 262 + 0) = (o1 : Nat)
        rw [n_of _ (by omega), m_262]; show (0 : Int) + (1 * (o1 : Int) + 0) = _; omega
      · show (0 : Int) + (1 * (nuD D).n 36 + 0) = (n1 : Nat)
        rw [n_of _ (by omega), m_ln]; show (0 : Int) + (1 * (n1 : Int) + 0) = _; omega
      · show (0 : Int) + (1 * (nuD D).n 36 + 0) ≤ (c : Nat)
        rw [n_of _ (by omega), m_ln]; show (0 : Int) + (1 * (n1 : Int) + 0) ≤ _; omega
    have hM : Mem W (rhoB W pl ps) D := by
      refine ⟨fun t ht hlt => ⟨r, _, o1, by rw [r6]; exact k1, rfl, k5, k6 t hlt⟩, fun t ht hlt => ?_⟩
      cases nil2 with
      | true => obtain ⟨_, h, _⟩ := f2 rfl; have hlt : t < n2 := hlt; omega
      | false =>
        obtain ⟨r', c', q1, q2, q3, q4, q5, q6⟩ := g2 rfl
        refine ⟨r', _, o2, by rw [r7]; exact q1, rfl, q5, ?_⟩
        have := q6 t hlt
        rw [show 1 * t + 0 = t by omega] at this
        exact this
    refine budget_some hR hL hD hM (nil := nil2) (fun h => ?_) (VRs.mk hvB (VRs.mk hvL (VRs.mk hvS VRs.mk0))) ?_
    · subst h; obtain ⟨_, h, _⟩ := f2 rfl; exact h
    · rw [s6H]; exact hr
end Go.AM
