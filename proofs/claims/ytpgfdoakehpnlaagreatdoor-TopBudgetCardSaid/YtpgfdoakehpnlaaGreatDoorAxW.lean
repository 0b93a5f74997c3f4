import Derived.Test.YtpgfdoakehpnlaaGreatDoorAxV
import Derived.Test.YtpgfdoakehpnlaaGreatDoorAxP
set_option linter.unusedVariables false
set_option linter.unusedSimpArgs false
namespace Go.AM
open Go Go.Proofs Go.ChangeShapes Go.WideShapes Go.ChangeAt Go.RowKit
set_option linter.unusedVariables false
/-! # TopBudget: store.Put, store.Len: the rules -/
section
variable {C : Cx} {Dt : Dat} {ρ : Nm} {nx : Nat} {H : T AB} {L : Log} {w : World} {k : AV → Nat → T AB → Log → Ans} {z : Ans} {vs : List Value} {o : Oper} {a : Act}
theorem isEnt_ok {bd : Bd} {e : List AV} {h0 : Nat} {body : SS} (h : isEnt bd e = some (h0, body)) : ∃ a b c d f g cap, e = [a, b, c, d, f, g, .int .i64 (.k (.ofNat 200)), .sl h0 (.k 0) (.k 1) cap 2, .int .i64 (.k (.negSucc 0)), .str body, .int .i64 (.k 0), .int .i64 (.k 0)] ∧ isReq bd [a, b, c, d, f, g] = true := by
  unfold isEnt at h
  split at h
  · obtain ⟨h1, h⟩ := bc_some h
    cases h
    exact ⟨_, _, _, _, _, _, _, rfl, h1⟩
  · cases h
theorem isCC_ok {A : AB} {u : Unit} (h : isCC A = some u) : A = .row rowCC := by
  unfold isCC at h
  split at h
  · obtain ⟨h1, _⟩ := bc_some h
    rw [sameRow_eq h1]
  · cases h
theorem isBody_ok (ok : (nuD Dt).Ok C.bd) {s : SS} {u : Unit} (h : isBody C.bd Dt.i s = some u) : sden (nuD Dt) s = Dt.zs Dt.i := by
  have hi := Dt.hi
  unfold isBody at h
  split at h
  · obtain ⟨h1, _⟩ := bc_some h
    have h1 := Nat.eq_of_beq_eq_true h1
    subst h1
    show (nuD Dt).t Dt.i ++ [] = _
    rw [List.append_nil]
    unfold Vl.t; rw [if_pos (by omega)]
    show (if Dt.i ≤ 14 then Dt.zs Dt.i else _) = _
    rw [if_pos hi]
  · split at h
    · rename_i lo e
      have := (ok Dt.i _ _ e).2
      rw [n_sz _ hi] at this
      have h0 : Dt.sz Dt.i = 0 := by
        have : (Dt.sz Dt.i : Int) ≤ 0 := this
        omega
      unfold Dat.zs; rw [h0]; rfl
    · cases h
  · cases h
theorem stFits_ok (ok : (nuD Dt).Ok C.bd) {u : Unit} (h : stFits C.bd Dt.i = some u) : Dt.fit = true := by
  obtain ⟨_, h⟩ := bc_some h
  obtain ⟨h1, _⟩ := bc_some h
  have := SI.le_den ok (isT_some h1)
  have h2 : (SI.lin 133 [(Dt.i, 1)]).den (nuD Dt) ≤ (SI.lin 0 [(33, 1)]).den (nuD Dt) := by simpa using this.symm
  have h3 : 133 + (1 * (nuD Dt).n Dt.i + 0) ≤ 0 + (1 * (nuD Dt).n 33 + 0) := h2
  rw [n_sz _ Dt.hi, n_of _ (by omega), m_bud] at h3
  unfold Dat.fit
  exact decide_eq_true (by omega)
theorem stTurn_ok (ok : (nuD Dt).Ok C.bd) {p i : Nat} (h : stTurn C.bd p = some i) : i = Dt.i ∧ (p = 1 ∨ Dt.found = false ∧ p = 0) := by
  obtain ⟨h1, h⟩ := bc_some h
  refine ⟨turn_is ok h, ?_⟩
  rcases bc3 h1 with h | h
  · exact .inl (Nat.eq_of_beq_eq_true h)
  · obtain ⟨h2, h3⟩ := bc2 h
    exact .inr ⟨flag70n ok h2, Nat.eq_of_beq_eq_true h3⟩
set_option maxRecDepth 100000 in
theorem ext_stnew (hG : Dt.Good) (ok : (nuD Dt).Ok C.bd) (hP : C.P = Tryz.prog) {call : Cll} (hc : CallOk C (nuD Dt) call) (hr : HR (nuD Dt) ρ nx H w) (hg : Glob ρ) (hz : Yes z) {g : Nat} {e : List AV} (hv : VRs (nuD Dt) ρ [.ptr g (.k 0), .agg e] vs)
    (h : stNew C.bd call g e k nx H L = z) : OpOk C (nuD Dt) ρ nx L w k z o a ((callFunc 240 ⟨vs⟩).run C.P w) := by
  obtain ⟨X, hX, h1⟩ := rd_ok hz h
  clear h
  cases hR : stRoot X with
  | none =>
    simp only [hR] at h1
    exact own_text hP hc hr hg hz (f := 240) (by kernel_rfl) rfl hv (Nat.le_of_ble_eq_true (show Nat.ble 3 (((Tryz.prog.funcs[240]?).map (·.ntmps)).getD 0) = true by rw [Tryz.func240]; kernel_rfl)) (D := [(g, false)]) h1
  | some r =>
  obtain ⟨p, b, l⟩ := r
  simp only [hR] at h1
  obtain ⟨⟨h0, body⟩, hE, h2⟩ := lift_ok hz h1
  obtain ⟨F, hF, h3⟩ := rd_ok hz h2
  obtain ⟨_, hCC, h4⟩ := lift_ok hz h3
  obtain ⟨i, hT, h5⟩ := lift_ok hz h4
  obtain ⟨_, hB, h6⟩ := lift_ok hz h5
  obtain ⟨_, hFt, h7⟩ := lift_ok hz h6
  clear h1 h2 h3 h4 h5 h6
  obtain ⟨rfl, hph⟩ := stTurn_ok ok hT
  obtain ⟨rfl, hp3⟩ := stRoot_ok hR
  have hCC := isCC_ok hCC
  subst hCC
  obtain ⟨s1, s2, s3, D', h8⟩ := stSee_ok hz (D := [(h0, false), (g, false)]) h7
  clear h7
  obtain ⟨pg, pb, bs, hst⟩ := st_at hr hp3 hX s2 s3
  have hbl : bs.length = Dt.i := by rw [hst.el.length, s1]
  obtain ⟨a', b', c', d', f', g', cap, rfl, hq⟩ := isEnt_ok hE
  obtain ⟨pp, hreq, hpp⟩ := isReq_ok ok hq
  cases hreq
  obtain ⟨vg, l1, rfl, hvg, hl1⟩ := hv.cons
  obtain ⟨vq, l2, rfl, hvq, hl2⟩ := hl1.cons
  cases hl2.nil
  -- the entry's row of fields
  obtain ⟨rc, sc, obc, k1, k2, k3⟩ := hr.blk h0 _ hF
  have hnl : ∀ {x : Nat} {j : Nat} {m : List Nat} {q : Nat × Nat}, H.get x = some (.lt j m) → ρ x = some q → q.1 ≠ rc := by
    intro x j m q h1 h2 e
    obtain ⟨r, s⟩ := q
    have e : r = rc := e
    subst e
    have := hr.inj x h0 _ _ _ _ _ h1 hF h2 k1
    subst this
    rw [h1] at hF; cases hF
  have hgb : g ≠ b := ne_get hX s2 (by intro h; injection h with h _; omega)
  have hcc : ∃ obj, w.heap[rc]? = some obj ∧ cellsR ccVs sc obj ∧ unfr obj := by
    obtain ⟨us, q1, q2, q3, q4⟩ := k3
    rw [cc_out (show VRs (nuD Dt) ρ ccA us from q1)] at q3
    exact ⟨obc, k2, q3, q4⟩
  have hpcb : ∀ (j : Nat) (q : Nat × Nat), bs[j]? = some q → rc ≠ q.1 := by
    intro j q hq
    have hj : j < l.length := by rw [← hst.el.length]; exact (List.getElem?_eq_some_iff.1 hq).1
    obtain ⟨q', e1, e2⟩ := hst.el.get (List.getElem?_eq_getElem hj)
    rw [hq] at e1; cases e1
    exact (hnl (s3 j _ (List.getElem?_eq_getElem hj)) e2).symm
  obtain ⟨_, h9⟩ := wr_ok hz (show ((M.wr b none).bind fun _ => (M.nw (.lt (Nat.add 20 Dt.i) [])).bind fun c => (M.nw (.lt 8 (l ++ [c]))).bind fun b' => (M.wr g (some (.lt 12 (b' :: (l ++ [c]))))).bind fun _ => M.ret (.bool true) : M AV) k nx H (D' ++ ([(h0, false), (g, false)] ++ L)) = z from h8)
  have h9 : ((M.wr g (some (.lt 12 ((nx + 1) :: (l ++ [nx]))))).bind fun _ => M.ret (.bool true) : M AV) k (nx + 2) (((H.put b none).put nx (some (.lt (20 + Dt.i) []))).put (nx + 1) (some (.lt 8 (l ++ [nx])))) ((nx + 1, true) :: (nx, true) :: (b, true) :: (D' ++ ([(h0, false), (g, false)] ++ L))) = z := h9
  obtain ⟨_, h10⟩ := wr_ok hz h9
  have h10 : k (.bool true) (nx + 2) ((((H.put b none).put nx (some (.lt (20 + Dt.i) []))).put (nx + 1) (some (.lt 8 (l ++ [nx])))).put g (some (.lt 12 ((nx + 1) :: (l ++ [nx]))))) (((g, true) :: (nx + 1, true) :: (nx, true) :: (b, true) :: (D' ++ [(h0, false), (g, false)])) ++ L) = z := by
    rw [List.cons_append, List.cons_append, List.cons_append, List.cons_append, List.append_assoc]; exact h10
  have hfit := stFits_ok ok hFt
  have hbody := isBody_ok ok hB
  have hpc : pg.1 ≠ rc ∧ pb.1 ≠ rc ∧ ∃ obj, w.heap[rc]? = some obj ∧ cellsR ccVs sc obj ∧ unfr obj := ⟨hnl hX hst.eg, hnl s2 hst.eb, hcc⟩
  have one : ∀ {f : Ent} {r : List Ent}, pick Dt.cur Dt.es = some (f, r) → p = 1 → OpOk C (nuD Dt) ρ nx L w k z o a ((callFunc 240 ⟨[vg, vq]⟩).run C.P w) := by
    intro f r hpk hp
    subst hp
    obtain ⟨_, _, _, _, hfd, _⟩ := pick_some hpk
    have he1 : Dt.esP 1 = f :: r := by show Dt.es1 = _; unfold Dat.es1; rw [hpk]
    have hge : GE Dt (Dt.esP 1) := hG.ge1
    have hrest : Dt.rest = (Dt.esP 1).drop 1 := by rw [he1]; unfold Dat.rest; rw [hpk]; rfl
    refine put_core hP hr hg (pc := (rc, sc)) (by omega) hst hbl hge hX s2 hgb k1 hpc hpcb (j0 := 1) (Nat.le_refl _) (by rw [he1]; simp) (fun t ht h => ?_) (fun t ht h => ?_) hrest hfit hpp hbody hvg hvq h10
    · have : t = 0 := by omega
      subst this
      simp only [he1, List.getElem_cons_zero]; exact hfd
    · intro e
      have h0 : (Dt.esP 1)[0]'(by omega) = f := by simp only [he1, List.getElem_cons_zero]
      have := nodup_get hge.en (i := t) (j := 0) (by simpa using ht) (by simp; omega) (by simp only [List.getElem_map]; rw [e, h0, hfd])
      omega
  have none' : pick Dt.cur Dt.es = none → Dt.esP p = Dt.es → OpOk C (nuD Dt) ρ nx L w k z o a ((callFunc 240 ⟨[vg, vq]⟩).run C.P w) := by
    intro hpn he
    have hge : GE Dt (Dt.esP p) := by rw [he]; exact hG.ge
    have hrest : Dt.rest = (Dt.esP p).drop 0 := by rw [he]; unfold Dat.rest; rw [hpn]; rfl
    exact put_core hP hr hg (pc := (rc, sc)) hp3 hst hbl hge hX s2 hgb k1 hpc hpcb (j0 := 0) (by omega) (Nat.zero_le _) (fun t ht h => by omega) (fun t ht h => (show ∀ e ∈ Dt.esP p, e.d ≠ Dt.cur by rw [he]; exact pick_none hpn) _ (List.getElem_mem ht)) hrest hfit hpp hbody hvg hvq h10
  rcases hph with h1 | ⟨hf, h0⟩
  · cases hq : pick Dt.cur Dt.es with
    | none => exact none' hq (by rw [h1]; show Dt.es1 = _; unfold Dat.es1; rw [hq])
    | some q => exact one (f := q.1) (r := q.2) hq h1
  · refine none' ?_ (by rw [h0]; rfl)
    unfold Dat.found at hf
    cases hq : pick Dt.cur Dt.es with
    | none => rfl
    | some q => rw [hq] at hf; cases hf
end
/-! ## Len -/
noncomputable section
def lenRoot (p : Nat) (nil : Bool) : List AV := [bc nil .nils (.sl 7 (.k 0) (.lin 0 [(74 + p, 1)]) (.ge (.lin 0 [(74 + p, 1)])) 12), .int .i64 (.lin 0 [(33, 1), (71 + p, -1)]), .int .i64 (.lin 0 [(33, 1)])]
def runLen (p : Nat) (nil : Bool) : Ans := callG (CX []) extIsB 1000 52 [.ptr 6 (.k 0)] fin 8 (mkH 6 [.row (lenRoot p nil), .row []]) []
def chkLen (p : Nat) (nil : Bool) (A : Ans) : Bool := match A with
  | .ok (.int .i64 e) _ _ D => siEq e (bc nil (.k 0) (.lin 0 [(74 + p, 1)])) && wrOnly [] 8 D
  | _ => false
theorem chkLen_spec {p : Nat} {nil : Bool} {A : Ans} (h : chkLen p nil A = true) : ∃ nx H D, A = .ok (.int .i64 (bc nil (.k 0) (.lin 0 [(74 + p, 1)]))) nx H D ∧ wrOnly [] 8 D = true := by
  unfold chkLen at h
  split at h
  · rename_i e nx H D
    rw [Bool.and_eq_true] at h
    rw [siEq_of h.1]
    exact ⟨nx, H, D, rfl, h.2⟩
  · cases h
set_option maxRecDepth 100000 in
theorem slen_ok : (List.range 3).all (fun p => chkLen p true (runLen p true) && chkLen p false (runLen p false)) = true := by kernel_rfl
end
section
variable {C : Cx} {Dt : Dat} {ρ : Nm} {nx : Nat} {H : T AB} {L : Log} {w : World} {k : AV → Nat → T AB → Log → Ans} {z : Ans} {vs : List Value} {o : Oper} {a : Act}
set_option maxRecDepth 100000 in
theorem ext_stlen (hP : C.P = Tryz.prog) {call : Cll} (hc : CallOk C (nuD Dt) call) (hr : HR (nuD Dt) ρ nx H w) (hg : Glob ρ) (hz : Yes z) {g : Nat} (hv : VRs (nuD Dt) ρ [.ptr g (.k 0)] vs)
    (h : stLen call g k nx H L = z) : OpOk C (nuD Dt) ρ nx L w k z o a ((callFunc 52 ⟨vs⟩).run C.P w) := by
  obtain ⟨X, hX, h1⟩ := rd_ok hz h
  clear h
  cases hR : stRoot X with
  | none =>
    simp only [hR] at h1
    exact own_text hP hc hr hg hz (f := 52) (by kernel_rfl) rfl hv (Nat.le_of_ble_eq_true (show Nat.ble 2 (((Tryz.prog.funcs[52]?).map (·.ntmps)).getD 0) = true by rw [Tryz.func52]; kernel_rfl)) (D := [(g, false)]) h1
  | some r =>
  obtain ⟨p, b, l⟩ := r
  simp only [hR] at h1
  obtain ⟨A, hA, h2⟩ := rd_ok hz h1
  obtain ⟨_, hE, h3⟩ := lift_ok hz h2
  have h3 : k (.int .i64 (.lin 0 [(74 + p, 1)])) nx H ([(b, false), (g, false)] ++ L) = z := h3
  obtain ⟨rfl, hp3⟩ := stRoot_ok hR
  have := isEn_ok hE
  subst this
  obtain ⟨rg, sg, og, eg, f1, f2⟩ := hr.blk g _ hX
  obtain ⟨rb, sb, ob', eb, g1, g2⟩ := hr.blk b _ hA
  obtain ⟨us, bs0, c1, c2, c3, c4⟩ := f2
  obtain ⟨ws, bs, d1, d2, d3, d4⟩ := g2
  obtain ⟨q0, qs, rfl, c5, c6⟩ := c3.cons
  rw [eb] at c5; cases c5
  have hB : Dt.B (10 + p) ((rb, sb) :: qs) us := by
    rcases c4 with h | h
    · omega
    · exact h
  simp only [Dat.B, show ¬ 10 + p = 0 by omega, show ¬ 10 + p = 1 by omega, show ¬ 10 + p ≤ 5 by omega, show ¬ 10 + p ≤ 8 by omega, show ¬ 10 + p < 10 by omega, show 10 + p ≤ 12 by omega, if_true, if_false, show 10 + p - 10 = p by omega] at hB
  obtain ⟨p', ps', hpp, s, rfl, hs⟩ := hB
  cases hpp
  have hgb : rg ≠ rb := fun e => by
    subst e
    have := hr.inj g b _ _ _ _ _ hX hA eg eb
    subst this
    rw [hX] at hA
    have := Option.some.inj hA
    injection this with this _
    omega
  have n74 : (nuD Dt).n (74 + p) = (Dt.esP p).length := by rw [n_of _ (by omega), m_len _ hp3]
  have n33 : (nuD Dt).n 33 = Dt.bud := by rw [n_of _ (by omega), m_bud]
  have n71 : (nuD Dt).n (71 + p) = Dt.bud - cost (Dt.esP p) := by rw [n_of _ (by omega), m_slack _ hp3]
  have hsmall : ∀ nil, VR (nuD Dt) (sig ρ [(rg, sg), (rb, sb)]) (bc nil .nils (.sl 7 (.k 0) (.lin 0 [(74 + p, 1)]) (.ge (.lin 0 [(74 + p, 1)])) 12)) s → cellV s = true → HR (nuD Dt) (sig ρ [(rg, sg), (rb, sb)]) 8 (mkH 6 [.row (lenRoot p nil), .row []]) w := by
    intro nil hs hcs
    refine hr.small [.row (lenRoot p nil), .row []] [(rg, sg), (rb, sb)] rfl (fun i A q h1 h2 => ?_) (fun i j p q h1 h2 h3 => ?_)
    · match i, h1, h2 with
      | 0, h1, h2 =>
        cases h1; cases h2
        refine ⟨og, f1, _, VRs.mk hs (VRs.mk ?_ (VRs.mk ?_ VRs.mk0)), ?_, c1, c2⟩
        · show _ = Value.int .i64 (0 + (1 * (nuD Dt).n 33 + (-1 * (nuD Dt).n (71 + p) + 0)))
          rw [n33, n71]; congr 1; omega
        · show _ = Value.int .i64 (0 + (1 * (nuD Dt).n 33 + 0))
          rw [n33]; congr 1; omega
        · intro x hx
          simp only [List.mem_cons, List.not_mem_nil, or_false] at hx
          rcases hx with rfl | rfl | rfl
          · exact hcs
          · rfl
          · rfl
      | 1, h1, h2 =>
        cases h1; cases h2
        exact ⟨ob', g1, [], VRs.mk0, by simp, cellsR.head (vs := []) (ws := ws) d1, d2⟩
      | _ + 2, h1, _ => simp at h1
    · match i, j, h1, h2 with
      | 0, 0, _, _ => rfl
      | 1, 1, _, _ => rfl
      | 0, 1, h1, h2 => cases h1; cases h2; exact (hgb h3).elim
      | 1, 0, h1, h2 => cases h1; cases h2; exact (hgb h3.symm).elim
      | _ + 2, _, h1, _ => simp at h1
      | _, _ + 2, _, h2 => simp at h2
  obtain ⟨nil, hsv, hcs, hnil⟩ : ∃ nil, VR (nuD Dt) (sig ρ [(rg, sg), (rb, sb)]) (bc nil .nils (.sl 7 (.k 0) (.lin 0 [(74 + p, 1)]) (.ge (.lin 0 [(74 + p, 1)])) 12)) s ∧ cellV s = true ∧ (nil = true → Dt.esP p = []) := by
    rcases hs with ⟨he, rfl⟩ | ⟨he, c, rfl, hc1, hc2⟩
    · exact ⟨true, rfl, rfl, fun _ => he⟩
    · have hl : (SI.lin 0 [(74 + p, 1)]).den (nuD Dt) = ((Dt.esP p).length : Int) := by show 0 + (1 * (nuD Dt).n (74 + p) + 0) = _; rw [n74]; omega
      refine ⟨false, ⟨rb, sb, 0, _, c, sig_at (ps := [(rg, sg), (rb, sb)]) 1, .inr rfl, hl, ?_, hc1, by omega, rfl⟩, rfl, fun h => by cases h⟩
      show (SI.lin 0 [(74 + p, 1)]).den (nuD Dt) ≤ _
      rw [hl]; omega
  have hchk : chkLen p nil (runLen p nil) = true := by
    have := List.all_eq_true.1 slen_ok p (List.mem_range.2 hp3)
    rw [Bool.and_eq_true] at this
    cases nil
    · exact this.2
    · exact this.1
  obtain ⟨n3, H3, D3, hrun, hD⟩ := chkLen_spec hchk
  obtain ⟨vg, l1, rfl, hvg, hl1⟩ := hv.cons
  cases hl1.nil
  intro next Q hn
  rw [hP]
  refine small_run okNil hrun (hsmall nil hsv hcs) (sig_glob hg) (VRs.mk ?_ VRs.mk0) fun σ' v w' _ hv' hr3 hst => ?_
  · obtain ⟨r, s, oo, k1, k2, rfl⟩ := hvg
    rw [eg] at k1; cases k1
    exact ⟨_, _, oo, sig_at (ps := [(rg, sg), (rb, sb)]) 0, k2, rfl⟩
  · obtain ⟨hr', hst'⟩ := hr.quiet hst hD (fun c hc => sig_top (by simpa using hc))
    refine hn _ nx H [(b, false), (g, false)] ρ v w' h3 .refl ?_ hr' (hst'.more (by simp))
    have hv' : v = .int .i64 ((bc nil (SI.k 0) (.lin 0 [(74 + p, 1)])).den (nuD Dt)) := hv'
    rw [hv']
    show Value.int .i64 _ = .int .i64 ((SI.lin 0 [(74 + p, 1)]).den (nuD Dt))
    cases nil with
    | false => rfl
    | true =>
      have h0 := hnil rfl
      have : (SI.lin 0 [(74 + p, 1)]).den (nuD Dt) = 0 := by show 0 + (1 * (nuD Dt).n (74 + p) + 0) = _; rw [n74, h0]; simp
      rw [this]; rfl
end
end Go.AM
namespace Go.AM
open Go Go.Proofs
set_option linter.unusedVariables false
/-! # TopBudget: the context -/
theorem loc_textM {bd : Bd} {b : AV} {T : SS} : Loc (textM bd b T) := by
  unfold textM
  repeat' first
    | with_reducible exact Loc.no
    | with_reducible exact Loc.ret
    | with_reducible exact Loc.lift
    | with_reducible exact Loc.rd
    | with_reducible exact Loc.wr
    | with_reducible exact loc_appNew
    | with_reducible apply Loc.bind
    | with_reducible apply Loc.bc
    | intro _
    | split
theorem loc_findM {bd : Bd} {call : Nat → List AV → M AV} (hc : LocC call) {t : Nat} {n v : SS} : Loc (findM bd call t n v) := by
  unfold findM findT
  repeat' first
    | with_reducible exact Loc.no
    | with_reducible exact Loc.ret
    | with_reducible exact Loc.lift
    | with_reducible exact Loc.rd
    | with_reducible exact Loc.wr
    | with_reducible apply Loc.bind
    | with_reducible apply Loc.bc
    | intro _
    | split
    | exact hc _ _
theorem loc_addM {bd : Bd} {call : Nat → List AV → M AV} (hc : LocC call) {t : Nat} {n v : SS} : Loc (addM bd call t n v) := by
  unfold addM addT
  repeat' first
    | with_reducible exact Loc.no
    | with_reducible exact Loc.ret
    | with_reducible exact Loc.lift
    | with_reducible exact Loc.rd
    | with_reducible exact Loc.wr
    | with_reducible exact Loc.nw
    | with_reducible apply Loc.bind
    | with_reducible apply Loc.bc
    | intro _
    | split
    | exact hc _ _
theorem loc_getM {bd : Bd} {t p : Nat} : Loc (getM bd t p) := by
  unfold getM
  repeat' first
    | with_reducible exact Loc.ret
    | with_reducible exact Loc.lift
    | with_reducible exact Loc.rd
    | with_reducible apply Loc.bind
    | intro _
theorem loc_rdHd : ∀ {l : List Nat} {j : Nat}, Loc (rdHd l j)
  | [], _ => Loc.ret
  | _ :: _, _ => Loc.bind Loc.rd fun _ => Loc.bind Loc.lift fun _ => loc_rdHd
theorem loc_stSee {k b i : Nat} {l : List Nat} : Loc (stSee k b l i) := Loc.bind Loc.lift fun _ => Loc.bind Loc.rd fun _ => Loc.bind Loc.lift fun _ => loc_rdHd
theorem loc_stGet {bd : Bd} {call : Nat → List AV → M AV} (hc : LocC call) {g : Nat} {q : List AV} : Loc (stGet bd call g q) := by
  unfold stGet hitA
  repeat' first
    | with_reducible exact Loc.no
    | with_reducible exact Loc.ret
    | with_reducible exact Loc.lift
    | with_reducible exact Loc.rd
    | with_reducible exact Loc.wr
    | with_reducible exact Loc.nw
    | with_reducible exact loc_stSee
    | with_reducible apply Loc.bind
    | with_reducible apply Loc.bc
    | intro _
    | split
    | exact hc _ _
theorem loc_stNew {bd : Bd} {call : Nat → List AV → M AV} (hc : LocC call) {g : Nat} {e : List AV} : Loc (stNew bd call g e) := by
  unfold stNew
  repeat' first
    | with_reducible exact Loc.no
    | with_reducible exact Loc.ret
    | with_reducible exact Loc.lift
    | with_reducible exact Loc.rd
    | with_reducible exact Loc.wr
    | with_reducible exact Loc.nw
    | with_reducible exact loc_stSee
    | with_reducible apply Loc.bind
    | with_reducible apply Loc.bc
    | intro _
    | split
    | exact hc _ _
theorem loc_stLen {call : Nat → List AV → M AV} (hc : LocC call) {g : Nat} : Loc (stLen call g) := by
  unfold stLen
  repeat' first
    | with_reducible exact Loc.ret
    | with_reducible exact Loc.lift
    | with_reducible exact Loc.rd
    | with_reducible apply Loc.bind
    | intro _
    | split
    | exact hc _ _
theorem loc_extW {P : Program} {bd : Bd} {call : Nat → List AV → M AV} {f : Nat} {args : List AV} {m : M AV} (hc : LocC call) (h : extW P bd call f args = some m) : Loc m := by
  unfold extW at h
  split at h
  · obtain ⟨_, _, h⟩ := ob_some h; cases h; exact Loc.ret
  · obtain ⟨_, _, h⟩ := ob_some h; cases h; exact Loc.ret
  · obtain ⟨_, _, h⟩ := ob_some h; cases h; exact loc_textM
  · cases h; exact loc_findM hc
  · cases h; exact loc_addM hc
  · cases h; exact loc_getM
  · cases h; exact loc_stGet hc
  · cases h; exact loc_stNew hc
  · cases h; exact loc_stLen hc
  · exact loc_extB hc h
noncomputable def CW (bd : Bd) : Cx := { P := Tryz.prog, bd, plain := plainL, ext := extW Tryz.prog }
noncomputable def extIsW (f : Nat) : Bool := bc (Nat.beq f 55) true (bc (Nat.beq f 209) true (bc (Nat.beq f 168) true (bc (Nat.beq f 171) true (bc (Nat.beq f 359) true (bc (Nat.beq f 275) true (bc (Nat.beq f 240) true (bc (Nat.beq f 52) true (bc (Nat.beq f 12) true (extIsB f)))))))))
section
variable {Dt : Dat} {C : Cx}
theorem extOkW (hG : Dt.Good) (h : IsC C extW) (ok : (nuD Dt).Ok C.bd) : ExtOk C (nuD Dt) := by
  intro call f args m ρ nx H L w k z vs o a hc he hr hg hz hv hm
  have he := (h.ext _ _ _).symm.trans he
  unfold extW at he
  split at he
  · obtain ⟨x, hx, he⟩ := ob_some he
    cases he
    exact ext_withinL ok h.P hr hv hx hm
  · obtain ⟨x, hx, he⟩ := ob_some he
    cases he
    exact ext_itoa ok h.P hr hg hv hx hm
  · obtain ⟨x, hx, he⟩ := ob_some he
    cases he
    exact ext_text ok h.P hr hg hz hv hx hm
  · cases he
    exact ext_find hG ok h.P hc hr hg hz hv hm
  · cases he
    exact ext_add hG ok h.P hc hr hg hz hv hm
  · cases he
    exact ext_tget hG ok h.P hr hg hz hv hm
  · cases he
    exact ext_stget hG ok h.P hc hr hg hz hv hm
  · cases he
    exact ext_stnew hG ok h.P hc hr hg hz hv hm
  · cases he
    exact ext_stlen h.P hc hr hg hz hv hm
  · unfold extB at he
    split at he
    · cases he
      cases hv.nil
      exact ext_awake h.P hr hg hz hm
    · exact extA_case h.P hc he hr hg hz hv hm
theorem locXW (h : IsC C extW) : LocX C := fun hc he => loc_extW hc ((h.ext _ _ _).symm.trans he)
set_option maxRecDepth 100000 in
theorem plainW (bd : Bd) : PlainOk (CW bd) := plainX bd
set_option maxRecDepth 100000 in
theorem isW (bd : Bd) : IsC (CW bd) extW := ⟨rfl, fun _ _ _ => rfl, plainW bd⟩
set_option maxRecDepth 100000 in
theorem inW (bd : Bd) : ExtIn (CW bd) extIsW := by
  intro f hf call args
  have h1 : ∀ {b : Bool} {x : Bool}, bc b true x = false → b = false ∧ x = false := fun {b x} h => by cases b <;> first | exact ⟨rfl, h⟩ | cases h
  obtain ⟨a1, hf⟩ := h1 hf
  obtain ⟨a2, hf⟩ := h1 hf
  obtain ⟨a3, hf⟩ := h1 hf
  obtain ⟨a4, hf⟩ := h1 hf
  obtain ⟨a5, hf⟩ := h1 hf
  obtain ⟨a6, hf⟩ := h1 hf
  obtain ⟨a7, hf⟩ := h1 hf
  obtain ⟨a8, hf⟩ := h1 hf
  obtain ⟨a9, hf⟩ := h1 hf
  have hB : extB Tryz.prog bd call f args = none := inB bd f hf call args
  show extW Tryz.prog bd call f args = none
  unfold extW
  split
  · cases a9
  · cases a1
  · cases a2
  · cases a3
  · cases a4
  · cases a5
  · cases a6
  · cases a7
  · cases a8
  · exact hB
set_option maxRecDepth 100000 in
theorem callW (hG : Dt.Good) (bd : Bd) (ok : (nuD Dt).Ok bd) (m : Nat) : CallOk (CW bd) (nuD Dt) (callG (CW bd) extIsW m) := by
  rw [callG_eq (CW bd) (inW bd) m]
  exact callN_all ok (plainW bd) fitP mixed (extOkW hG (isW bd) ok) (locXW (isW bd)) m
end
end Go.AM
namespace Go.AM
open Go Go.Proofs
set_option linter.unusedVariables false
/-! # TopBudget: a state, told anew; the bounds of the letters -/
noncomputable section
/-! ## a state, told anew: other names, other letters -/
/-- how it is told: the round; is its path known; is it stored; is there no content; was an entry stored; 0: ahead of all rounds, 1: within a round, 2: behind it -/
structure TC where
  i : Nat
  known : Bool
  hit : Bool
  zero : Bool
  put : Bool
  mode : Nat
  nx : Nat
def commL (j : Nat) : Bool := bc (Nat.ble j 14) true (bc (Nat.ble 33 j && Nat.ble j 37) true (bc (Nat.ble 200 j && Nat.ble j 214) true (bc (Nat.ble 220 j && Nat.ble j 234) true (bc (Nat.ble 240 j && Nat.ble j 254) true (bc (Nat.beq j 262) true (Nat.beq j 263))))))
def commV (v : List (Nat × Int)) : Bool := v.all fun p => commL p.1
def commS (e : SI) : Bool := match e with
  | .k _ => true
  | .lin _ v => commV v
  | .bt _ v _ _ => commV v
/-- the lengths and sizes of tables behind the first round -/
def firstN (j : Nat) : Int := match j with
  | 48 => 2
  | 50 => 3
  | 52 => 82
  | _ => 128
def okTab (c : TC) (j : Nat) (o : SI) : Bool := match o with
  | .lin 0 [(k, 1)] => bc (Nat.beq k (Nat.succ j)) true (bc c.known (Nat.beq k j) false)
  | .k n => bc (Nat.beq c.i 0) (ieq n (firstN j)) false
  | _ => false
def isLet (e : SI) : Option Nat := match e with
  | .lin 0 [(j, 1)] => some j
  | _ => none
def okSame (o n : SI) : Bool := bc (siEq o n) (commS n) false
/-- the same number? -/
def okSI (c : TC) (asg : T SI) (o n : SI) : Bool := match isLet n with
  | some j => bc (Nat.ble 38 j && Nat.ble j 47) (match asg.get j with
      | some e => siEq e o
      | none => false) (bc (Nat.ble 48 j && Nat.ble j 55) (bc (Nat.beq (Nat.mod j 2) 0) (bc (Nat.beq c.mode 0) false (okTab c j o)) false) (okSame o n))
  | none => okSame o n
def commP (p : Pc) : Bool := match p with
  | .lit _ _ => true
  | .var i => Nat.ble i 14
  | .one e => commS e
def okSS (c : TC) (o n : SS) : Bool := bc (lEq pcEq o n) (n.all commP) (match o, n with
  | [], [.var i] => bc c.zero (Nat.beq i c.i) false
  | [.var i], [] => bc c.zero (Nat.beq i c.i) false
  | _, _ => false)
def okN (c : TC) (M : T Nat) (o n : Nat) : Bool := bc (Nat.ble 8 n) (bc (Nat.ble (Nat.succ n) c.nx) (bc (Nat.ble 8 o) (match M.get n with
  | some b => Nat.beq b o
  | none => false) false) false) (Nat.beq o n)
def okCp (c : TC) (asg : T SI) (o n : Cp) : Bool := match n with
  | .eq e => (match o with
    | .eq d => okSI c asg d e
    | .ge _ => false)
  | .ge e => bc (siEq e (.k 0)) true (okSI c asg o.low e)
def okL {α β : Type} (f : α → β → Bool) : List α → List β → Bool
  | [], [] => true
  | a :: l, b :: m => bc (f a b) (okL f l m) false
  | _, _ => false
def okV (c : TC) (M : T Nat) (asg : T SI) : Nat → AV → AV → Bool
  | 0, _, _ => false
  | f+1, o, n => match n with
    | .bool b => (match o with
      | .bool d => bc b d (bc d false true)
      | _ => false)
    | .int k e => (match o with
      | .int j d => bc (decide (k = j)) (okSI c asg d e) false
      | _ => false)
    | .str s => (match o with
      | .str t => okSS c t s
      | _ => false)
    | .flt k b => (match o with
      | .flt j d => bc (decide (k = j)) (Nat.beq b d) false
      | _ => false)
    | .ptr b e => (match o with
      | .ptr d p => bc (okN c M d b) (okSI c asg p e) false
      | _ => false)
    | .nilp => (match o with
      | .nilp => true
      | _ => false)
    | .sl b e l cp z => (match o with
      | .sl b2 o2 l2 c2 z2 => bc (okN c M b2 b) (bc (okSI c asg o2 e) (bc (okSI c asg l2 l) (bc (okCp c asg c2 cp) (Nat.beq z z2) false) false) false) false
      | _ => false)
    | .nils => (match o with
      | .nils => true
      | _ => false)
    | .fn g a b => (match o with
      | .fn h x y => bc (Nat.beq g h) (bc (okL (okV c M asg f) x a) (okL (okV c M asg f) y b) false) false
      | _ => false)
    | .nilf => (match o with
      | .nilf => true
      | _ => false)
    | .agg l => (match o with
      | .agg m => okL (okV c M asg f) m l
      | _ => false)
    | .tup l => (match o with
      | .tup m => okL (okV c M asg f) m l
      | _ => false)
    | .map b => (match o with
      | .map d => okN c M d b
      | _ => false)
    | .nilm => (match o with
      | .nilm => true
      | _ => false)
    | .nili => (match o with
      | .nili => true
      | _ => false)
/-- is a block told by this name? -/
def okLv (c : TC) (M : T Nat) (H : T AB) (n : Nat) : Bool := bc (Nat.ble 8 n) (bc (Nat.ble (Nat.succ n) c.nx) (match M.get n with
  | some b => bc (Nat.ble 8 b) (match H.get b with
    | some _ => true
    | none => false) false
  | none => false) false) false
/-- names of blocks, and one more perhaps -/
def okNs (c : TC) (M : T Nat) (H : T AB) (more : Bool) : List Nat → List Nat → Bool
  | [], [] => true
  | [], [b] => bc more (okLv c M H b) false
  | a :: l, b :: m => bc (okN c M a b) (okNs c M H more l m) false
  | _, _ => false
/-- from letters to letters -/
def okLt (c : TC) (k n : Nat) : Bool :=
  bc (Nat.beq n 0) (Nat.beq k 0) (bc (Nat.beq n 1) (Nat.beq k 1) (bc (Nat.beq n 9) (Nat.beq k 9) (bc (Nat.beq c.mode 0) false
  (bc (bc (Nat.beq n 2) true (Nat.beq n 4)) (bc (Nat.beq k (Nat.succ n)) true (bc c.known (Nat.beq k n) false))
  (bc (Nat.ble 20 n) (Nat.beq k n)
  (bc (Nat.beq c.mode 1) (bc (bc (Nat.beq n 7) true (Nat.beq n 11)) (bc (Nat.beq k n) true (bc c.hit false (Nat.beq (Nat.succ k) n))) false)
    (bc (bc (Nat.beq n 6) true (Nat.beq n 10)) (bc c.put (Nat.beq k (Nat.add n 2)) (Nat.beq k (Nat.succ n))) false)))))))
/-- is a table's row what it is behind the first round? -/
def pathT (i : Nat) : List AV := [.str [.lit 5 448629141562], .str [.lit 1 47, .one (.bt 48 [(i, 1)] 0 0)]]
def authT : List AV := [.str [.lit 10 573553764997793127424314], .str [.lit 1 97]]
def viaT : List AV := [.str [.lit 3 6383990], .str [.lit 11 138315448040357010542305330]]
def firstR (n : Nat) : List AV := bc (Nat.beq n 2) (pathT 220 ++ authT) (viaT ++ (pathT 220 ++ authT))
/-- from a row of cells to letters -/
def okRow (c : TC) (cs : List AV) (n : Nat) (l : List Nat) : Bool :=
  bc (Nat.beq n 9) (Nat.beq l.length 0)
  (bc (Nat.beq c.mode 0) (bc (Nat.beq n 6) (Nat.beq l.length 0) (bc (Nat.beq n 10) (bc (lEq (avEq 8) cs [.nils, .int .i64 (.k 0), .int .i64 (.lin 0 [(33, 1)])]) (Nat.beq l.length 1) false) false))
  (bc (Nat.beq c.mode 1) (bc (bc (Nat.beq n 2) true (Nat.beq n 4)) (bc (Nat.beq c.i 0) (bc (lEq (avEq 8) cs (firstR n)) (Nat.beq l.length 0) false) false) false)
  (bc (Nat.beq n (Nat.add 20 c.i)) (bc c.put false (Nat.beq l.length 0)) false)))
def okB (c : TC) (M : T Nat) (asg : T SI) (H : T AB) (o n : AB) : Bool := match n with
  | .row l => (match o with
    | .row m => okL (okV c M asg 8) m l
    | _ => false)
  | .byt s => (match o with
    | .byt t => okSS c t s
    | _ => false)
  | .map es => (match o with
    | .map fs => okL (fun p q => bc (okV c M asg 8 p.1 q.1) (okV c M asg 8 p.2 q.2) false) fs es
    | _ => false)
  | .lt k l => (match o with
    | .lt j m => bc (okLt c j k) (okNs c M H (bc c.put false (Nat.beq c.mode 2)) m l) false
    | .row cs => bc (okRow c cs k l) (l.all (okLv c M H)) false
    | _ => false)
def okE (c : TC) (M : T Nat) (asg : T SI) (e : T AV) (l : List (Nat × AV)) : Bool := l.all fun p => match e.get p.1 with
  | some x => okV c M asg 8 x p.2
  | none => false
def okH1 (c : TC) (M : T Nat) (asg : T SI) (H : T AB) (b : Nat) (A : AB) : Bool := match H.get b with
  | some B => okB c M asg H B A
  | none => false
def okH (c : TC) (M R : T Nat) (asg : T SI) (H : T AB) (l : List (Nat × AB)) : Bool := l.all fun p => bc (Nat.ble 8 p.1)
  (match M.get p.1 with
   | some b => bc (okH1 c M asg H b p.2) (bc (Nat.ble 8 b) (bc (Nat.ble (Nat.succ p.1) c.nx) (match R.get b with
       | some d => Nat.beq d p.1
       | none => false) false) false) false
   | none => false)
  (okH1 c M asg H p.1 p.2)
/-! ### the names, found by a search (nothing hangs on its being right) -/
structure TS where
  M : T Nat
  R : T Nat
  asg : T SI
  todo : List (Nat × Nat)
def tsN (o n : Nat) (s : TS) : TS := bc (Nat.ble 8 n) (match s.M.get n with
  | some _ => s
  | none => ⟨s.M.put n (some o), s.R.put o (some n), s.asg, (o, n) :: s.todo⟩) s
def tsSI (o n : SI) (s : TS) : TS := match isLet n with
  | some j => bc (Nat.ble 38 j && Nat.ble j 47) ⟨s.M, s.R, s.asg.put j (some o), s.todo⟩ s
  | none => s
def tsL {α : Type} (f : α → α → TS → TS) : List α → List α → TS → TS
  | a :: l, b :: m, s => tsL f l m (f a b s)
  | _, _, s => s
def tsV : Nat → AV → AV → TS → TS
  | 0, _, _, s => s
  | f+1, o, n, s => match o, n with
    | .int _ d, .int _ e => tsSI d e s
    | .ptr d p, .ptr b e => tsN d b (tsSI p e s)
    | .sl b2 o2 l2 c2 _, .sl b e l cp _ => tsN b2 b (tsSI o2 e (tsSI l2 l (tsSI c2.low cp.low s)))
    | .fn _ x y, .fn _ a b => tsL (tsV f) y b (tsL (tsV f) x a s)
    | .agg m, .agg l => tsL (tsV f) m l s
    | .tup m, .tup l => tsL (tsV f) m l s
    | .map d, .map b => tsN d b s
    | _, _ => s
def tsB (o n : AB) (s : TS) : TS := match o, n with
  | .row m, .row l => tsL (tsV 8) m l s
  | .map fs, .map es => tsL (fun p q s => tsV 8 p.2 q.2 (tsV 8 p.1 q.1 s)) fs es s
  | .lt _ m, .lt _ l => tsL tsN m l s
  | _, _ => s
def tsGo (H : T AB) (G : T AB) : Nat → TS → TS
  | 0, s => s
  | f+1, s => match s.todo with
    | [] => s
    | (o, n) :: t => (match H.get o, G.get n with
      | some A, some B => tsGo H G f (tsB A B ⟨s.M, s.R, s.asg, t⟩)
      | _, _ => tsGo H G f ⟨s.M, s.R, s.asg, t⟩)
/-- names that nothing led to: rows that nobody wants stand for them -/
def tsFree (H : T AB) (s : TS) : Nat → Nat → Nat
  | 0, b => b
  | f+1, b => match H.get b with
    | some (.row _) => (match s.R.get b with
      | none => b
      | some _ => tsFree H s f (Nat.pred b))
    | _ => tsFree H s f (Nat.pred b)
def tsRest (H : T AB) (nx : Nat) : List (Nat × AB) → TS → TS
  | [], s => s
  | (n, _) :: l, s => bc (Nat.ble 8 n) (match s.M.get n with
    | some _ => tsRest H nx l s
    | none => (fun b => tsRest H nx l ⟨s.M.put n (some b), s.R.put b (some n), s.asg, []⟩) (tsFree H s 2000 nx)) (tsRest H nx l s)
def tsE (e : T AV) : List (Nat × AV) → TS → TS
  | [], s => s
  | (i, x) :: l, s => (match e.get i with
    | some y => tsE e l (tsV 8 y x s)
    | none => tsE e l s)
/-- numbers that are told by letters: within bounds? -/
def okA (bd : Bd) (top : Int) (asg : T SI) : Bool := (List.range 10).all fun j => match asg.get (Nat.add 38 j) with
  | some e => (match SI.lo bd e, SI.hi bd e with
    | some l, some h => bc (ile 0 l) (ile h top) false
    | _, _ => false)
  | none => true
/-- slots of a frame, and of one behind it -/
structure Sl where
  e : List (Nat × AV)
  f : List (Nat × AV)
def tellS (sl : Sl) (hl : List (Nat × AB)) (e f : T AV) (nx : Nat) (H : T AB) (k : T Nat → T Nat → T SI → Bool) : Bool :=
  (fun s => k s.M s.R s.asg) (tsRest H nx hl (tsGo H (mkT hl) 3000 (tsE f sl.f (tsE e sl.e ⟨.leaf, .leaf, .leaf, []⟩))))
def tellOk (bd : Bd) (top : Int) (c : TC) (sl : Sl) (hl : List (Nat × AB)) (e f : T AV) (H : T AB) (M R : T Nat) (asg : T SI) : Bool :=
  bc (okE c M asg e sl.e) (bc (okE c M asg f sl.f) (bc (okH c M R asg H hl) (okA bd top asg) false) false) false
def tellB (bd : Bd) (top : Int) (c : TC) (sl : Sl) (hl : List (Nat × AB)) (e f : T AV) (nx : Nat) (H : T AB) : Bool :=
  tellS sl hl e f nx H (tellOk bd top c sl hl e f H)

def bBig : Int := 9223372036854775807
def bMin : Int := -9223372036854775808
/-- the bounds of letters: those of the round's content, of the budget, of how many rounds and sizes there are, of the flags, of what the budget is above the content -/
structure BX where
  z : Int × Int
  bud : Int × Int
  ln : Int × Int
  sn : Int × Int
  kn : Int × Int
  hit : Int × Int
  dif : Int × Int
  q : Int
def bdJ (i : Nat) (x : BX) (j : Nat) : Int × Int :=
  bc (Nat.ble j 14) (bc (Nat.beq j i) x.z (0, 4000))
  (bc (Nat.beq j 15) (0, 4000)
  (bc (Nat.ble j 32) (0, 0)
  (bc (Nat.beq j 33) x.bud
  (bc (Nat.beq j 34) (bMin, bBig)
  (bc (Nat.beq j 35) (0, 0)
  (bc (Nat.beq j 36) x.ln
  (bc (Nat.beq j 37) x.sn
  (bc (Nat.ble j 47) (0, x.q)
  (bc (Nat.ble j 51) (1, 20)
  (bc (Nat.ble j 55) (1, 1000)
  (bc (Nat.ble j 67) (1, 20)
  (bc (Nat.beq j 68) (.ofNat i, .ofNat i)
  (bc (Nat.beq j 69) x.kn
  (bc (Nat.beq j 70) x.hit
  (bc (Nat.ble j 73) (0, 3000)
  (bc (Nat.ble j 76) (0, 30)
  (bc (Nat.beq j 142) x.dif
  (bc (Nat.ble 200 j && Nat.ble j 214) (bMin, bBig)
  (bc (Nat.ble 220 j && Nat.ble j 234) (0, 9)
  (bc (Nat.ble 240 j && Nat.ble j 254) (bMin, bBig) (0, 0)))))))))))))))))))))
def bdX (i : Nat) (x : BX) : Bd := (List.range 262).map (bdJ i x)
/-- how great what nobody asks about is at most: at a round's head, in its middle -/
def qTop (i k : Nat) : Int := .ofNat (Nat.add (Nat.mul 1000 i) (Nat.mul 300 k))
/-- a round's first part: is its path known, is it stored; are there no sizes any more -/
def bx1 (i : Nat) (known hit short : Bool) : BX := ⟨(0, 4000), (0, 3000), (.ofNat (Nat.succ i), bBig), bc short (0, .ofNat i) (.ofNat (Nat.succ i), bBig), bc known (1, 1) (0, 0), bc hit (1, 1) (0, 0), (-4000, 3000), qTop i 1⟩
/-- its second part: its size (0 fits, 1 over without content, 2 over with it, 3 nothing, fits, 4 nothing, over) -/
def bx2 (i : Nat) (size : Nat) : BX := ⟨bc (Nat.ble 3 size) (0, 0) (1, 4000), bc (bc (Nat.beq size 1) true (Nat.beq size 4)) (0, 132) (133, 3000), (0, bBig), (0, bBig), (1, 1), (0, 1), bc (bc (Nat.beq size 0) true (Nat.beq size 3)) (133, 3000) (-4000, 132), qTop i 2⟩
/-- the way out -/
def bxE (i : Nat) : BX := ⟨(0, 4000), (0, 3000), (0, .ofNat i), (0, bBig), (0, 1), (0, 1), (-4000, 3000), qTop i 1⟩
def bxP : BX := ⟨(0, 4000), (0, 3000), (0, bBig), (0, bBig), (0, 1), (0, 1), (-4000, 3000), 0⟩
end
end Go.AM
