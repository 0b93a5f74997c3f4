import Derived.Test.YtpgfdoakehpnlaaGreatDoorAxZ
set_option linter.unusedVariables false
set_option linter.unusedSimpArgs false
namespace Go.AM
open Go Go.Proofs
set_option linter.unusedVariables false
/-! # TopBudget: the walk through a round -/
section
variable (Q : Exit → Act → World → Prop)
/-- what is behind the loop of four, behind a round's turn -/
noncomputable def Qa : Exit → Act → World → Prop := Exit.inBlock 1 (Exit.then (cI.wp Tryz.prog Q) Q)
noncomputable def Qb : Exit → Act → World → Prop := Exit.inBlock 2 (Exit.then (cZ.wp Tryz.prog (Qa Q)) (Qa Q))
noncomputable def Qc : Exit → Act → World → Prop := Exit.then (Code.rounds Tryz.prog cK (Qb Q) 4) (Qb Q)
/-- what is behind Round's call, the first time -/
noncomputable def Qd : Exit → Act → World → Prop := Exit.inBlock 3 (Exit.then (cK6.wp Tryz.prog (Qc Q)) (Qc Q))
def Rest (a6 a33 : Act) (w : World) : Prop := ∀ v : Value, c33c.wp Tryz.prog (bodyPost Tryz.prog Tryz.f33 fun en w' => match en with
  | .returned u => cK3.wp Tryz.prog (Qd Q) ((a6.put (some 80) v).put (some 81) u) w'
  | _ => False) a33 w
end
theorem fit_of {n : Nat} {l : List Code} (h : l.all (codeFit n) = true) {c : Code} (hc : c ∈ l) : codeFit n c = true := List.all_eq_true.1 h c hc
theorem n6_ble : Nat.ble 82 Tryz.f6.ntmps = true := by kernel_rfl
theorem n6_big : 81 < n6 := Nat.le_of_ble_eq_true n6_ble
theorem frame_of {W w : World} {ρ0 ρ : Nm} {E : Log} (h8 : ∀ b, 8 ≤ b → ρ0 b = none) (hs : Stp ρ0 W ρ w E) (hE : newW8 E = true) {r : Nat} (hr : r < W.heap.size) : w.heap[r]? = W.heap[r]? :=
  hs.frame r hr fun c s hc e => by
    have h6 := List.all_eq_true.1 hE (c, true) hc
    simp at h6
    rw [h8 c h6] at e; cases e
/-! ## the two regions that load what the caller handed in -/
noncomputable def o13 : Oper := ops13.getD 3 default
noncomputable def o15 : Oper := ops15.getD 5 default
theorem ops13_size : ops13.size = 6 := by kernel_rfl
theorem ops15_size : ops15.size = 12 := by kernel_rfl
theorem ops13_3 : ops13[3]? = some o13 := by kernel_rfl
theorem ops15_5 : ops15[5]? = some o15 := by kernel_rfl
theorem o13_op : o13.op = .load 3 (.tmp 56) := by kernel_rfl
theorem o13_dst : o13.dst = some 57 := by kernel_rfl
theorem o13_g : o13.guard = none := by kernel_rfl
theorem o15_op : o15.op = .load 3 (.tmp 66) := by kernel_rfl
theorem o15_dst : o15.dst = some 67 := by kernel_rfl
theorem o15_g : o15.guard = none := by kernel_rfl
theorem fit13a : (((ops13.toList.drop 0).take 3).all fun o => opFit n6 o && o.guard.isNone) = true := by kernel_rfl
theorem fit13b : (((ops13.toList.drop 4).take 2).all fun o => opFit n6 o && o.guard.isNone) = true := by kernel_rfl
theorem fit15a : (((ops15.toList.drop 0).take 5).all fun o => opFit n6 o && o.guard.isNone) = true := by kernel_rfl
theorem fit15b : (((ops15.toList.drop 6).take 6).all fun o => opFit n6 o && o.guard.isNone) = true := by kernel_rfl
theorem ld_ok {t d j : Nat} {p : AV} {k : KE} {e : T AV} {nx : Nat} {H : T AB} {L : Log} {z : Ans} (hz : Yes z) (h : ld t d p j k e nx H L = z) : e.get t = some p ∧ newW8 L = true ∧ k (e.put d (some (.int .i64 (.lin 0 [(j, 1)])))) nx H L = z := by
  unfold ld at h
  cases he : e.get t with
  | none => rw [he] at h; exact (hz _ h.symm).elim
  | some x =>
    rw [he] at h
    have h : bc (avEq 8 x p) (bc (newW8 L) (k (e.put d (some (.int .i64 (.lin 0 [(j, 1)])))) nx H L) (.no "what was written")) (.no "from where") = z := h
    cases h1 : avEq 8 x p with
    | false => rw [h1] at h; exact (hz _ h.symm).elim
    | true =>
      cases h2 : newW8 L with
      | false => rw [h1, h2] at h; exact (hz _ h.symm).elim
      | true =>
        rw [h1, h2] at h
        exact ⟨by rw [avEq_of 8 _ _ h1], rfl, h⟩
section
variable {D : Dat} {W : World} {bd : Bd} {ρ0 ρb ρ : Nm} {z : Ans} {e : T AV} {nx : Nat} {H : T AB} {L : Log} {a : Act} {w : World} {Q : Exit → Act → World → Prop}
/-- where the pointer points -/
theorem ptr_at (hs : SW (nuD D) W ρ0 ρb n6 e nx H L ρ a w) {t b k n r sz o : Nat} (he : e.get t = some (.ptr b (.lin (.ofNat n) [(k, 1)]))) (hb : ρ0 b = some (r, sz)) (hk : (nuD D).n k = (o : Nat)) : a.eval (.tmp t) = .pointer (some ⟨r, o + n, none⟩) := by
  obtain ⟨E, hst, _⟩ := hs.bs
  have hρ := hst.ext b _ hb
  obtain ⟨r', sz', o', h1, h2, h3⟩ := hs.er.slot t _ he
  rw [hρ] at h1
  cases h1
  have h2 : (n : Int) + (1 * (nuD D).n k + 0) = (o' : Nat) := h2
  rw [hk] at h2
  have : o' = o + n := by omega
  subst this
  have : a.eval (.tmp t) = a.tmps.getD t undef := by simp [Act.eval]
  rw [this]; exact h3
theorem VR_let {k : Nat} {n : Int} (h : (nuD D).n k = n) : VR (nuD D) ρ (.int .i64 (.lin 0 [(k, 1)])) (.int .i64 n) := by
  show Value.int .i64 n = .int .i64 (0 + (1 * (nuD D).n k + 0))
  rw [h]; congr 1; omega
theorem reg13 (h0 : ∀ b, 8 ≤ b → ρ0 b = none) (hG : D.Good) (ok : (nuD D).Ok bd) (hz : Yes z) (hM : Mem W ρ0 D) {i : Nat} (hi : i ≤ 14) (hn : i < D.sn) {K : KE} (h : runL bd [c13a] (ld 56 57 (ptrS i) (Nat.add 240 i) (runL bd [c13b] K)) e nx H L = z)
    (hs : SW (nuD D) W ρ0 ρb n6 e nx H L ρ a w) (hN : ∀ e' nx' H' L' ρ' a' w', K e' nx' H' L' = z → SW (nuD D) W ρ0 ρb n6 e' nx' H' L' ρ' a' w' → Q .normal a' w') : (Code.region 13 ops13 false).wp Tryz.prog Q a w := by
  refine wp_region ?_
  rw [ops13_size]
  show wpOps Tryz.prog ops13 Q (List.range' 0 3 ++ (3 :: (List.range' 4 2 ++ []))) a w
  refine sub_ok hG ok hz (by rw [ops13_size]; omega) fit13a h hs fun e1 nx1 H1 L1 ρ1 a1 w1 h hs => ?_
  obtain ⟨he, hL, h⟩ := ld_ok hz (show ld 56 57 (ptrS i) (Nat.add 240 i) (runL bd [c13b] K) e1 nx1 H1 L1 = z from h)
  obtain ⟨r, sz, o, hb, hq, hr, hc⟩ := hM.s i hi hn
  have hk : (nuD D).n 263 = (o : Nat) := by rw [n_of _ (by omega), m_263, hq]
  have hv := ptr_at hs he hb hk
  obtain ⟨E, hst, hE⟩ := hs.bs
  have hw := frame_of h0 hst (newW8_app hL hE) hr
  refine load_step ops13_3 o13_op o13_dst o13_g hv ((cell_same hw).trans hc) ?_
  have hx : VR (nuD D) ρ1 (.int .i64 (.lin 0 [(Nat.add 240 i, 1)])) (.int .i64 (D.sp i)) := VR_let (by show (nuD D).n (240 + i) = _; rw [n_of _ (by omega), m_sp _ hi])
  have h6 := n6_big
  refine sub_ok hG ok hz (by rw [ops13_size]; omega) fit13b h ⟨hs.er.put (d := some 57) (fun d hd => by cases hd; omega) hx, hs.hr, hs.gl, hs.ext, hs.bs⟩ fun e2 nx2 H2 L2 ρ2 a2 w2 h hs => ?_
  exact hN _ _ _ _ _ _ _ h hs
theorem reg15 (h0 : ∀ b, 8 ≤ b → ρ0 b = none) (hG : D.Good) (ok : (nuD D).Ok bd) (hz : Yes z) (hM : Mem W ρ0 D) {i : Nat} (hi : i ≤ 14) (hn : i < D.ln) {cs : List Code} {K : KE} (h : runL bd [c15a] (ld 66 67 (ptrL i) (Nat.add 200 i) (runL bd (c15b :: cs) K)) e nx H L = z)
    (hs : SW (nuD D) W ρ0 ρb n6 e nx H L ρ a w) (hN : ∀ e' nx' H' L' ρ' a' w', runL bd cs K e' nx' H' L' = z → SW (nuD D) W ρ0 ρb n6 e' nx' H' L' ρ' a' w' → Q .normal a' w') : (Code.region 15 ops15 false).wp Tryz.prog Q a w := by
  refine wp_region ?_
  rw [ops15_size]
  show wpOps Tryz.prog ops15 Q (List.range' 0 5 ++ (5 :: (List.range' 6 6 ++ []))) a w
  refine sub_ok hG ok hz (by rw [ops15_size]; omega) fit15a h hs fun e1 nx1 H1 L1 ρ1 a1 w1 h hs => ?_
  obtain ⟨he, hL, h⟩ := ld_ok hz (show ld 66 67 (ptrL i) (Nat.add 200 i) (runL bd (c15b :: cs) K) e1 nx1 H1 L1 = z from h)
  obtain ⟨r, sz, o, hb, hq, hr, hc⟩ := hM.l i hi hn
  have hk : (nuD D).n 262 = (o : Nat) := by rw [n_of _ (by omega), m_262, hq]
  have hv := ptr_at hs (n := 4 * i + 1) he hb hk
  obtain ⟨E, hst, hE⟩ := hs.bs
  have hw := frame_of h0 hst (newW8_app hL hE) hr
  refine load_step ops15_5 o15_op o15_dst o15_g hv ((cell_same hw).trans hc) ?_
  have hx : VR (nuD D) ρ1 (.int .i64 (.lin 0 [(Nat.add 200 i, 1)])) (.int .i64 (D.lp i)) := VR_let (by show (nuD D).n (200 + i) = _; rw [n_of _ (by omega), m_lp _ hi])
  have h6 := n6_big
  refine sub_ok hG ok hz (by rw [ops15_size]; omega) fit15b h ⟨hs.er.put (d := some 67) (fun d hd => by cases hd; omega) hx, hs.hr, hs.gl, hs.ext, hs.bs⟩ fun e2 nx2 H2 L2 ρ2 a2 w2 h hs => ?_
  exact hN _ _ _ _ _ _ _ h hs
end
section
variable {D : Dat} {W : World} {bd : Bd} {ρ0 ρ : Nm} {a : Act} {w : World} {Q : Exit → Act → World → Prop}
theorem ifK_ok {b : Bool} {t : Nat} {k : KE} {e : T AV} {nx : Nat} {H : T AB} {L : Log} {z : Ans} (hz : Yes z) (h : ifK b t k e nx H L = z) : e.get t = some (.bool b) ∧ k e nx H L = z := by
  unfold ifK at h
  split at h
  · rename_i c hc
    cases b <;> cases c <;> first | exact ⟨hc, h⟩ | exact (hz _ h.symm).elim
  · exact (hz _ h.symm).elim
set_option maxRecDepth 100000 in
theorem walkB (h0 : ∀ b, 8 ≤ b → ρ0 b = none) (hG : D.Good) (ok : (nuD D).Ok bd) (hM : Mem W ρ0 D) {i : Nat} (hi : i ≤ 14) (hil : i < D.ln) {short : Bool} (hsn : short = false → i < D.sn) {s : Sta} {got : T AV → T AV → Nat → T AB → Bool} (hrun : chk8 (part1 bd i short s got) = true) (hs : SW (nuD D) W ρ0 ρ0 n6 (mkT s.e) s.nx (mkT s.H) [] ρ a w)
    (hmid : ∀ e f nx H L ρ' a6 a33 w', got e f nx H = true → newW8 L = true → SW (nuD D) W ρ0 ρ0 n6 e nx H L ρ' a6 w' → SW (nuD D) W ρ0 ρ0 n33 f nx H L ρ' a33 w' → Rest Q a6 a33 w') : c6B.wp Tryz.prog Q a w := by
  obtain ⟨y1, y2, y3, hA, hn⟩ := chk8_spec hrun
  have hz : Yes (Ans.ok (.bool true) y1 y2 y3) := fun _ e => by cases e
  have hf := fit6b
  have h := hA
  unfold part1 at h
  rw [B_eq]
  refine wp_seq (runC_go hG ok hz (fit_of hf (by simp)) h hs fun e1 nx1 H1 L1 ρ1 a1 w1 h hs => ?_)
  show Code.wp _ _ _ a1 w1
  refine wp_seq (wp_block ?_)
  show Code.wp _ _ (Qa Q) a1 w1
  refine wp_seq (runC_go hG ok hz (fit_of hf (by simp)) h hs fun e1 nx1 H1 L1 ρ1 a1 w1 h hs => ?_)
  show Code.wp _ _ _ a1 w1
  refine wp_seq ?_
  rw [g2_eq]
  refine wp_seq (runC_go hG ok hz (fit_of hf (by simp)) h hs fun e1 nx1 H1 L1 ρ1 a1 w1 h hs => ?_)
  show Code.wp _ _ _ a1 w1
  have h : (bc short (ifK false 53 (k1b bd i got)) (ifK true 53 (runL bd [c13a] (ld 56 57 (ptrS i) (Nat.add 240 i) (runL bd [c13b] (k1b bd i got)))))) e1 nx1 H1 L1 = Ans.ok (.bool true) y1 y2 y3 := h
  -- behind the size
  have tail : ∀ e1 nx1 H1 L1 ρ1 a1 w1, k1b bd i got e1 nx1 H1 L1 = Ans.ok (.bool true) y1 y2 y3 → SW (nuD D) W ρ0 ρ0 n6 e1 nx1 H1 L1 ρ1 a1 w1 →
      (Code.seq (sL g3) (.seq (sL g4) (.seq (sL g5) (.seq (.seq cA8 (.block 2 (.loop cK))) cZ)))).wp Tryz.prog (Qa Q) a1 w1 := by
    intro e1 nx1 H1 L1 ρ1 a1 w1 h hs
    unfold k1b at h
    refine wp_seq (runC_go hG ok hz (fit_of hf (by simp)) h hs fun e1 nx1 H1 L1 ρ1 a1 w1 h hs => ?_)
    show Code.wp _ _ _ a1 w1
    rw [g4_eq]
    refine wp_seq (reg15 h0 hG ok hz hM hi hil h hs fun e1 nx1 H1 L1 ρ1 a1 w1 h hs => ?_)
    show Code.wp _ _ _ a1 w1
    refine wp_seq (runC_go hG ok hz (fit_of hf (by simp)) h hs fun e1 nx1 H1 L1 ρ1 a1 w1 h hs => ?_)
    show Code.wp _ _ _ a1 w1
    refine wp_seq (wp_seq (runC_go hG ok hz (fit_of hf (by simp)) h hs fun e1 nx1 H1 L1 ρ1 a1 w1 h hs => ?_))
    show Code.wp _ _ _ a1 w1
    refine wp_block (wp_loop_rounds 5 ?_)
    show cK.wp Tryz.prog (Qc Q) a1 w1
    rw [cK_eq]
    refine wp_seq (runC_go hG ok hz (fit_of hf (by simp)) h hs fun e2 nx2 H2 L2 ρ2 a2 w2 h hs => ?_)
    show Code.wp _ _ _ a2 w2
    refine wp_seq (wp_block ?_)
    show Code.wp _ _ (Qd Q) a2 w2
    have h : k1c bd got e2 nx2 H2 L2 = Ans.ok (.bool true) y1 y2 y3 := h
    unfold k1c at h
    cases he : e2.get 14 with
    | none => rw [he] at h; cases h
    | some x =>
      rw [he] at h
      have h : runL bd [c33a, c33b] (fun f nx H L => endK (got e2 f nx H) L) (slots [x] 0 .leaf) nx2 H2 L2 = Ans.ok (.bool true) y1 y2 y3 := h
      have hx := hs.er.slot 14 x he
      have h6 := n6_big
      refine wp_seq (region20 (Nat.lt_of_lt_of_le (Nat.lt_of_succ_lt h6) hs.er.size) (show a2.eval (.tmp 14) = a2.tmps.getD 14 undef from by simp [Act.eval]) ?_)
      generalize a2.tmps.getD 14 undef = v at hx ⊢
      refine calls_of_wp (fn := Tryz.f33) Tryz.func33 body33_eq ?_
      have hf3 := fit33
      have hs3 : SW (nuD D) W ρ0 ρ2 n33 (slots [x] 0 .leaf) nx2 H2 L2 ρ2 { tmps := (⟨[v]⟩ : Array Value) ++ Array.replicate (Tryz.f33.ntmps - (⟨[v]⟩ : Array Value).size) undef, defers := [] } w2 :=
        ⟨slots_ER (VRs.mk hx VRs.mk0), hs.hr, hs.gl, fun _ _ h => h, hs.bs⟩
      refine wp_seq (runC_go hG ok hz (fit_of hf3 (by simp)) h hs3 fun e3 nx3 H3 L3 ρ3 a3 w3 h hs3 => ?_)
      show Code.wp _ _ _ a3 w3
      refine wp_seq (runC_go hG ok hz (fit_of hf3 (by simp)) h hs3 fun e3 nx3 H3 L3 ρ3 a3 w3 h hs3 => ?_)
      show Code.wp _ _ _ a3 w3
      have h : endK (got e2 e3 nx3 H3) L3 = Ans.ok (.bool true) y1 y2 y3 := h
      unfold endK at h
      cases hg : got e2 e3 nx3 H3 with
      | false => rw [hg] at h; cases h
      | true =>
        rw [hg] at h
        have h : Ans.ok (.bool true) 0 .leaf L3 = Ans.ok (.bool true) y1 y2 y3 := h
        injection h with _ _ _ h
        subst h
        have hs6 : SW (nuD D) W ρ0 ρ0 n6 e2 nx3 H3 L3 ρ3 a2 w3 := ⟨hs.er.ext hs3.ext, hs3.hr, hs3.gl, fun b p hb => hs3.ext b p (hs.ext b p hb), hs3.bs⟩
        have hs33 : SW (nuD D) W ρ0 ρ0 n33 e3 nx3 H3 L3 ρ3 a3 w3 := ⟨hs3.er, hs3.hr, hs3.gl, hs6.ext, hs3.bs⟩
        refine wp_mono (hmid _ _ _ _ _ _ _ _ _ hg hn hs6 hs33 v) ?_
        intro ex a4 w4 hq
        cases ex with
        | normal =>
          obtain ⟨q1, u, q2, q3⟩ := hq
          exact ⟨q1, u, q2, q3⟩
        | ret =>
          obtain ⟨q1, u, q2, q3⟩ := hq
          exact ⟨q1, u, q2, q3⟩
        | panic c => exact hq.2.elim
        | outgrown => exact hq.elim
        | exit i => exact hq.elim
        | goto l => exact hq.elim
  cases short with
  | true =>
    obtain ⟨he, h⟩ := ifK_ok hz (show ifK false 53 (k1b bd i got) e1 nx1 H1 L1 = _ from h)
    have hv : a1.eval (.tmp 53) = .bool false := by
      have : a1.eval (.tmp 53) = a1.tmps.getD 53 undef := by simp [Act.eval]
      rw [this]; exact hs.er.slot 53 _ he
    refine wp_cond_false hv (wp_skip ?_)
    exact tail _ _ _ _ _ _ _ h hs
  | false =>
    obtain ⟨he, h⟩ := ifK_ok hz (show ifK true 53 (runL bd [c13a] (ld 56 57 (ptrS i) (Nat.add 240 i) (runL bd [c13b] (k1b bd i got)))) e1 nx1 H1 L1 = _ from h)
    have hv : a1.eval (.tmp 53) = .bool true := by
      have : a1.eval (.tmp 53) = a1.tmps.getD 53 undef := by simp [Act.eval]
      rw [this]; exact hs.er.slot 53 _ he
    refine wp_cond_true hv ?_
    refine reg13 h0 hG ok hz hM hi (hsn rfl) h hs fun e1 nx1 H1 L1 ρ1 a1 w1 h hs => ?_
    exact tail _ _ _ _ _ _ _ h hs
theorem res33 : Tryz.f33.results = #[] := by kernel_rfl
theorem results33 (tmps : Array Value) (w : World) : ∃ v, (results Tryz.f33 tmps).run Tryz.prog w = .ok v w := by
  rw [results_eq, res33]
  have hm : ((#[] : Array ResultVar).mapM (resF tmps)).run Tryz.prog w = .ok #[] w := by
    rw [Array.mapM_eq_mapM_toList, map_eq_pure_bind]
    simp [Sem.run_bind, Sem.run_pure, Result.andThen_ok]
  simp only [Sem.run_bind, hm, Result.andThen_ok, Sem.run_pure]
  exact ⟨_, rfl⟩
set_option maxRecDepth 100000 in
theorem walkRest (hG : D.Good) (ok : (nuD D).Ok bd) {m : Sta} {got : T AV → Nat → T AB → Bool} (hrun : chk8 (part2 bd m got) = true) {a6 a33 : Act} (h6 : SW (nuD D) W ρ0 ρ0 n6 (mkT (outE m.e)) m.nx (mkT m.H) [] ρ a6 w) (h33 : SW (nuD D) W ρ0 ρ0 n33 (mkT (inE m.e)) m.nx (mkT m.H) [] ρ a33 w)
    (h80 : (mkT (outE m.e)).get 80 = none) (h81 : (mkT (outE m.e)).get 81 = none)
    (hnext : ∀ e nx H L ρ' a' w', got e nx H = true → newW8 L = true → SW (nuD D) W ρ0 ρ0 n6 e nx H L ρ' a' w' → Q .normal a' w') : Rest Q a6 a33 w := by
  intro v
  obtain ⟨y1, y2, y3, hA, hn⟩ := chk8_spec hrun
  have hz : Yes (Ans.ok (.bool true) y1 y2 y3) := fun _ e => by cases e
  have hf3 := fit33
  have hf := fit6c
  have h := hA
  unfold part2 at h
  have hs3 : SW (nuD D) W ρ0 ρ n33 (mkT (inE m.e)) m.nx (mkT m.H) [] ρ a33 w := ⟨h33.er, h33.hr, h33.gl, fun _ _ h => h, h33.bs⟩
  refine runC_go hG ok hz (fit_of hf3 (by simp)) h hs3 fun e3 nx3 H3 L3 ρ3 a3 w3 h hs3 => ?_
  obtain ⟨u, hu⟩ := results33 a3.tmps w3
  refine ⟨hs3.er.defers, u, hu, ?_⟩
  show cK3.wp Tryz.prog (Qd Q) ((a6.put (some 80) v).put (some 81) u) w3
  have hs : SW (nuD D) W ρ0 ρ0 n6 (mkT (outE m.e)) nx3 H3 L3 ρ3 ((a6.put (some 80) v).put (some 81) u) w3 :=
    ⟨((h6.er.ext hs3.ext).putfree h80 v).putfree h81 u, hs3.hr, hs3.gl, fun b p hb => hs3.ext b p (h6.ext b p hb), hs3.bs⟩
  have h : runL bd [cK3, cK6, cK, cK, cK] (runC bd cK noS (exitK (runL bd [cZ, cI] (fun e nx H L => endK (got e nx H) L)))) (mkT (outE m.e)) nx3 H3 L3 = _ := h
  generalize hkk : (runC bd cK noS (exitK (runL bd [cZ, cI] (fun e nx H L => endK (got e nx H) L)))) = kk at h
  refine runC_go hG ok hz (fit_of hf (by simp)) h hs fun e1 nx1 H1 L1 ρ1 a1 w1 h hs => ?_
  show Code.wp _ _ (Qc Q) a1 w1
  refine runC_go hG ok hz (fit_of hf (by simp)) h hs fun e1 nx1 H1 L1 ρ1 a1 w1 h hs => ?_
  show cK.wp Tryz.prog (Exit.then (Code.rounds Tryz.prog cK (Qb Q) 3) (Qb Q)) a1 w1
  refine runC_go hG ok hz (fit_of hf (by simp)) h hs fun e1 nx1 H1 L1 ρ1 a1 w1 h hs => ?_
  show cK.wp Tryz.prog (Exit.then (Code.rounds Tryz.prog cK (Qb Q) 2) (Qb Q)) a1 w1
  refine runC_go hG ok hz (fit_of hf (by simp)) h hs fun e1 nx1 H1 L1 ρ1 a1 w1 h hs => ?_
  show cK.wp Tryz.prog (Exit.then (Code.rounds Tryz.prog cK (Qb Q) 1) (Qb Q)) a1 w1
  refine runC_go hG ok hz (fit_of hf (by simp)) h hs fun e1 nx1 H1 L1 ρ1 a1 w1 h hs => ?_
  show cK.wp Tryz.prog (Exit.then (Code.rounds Tryz.prog cK (Qb Q) 0) (Qb Q)) a1 w1
  have h : kk e1 nx1 H1 L1 = _ := h
  rw [← hkk] at h
  refine runC_ok hG ok hz (fit_of hf (by simp)) h hs (fun _ _ _ _ _ _ _ h _ => (hz _ h.symm).elim) fun i e2 nx2 H2 L2 ρ2 a2 w2 h hs => ?_
  have h : (bc (Nat.beq i 2) (runL bd [cZ, cI] (fun e nx H L => endK (got e nx H) L)) noS) e2 nx2 H2 L2 = _ := h
  cases hb : Nat.beq i 2 with
  | false => rw [hb] at h; exact (hz _ h.symm).elim
  | true =>
    rw [hb] at h
    have hi := Nat.eq_of_beq_eq_true hb
    subst hi
    have h : runL bd [cZ, cI] (fun e nx H L => endK (got e nx H) L) e2 nx2 H2 L2 = _ := h
    show cZ.wp Tryz.prog (Qa Q) a2 w2
    refine runC_go hG ok hz (fit_of hf (by simp)) h hs fun e1 nx1 H1 L1 ρ1 a1 w1 h hs => ?_
    show cI.wp Tryz.prog Q a1 w1
    refine runC_go hG ok hz (fit_of hf (by simp)) h hs fun e1 nx1 H1 L1 ρ1 a1 w1 h hs => ?_
    have h : endK (got e1 nx1 H1) L1 = Ans.ok (.bool true) y1 y2 y3 := h
    unfold endK at h
    cases hg : got e1 nx1 H1 with
    | false => rw [hg] at h; cases h
    | true =>
      rw [hg] at h
      have h : Ans.ok (.bool true) 0 .leaf L1 = Ans.ok (.bool true) y1 y2 y3 := h
      injection h with _ _ _ h
      subst h
      exact hnext _ _ _ _ _ _ _ hg hn hs
end
end Go.AM
namespace Go.AM
open Go Go.Proofs
set_option linter.unusedVariables false
/-! # TopBudget: what holds of the data, from round to round -/
/-- at a round's head -/
structure Dat.Head (D : Dat) : Prop where
  arg : D.Arg
  dr : ∀ d ∈ D.ds, 0 ≤ d ∧ d ≤ 9
  dn : D.ds.Nodup
  dl : D.ds.length ≤ D.i
  ge : GE D D.es
  sub : ∀ e ∈ D.es, e.d ∈ D.ds
  q : ∀ j, 38 ≤ j → j ≤ 47 → 0 ≤ D.q j ∧ D.q j ≤ qTop D.i 1
/-- in its middle -/
structure Dat.Mid (D : Dat) : Prop where
  arg : D.Arg
  dr : ∀ d ∈ D.ds, 0 ≤ d ∧ d ≤ 9
  dn : D.ds.Nodup
  dl : D.ds.length ≤ D.i + 1
  kn : D.known = true
  ge : GE D D.es
  sub : ∀ e ∈ D.es, e.d ∈ D.ds
  q : ∀ j, 38 ≤ j → j ≤ 47 → 0 ≤ D.q j ∧ D.q j ≤ qTop D.i 2
section
variable {D : Dat} {asg : T SI}
theorem Dat.Head.good (h : D.Head) : D.Good := ⟨h.dr, h.dn, Nat.le_trans h.dl (Nat.le_add_right _ _), h.ge.er, h.ge.en, h.ge.el, h.ge.eb, h.ge.ebn, h.ge.ec⟩
theorem Dat.Mid.good (h : D.Mid) : D.Good := ⟨h.dr, h.dn, by rw [h.kn, if_pos rfl]; exact h.dl, h.ge.er, h.ge.en, h.ge.el, h.ge.eb, h.ge.ebn, h.ge.ec⟩
theorem Dat.Head.mid (h : D.Head) (hq : ∀ j, 38 ≤ j → j ≤ 47 → 0 ≤ qOf D asg j ∧ qOf D asg j ≤ qTop D.i 2) : (D.mid asg).Mid := by
  have hg := h.good
  refine ⟨⟨h.arg.bI, h.arg.lp, h.arg.sp, ?_, ?_⟩, ?_, ?_, ?_, mid_known, ⟨h.ge.er, h.ge.en, h.ge.el, h.ge.eb, h.ge.ebn, h.ge.ec⟩, ?_, hq⟩
  · show qOf D asg 32 = 0; unfold qOf; rw [if_pos (by omega)]; exact h.arg.q32
  · show qOf D asg 35 = 0; unfold qOf; rw [if_pos (by omega)]; exact h.arg.q35
  · have := hg.r' 1
    unfold Dat.dsK at this; rw [if_neg (by omega)] at this; exact this
  · have := hg.n' 1
    unfold Dat.dsK at this; rw [if_neg (by omega)] at this; exact this
  · show D.ds'.length ≤ D.i + 1
    rw [Dat.ds'_eq]
    have := h.dl
    split
    · omega
    · simp; omega
  · intro e he
    show e.d ∈ D.ds'
    have := h.sub e he
    rw [Dat.ds'_eq]
    split
    · exact this
    · exact List.mem_cons_of_mem _ this
theorem rest_sublist (D : Dat) : D.rest.Sublist D.es := by
  unfold Dat.rest
  cases hp : pick D.cur D.es with
  | none => exact List.Sublist.refl _
  | some q =>
    obtain ⟨f, r⟩ := q
    obtain ⟨a, b, h1, h2, _, _⟩ := pick_some hp
    show r.Sublist D.es
    rw [h1, h2]
    exact List.Sublist.append (List.Sublist.refl a) (List.sublist_cons_self f b)
theorem rest_ne (hn : (D.es.map (·.d)).Nodup) : ∀ e ∈ D.rest, e.d ≠ D.cur := by
  unfold Dat.rest
  cases hp : pick D.cur D.es with
  | none => exact pick_none hp
  | some q =>
    obtain ⟨f, r⟩ := q
    obtain ⟨a, b, h1, h2, h3, h4⟩ := pick_some hp
    show ∀ e ∈ r, _
    rw [h2]
    intro e he
    rcases List.mem_append.1 he with he | he
    · exact h4 e he
    · rw [h1] at hn
      rw [List.map_append, List.map_cons, List.nodup_append] at hn
      obtain ⟨_, hn, _⟩ := hn
      rw [List.nodup_cons] at hn
      intro hx
      exact hn.1 (List.mem_map.2 ⟨e, he, by rw [hx, h3]⟩)
/-- the entries behind a round -/
theorem es2_ge (h : D.Good) : (∀ e ∈ D.es2, 0 ≤ e.d ∧ e.d ≤ 9) ∧ (D.es2.map (·.d)).Nodup ∧ (∀ e ∈ D.es2, e.b < D.i + 1) ∧ (D.es2.map (·.b)).Nodup := by
  unfold Dat.es2
  split
  · rename_i hf
    have hroom : 0 ≤ D.bud - cost1 D.new := by
      unfold Dat.fit at hf
      have := of_decide_eq_true hf
      have : cost1 D.new = 133 + (D.sz D.i : Int) := by unfold cost1 Dat.new; simp [Dat.zs]
      omega
    obtain ⟨m, m1, m2, m3, _⟩ := evict_spec hroom D.rest
    rw [m2]
    have hsl : (D.rest.take m).Sublist D.es := (List.take_sublist _ _).trans (rest_sublist D)
    have hmem : ∀ e ∈ D.rest.take m, e ∈ D.es := fun e he => hsl.subset he
    refine ⟨fun e he => ?_, ?_, fun e he => ?_, ?_⟩
    · rcases List.mem_cons.1 he with rfl | he
      · exact D.cur_in
      · exact h.er e (hmem e he)
    · rw [List.map_cons, List.nodup_cons]
      refine ⟨fun hx => ?_, (hsl.map _).nodup h.en⟩
      obtain ⟨e, he, hx⟩ := List.mem_map.1 hx
      exact rest_ne h.en e (List.mem_of_mem_take he) hx
    · rcases List.mem_cons.1 he with rfl | he
      · exact Nat.lt_succ_self _
      · exact Nat.lt_succ_of_lt (h.eb e (hmem e he))
    · rw [List.map_cons, List.nodup_cons]
      refine ⟨fun hx => ?_, (hsl.map _).nodup h.ebn⟩
      obtain ⟨e, he, hx⟩ := List.mem_map.1 hx
      have := h.eb e (hmem e he)
      have hx : e.b = D.i := hx
      omega
  · have := h.ge1
    exact ⟨this.er, this.en, fun e he => Nat.lt_succ_of_lt (this.eb e he), this.ebn⟩
theorem Dat.Mid.next (h : D.Mid) (hi : D.i + 1 ≤ 14) (hq : ∀ j, 38 ≤ j → j ≤ 47 → 0 ≤ qOf D asg j ∧ qOf D asg j ≤ qTop (D.i + 1) 1) : (D.next asg hi).Head := by
  have hg := h.good
  obtain ⟨e1, e2, e3, e4⟩ := es2_ge hg
  obtain ⟨e5, e6⟩ := es2_le hg
  have hd : D.ds' = D.ds := by rw [Dat.ds'_eq, if_pos h.kn]
  refine ⟨⟨h.arg.bI, h.arg.lp, h.arg.sp, ?_, ?_⟩, ?_, ?_, ?_, ⟨e1, e2, e6, e3, e4, e5⟩, ?_, hq⟩
  · show qOf D asg 32 = 0; unfold qOf; rw [if_pos (by omega)]; exact h.arg.q32
  · show qOf D asg 35 = 0; unfold qOf; rw [if_pos (by omega)]; exact h.arg.q35
  · show ∀ d ∈ D.ds', _; rw [hd]; exact h.dr
  · show D.ds'.Nodup; rw [hd]; exact h.dn
  · show D.ds'.length ≤ D.i + 1; rw [hd]; exact h.dl
  · intro e he
    show e.d ∈ D.ds'
    rw [hd]
    rcases mem_es2 (show e ∈ D.es2 from he) with ⟨_, h1⟩ | h1
    · rw [h1]; exact Dat.known_iff.1 h.kn
    · exact h.sub e h1
theorem Dat.Head.pre (h : D.Head) (hi : D.i = 0) (hq : ∀ j, 38 ≤ j → j ≤ 47 → 0 ≤ qOf D asg j ∧ qOf D asg j ≤ qTop 0 1) : (D.pre asg).Head := by
  refine ⟨⟨h.arg.bI, h.arg.lp, h.arg.sp, ?_, ?_⟩, h.dr, h.dn, h.dl, ⟨h.ge.er, h.ge.en, h.ge.el, h.ge.eb, h.ge.ebn, h.ge.ec⟩, h.sub, ?_⟩
  · show qOf D asg 32 = 0; unfold qOf; rw [if_pos (by omega)]; exact h.arg.q32
  · show qOf D asg 35 = 0; unfold qOf; rw [if_pos (by omega)]; exact h.arg.q35
  · have : (D.pre asg).i = 0 := hi
    rw [this]; exact hq
theorem found_known (h : ∀ e ∈ D.es, e.d ∈ D.ds) (hf : D.found = true) : D.known = true := by
  unfold Dat.found at hf
  cases hp : pick D.cur D.es with
  | none => rw [hp] at hf; cases hf
  | some q =>
    obtain ⟨f, r⟩ := q
    obtain ⟨a, b, h1, _, h3, _⟩ := pick_some hp
    rw [Dat.known_iff, ← h3]
    exact h f (by rw [h1]; simp)
/-! ## the letters' bounds, case by case -/
theorem sz_le' (D : Dat) : (D.sz D.i : Int) ≤ 4000 := sz_le D D.i
theorem fit_iff : D.fit = true ↔ 133 + (D.sz D.i : Int) ≤ D.bud := by unfold Dat.fit; exact decide_eq_true_iff
theorem bOk1 (hq : ∀ j, 38 ≤ j → j ≤ 47 → 0 ≤ D.q j ∧ D.q j ≤ qTop D.i 1) {known hit short : Bool} (h1 : D.known = known) (h2 : D.found = hit) (hl : D.i < D.ln) (hl2 : (D.ln : Int) ≤ bBig) (hs : short = true → D.sn ≤ D.i) (hs2 : short = false → D.i < D.sn ∧ (D.sn : Int) ≤ bBig) : BOk D (bx1 D.i known hit short) where
  z := ⟨by show (0 : Int) ≤ _; omega, sz_le' D⟩
  bud := bud_in D
  ln := ⟨by show Int.ofNat (D.i + 1) ≤ _; rw [Int.ofNat_eq_natCast]; omega, hl2⟩
  sn := by
    cases short with
    | true => exact ⟨by show (0 : Int) ≤ _; omega, by show _ ≤ Int.ofNat D.i; have := hs rfl; rw [Int.ofNat_eq_natCast]; omega⟩
    | false => have := hs2 rfl; exact ⟨by show Int.ofNat (D.i + 1) ≤ _; rw [Int.ofNat_eq_natCast]; omega, this.2⟩
  kn := by
    rw [h1]
    cases known
    · exact ⟨Int.le_refl _, Int.le_refl _⟩
    · exact ⟨Int.le_refl _, Int.le_refl _⟩
  hit := by
    rw [h2]
    cases hit
    · exact ⟨Int.le_refl _, Int.le_refl _⟩
    · exact ⟨Int.le_refl _, Int.le_refl _⟩
  dif := by
    have := sz_le' D
    have := bud_in D
    exact ⟨by show (-4000 : Int) ≤ _; omega, by show _ ≤ (3000 : Int); omega⟩
  q := hq
/-- which size is it? -/
def Dat.size (D : Dat) : Nat := if D.sz D.i = 0 then (if 133 ≤ D.bud then 3 else 4) else if D.bud ≤ 132 then 1 else if D.fit then 0 else 2
theorem size_fit (D : Dat) : (bc (Nat.beq D.size 0) true (Nat.beq D.size 3)) = D.fit := by
  unfold Dat.size
  by_cases h0 : D.sz D.i = 0
  · rw [if_pos h0]
    by_cases h1 : 133 ≤ D.bud
    · rw [if_pos h1]
      have : D.fit = true := fit_iff.2 (by rw [h0]; omega)
      rw [this]; rfl
    · rw [if_neg h1]
      have : D.fit = false := by
        cases hf : D.fit with
        | false => rfl
        | true => have := fit_iff.1 hf; omega
      rw [this]; rfl
  · rw [if_neg h0]
    by_cases h1 : D.bud ≤ 132
    · rw [if_pos h1]
      have : D.fit = false := by
        cases hf : D.fit with
        | false => rfl
        | true => have := fit_iff.1 hf; omega
      rw [this]; rfl
    · rw [if_neg h1]
      cases hf : D.fit with
      | true => rw [if_pos rfl]; rfl
      | false => rw [if_neg (by simp)]; rfl
theorem size_zero (D : Dat) : Nat.ble 3 D.size = true ↔ D.sz D.i = 0 := by
  unfold Dat.size
  by_cases h0 : D.sz D.i = 0
  · rw [if_pos h0]
    split <;> simp [h0]
  · rw [if_neg h0]
    split
    · simp [h0]
    · split <;> simp [h0]
theorem bOk2 (hq : ∀ j, 38 ≤ j → j ≤ 47 → 0 ≤ D.q j ∧ D.q j ≤ qTop D.i 2) (hk : D.known = true) (hl2 : (D.ln : Int) ≤ bBig) (hs2 : (D.sn : Int) ≤ bBig) : BOk D (bx2 D.i D.size) := by
  have hz4 := sz_le' D
  have hb := bud_in D
  have hkn : (if D.known then (1 : Int) else 0) = 1 := by rw [hk]; rfl
  have hfd : (0 : Int) ≤ (if D.found then 1 else 0) ∧ (if D.found then (1 : Int) else 0) ≤ 1 := by split <;> omega
  have mk : ∀ (s : Nat), D.size = s → ((bx2 D.i s).z.1 ≤ (D.sz D.i : Nat) ∧ ((D.sz D.i : Nat) : Int) ≤ (bx2 D.i s).z.2) → ((bx2 D.i s).bud.1 ≤ D.bud ∧ D.bud ≤ (bx2 D.i s).bud.2) → ((bx2 D.i s).dif.1 ≤ D.bud - (D.sz D.i : Nat) ∧ D.bud - (D.sz D.i : Nat) ≤ (bx2 D.i s).dif.2) → BOk D (bx2 D.i D.size) := by
    intro s hs h1 h2 h3
    rw [hs]
    exact ⟨h1, h2, ⟨by show (0 : Int) ≤ _; omega, hl2⟩, ⟨by show (0 : Int) ≤ _; omega, hs2⟩, by rw [hkn]; exact ⟨Int.le_refl _, Int.le_refl _⟩, hfd, h3, hq⟩
  by_cases h0 : D.sz D.i = 0
  · by_cases h1 : 133 ≤ D.bud
    · refine mk 3 (by unfold Dat.size; rw [if_pos h0, if_pos h1]) ⟨?_, ?_⟩ ⟨h1, hb.2⟩ ⟨?_, ?_⟩
      · show (0 : Int) ≤ _; omega
      · show _ ≤ (0 : Int); omega
      · show (133 : Int) ≤ _; omega
      · show _ ≤ (3000 : Int); omega
    · refine mk 4 (by unfold Dat.size; rw [if_pos h0, if_neg h1]) ⟨?_, ?_⟩ ⟨hb.1, ?_⟩ ⟨?_, ?_⟩
      · show (0 : Int) ≤ _; omega
      · show _ ≤ (0 : Int); omega
      · show _ ≤ (132 : Int); omega
      · show (-4000 : Int) ≤ _; omega
      · show _ ≤ (132 : Int); omega
  · by_cases h1 : D.bud ≤ 132
    · refine mk 1 (by unfold Dat.size; rw [if_neg h0, if_pos h1]) ⟨?_, hz4⟩ ⟨hb.1, h1⟩ ⟨?_, ?_⟩
      · show (1 : Int) ≤ _; omega
      · show (-4000 : Int) ≤ _; omega
      · show _ ≤ (132 : Int); omega
    · cases hf : D.fit with
      | true =>
        have := fit_iff.1 hf
        refine mk 0 (by unfold Dat.size; rw [if_neg h0, if_neg h1, hf, if_pos rfl]) ⟨?_, hz4⟩ ⟨?_, hb.2⟩ ⟨?_, ?_⟩
        · show (1 : Int) ≤ _; omega
        · show (133 : Int) ≤ _; omega
        · show (133 : Int) ≤ _; omega
        · show _ ≤ (3000 : Int); omega
      | false =>
        have hnf : ¬ (133 + (D.sz D.i : Int) ≤ D.bud) := fun h => by rw [fit_iff.2 h] at hf; cases hf
        refine mk 2 (by unfold Dat.size; rw [if_neg h0, if_neg h1, hf, if_neg (by simp)]) ⟨?_, hz4⟩ ⟨?_, hb.2⟩ ⟨?_, ?_⟩
        · show (1 : Int) ≤ _; omega
        · show (133 : Int) ≤ _; omega
        · show (-4000 : Int) ≤ _; omega
        · show _ ≤ (132 : Int); omega
/-- any bounds of how many rounds and sizes there are: the way out, what is ahead -/
theorem bOkE (hq : ∀ j, 38 ≤ j → j ≤ 47 → 0 ≤ D.q j ∧ D.q j ≤ qTop D.i 1) (hl : D.ln ≤ D.i) (hs2 : (D.sn : Int) ≤ bBig) : BOk D (bxE D.i) := by
  have hz4 := sz_le' D
  have hb := bud_in D
  have hkn : (0 : Int) ≤ (if D.known then 1 else 0) ∧ (if D.known then (1 : Int) else 0) ≤ 1 := by split <;> omega
  have hfd : (0 : Int) ≤ (if D.found then 1 else 0) ∧ (if D.found then (1 : Int) else 0) ≤ 1 := by split <;> omega
  exact ⟨⟨by show (0 : Int) ≤ _; omega, hz4⟩, hb, ⟨by show (0 : Int) ≤ _; omega, by show _ ≤ Int.ofNat D.i; rw [Int.ofNat_eq_natCast]; omega⟩, ⟨by show (0 : Int) ≤ _; omega, hs2⟩, hkn, hfd, ⟨by show (-4000 : Int) ≤ _; omega, by show _ ≤ (3000 : Int); omega⟩, hq⟩
theorem bOkP (hq : ∀ j, 38 ≤ j → j ≤ 47 → D.q j = 0) (hl2 : (D.ln : Int) ≤ bBig) (hs2 : (D.sn : Int) ≤ bBig) : BOk D bxP := by
  have hz4 := sz_le' D
  have hb := bud_in D
  have hkn : (0 : Int) ≤ (if D.known then 1 else 0) ∧ (if D.known then (1 : Int) else 0) ≤ 1 := by split <;> omega
  have hfd : (0 : Int) ≤ (if D.found then 1 else 0) ∧ (if D.found then (1 : Int) else 0) ≤ 1 := by split <;> omega
  exact ⟨⟨by show (0 : Int) ≤ _; omega, hz4⟩, hb, ⟨by show (0 : Int) ≤ _; omega, hl2⟩, ⟨by show (0 : Int) ≤ _; omega, hs2⟩, hkn, hfd, ⟨by show (-4000 : Int) ≤ _; omega, by show _ ≤ (3000 : Int); omega⟩, fun j h1 h2 => by rw [hq j h1 h2]; exact ⟨Int.le_refl _, Int.le_refl _⟩⟩
end
end Go.AM
