import Derived.Test.YtpgfdoakehpnlaaGreatDoorAxQ
set_option linter.unusedVariables false
set_option linter.unusedSimpArgs false
namespace Go.AM
open Go Go.Proofs
set_option linter.unusedVariables false
/-! # TopBudget: table.Find -/
/-- what holds of the data at the head of a round -/
structure Dat.Good (D : Dat) : Prop where
  dr : ∀ d ∈ D.ds, 0 ≤ d ∧ d ≤ 9
  dn : D.ds.Nodup
  dl : D.ds.length ≤ D.i + (if D.known then 1 else 0)
  er : ∀ e ∈ D.es, 0 ≤ e.d ∧ e.d ≤ 9
  en : (D.es.map (·.d)).Nodup
  el : D.es.length ≤ D.i
  eb : ∀ e ∈ D.es, e.b < D.i
  ebn : (D.es.map (·.b)).Nodup
  ec : cost D.es ≤ D.bud
section
variable {ν ν2 : Vl} {ρ ρ2 : Nm}
theorem path_den {c : Nat} (h : 0 ≤ ν.n c ∧ ν.n c ≤ 9) : sden ν [.lit 1 47, .one (.bt 48 [(c, 1)] 0 0)] = pathB (ν.n c) := by
  have : (SI.bt 48 [(c, 1)] 0 0).den ν = 48 + ν.n c := by
    show ((48 + (1 * ν.n c + 0)) / 256 ^ 0) % 256 * 2 ^ 0 = _
    simp; omega
  show [UInt8.ofNat (47 % 256)] ++ ([UInt8.ofNat ((SI.bt 48 [(c, 1)] 0 0).den ν).toNat] ++ []) = [47, UInt8.ofNat (48 + ν.n c).toNat]
  rw [this]; rfl
theorem lit_den (l n : Nat) : sden ν [.lit l n] = litB l n := by show litB l n ++ [] = _; rw [List.append_nil]
theorem strL (l n : Nat) : VR ν ρ (.str [.lit l n]) (strV (litB l n)) := by show _ = strV (sden ν [.lit l n]); rw [lit_den]
theorem pathV_R {c : Nat} (h : 0 ≤ ν.n c ∧ ν.n c ≤ 9) : VRs ν ρ (pathV c) [strV (pathF (ν.n c)).1, strV (pathF (ν.n c)).2] :=
  VRs.mk (strL _ _) (VRs.mk (by show _ = strV _; rw [path_den h]; rfl) VRs.mk0)
theorem authV_R : VRs ν ρ authV [strV authF.1, strV authF.2] := VRs.mk (strL _ _) (VRs.mk (strL _ _) VRs.mk0)
theorem viaV_R : VRs ν ρ viaV [strV viaF.1, strV viaF.2] := VRs.mk (strL _ _) (VRs.mk (strL _ _) VRs.mk0)
theorem fldVs_cons (f : List UInt8 × List UInt8) (l : List (List UInt8 × List UInt8)) : fldVs (f :: l) = [strV f.1, strV f.2] ++ fldVs l := rfl
theorem clientR_R : ∀ {ls : List Nat}, (∀ c ∈ ls, 0 ≤ ν.n c ∧ ν.n c ≤ 9) → VRs ν ρ (clientR ls) (fldVs (clientF (ls.map ν.n)))
  | [], _ => authV_R
  | c :: ls, h => by
    have e1 : clientR (c :: ls) = pathV c ++ clientR ls := rfl
    have e2 : clientF ((c :: ls).map ν.n) = pathF (ν.n c) :: clientF (ls.map ν.n) := rfl
    rw [e1, e2, fldVs_cons]
    exact (pathV_R (h c (by simp))).append (clientR_R fun d hd => h d (by simp [hd]))
theorem originR_R : ∀ {ls : List Nat}, (∀ c ∈ ls, 0 ≤ ν.n c ∧ ν.n c ≤ 9) → VRs ν ρ (originR ls) (fldVs (originF (ls.map ν.n)))
  | [], _ => authV_R
  | [c], h => viaV_R.append ((pathV_R (h c (by simp))).append authV_R)
  | c :: e :: ls, h => by
    have e1 : originR (c :: e :: ls) = pathV c ++ originR (e :: ls) := rfl
    have e2 : originF ((c :: e :: ls).map ν.n) = pathF (ν.n c) :: originF ((e :: ls).map ν.n) := rfl
    rw [e1, e2, fldVs_cons]
    exact (pathV_R (h c (by simp))).append (originR_R fun d hd => h d (by simp only [List.mem_cons] at hd ⊢; exact .inr hd))
theorem tabR_R {k : Nat} {ls : List Nat} (h : ∀ c ∈ ls, 0 ≤ ν.n c ∧ ν.n c ≤ 9) : VRs ν ρ (tabR (decide (2 ≤ k)) ls) (fldVs (tabF k (ls.map ν.n))) := by
  unfold tabR tabF
  by_cases hk : k < 2
  · rw [if_pos hk, decide_eq_false (by omega)]; exact clientR_R h
  · rw [if_neg hk, decide_eq_true (by omega)]; exact originR_R h
/-- known texts alone -/
def litStr (x : AV) : Bool := match x with
  | .str [] => true
  | .str [.lit _ _] => true
  | _ => false
theorem lit_row : ∀ {l : List AV} {vs : List Value}, l.all litStr = true → VRs ν ρ l vs → VRs ν2 ρ2 l vs
  | [], _, _, h => h
  | x :: l, vs, hl, h => by
    simp only [List.all_cons, Bool.and_eq_true] at hl
    obtain ⟨v, us, rfl, h1, h2⟩ := h.cons
    refine VRs.mk ?_ (lit_row hl.2 h2)
    have hx := hl.1
    unfold litStr at hx
    split at hx
    · exact h1
    · have h1 : v = strV (sden ν [.lit _ _]) := h1
      rw [lit_den] at h1
      show v = strV (sden ν2 [.lit _ _])
      rw [lit_den]; exact h1
    · cases hx
theorem lit186 : row186.all litStr = true := by decide +kernel
theorem sameRow_eq : ∀ {a b : List AV}, sameRow a b = true → a = b
  | [], [], _ => rfl
  | [], _ :: _, h => by cases h
  | _ :: _, [], h => by cases h
  | x :: a, y :: b, h => by
    obtain ⟨h1, h2⟩ := bc2 (show bc (sameStr x y) (sameRow a b) false = true from h)
    rw [sameRow_eq h2]
    unfold sameStr at h1
    split at h1
    · obtain ⟨e1, e2⟩ := bc2 h1
      rw [Nat.eq_of_beq_eq_true e1, Nat.eq_of_beq_eq_true e2]
    · rfl
    · cases h1
theorem isKn_ok {A : AB} {u : Unit} (h : isKn A = some u) : A = .row row186 := by
  unfold isKn at h
  split at h
  · obtain ⟨h1, _⟩ := bc_some h
    rw [sameRow_eq h1]
  · cases h
/-! ## how long tables are -/
theorem clientF_len (ds : List Int) : (clientF ds).length = ds.length + 1 := by simp [clientF]
theorem originF_len : ∀ {ds : List Int}, ds ≠ [] → (originF ds).length = ds.length + 2
  | [], h => (h rfl).elim
  | [d], _ => rfl
  | d :: e :: l, _ => by
    show (originF (e :: l)).length + 1 = _
    rw [originF_len (by simp)]; simp
theorem sizeF_cons (f : List UInt8 × List UInt8) (l : List (List UInt8 × List UInt8)) : sizeF (f :: l) = ((f.1.length + f.2.length + 32 : Nat) : Int) + sizeF l := rfl
theorem pathF_size (d : Int) : (pathF d).1.length + (pathF d).2.length + 32 = 39 := by simp [pathF, pathB]
theorem clientF_size : ∀ (ds : List Int), sizeF (clientF ds) = 39 * ds.length + 43
  | [] => by show sizeF [authF] = _; rw [sizeF_cons]; simp [authF, sizeF]
  | d :: ds => by
    show sizeF (pathF d :: clientF ds) = _
    rw [sizeF_cons, clientF_size ds, pathF_size]; simp; omega
theorem originF_size : ∀ {ds : List Int}, ds ≠ [] → sizeF (originF ds) = 39 * ds.length + 89
  | [], h => (h rfl).elim
  | [d], _ => by
    show sizeF [viaF, pathF d, authF] = _
    rw [sizeF_cons, sizeF_cons, sizeF_cons, pathF_size]; simp [authF, viaF, sizeF]
  | d :: e :: l, _ => by
    show sizeF (pathF d :: originF (e :: l)) = _
    rw [sizeF_cons, originF_size (by simp), pathF_size]; simp; omega
theorem tabF_len {k : Nat} {ds : List Int} (h : ds ≠ []) : (tabF k ds).length = tabLen (decide (2 ≤ k)) ds.length := by
  unfold tabF tabLen
  by_cases hk : k < 2
  · rw [if_pos hk, decide_eq_false (by omega), clientF_len]; rfl
  · rw [if_neg hk, decide_eq_true (by omega), originF_len h]; rfl
theorem tabF_size {k : Nat} {ds : List Int} (h : ds ≠ []) : sizeF (tabF k ds) = (tabSize (decide (2 ≤ k)) ds.length : Nat) := by
  unfold tabF tabSize
  by_cases hk : k < 2
  · rw [if_pos hk, decide_eq_false (by omega), clientF_size]; simp
  · rw [if_neg hk, decide_eq_true (by omega), originF_size h]; simp
theorem isTabL_ok {k : Nat} {len size : SI} {u : Unit} (h : isTabL k len size = some u) : len = .lin 0 [(48 + k, 1)] ∧ size = .lin 0 [(52 + k, 1)] := by
  unfold isTabL at h
  split at h
  · obtain ⟨h1, h⟩ := bc_some h
    obtain ⟨h2, h⟩ := bc_some h
    have h1 : _ = 48 + k := Nat.eq_of_beq_eq_true h1
    have h2 : _ = 52 + k := Nat.eq_of_beq_eq_true h2
    rw [h1, h2]; exact ⟨rfl, rfl⟩
  · cases h
theorem tbAt_ok {A : AB} {k : Nat} (h : tbAt A = some k) : A = .lt (2 + k) [] ∧ k < 4 := by
  obtain ⟨j, hj, h⟩ := ob_some h
  unfold ltK at hj
  split at hj
  · cases hj
    obtain ⟨h1, h⟩ := bc_some h
    obtain ⟨a1, a2⟩ := isIn_ok h1
    cases h
    refine ⟨?_, by show j - 2 < 4; omega⟩
    have : 2 + Nat.sub j 2 = j := by show 2 + (j - 2) = j; omega
    rw [this]
  · cases hj
theorem tbRow_ok {X : AB} {b kn : Nat} {len low size : SI} {kv : AV} (h : tbRow X = some (b, len, low, kn, kv, size)) :
    ∃ cap kc, X = .row [.sl b (.k 0) len cap 2, .sl kn (.k 0) (.k 61) kc 2, .int .i64 size, .int .i64 (.k 4096)] ∧ kv = .sl kn (.k 0) (.k 61) kc 2 := by
  unfold tbRow at h
  split at h
  · cases h; exact ⟨_, _, rfl, rfl⟩
  · cases h
end
section
variable {Dt : Dat} {ρ : Nm} {nx : Nat} {H : T AB} {w : World}
theorem ne_get {b c : Nat} {A B : AB} (h1 : H.get b = some A) (h2 : H.get c = some B) (h : A ≠ B) : b ≠ c := fun e => by subst e; rw [h1] at h2; cases h2; exact h rfl
/-- a table, as a few blocks -/
theorem tab_small (hr : HR (nuD Dt) ρ nx H w) {t b kn k : Nat} {cap kc : Cp}
    (hX : H.get t = some (.row [.sl b (.k 0) (.lin 0 [(48 + k, 1)]) cap 2, .sl kn (.k 0) (.k 61) kc 2, .int .i64 (.lin 0 [(52 + k, 1)]), .int .i64 (.k 4096)]))
    (hA : H.get b = some (.lt (2 + k) [])) (hk4 : k < 4) (hK : H.get kn = some (.row row186)) {ν2 : Vl} {ls : List Nat} (hls : ∀ c ∈ ls, 0 ≤ ν2.n c ∧ ν2.n c ≤ 9) (hds : ls.map ν2.n = Dt.dsK k) {vt : Value} (hvt : VR (nuD Dt) ρ (.ptr t (.k 0)) vt) :
    Dt.dsK k ≠ [] ∧ ∃ pt pb pk : Nat × Nat, ρ t = some pt ∧ ρ b = some pb ∧ ρ kn = some pk ∧ HR ν2 (sig ρ [pt, pb, pk]) 9 (mkH 6 (tabH (decide (2 ≤ k)) ls)) w ∧ VR ν2 (sig ρ [pt, pb, pk]) (.ptr 6 (.k 0)) vt := by
  obtain ⟨rt, st, ot, et, f1, f3⟩ := hr.blk t _ hX
  obtain ⟨rb, sb, ob', eb, g1, g2⟩ := hr.blk b _ hA
  obtain ⟨rk, sk, ok', ek, q1, q2⟩ := hr.blk kn _ hK
  obtain ⟨vs, h1, hcv, h3, h4⟩ := f3
  obtain ⟨ws, bs, c1, c2, c3, c4⟩ := g2
  have c3 := c3.nil
  subst c3
  have hB : Dt.B (2 + k) [] ws := by
    rcases c4 with h | h
    · omega
    · exact h
  simp only [Dat.B, show ¬ 2 + k = 0 by omega, show ¬ 2 + k = 1 by omega, show 2 + k ≤ 5 by omega, if_true, if_false, show 2 + k - 2 = k by omega] at hB
  obtain ⟨hne, hws⟩ := hB
  subst hws
  have hlen : ls.length = (Dt.dsK k).length := by rw [← hds]; simp
  obtain ⟨v1, l1, rfl, e1, hv1⟩ := h1.cons
  obtain ⟨v2, l2, rfl, e2, hv2⟩ := hv1.cons
  obtain ⟨v3, l3, rfl, e3, hv3⟩ := hv2.cons
  obtain ⟨v4, l4, rfl, e4, hv4⟩ := hv3.cons
  cases hv4.nil
  obtain ⟨r1, s1, o1, n1, cc1, a1, a2, a3, a4, a5, a6, rfl⟩ := e1
  obtain ⟨r2, s2, o2, n2, cc2, b1, b2, b3, b4, b5, b6, rfl⟩ := e2
  rw [eb] at a1; cases a1
  rw [ek] at b1; cases b1
  have e3 : v3 = .int .i64 (0 + (1 * (nuD Dt).n (52 + k) + 0)) := e3
  have e4 : v4 = .int .i64 4096 := e4
  have a3 : 0 + (1 * (nuD Dt).n (48 + k) + 0) = (n1 : Int) := a3
  rw [n_of _ (by omega), m_tl _ hk4, tabF_len hne] at a3
  rw [n_of _ (by omega), m_ts _ hk4, tabF_size hne] at e3
  have btn : b ≠ t := ne_get hA hX (by simp)
  have ktn : kn ≠ t := ne_get hK hX (by intro h; cases h)
  have kbn : kn ≠ b := ne_get hK hA (by simp)
  have i1 : rb ≠ rt := fun e => btn (by subst e; exact hr.inj _ _ _ _ _ _ _ hA hX eb et)
  have i2 : rk ≠ rt := fun e => ktn (by subst e; exact hr.inj _ _ _ _ _ _ _ hK hX ek et)
  have i3 : rk ≠ rb := fun e => kbn (by subst e; exact hr.inj _ _ _ _ _ _ _ hK hA ek eb)
  refine ⟨hne, (rt, st), (rb, sb), (rk, sk), et, eb, ek, ?_, ?_⟩
  · refine hr.small (tabH (decide (2 ≤ k)) ls) [(rt, st), (rb, sb), (rk, sk)] rfl (fun i A p h1 h2 => ?_) (fun i j p q h1 h2 h3 => ?_)
    · match i, h1, h2 with
      | 0, h1, h2 =>
        cases h1; cases h2
        refine ⟨ot, f1, _, ?_, hcv, h3, h4⟩
        refine VRs.mk ⟨rb, sb, o1, n1, cc1, sig_at (ps := [(rt, st), (rb, sb), (rk, sk)]) 1, a2, ?_, ?_, a5, a6, rfl⟩ (VRs.mk ⟨rk, sk, o2, n2, cc2, sig_at (ps := [(rt, st), (rb, sb), (rk, sk)]) 2, b2, b3, ?_, b5, b6, rfl⟩ (VRs.mk ?_ (VRs.mk e4 VRs.mk0)))
        · show ((tabLen (decide (2 ≤ k)) ls.length : Nat) : Int) = _
          rw [hlen]; omega
        · show ((tabLen (decide (2 ≤ k)) ls.length : Nat) : Int) ≤ _
          rw [hlen]; omega
        · have b3 : (61 : Int) = (n2 : Int) := b3
          show (61 : Int) ≤ _
          omega
        · rw [e3]
          show Value.int .i64 _ = .int .i64 ((tabSize (decide (2 ≤ k)) ls.length : Nat) : Int)
          rw [hlen]; congr 1; omega
      | 1, h1, h2 =>
        cases h1; cases h2
        refine ⟨ob', g1, _, (by have := tabR_R (ν := ν2) (ρ := sig ρ [(rt, st), (rb, sb), (rk, sk)]) (k := k) hls; rw [hds] at this; exact this), ?_, c1, c2⟩
        intro x hx
        unfold fldVs at hx
        obtain ⟨f, _, hf⟩ := List.mem_flatMap.1 hx
        simp only [List.mem_cons, List.not_mem_nil, or_false] at hf
        rcases hf with rfl | rfl <;> rfl
      | 2, h1, h2 =>
        cases h1; cases h2
        obtain ⟨us, u1, u2, u3, u4⟩ := q2
        exact ⟨ok', q1, us, lit_row lit186 u1, u2, u3, u4⟩
      | _ + 3, h1, h2 => simp at h2
    · match i, j, h1, h2 with
      | 0, 0, _, _ => rfl
      | 1, 1, _, _ => rfl
      | 2, 2, _, _ => rfl
      | 0, 1, h1, h2 => cases h1; cases h2; exact (i1 h3.symm).elim
      | 0, 2, h1, h2 => cases h1; cases h2; exact (i2 h3.symm).elim
      | 1, 0, h1, h2 => cases h1; cases h2; exact (i1 h3).elim
      | 1, 2, h1, h2 => cases h1; cases h2; exact (i3 h3.symm).elim
      | 2, 0, h1, h2 => cases h1; cases h2; exact (i2 h3).elim
      | 2, 1, h1, h2 => cases h1; cases h2; exact (i3 h3).elim
      | _ + 3, _, h1, _ => simp at h1
      | _, _ + 3, _, h2 => simp at h2
  · obtain ⟨r, s, o, k1, k2, rfl⟩ := hvt
    rw [et] at k1; cases k1
    exact ⟨rt, st, o, sig_at (ps := [(rt, st), (rb, sb), (rk, sk)]) 0, k2, rfl⟩
end
end Go.AM
namespace Go.AM
open Go Go.Proofs Go.ChangeShapes Go.WideShapes Go.ChangeAt Go.RowKit
set_option linter.unusedVariables false
/-! # TopBudget: table.Find, whole -/
theorem nbeq (i j : Nat) : Nat.beq i j = decide (i = j) := by rw [Bool.eq_iff_iff]; simp [Nat.beq_eq]
theorem nble (i j : Nat) : Nat.ble i j = decide (i ≤ j) := by rw [Bool.eq_iff_iff]; simp [Nat.ble_eq]
section
variable {x : Nat → List UInt8} {d y : Int} {f g : Nat → Int}
theorem nuS_32 : (nuS x d f g y).n 32 = wth 0 9 d := by rw [nuS_n (by omega)]; rfl
theorem nuS_80 {t : Nat} (h : t < 15) : (nuS x d f g y).n (80 + t) = oth d (f t) := by
  rw [nuS_n (by omega)]; unfold mS; rw [if_neg (by omega), if_pos (by omega), show 80 + t - 80 = t by omega]
theorem nuS_100 {t : Nat} (h : t < 15) : (nuS x d f g y).n (100 + t) = 1 := by
  rw [nuS_n (by omega)]; unfold mS; rw [if_neg (by omega), if_neg (by omega), if_pos (by omega)]
theorem nuS_220 {t : Nat} (h : t < 15) : (nuS x d f g y).n (220 + t) = wth 0 9 (g t) := by
  rw [nuS_n (by omega)]; unfold mS; rw [if_neg (by omega), if_neg (by omega), if_neg (by omega), if_neg (by omega), if_pos (by omega), show 220 + t - 220 = t by omega]
theorem nuS_0 {t : Nat} (h : t < 16) : (nuS x d f g y).n t = 0 := by
  unfold Vl.n; rw [if_pos (by omega)]; show ((if 16 ≤ t then x t else [] : List UInt8).length : Int) = 0; rw [if_neg (by omega)]; rfl
theorem nuS_else {j : Nat} (h : 32 < j) (h1 : j < 80 ∨ 94 < j) (h2 : j < 100 ∨ 114 < j) (h3 : j ≠ 140) (h4 : j < 220 ∨ 234 < j) : (nuS x d f g y).n j = 0 := by
  rw [nuS_n (by omega)]; unfold mS; rw [if_neg (by omega), if_neg (by omega), if_neg (by omega), if_neg (by omega), if_neg (by omega)]
theorem okP0 (hx : ∀ t, x t = []) : (nuS x d f g y).Ok bdP0 := by
  intro i lo hi he
  rw [lget_eq] at he
  have h115 : i < 115 := by have := (List.getElem?_eq_some_iff.1 he).1; simpa [bdP0] using this
  have hb : bdP0[i]? = some (bc (Nat.beq i 32) ((0 : Int), (9 : Int)) (bc (Nat.ble 80 i && Nat.ble i 94) (0, 9) (bc (Nat.ble 100 i && Nat.ble i 114) (1, 1) (0, 0)))) := by
    unfold bdP0; rw [List.getElem?_map, List.getElem?_range h115]; rfl
  rw [hb, nbeq, nble, nble, nble, nble] at he
  have he := Option.some.inj he
  by_cases h1 : i = 32
  · subst h1; cases he
    rw [nuS_32]; exact wth_in (by omega)
  by_cases h2 : 80 ≤ i ∧ i ≤ 94
  · simp only [h1, h2, decide_true, decide_false, Bool.and_true] at he
    cases he
    obtain ⟨t, rfl⟩ : ∃ t, i = 80 + t := ⟨i - 80, by omega⟩
    rw [nuS_80 (by omega)]
    have := oth_in d (f t); omega
  by_cases h3 : 100 ≤ i ∧ i ≤ 114
  · have e2 : (decide (80 ≤ i) && decide (i ≤ 94)) = false := by rw [← Bool.not_eq_true]; simp; omega
    simp only [h1, e2, h3, decide_true, decide_false, Bool.and_true] at he
    cases he
    obtain ⟨t, rfl⟩ : ∃ t, i = 100 + t := ⟨i - 100, by omega⟩
    rw [nuS_100 (by omega)]; omega
  · have e2 : (decide (80 ≤ i) && decide (i ≤ 94)) = false := by rw [← Bool.not_eq_true]; simp; omega
    have e3 : (decide (100 ≤ i) && decide (i ≤ 114)) = false := by rw [← Bool.not_eq_true]; simp; omega
    simp only [h1, e2, e3, decide_false] at he
    cases he
    have : (nuS x d f g y).n i = 0 := by
      by_cases h31 : i ≤ 31
      · unfold Vl.n; rw [if_pos h31]; show ((if 16 ≤ i then x i else [] : List UInt8).length : Int) = 0; rw [hx]; split <;> rfl
      · exact nuS_else (by omega) (by omega) (by omega) (by omega) (by omega)
    rw [this]; exact ⟨Int.le_refl _, Int.le_refl _⟩
end
/-! ## by a function's own text -/
theorem enter_pads {f n : Nat} (hn : ((Tryz.prog.funcs[f]?).map (·.ntmps)).getD 0 = n) {vs : List Value} (h : vs.length < n) : Frame.enter Tryz.prog f ⟨vs ++ [undef]⟩ .normal = Frame.enter Tryz.prog f ⟨vs⟩ .normal := by
  have hsz1 : (⟨vs ++ [undef]⟩ : Array Value).size = vs.length + 1 := by simp
  have hsz2 : (⟨vs⟩ : Array Value).size = vs.length := rfl
  have e : (⟨vs ++ [undef]⟩ : Array Value) ++ Array.replicate (n - (vs.length + 1)) undef = (⟨vs⟩ : Array Value) ++ Array.replicate (n - vs.length) undef := by
    apply Array.ext'
    rw [show n - vs.length = (n - (vs.length + 1)) + 1 by omega]
    simp [List.replicate_succ]
  unfold Frame.enter
  simp only [hsz1, hsz2]
  rw [hn, e]
section
variable {C : Cx} {ν : Vl} {ρ : Nm} {nx : Nat} {H : T AB} {L : Log} {w : World} {k : AV → Nat → T AB → Log → Ans} {z : Ans} {vs : List Value} {o : Oper} {a : Act}
theorem own_text (hP : C.P = Tryz.prog) {call : Cll} (hc : CallOk C ν call) (hr : HR ν ρ nx H w) (hg : Glob ρ) (hz : Yes z) {f n : Nat} (hb : hasBody Tryz.prog f = true) (hn : ((Tryz.prog.funcs[f]?).map (·.ntmps)).getD 0 = n) {args : List AV} (hv : VRs ν ρ args vs) (hlt : args.length < n) {D : Log}
    (h : call f (args ++ [.tup []]) k nx H (D ++ L) = z) : OpOk C ν ρ nx L w k z o a ((callFunc f ⟨vs⟩).run C.P w) := by
  have hop := hc (o := o) (a := a) hr hg hz (hv.append (VRs.mk VR_undef VRs.mk0)) h
  rw [hP, hasBody_run fitP hb] at hop ⊢
  intro next Q hnx
  have := hop next Q (fun x nx' H' D' ρ' v' w' hk low hvr hr' hst => hnx x nx' H' (D' ++ D) ρ' v' w' (by rw [List.append_assoc]; exact hk) low hvr hr' (hst.more fun x hx => List.mem_append_left _ hx))
  rw [Oper.upon_enter, hP] at this ⊢
  intro cs
  have := this cs
  rw [enter_pads hn (by rw [hv.length]; exact hlt)] at this
  exact this
end
end Go.AM
namespace Go.AM
open Go Go.Proofs Go.ChangeShapes Go.WideShapes Go.ChangeAt Go.RowKit
set_option linter.unusedVariables false
/-! # TopBudget: table.Find, of each field -/
theorem map_range_eq {l : List Int} {F : Nat → Int} (h : ∀ (t : Nat) (ht : t < l.length), F t = l[t]) : (List.range l.length).map F = l := by
  apply List.ext_getElem
  · simp
  · intro i h1 h2; simp [h i h2]
namespace Dat
variable {D : Dat}
theorem cur_in (D : Dat) : 0 ≤ D.cur ∧ D.cur ≤ 9 := wth_in (by omega)
theorem ds'_eq : D.ds' = if D.known then D.ds else D.cur :: D.ds := rfl
theorem known_iff : D.known = true ↔ D.cur ∈ D.ds := by
  unfold known
  rw [List.any_eq_true]
  constructor
  · rintro ⟨d, h1, h2⟩; rw [eq_of_beq h2] at h1; exact h1
  · intro h; exact ⟨_, h, by simp⟩
theorem Good.r' (h : D.Good) (k : Nat) : ∀ d ∈ D.dsK k, 0 ≤ d ∧ d ≤ 9 := by
  intro d hd
  unfold dsK at hd
  split at hd
  · exact h.dr d hd
  · rw [ds'_eq] at hd
    split at hd
    · exact h.dr d hd
    · rcases List.mem_cons.1 hd with rfl | hd
      · exact D.cur_in
      · exact h.dr d hd
theorem Good.n' (h : D.Good) (k : Nat) : (D.dsK k).Nodup := by
  unfold dsK
  split
  · exact h.dn
  · rw [ds'_eq]
    split
    · exact h.dn
    · rename_i hk
      rw [List.nodup_cons]
      exact ⟨fun hm => hk (known_iff.2 hm), h.dn⟩
theorem Good.l' (h : D.Good) (k : Nat) : (D.dsK k).length ≤ 15 := by
  have h1 := h.dl
  have h2 := D.hi
  unfold dsK
  split
  · split at h1 <;> omega
  · rw [ds'_eq]
    cases hk : D.known with
    | true => rw [hk, if_pos rfl] at h1; rw [if_pos rfl]; omega
    | false => rw [hk, if_neg (by simp)] at h1; rw [if_neg (by simp)]; simp; omega
end Dat
/-- where a digit stands in a list that has none twice; behind its end, if it isn't there -/
def idxD (d : Int) (l : List Int) : Nat := l.findIdx fun e => e == d
theorem idxD_in {d : Int} {l : List Int} (h : d ∈ l) : ∃ hlt : idxD d l < l.length, l[idxD d l] = d := by
  have hlt : idxD d l < l.length := List.findIdx_lt_length_of_exists ⟨d, h, by simp⟩
  refine ⟨hlt, ?_⟩
  have := List.findIdx_getElem (w := hlt)
  exact eq_of_beq this
theorem idxD_out {d : Int} {l : List Int} (h : d ∉ l) : idxD d l = l.length := by
  unfold idxD
  rw [List.findIdx_eq_length]
  intro x hx
  simp only [beq_eq_false_iff_ne]
  intro e; subst e; exact h hx
theorem idxD_ne {d : Int} {l : List Int} (hn : l.Nodup) {t : Nat} (ht : t < l.length) (h : t ≠ idxD d l) : l[t] ≠ d := by
  intro e
  have hm : d ∈ l := e ▸ List.getElem_mem ht
  obtain ⟨hlt, he⟩ := idxD_in hm
  have hp := List.pairwise_iff_getElem.1 hn
  rcases Nat.lt_trichotomy t (idxD d l) with h1 | h1 | h1
  · exact hp t (idxD d l) ht hlt h1 (e.trans he.symm)
  · exact h h1
  · exact hp (idxD d l) t hlt ht h1 (he.trans e.symm)
section
variable {Dt : Dat} {x : Nat → List UInt8} {y : Int} {f g : Nat → Int}
theorem lsE_map {l : List Int} (hl : l.length ≤ 15) (hr : ∀ d ∈ l, 0 ≤ d ∧ d ≤ 9) {d : Int} : (lsE l.length).map (nuS x d f (fun t => l.getD t 0) y).n = l ∧ ∀ c ∈ lsE l.length, 0 ≤ (nuS x d f (fun t => l.getD t 0) y).n c ∧ (nuS x d f (fun t => l.getD t 0) y).n c ≤ 9 := by
  have key : ∀ (t : Nat) (ht : t < l.length), (nuS x d f (fun t => l.getD t 0) y).n (220 + t) = l[t] := by
    intro t ht
    rw [nuS_220 (by omega)]
    have := hr l[t] (List.getElem_mem ht)
    rw [List.getD_eq_getElem?_getD, List.getElem?_eq_getElem ht]
    exact wth_id this.1 this.2
  constructor
  · unfold lsE
    rw [List.map_map]
    exact map_range_eq key
  · intro c hc
    unfold lsE at hc
    obtain ⟨t, ht, rfl⟩ := List.mem_map.1 hc
    have ht := List.mem_range.1 ht
    rw [key t ht]
    exact hr _ (List.getElem_mem ht)
theorem lsJ_map {l : List Int} (hl : l.length ≤ 15) (hr : ∀ d ∈ l, 0 ≤ d ∧ d ≤ 9) (hn : l.Nodup) {d : Int} (hd : 0 ≤ d ∧ d ≤ 9) : (lsJ l.length (idxD d l)).map (nuS x d (fun t => l.getD t 0) g y).n = l ∧
    ∀ c ∈ lsJ l.length (idxD d l), 0 ≤ (nuS x d (fun t => l.getD t 0) g y).n c ∧ (nuS x d (fun t => l.getD t 0) g y).n c ≤ 9 := by
  have key : ∀ (t : Nat) (ht : t < l.length), (nuS x d (fun t => l.getD t 0) g y).n (bc (Nat.beq t (idxD d l)) 32 (80 + t)) = l[t] := by
    intro t ht
    have hb := hr l[t] (List.getElem_mem ht)
    by_cases e : t = idxD d l
    · rw [nbeq, decide_eq_true e]
      show (nuS x d (fun t => l.getD t 0) g y).n 32 = _
      rw [nuS_32, wth_id hd.1 hd.2]
      by_cases hm : d ∈ l
      · obtain ⟨_, h2⟩ := idxD_in hm
        simp only [e]
        exact h2.symm
      · rw [idxD_out hm] at e; omega
    · rw [nbeq, decide_eq_false e]
      show (nuS x d (fun t => l.getD t 0) g y).n (80 + t) = _
      rw [nuS_80 (by omega), List.getD_eq_getElem?_getD, List.getElem?_eq_getElem ht]
      exact oth_id hb.1 hb.2 hd.1 hd.2 (idxD_ne hn ht e)
  constructor
  · unfold lsJ
    rw [List.map_map]
    exact map_range_eq key
  · intro c hc
    unfold lsJ at hc
    obtain ⟨t, ht, rfl⟩ := List.mem_map.1 hc
    have ht := List.mem_range.1 ht
    rw [key t ht]
    exact hr _ (List.getElem_mem ht)
end
section
variable {C : Cx} {Dt : Dat} {ρ : Nm} {nx : Nat} {H : T AB} {L : Log} {w : World} {k : AV → Nat → T AB → Log → Ans} {z : Ans} {vs : List Value} {o : Oper} {a : Act}
set_option maxRecDepth 100000 in
theorem find_core (hP : C.P = Tryz.prog) (hr : HR (nuD Dt) ρ nx H w) (hg : Glob ρ) {t b kn q : Nat} {cap kc : Cp}
    (hX : H.get t = some (.row [.sl b (.k 0) (.lin 0 [(48 + q, 1)]) cap 2, .sl kn (.k 0) (.k 61) kc 2, .int .i64 (.lin 0 [(52 + q, 1)]), .int .i64 (.k 4096)]))
    (hA : H.get b = some (.lt (2 + q) [])) (hk4 : q < 4) (hK : H.get kn = some (.row row186)) {ν2 : Vl} (ok2 : ν2.Ok bdP0) {ls : List Nat} (hls : ∀ c ∈ ls, 0 ≤ ν2.n c ∧ ν2.n c ≤ 9) (hds : ls.map ν2.n = Dt.dsK q) {vt vf : Value} (hvt : VR (nuD Dt) ρ (.ptr t (.k 0)) vt)
    {fa : List AV} (hfa : ∀ ρ2, VR ν2 ρ2 (.agg fa) vf) {p : Int} {bb : Bool} (hchk : chkFind p bb (runFind (decide (2 ≤ q)) ls fa) = true) {e : SI} (he : e.den (nuD Dt) = p) {D : Log} (h : k (.tup [.int .i64 e, .bool bb]) nx H (D ++ L) = z) :
    OpOk C (nuD Dt) ρ nx L w k z o a ((callFunc 168 ⟨[vt, vf]⟩).run C.P w) := by
  obtain ⟨hne, pt, pb, pk, e1, e2, e3, hr2, hv6⟩ := tab_small hr hX hA hk4 hK hls hds hvt
  obtain ⟨n3, H3, D3, hrun, hD⟩ := chkFind_spec hchk
  intro next Q hn
  rw [hP]
  refine small_run ok2 hrun hr2 (sig_glob hg) (VRs.mk hv6 (VRs.mk (hfa _) VRs.mk0)) fun σ' v w' _ hv' hr3 hst => ?_
  obtain ⟨hr', hst'⟩ := hr.quiet hst hD (fun c hc => sig_top (by simpa using hc))
  refine hn _ nx H D ρ v w' h .refl ?_ hr' (hst'.more (by simp))
  obtain ⟨us, hu, rfl⟩ := hv'
  refine ⟨us, ?_, rfl⟩
  obtain ⟨u1, l1, rfl, a1, b1⟩ := hu.cons
  obtain ⟨u2, l2, rfl, a2, b2⟩ := b1.cons
  cases b2.nil
  refine VRs.mk ?_ (VRs.mk a2 VRs.mk0)
  have a1 : u1 = .int .i64 p := a1
  rw [a1, ← he]; rfl
end
end Go.AM
namespace Go.AM
open Go Go.Proofs Go.ChangeShapes Go.WideShapes Go.ChangeAt Go.RowKit
set_option linter.unusedVariables false
/-! # TopBudget: table.Find, the rule -/
section
variable {Dt : Dat} {bd : Bd}
theorem curPath_ok (ok : (nuD Dt).Ok bd) {s : SS} (h : curPath bd s = true) : s = [.lit 1 47, .one (.bt 48 [(220 + Dt.i, 1)] 0 0)] ∧ sden (nuD Dt) s = pathB Dt.cur := by
  unfold curPath at h
  split at h
  · rename_i i t h1 h2
    have h := Nat.eq_of_beq_eq_true h
    have ht := turn_is ok h2
    subst ht
    have h : i = 220 + Dt.i := h
    subst h
    have hs : s = [.lit 1 47, .one (.bt 48 [(220 + Dt.i, 1)] 0 0)] := by
      unfold isPath at h1
      split at h1
      · obtain ⟨_, h1⟩ := bc_some h1; cases h1; rfl
      · cases h1
    have hn : (nuD Dt).n (220 + Dt.i) = Dt.cur := by rw [n_of _ (by omega), m_dg _ Dt.hi]; rfl
    refine ⟨hs, ?_⟩
    rw [hs, path_den (by rw [hn]; exact Dt.cur_in), hn]
  · cases h
theorem fldOf_ok (ok : (nuD Dt).Ok bd) {n v : SS} {j : Nat} (h : fldOf bd n v = some j) : (j = 0 ∧ [AV.str n, .str v] = authV) ∨ (j = 2 ∧ [AV.str n, .str v] = viaV) ∨
    (j = 1 ∧ n = [.lit 5 448629141562] ∧ curPath bd v = true) := by
  unfold fldOf at h
  split at h
  · cases h; exact .inl ⟨rfl, rfl⟩
  · cases h; exact .inr (.inl ⟨rfl, rfl⟩)
  · obtain ⟨h1, h⟩ := bc_some h
    cases h
    exact .inr (.inr ⟨rfl, rfl, h1⟩)
  · cases h
theorem posD_idx (d : Int) (l : List Int) : posD d l = idxD d l + 1 := rfl
theorem any_mem {d : Int} {l : List Int} : (l.any fun e => e == d) = true ↔ d ∈ l := by
  rw [List.any_eq_true]
  constructor
  · rintro ⟨e, h1, h2⟩; rw [eq_of_beq h2] at h1; exact h1
  · intro h; exact ⟨_, h, by simp⟩
theorem posF_in {k : Nat} {d : Int} {l : List Int} (h : d ∈ l) : (61 + posF k 1 d l : Int) = expP (decide (2 ≤ k)) l.length (idxD d l) := by
  obtain ⟨hlt, _⟩ := idxD_in h
  unfold posF expP
  rw [if_neg (by omega), if_neg (by omega), any_mem.2 h, if_pos rfl, nbeq, decide_eq_false (by omega)]
  by_cases hk : k < 2
  · rw [if_pos hk, decide_eq_false (by omega : ¬ 2 ≤ k), posD_idx]
    show _ = ((62 + idxD d l : Nat) : Int)
    omega
  · rw [if_neg hk, decide_eq_true (by omega : 2 ≤ k), posD_idx, nbeq]
    by_cases he : idxD d l + 1 = l.length
    · rw [if_pos he, decide_eq_true he]
      show _ = ((62 + l.length : Nat) : Int)
      omega
    · rw [if_neg he, decide_eq_false he]
      show _ = ((62 + idxD d l : Nat) : Int)
      omega
theorem findP_chk {n j q : Nat} (h1 : 1 ≤ n) (h2 : n ≤ 15) (hj : j ≤ n) : chkPath (decide (2 ≤ q)) n j = true := by
  obtain ⟨m, rfl⟩ : ∃ m, n = m + 1 := ⟨n - 1, by omega⟩
  by_cases hq : 2 ≤ q
  · rw [decide_eq_true hq]
    exact List.all_eq_true.1 (List.all_eq_true.1 findO_ok m (List.mem_range.2 (by omega))) j (List.mem_range.2 (by omega))
  · rw [decide_eq_false hq]
    exact List.all_eq_true.1 (List.all_eq_true.1 findC_ok m (List.mem_range.2 (by omega))) j (List.mem_range.2 (by omega))
theorem findA_chk {n q : Nat} (h1 : 1 ≤ n) (h2 : n ≤ 15) : chkAuth (decide (2 ≤ q)) n = true ∧ chkVia n = true := by
  obtain ⟨m, rfl⟩ : ∃ m, n = m + 1 := ⟨n - 1, by omega⟩
  have := List.all_eq_true.1 findA_ok m (List.mem_range.2 (by omega))
  simp only [Bool.and_eq_true] at this
  obtain ⟨a1, a2, a3⟩ := this
  refine ⟨?_, a3⟩
  by_cases hq : 2 ≤ q
  · rw [decide_eq_true hq]; exact a2
  · rw [decide_eq_false hq]; exact a1
end
section
variable {C : Cx} {Dt : Dat} {ρ : Nm} {nx : Nat} {H : T AB} {L : Log} {w : World} {k : AV → Nat → T AB → Log → Ans} {z : Ans} {vs : List Value} {o : Oper} {a : Act}
theorem VR.aggLit {ν ν2 : Vl} {ρ ρ2 : Nm} {l : List AV} {v : Value} (hl : l.all litStr = true) (h : VR ν ρ (.agg l) v) : VR ν2 ρ2 (.agg l) v := by
  obtain ⟨us, h1, h2, h3⟩ := h
  exact ⟨us, lit_row hl h1, h2, h3⟩
theorem VR.path {ν ν2 : Vl} {ρ ρ2 : Nm} {n v : SS} {c : Nat} {u : Value} (hn : n = [.lit 5 448629141562]) (hv : sden ν v = pathB (ν2.n c)) (hc : 0 ≤ ν2.n c ∧ ν2.n c ≤ 9) (h : VR ν ρ (.agg [.str n, .str v]) u) : VR ν2 ρ2 (.agg (pathV c)) u := by
  obtain ⟨us, h1, h2, h3⟩ := h
  obtain ⟨u1, l1, rfl, a1, b1⟩ := h1.cons
  obtain ⟨u2, l2, rfl, a2, b2⟩ := b1.cons
  cases b2.nil
  refine ⟨_, VRs.mk ?_ (VRs.mk ?_ VRs.mk0), h2, h3⟩
  · have a1 : u1 = strV (sden ν n) := a1
    rw [hn, lit_den] at a1
    rw [a1]; exact strL _ _
  · have a2 : u2 = strV (sden ν v) := a2
    show u2 = strV (sden ν2 _)
    rw [path_den hc, ← hv]; exact a2
set_option maxRecDepth 100000 in
theorem ext_find (hG : Dt.Good) (ok : (nuD Dt).Ok C.bd) (hP : C.P = Tryz.prog) {call : Cll} (hc : CallOk C (nuD Dt) call) (hr : HR (nuD Dt) ρ nx H w) (hg : Glob ρ) (hz : Yes z) {t : Nat} {n v : SS} (hv : VRs (nuD Dt) ρ [.ptr t (.k 0), .agg [.str n, .str v]] vs)
    (h : findM C.bd call t n v k nx H L = z) : OpOk C (nuD Dt) ρ nx L w k z o a ((callFunc 168 ⟨vs⟩).run C.P w) := by
  obtain ⟨X, hX, h1⟩ := rd_ok hz h
  clear h
  have fall : ∀ {D : Log}, call 168 [.ptr t (.k 0), .agg [.str n, .str v], .tup []] k nx H (D ++ L) = z → OpOk C (nuD Dt) ρ nx L w k z o a ((callFunc 168 ⟨vs⟩).run C.P w) := fun {D} hq =>
    own_text hP hc hr hg hz (f := 168) (by kernel_rfl) rfl hv (Nat.le_of_ble_eq_true (show Nat.ble 3 (((Tryz.prog.funcs[168]?).map (·.ntmps)).getD 0) = true by rw [Tryz.func168]; kernel_rfl)) (D := D) hq
  cases hf : fldOf C.bd n v with
  | none => simp only [hf] at h1; exact fall (D := [(t, false)]) h1
  | some j =>
  cases hT : tbRow X with
  | none => simp only [hf, hT] at h1; exact fall (D := [(t, false)]) h1
  | some r =>
  obtain ⟨b, len, low, kn, kv, size⟩ := r
  simp only [hf, hT] at h1
  obtain ⟨cap, kc, rfl, _⟩ := tbRow_ok hT
  obtain ⟨A, hA, h2⟩ := rd_ok hz (show ((M.rd b).bind fun A => match tbAt A with
    | some k => (M.rd kn).bind fun K => (M.lift "find: the known ones" (isKn K)).bind fun _ => (M.lift "find: its length" (isTabL k len size)).bind fun _ => M.lift "find" (findK C.bd k j)
    | none => call 168 [.ptr t (.k 0), .agg [.str n, .str v], .tup []] : M AV) k nx H ((t, false) :: L) = z from h1)
  clear h1
  cases hk : tbAt A with
  | none => simp only [hk] at h2; exact fall (D := [(b, false), (t, false)]) h2
  | some q =>
  simp only [hk] at h2
  obtain ⟨rfl, hq4⟩ := tbAt_ok hk
  obtain ⟨K, hK, h3⟩ := rd_ok hz h2
  obtain ⟨_, hkn, h4⟩ := lift_ok hz h3
  obtain ⟨_, htl, h5⟩ := lift_ok hz h4
  obtain ⟨x, hx, h6⟩ := lift_ok hz h5
  clear h2 h3 h4 h5
  have := isKn_ok hkn
  subst this
  obtain ⟨rfl, rfl⟩ := isTabL_ok htl
  obtain ⟨vt, l1, rfl, hvt, hl1⟩ := hv.cons
  obtain ⟨vf, l2, rfl, hvf, hl2⟩ := hl1.cons
  cases hl2.nil
  have hne : Dt.dsK q ≠ [] := (tab_small hr hX hA hq4 hK (ν2 := nuS (fun _ => []) 0 (fun _ => 0) (fun t => (Dt.dsK q).getD t 0) 0) (lsE_map (hG.l' q) (hG.r' q)).2 (lsE_map (hG.l' q) (hG.r' q)).1 hvt).1
  have hlen1 : 1 ≤ (Dt.dsK q).length := by cases hd : Dt.dsK q with | nil => exact (hne hd).elim | cons _ _ => simp
  have pos : ∀ j, j < 3 → (SI.lin 61 (posV q j)).den (nuD Dt) = 61 + posF q j Dt.cur (Dt.dsK q) := by
    intro j hj
    show 61 + (1 * (nuD Dt).n (56 + (3 * q + j)) + 0) = _
    rw [n_of _ (by omega), m_pos _ hq4 hj]; omega
  rcases fldOf_ok ok hf with ⟨rfl, hfv⟩ | ⟨rfl, hfv⟩ | ⟨rfl, hn5, hcp⟩
  · rw [hfv] at hvf
    cases hx
    refine find_core hP hr hg hX hA hq4 hK (okP0 fun _ => rfl) (lsE_map (hG.l' q) (hG.r' q) (x := fun _ => []) (d := 0) (y := 0) (f := fun _ => 0)).2 (lsE_map (hG.l' q) (hG.r' q)).1 hvt (fun ρ2 => hvf.aggLit (by decide +kernel)) (findA_chk (q := q) hlen1 (hG.l' q)).1 ?_ (D := [(kn, false), (b, false), (t, false)]) h6
    rw [pos 0 (by omega)]
    show (61 + (posF q 0 Dt.cur (Dt.dsK q) : Int)) = ((61 + tabLen (decide (2 ≤ q)) (Dt.dsK q).length : Nat) : Int)
    rw [show posF q 0 Dt.cur (Dt.dsK q) = (tabF q (Dt.dsK q)).length from rfl, tabF_len hne]; omega
  · rw [hfv] at hvf
    obtain ⟨hq2, hx⟩ := bc_some (show bc (Nat.ble 2 q) (some (AV.tup [.int .i64 (.lin 61 (posV q 2)), .bool true])) none = some x from hx)
    have hq2 := Nat.le_of_ble_eq_true hq2
    cases hx
    refine find_core hP hr hg hX hA hq4 hK (okP0 fun _ => rfl) (lsE_map (hG.l' q) (hG.r' q) (x := fun _ => []) (d := 0) (y := 0) (f := fun _ => 0)).2 (lsE_map (hG.l' q) (hG.r' q)).1 hvt (fun ρ2 => hvf.aggLit (by decide +kernel))
      (by have := (findA_chk (q := q) hlen1 (hG.l' q)).2; rw [decide_eq_true hq2]; exact this) ?_ (D := [(kn, false), (b, false), (t, false)]) h6
    rw [pos 2 (by omega)]
    show (61 + (posF q 2 Dt.cur (Dt.dsK q) : Int)) = ((61 + (Dt.dsK q).length : Nat) : Int)
    have : posF q 2 Dt.cur (Dt.dsK q) = max 1 (Dt.dsK q).length := by unfold posF; rw [if_neg (by omega), if_pos rfl, if_neg (by omega)]
    rw [this]; omega
  · obtain ⟨_, hsd⟩ := curPath_ok ok hcp
    have h32 : (nuS (fun _ => []) Dt.cur (fun t => (Dt.dsK q).getD t 0) (fun _ => 0) 0).n 32 = Dt.cur := by rw [nuS_32, wth_id Dt.cur_in.1 Dt.cur_in.2]
    have hls := lsJ_map (hG.l' q) (hG.r' q) (hG.n' q) Dt.cur_in (x := fun _ => []) (y := 0) (g := fun _ => 0)
    have hpath : ∀ ρ2, VR (nuS (fun _ => []) Dt.cur (fun t => (Dt.dsK q).getD t 0) (fun _ => 0) 0) ρ2 (.agg (pathV 32)) vf := fun ρ2 => hvf.path hn5 (by rw [h32]; exact hsd) (by rw [h32]; exact Dt.cur_in)
    rcases bc_or (show bc (flag C.bd 69) (some (AV.tup [.int .i64 (.lin 61 (posV q 1)), .bool true])) (bc (bc (flag0 C.bd 69) (Nat.beq (Nat.mod q 2) 0) false) (some (.tup [.int .i64 (.k 4), .bool false])) none) = some x from hx) with ⟨hfl, hx⟩ | ⟨_, hx⟩
    · cases hx
      have hm : Dt.cur ∈ Dt.dsK q := by
        have := Dat.known_iff.1 (flag69 ok hfl)
        unfold Dat.dsK; split
        · exact this
        · rw [Dat.ds'_eq, if_pos (flag69 ok hfl)]; exact this
      obtain ⟨hlt, _⟩ := idxD_in hm
      have hchk := findP_chk (q := q) hlen1 (hG.l' q) (Nat.le_of_lt hlt)
      unfold chkPath at hchk
      rw [nbeq, decide_eq_false (show ¬ idxD Dt.cur (Dt.dsK q) = (Dt.dsK q).length by omega)] at hchk
      replace hchk : chkFind (expP (decide (2 ≤ q)) (Dt.dsK q).length (idxD Dt.cur (Dt.dsK q))) true (runFind (decide (2 ≤ q)) (lsJ (Dt.dsK q).length (idxD Dt.cur (Dt.dsK q))) (pathV 32)) = true := hchk
      refine find_core hP hr hg hX hA hq4 hK (okP0 fun _ => rfl) hls.2 hls.1 hvt hpath hchk ?_ (D := [(kn, false), (b, false), (t, false)]) h6
      rw [pos 1 (by omega)]
      exact posF_in hm
    · obtain ⟨hfl, hx⟩ := bc_some hx
      obtain ⟨hf0, hev⟩ := bc2 hfl
      have hev : q % 2 = 0 := Nat.eq_of_beq_eq_true hev
      cases hx
      have hm : Dt.cur ∉ Dt.dsK q := by
        unfold Dat.dsK; rw [if_pos hev]
        intro hm
        have := Dat.known_iff.2 hm
        rw [flag69n ok hf0] at this; cases this
      have hix := idxD_out hm
      have hchk := findP_chk (q := q) (j := idxD Dt.cur (Dt.dsK q)) hlen1 (hG.l' q) (by omega)
      unfold chkPath at hchk
      rw [nbeq, decide_eq_true hix] at hchk
      replace hchk : chkFind (expP (decide (2 ≤ q)) (Dt.dsK q).length (idxD Dt.cur (Dt.dsK q))) false (runFind (decide (2 ≤ q)) (lsJ (Dt.dsK q).length (idxD Dt.cur (Dt.dsK q))) (pathV 32)) = true := hchk
      refine find_core hP hr hg hX hA hq4 hK (okP0 fun _ => rfl) hls.2 hls.1 hvt hpath hchk ?_ (D := [(kn, false), (b, false), (t, false)]) h6
      unfold expP; rw [nbeq, decide_eq_true hix]; rfl
end
end Go.AM
