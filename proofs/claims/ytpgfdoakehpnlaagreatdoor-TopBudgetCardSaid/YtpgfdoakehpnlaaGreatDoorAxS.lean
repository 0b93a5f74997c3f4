import Derived.Test.YtpgfdoakehpnlaaGreatDoorAxQ
import Derived.Test.YtpgfdoakehpnlaaGreatDoorAxP
import Derived.Test.YtpgfdoakehpnlaaGreatDoorAxR
set_option linter.unusedVariables false
set_option linter.unusedSimpArgs false
namespace Go.AM
open Go Go.Proofs
set_option linter.unusedVariables false
/-! # TopBudget: runs of table.Get and table.Add over patterns -/
noncomputable section
def chkGet (e : List AV) (A : Ans) : Bool := match A with
  | .ok (.tup [.agg l, .bool b]) _ _ D => b && (lEq (avEq 8) l e && wrOnly [] 9 D)
  | _ => false
theorem chkGet_spec {e : List AV} {A : Ans} (h : chkGet e A = true) : ∃ nx H D, A = .ok (.tup [.agg e, .bool true]) nx H D ∧ wrOnly [] 9 D = true := by
  unfold chkGet at h
  split at h
  · rename_i l b nx H D
    simp only [Bool.and_eq_true] at h
    obtain ⟨h1, h2, h3⟩ := h
    have h2 := lEq_of (avEq_of 8) h2
    subst h1; subst h2
    exact ⟨nx, H, D, rfl, h3⟩
  · cases h
def runGet (org : Bool) (n i : Nat) : Ans := callG (CX bdP0) extIsB 1000 359 [.ptr 6 (.k 0), .int .i64 (.k (.ofNat i))] fin 9 (mkH 6 (tabH org (lsE n))) []
def chkGetP (org : Bool) (n j : Nat) : Bool := chkGet (pathV (220 + j)) (runGet org n (bc org (bc (Nat.beq (j + 1) n) (62 + n) (62 + j)) (62 + j)))
def chkGetA (org : Bool) (n : Nat) : Bool := chkGet authV (runGet org n (61 + tabLen org n))
def chkGetV (n : Nat) : Bool := chkGet viaV (runGet true n (61 + n))
set_option maxRecDepth 100000 in
theorem getP_ok : (List.range 15).all (fun m => (List.range (m + 1)).all fun j => chkGetP false (m + 1) j && chkGetP true (m + 1) j) = true := by kernel_rfl
set_option maxRecDepth 100000 in
theorem getA_ok : (List.range 15).all (fun m => chkGetA false (m + 1) && (chkGetA true (m + 1) && chkGetV (m + 1))) = true := by kernel_rfl
def runAdd (org : Bool) (n : Nat) : Ans := callG (CX bdP0) extIsB 1000 171 [.ptr 6 (.k 0), .agg (pathV 32)] fin 9 (mkH 6 (tabH org (lsE n))) []
def rowIsA (H : T AB) (b : Nat) (l : List AV) : Bool := match H.get b with
  | some (.row cs) => lEq (avEq 8) cs l
  | _ => false
theorem rowIsA_ok {H : T AB} {b : Nat} {l : List AV} (h : rowIsA H b l = true) : H.get b = some (.row l) := by
  unfold rowIsA at h
  split at h
  · rename_i cs e; rw [e, lEq_of (avEq_of 8) h]
  · cases h
/-- a root: a slice of a new row's head, and the rest -/
def rootIs (H : T AB) (n2 z : Nat) (len : SI) (rest row : List AV) : Bool := match H.get 6 with
  | some (.row (.sl b o l _ z' :: cs)) => Nat.ble n2 b && (siEq o (.k 0) && (siEq l len && (Nat.beq z' z && (lEq (avEq 8) cs rest && rowIsA H b row))))
  | _ => false
theorem rootIs_ok {H : T AB} {n2 z : Nat} {len : SI} {rest row : List AV} (h : rootIs H n2 z len rest row = true) : ∃ b cap, n2 ≤ b ∧ H.get 6 = some (.row (.sl b (.k 0) len cap z :: rest)) ∧ H.get b = some (.row row) := by
  unfold rootIs at h
  split at h
  · rename_i b o l cap z' cs e
    simp only [Bool.and_eq_true] at h
    obtain ⟨h1, h2, h3, h4, h5, h6⟩ := h
    rw [e, siEq_of h2, siEq_of h3, Nat.eq_of_beq_eq_true h4, lEq_of (avEq_of 8) h5]
    exact ⟨b, cap, Nat.le_of_ble_eq_true h1, rfl, rowIsA_ok h6⟩
  · cases h
def chkAdd (org : Bool) (n : Nat) (A : Ans) : Bool := match A with
  | .ok (.tup []) _ H D => wrOnly [6, 7] 9 D && rootIs H 9 2 (.k (.ofNat (tabLen org (n + 1)))) [.sl 8 (.k 0) (.k 61) (.ge (.k 61)) 2, .int .i64 (.k (.ofNat (tabSize org (n + 1)))), .int .i64 (.k 4096)] (tabR org (32 :: lsE n))
  | _ => false
theorem chkAdd_spec {org : Bool} {n : Nat} {A : Ans} (h : chkAdd org n A = true) : ∃ nx H D b cap, A = .ok (.tup []) nx H D ∧ wrOnly [6, 7] 9 D = true ∧ 9 ≤ b ∧
    H.get 6 = some (.row [.sl b (.k 0) (.k (.ofNat (tabLen org (n + 1)))) cap 2, .sl 8 (.k 0) (.k 61) (.ge (.k 61)) 2, .int .i64 (.k (.ofNat (tabSize org (n + 1)))), .int .i64 (.k 4096)]) ∧ H.get b = some (.row (tabR org (32 :: lsE n))) := by
  unfold chkAdd at h
  split at h
  · rename_i nx H D
    rw [Bool.and_eq_true] at h
    obtain ⟨b, cap, h1, h2, h3⟩ := rootIs_ok h.2
    exact ⟨nx, H, D, b, cap, rfl, h.1, h1, h2, h3⟩
  · cases h
set_option maxRecDepth 100000 in
theorem add_ok : (List.range 14).all (fun m => chkAdd false (m + 1) (runAdd false (m + 1)) && chkAdd true (m + 1) (runAdd true (m + 1))) = true := by kernel_rfl
end
end Go.AM
namespace Go.AM
open Go Go.Proofs
set_option linter.unusedVariables false
/-! # TopBudget: a root and its row are written; new blocks -/
section
variable {ν : Vl} {ρ : Nm} {nx : Nat} {H H' : T AB} {w w' : World}
theorem HR.turn (hr : HR ν ρ nx H w) {t b : Nat} {pt pb : Nat × Nat} {Xt Xb : AB} (ht : H.get t = some Xt) (hpt : ρ t = some pt) (hb : H.get b = some Xb) (hpb : ρ b = some pb)
    {σ σ' : Nm} {D2 D : Log} {n2 n3 : Nat} {ν2 : Vl} {H3 : T AB} (hst : Stp σ w σ' w' D2) (hD2 : wrOnly [6, 7] n2 D2 = true) (hn2 : ∀ c, n2 ≤ c → σ c = none) (h6 : σ 6 = some pt) (h7 : σ 7 = some pb) (hr3 : HR ν2 σ' n3 H3 w')
    (h6n : 6 < n2) {X6 : AB} (h6l : H3.get 6 = some X6) {new : List (Nat × Nat)} (hnew : ∀ (i : Nat) (p : Nat × Nat), new[i]? = some p → ∃ c X, n2 ≤ c ∧ H3.get c = some X ∧ σ' c = some p) (hdist : ∀ (i j : Nat) (p q : Nat × Nat), new[i]? = some p → new[j]? = some q → p.1 = q.1 → i = j)
    {Ht : AB} {As : List AB} (hlen : As.length = new.length) (hBt : ∃ obj, w'.heap[pt.1]? = some obj ∧ BR ν (extN ρ nx new) Ht pt.2 obj)
    (hBn : ∀ (i : Nat) (A : AB) (p : Nat × Nat), As[i]? = some A → new[i]? = some p → ∃ obj, w'.heap[p.1]? = some obj ∧ BR ν (extN ρ nx new) A p.2 obj)
    (hH : ∀ c, H'.get c = if c = t then some Ht else if nx ≤ c then As[c - nx]? else if c = b then none else H.get c)
    (hDt : (t, true) ∈ D) (hDb : (b, true) ∈ D) : HR ν (extN ρ nx new) (nx + new.length) H' w' ∧ Stp ρ w (extN ρ nx new) w' D := by
  have htx : t < nx := hr.lt hpt
  have h36 : σ' 6 = some pt := hst.ext _ _ h6
  have own : ∀ (i : Nat) (p : Nat × Nat), new[i]? = some p → p.1 < w'.heap.size ∧ p.1 ≠ pt.1 ∧ (w.heap.size ≤ p.1 ∨ p.1 = pb.1) := by
    intro i p hp
    obtain ⟨c, X, h1, h2, h3⟩ := hnew i p hp
    have hne : p.1 ≠ pt.1 := fun e => by
      have : c = 6 := hr3.inj c 6 X X6 p.1 p.2 pt.2 h2 h6l h3 (by rw [h36, e])
      omega
    refine ⟨hr3.old c p.1 p.2 h3, hne, ?_⟩
    rcases hst.own_new hD2 hn2 (hn2 c h1) h3 with h | ⟨d, hd, s, hs⟩
    · exact .inl h
    · simp only [List.mem_cons, List.not_mem_nil, or_false] at hd
      rcases hd with rfl | rfl
      · rw [h6] at hs; cases hs; exact (hne rfl).elim
      · rw [h7] at hs; cases hs; exact .inr rfl
  -- the blocks of names that stay
  have stay : ∀ {c : Nat} {A : AB} {p : Nat × Nat}, c ≠ t → c ≠ b → H.get c = some A → ρ c = some p → p.1 ≠ pt.1 ∧ p.1 ≠ pb.1 ∧ w'.heap[p.1]? = w.heap[p.1]? := by
    intro c A p h1 h2 hA hp
    have a1 : p.1 ≠ pt.1 := fun e => h1 (hr.inj c t A Xt p.1 p.2 pt.2 hA ht hp (by rw [hpt, e]))
    have a2 : p.1 ≠ pb.1 := fun e => h2 (hr.inj c b A Xb p.1 p.2 pb.2 hA hb hp (by rw [hpb, e]))
    refine ⟨a1, a2, hst.keep hD2 hn2 (hr.old c p.1 p.2 hp) fun d hd s hs => ?_⟩
    simp only [List.mem_cons, List.not_mem_nil, or_false] at hd
    rcases hd with rfl | rfl
    · rw [h6] at hs; cases hs; exact a1 rfl
    · rw [h7] at hs; cases hs; exact a2 rfl
  -- what is live
  have live : ∀ {c : Nat} {A : AB} {p : Nat × Nat}, H'.get c = some A → extN ρ nx new c = some p → (c = t ∧ p = pt) ∨ (nx ≤ c ∧ new[c - nx]? = some p) ∨ (c < nx ∧ c ≠ t ∧ c ≠ b ∧ H.get c = some A ∧ ρ c = some p) := by
    intro c A p hA hp
    rw [hH] at hA
    by_cases e1 : c = t
    · rw [e1, extN_lt htx, hpt] at hp; cases hp; exact .inl ⟨e1, rfl⟩
    · rw [if_neg e1] at hA
      by_cases e2 : nx ≤ c
      · unfold extN at hp; rw [if_neg (by omega)] at hp; exact .inr (.inl ⟨e2, hp⟩)
      · rw [if_neg e2] at hA
        by_cases e3 : c = b
        · rw [if_pos e3] at hA; cases hA
        · rw [if_neg e3] at hA
          rw [extN_lt (by omega)] at hp
          exact .inr (.inr ⟨by omega, e1, e3, hA, hp⟩)
  refine ⟨hr.redo hst.size (fun p hp => ?_) (fun c A hA => ?_) (fun c d A B r s u hA hB e1 e2 => ?_), Stp.redo hr hst hD2 hn2 (fun c hc p hp => ?_) (fun p hp => ?_)⟩
  · obtain ⟨i, hi⟩ := List.getElem?_of_mem hp
    exact (own i p hi).1
  · have hA0 := hA
    rw [hH] at hA
    by_cases e1 : c = t
    · rw [if_pos e1] at hA; cases hA
      obtain ⟨obj, k1, k2⟩ := hBt
      exact .inr ⟨pt, obj, by rw [e1, extN_lt htx]; exact hpt, k1, k2⟩
    · rw [if_neg e1] at hA
      by_cases e2 : nx ≤ c
      · rw [if_pos e2] at hA
        have hi := (List.getElem?_eq_some_iff.1 hA).1
        have hp : new[c - nx]? = some new[c - nx] := List.getElem?_eq_getElem (by omega)
        obtain ⟨obj, k1, k2⟩ := hBn _ _ _ hA hp
        exact .inr ⟨_, obj, by unfold extN; rw [if_neg (by omega)]; exact hp, k1, k2⟩
      · rw [if_neg e2] at hA
        by_cases e3 : c = b
        · rw [if_pos e3] at hA; cases hA
        · rw [if_neg e3] at hA
          exact .inl ⟨hA, fun p hp => (stay e1 e3 hA hp).2.2⟩
  · rcases live hA e1 with ⟨a1, a2⟩ | ⟨a1, a2⟩ | ⟨a1, a2, a3, a4, a5⟩ <;> rcases live hB e2 with ⟨b1, b2⟩ | ⟨b1, b2⟩ | ⟨b1, b2, b3, b4, b5⟩
    · rw [a1, b1]
    · cases a2; exact ((own _ _ b2).2.1 rfl).elim
    · cases a2; exact ((stay b2 b3 b4 b5).1 rfl).elim
    · cases b2; exact ((own _ _ a2).2.1 rfl).elim
    · have := hdist _ _ _ _ a2 b2 rfl; omega
    · have h1 := hr.old _ _ _ b5
      rcases (own _ _ a2).2.2 with h | h
      · have h : w.heap.size ≤ r := h
        omega
      · exact ((stay b2 b3 b4 b5).2.1 h).elim
    · cases b2; exact ((stay a2 a3 a4 a5).1 rfl).elim
    · have h1 := hr.old _ _ _ a5
      rcases (own _ _ b2).2.2 with h | h
      · have h : w.heap.size ≤ r := h
        omega
      · exact ((stay a2 a3 a4 a5).2.1 h).elim
    · exact hr.inj c d A B r s u a4 b4 a5 b5
  · simp only [List.mem_cons, List.not_mem_nil, or_false] at hc
    rcases hc with rfl | rfl
    · rw [h6] at hp; cases hp; exact ⟨t, pt.2, hDt, hpt⟩
    · rw [h7] at hp; cases hp; exact ⟨b, pb.2, hDb, hpb⟩
  · obtain ⟨i, hi⟩ := List.getElem?_of_mem hp
    rcases (own i p hi).2.2 with h | h
    · exact .inl h
    · exact .inr ⟨b, pb.2, hDb, by rw [hpb, h]⟩
end
end Go.AM
namespace Go.AM
open Go Go.Proofs Go.ChangeShapes Go.WideShapes Go.ChangeAt Go.RowKit
set_option linter.unusedVariables false
/-! # TopBudget: table.Get, table.Add: the rules -/
section
variable {Dt : Dat} {bd : Bd}
theorem getP_chk {n j q : Nat} (h2 : n ≤ 15) (hj : j < n) : chkGetP (decide (2 ≤ q)) n j = true := by
  obtain ⟨m, rfl⟩ : ∃ m, n = m + 1 := ⟨n - 1, by omega⟩
  have := List.all_eq_true.1 (List.all_eq_true.1 getP_ok m (List.mem_range.2 (by omega))) j (List.mem_range.2 (by omega))
  rw [Bool.and_eq_true] at this
  by_cases hq : 2 ≤ q
  · rw [decide_eq_true hq]; exact this.2
  · rw [decide_eq_false hq]; exact this.1
theorem getA_chk {n q : Nat} (h1 : 1 ≤ n) (h2 : n ≤ 15) : chkGetA (decide (2 ≤ q)) n = true ∧ chkGetV n = true := by
  obtain ⟨m, rfl⟩ : ∃ m, n = m + 1 := ⟨n - 1, by omega⟩
  have := List.all_eq_true.1 getA_ok m (List.mem_range.2 (by omega))
  simp only [Bool.and_eq_true] at this
  obtain ⟨a1, a2, a3⟩ := this
  refine ⟨?_, a3⟩
  by_cases hq : 2 ≤ q
  · rw [decide_eq_true hq]; exact a2
  · rw [decide_eq_false hq]; exact a1
theorem add_chk {n q : Nat} (h1 : 1 ≤ n) (h2 : n ≤ 14) : chkAdd (decide (2 ≤ q)) n (runAdd (decide (2 ≤ q)) n) = true := by
  obtain ⟨m, rfl⟩ : ∃ m, n = m + 1 := ⟨n - 1, by omega⟩
  have := List.all_eq_true.1 add_ok m (List.mem_range.2 (by omega))
  rw [Bool.and_eq_true] at this
  by_cases hq : 2 ≤ q
  · rw [decide_eq_true hq]; exact this.2
  · rw [decide_eq_false hq]; exact this.1
end
section
variable {C : Cx} {Dt : Dat} {ρ : Nm} {nx : Nat} {H : T AB} {L : Log} {w : World} {k : AV → Nat → T AB → Log → Ans} {z : Ans} {vs : List Value} {o : Oper} {a : Act}
set_option maxRecDepth 100000 in
theorem tget_core (hP : C.P = Tryz.prog) (hr : HR (nuD Dt) ρ nx H w) (hg : Glob ρ) {t b kn q : Nat} {cap kc : Cp}
    (hX : H.get t = some (.row [.sl b (.k 0) (.lin 0 [(48 + q, 1)]) cap 2, .sl kn (.k 0) (.k 61) kc 2, .int .i64 (.lin 0 [(52 + q, 1)]), .int .i64 (.k 4096)]))
    (hA : H.get b = some (.lt (2 + q) [])) (hk4 : q < 4) (hK : H.get kn = some (.row row186)) {ν2 : Vl} (ok2 : ν2.Ok bdP0) {n : Nat} (hls : ∀ c ∈ lsE n, 0 ≤ ν2.n c ∧ ν2.n c ≤ 9) (hds : (lsE n).map ν2.n = Dt.dsK q) {vt vi : Value} (hvt : VR (nuD Dt) ρ (.ptr t (.k 0)) vt)
    {i : Nat} (hi : vi = .int .i64 (i : Int)) {fe fx : List AV} (hchk : chkGet fe (runGet (decide (2 ≤ q)) n i) = true) (hfx : ∀ us ρ2, VRs ν2 ρ2 fe us → VRs (nuD Dt) ρ fx us) {D : Log} (h : k (.tup [.agg fx, .bool true]) nx H (D ++ L) = z) :
    OpOk C (nuD Dt) ρ nx L w k z o a ((callFunc 359 ⟨[vt, vi]⟩).run C.P w) := by
  obtain ⟨hne, pt, pb, pk, e1, e2, e3, hr2, hv6⟩ := tab_small hr hX hA hk4 hK hls hds hvt
  obtain ⟨n3, H3, D3, hrun, hD⟩ := chkGet_spec hchk
  subst hi
  intro next Q hn
  rw [hP]
  refine small_run ok2 hrun hr2 (sig_glob hg) (VRs.mk hv6 (VRs.mk rfl VRs.mk0)) fun σ' v w' _ hv' hr3 hst => ?_
  obtain ⟨hr', hst'⟩ := hr.quiet hst hD (fun c hc => sig_top (by simpa using hc))
  refine hn _ nx H D ρ v w' h .refl ?_ hr' (hst'.more (by simp))
  obtain ⟨us, hu, rfl⟩ := hv'
  refine ⟨us, ?_, rfl⟩
  obtain ⟨u1, l1, rfl, a1, b1⟩ := hu.cons
  obtain ⟨u2, l2, rfl, a2, b2⟩ := b1.cons
  cases b2.nil
  obtain ⟨ws, a3, a4, a5⟩ := a1
  exact VRs.mk ⟨ws, hfx ws _ a3, a4, a5⟩ (VRs.mk a2 VRs.mk0)
theorem mem_dsK (hG : Dt.Good) {q : Nat} (h : Dt.known = true ∨ q % 2 = 1) : Dt.cur ∈ Dt.dsK q := by
  unfold Dat.dsK
  split
  · rcases h with h | h
    · exact Dat.known_iff.1 h
    · omega
  · rw [Dat.ds'_eq]
    split
    · rename_i hk; exact Dat.known_iff.1 hk
    · simp
set_option maxRecDepth 100000 in
theorem ext_tget (hG : Dt.Good) (ok : (nuD Dt).Ok C.bd) (hP : C.P = Tryz.prog) (hr : HR (nuD Dt) ρ nx H w) (hg : Glob ρ) (hz : Yes z) {t p : Nat} (hv : VRs (nuD Dt) ρ [.ptr t (.k 0), .int .i64 (.lin 61 [(p, 1)])] vs)
    (h : getM C.bd t p k nx H L = z) : OpOk C (nuD Dt) ρ nx L w k z o a ((callFunc 359 ⟨vs⟩).run C.P w) := by
  obtain ⟨X, hX, h1⟩ := rd_ok hz h
  obtain ⟨⟨b, len, low, kn, kv, size⟩, hT, h2⟩ := lift_ok hz h1
  obtain ⟨cap, kc, rfl, _⟩ := tbRow_ok hT
  obtain ⟨A, hA, h3⟩ := rd_ok hz h2
  obtain ⟨q, hk, h4⟩ := lift_ok hz h3
  obtain ⟨_, htl, h5⟩ := lift_ok hz h4
  obtain ⟨K, hK, h6⟩ := rd_ok hz h5
  obtain ⟨_, hkn, h7⟩ := lift_ok hz h6
  obtain ⟨x, hx, h8⟩ := lift_ok hz h7
  replace h8 : k x nx H ([(kn, false), (b, false), (t, false)] ++ L) = z := h8
  clear h h1 h2 h3 h4 h5 h6 h7
  obtain ⟨rfl, hq4⟩ := tbAt_ok hk
  have := isKn_ok hkn
  subst this
  obtain ⟨e1, e2⟩ := isTabL_ok htl
  have e1 : len = .lin 0 [(48 + q, 1)] := e1
  have e2 : size = .lin 0 [(52 + q, 1)] := e2
  subst e1; subst e2
  obtain ⟨vt, l1, rfl, hvt, hl1⟩ := hv.cons
  obtain ⟨vi, l2, rfl, hvi, hl2⟩ := hl1.cons
  cases hl2.nil
  have hls := lsE_map (hG.l' q) (hG.r' q) (x := fun _ => []) (d := 0) (y := 0) (f := fun _ => 0)
  have hne : Dt.dsK q ≠ [] := (tab_small hr hX hA hq4 hK hls.2 hls.1 hvt).1
  have hlen1 : 1 ≤ (Dt.dsK q).length := by cases hd : Dt.dsK q with | nil => exact (hne hd).elim | cons _ _ => simp
  obtain ⟨j, hj, hx⟩ := ob_some hx
  obtain ⟨f, hf, hx⟩ := ob_some hx
  cases hx
  obtain ⟨hin, hj⟩ := bc_some (show bc (isIn (Nat.add 56 (Nat.mul 3 q)) (Nat.add 58 (Nat.mul 3 q)) p) (match Nat.mod (Nat.sub p 56) 3 with
    | 0 => some 0
    | 1 => bc (bc (flag C.bd 69) true (Nat.beq (Nat.mod q 2) 1)) (some 1) none
    | _ => bc (Nat.ble 2 q) (some 2) none) none = some j from hj)
  obtain ⟨i1, i2⟩ := isIn_ok hin
  have i1 : 56 + 3 * q ≤ p := i1
  have i2 : p ≤ 58 + 3 * q := i2
  obtain ⟨r, rfl, hr3⟩ : ∃ r, p = 56 + (3 * q + r) ∧ r < 3 := ⟨p - 56 - 3 * q, by omega, by omega⟩
  have hmod : Nat.mod (Nat.sub (56 + (3 * q + r)) 56) 3 = r := by show (56 + (3 * q + r) - 56) % 3 = r; omega
  rw [hmod] at hj
  have hvi : vi = .int .i64 (61 + posF q r Dt.cur (Dt.dsK q) : Int) := by
    have hvi : vi = .int .i64 (61 + (1 * (nuD Dt).n (56 + (3 * q + r)) + 0)) := hvi
    rw [hvi, n_of _ (by omega), m_pos _ hq4 hr3]; congr 1; omega
  match r, hr3 with
  | 0, _ =>
    cases hj; cases hf
    refine tget_core hP hr hg hX hA hq4 hK (okP0 fun _ => rfl) hls.2 hls.1 hvt (D := [(kn, false), (b, false), (t, false)]) (i := 61 + tabLen (decide (2 ≤ q)) (Dt.dsK q).length) ?_ (getA_chk (q := q) hlen1 (hG.l' q)).1 (fun us ρ2 hu => lit_row (by decide +kernel) hu) h8
    rw [hvi, show posF q 0 Dt.cur (Dt.dsK q) = (tabF q (Dt.dsK q)).length from rfl, tabF_len hne]; congr 1
  | 2, _ =>
    obtain ⟨hq2, hj⟩ := bc_some (show bc (Nat.ble 2 q) (some 2) none = some j from hj)
    have hq2 := Nat.le_of_ble_eq_true hq2
    cases hj; cases hf
    refine tget_core hP hr hg hX hA hq4 hK (okP0 fun _ => rfl) hls.2 hls.1 hvt (D := [(kn, false), (b, false), (t, false)]) (i := 61 + (Dt.dsK q).length) ?_ (by have := (getA_chk (q := q) hlen1 (hG.l' q)).2; rw [decide_eq_true hq2]; exact this) (fun us ρ2 hu => lit_row (by decide +kernel) hu) h8
    have : posF q 2 Dt.cur (Dt.dsK q) = max 1 (Dt.dsK q).length := by unfold posF; rw [if_neg (by omega), if_pos rfl, if_neg (by omega)]
    rw [hvi, this]; congr 1; omega
  | 1, _ =>
    obtain ⟨hq1, hj⟩ := bc_some (show bc (bc (flag C.bd 69) true (Nat.beq (Nat.mod q 2) 1)) (some 1) none = some j from hj)
    cases hj
    obtain ⟨i, hi, hf⟩ := ob_some (show ob (turnOf C.bd) (fun i => some (AV.agg [.str [.lit 5 448629141562], .str [.lit 1 47, .one (.bt 48 [(Nat.add 220 i, 1)] 0 0)]])) = some f from hf)
    have := turn_is ok hi
    subst this
    cases hf
    have hm : Dt.cur ∈ Dt.dsK q := mem_dsK hG (by
      rcases bc3 hq1 with h | h
      · exact .inl (flag69 ok h)
      · exact .inr (Nat.eq_of_beq_eq_true h))
    obtain ⟨hlt, hat⟩ := idxD_in hm
    have hpe := posF_in (k := q) hm
    have hchk := getP_chk (q := q) (hG.l' q) hlt
    unfold chkGetP at hchk
    have hix : expP (decide (2 ≤ q)) (Dt.dsK q).length (idxD Dt.cur (Dt.dsK q)) = ((bc (decide (2 ≤ q)) (bc (Nat.beq (idxD Dt.cur (Dt.dsK q) + 1) (Dt.dsK q).length) (62 + (Dt.dsK q).length) (62 + idxD Dt.cur (Dt.dsK q))) (62 + idxD Dt.cur (Dt.dsK q)) : Nat) : Int) := by
      unfold expP
      rw [nbeq, decide_eq_false (show ¬ idxD Dt.cur (Dt.dsK q) = (Dt.dsK q).length by omega)]
      cases decide (2 ≤ q) with
      | false => rfl
      | true => cases Nat.beq (idxD Dt.cur (Dt.dsK q) + 1) (Dt.dsK q).length <;> rfl
    refine tget_core hP hr hg hX hA hq4 hK (okP0 fun _ => rfl) hls.2 hls.1 hvt (D := [(kn, false), (b, false), (t, false)]) ?_ hchk (fun us ρ2 hu => ?_) h8
    · rw [hvi, hpe, hix]
    · obtain ⟨u1, l1, rfl, a1, b1⟩ := hu.cons
      obtain ⟨u2, l2, rfl, a2, b2⟩ := b1.cons
      cases b2.nil
      have hd : (nuS (fun _ => []) 0 (fun _ => 0) (fun t => (Dt.dsK q).getD t 0) 0).n (220 + idxD Dt.cur (Dt.dsK q)) = Dt.cur := by
        have hb := hG.r' q _ hm
        have h15 := hG.l' q
        rw [nuS_220 (by omega), List.getD_eq_getElem?_getD, List.getElem?_eq_getElem hlt, hat]
        exact wth_id hb.1 hb.2
      have hn : (nuD Dt).n (220 + Dt.i) = Dt.cur := by rw [n_of _ (by omega), m_dg _ Dt.hi]; rfl
      refine VRs.mk ?_ (VRs.mk ?_ VRs.mk0)
      · have a1 : u1 = strV (sden _ [.lit 5 448629141562]) := a1
        rw [lit_den] at a1; rw [a1]; exact strL _ _
      · have a2 : u2 = strV (sden _ _) := a2
        rw [path_den (by rw [hd]; exact Dt.cur_in), hd] at a2
        show u2 = strV (sden (nuD Dt) [.lit 1 47, .one (.bt 48 [(220 + Dt.i, 1)] 0 0)])
        rw [path_den (by rw [hn]; exact Dt.cur_in), hn]
        exact a2
end
end Go.AM
namespace Go.AM
open Go Go.Proofs Go.ChangeShapes Go.WideShapes Go.ChangeAt Go.RowKit
set_option linter.unusedVariables false
/-! # TopBudget: table.Add: the rule -/
section
variable {ν ν2 : Vl} {ρ ρ2 : Nm}
def isStr (x : AV) : Bool := match x with
  | .str _ => true
  | _ => false
/-- texts are what they are -/
theorem str_unique : ∀ {l : List AV} {vs us : List Value}, l.all isStr = true → VRs ν ρ l vs → VRs ν ρ2 l us → vs = us
  | [], _, _, _, h, k => by rw [h.nil, k.nil]
  | x :: l, _, _, hl, h, k => by
    simp only [List.all_cons, Bool.and_eq_true] at hl
    obtain ⟨v, vs, rfl, h1, h2⟩ := h.cons
    obtain ⟨u, us, rfl, k1, k2⟩ := k.cons
    rw [str_unique hl.2 h2 k2]
    have hx := hl.1
    cases x <;> first | (cases hx; done) | skip
    have h1 : v = _ := h1
    have k1 : u = _ := k1
    rw [h1, k1]
theorem isStr_path (c : Nat) : (pathV c).all isStr = true := rfl
theorem isStr_client (ls : List Nat) : (clientR ls).all isStr = true := by
  unfold clientR
  rw [List.all_append, Bool.and_eq_true]
  refine ⟨?_, rfl⟩
  rw [List.all_eq_true]
  intro x hx
  obtain ⟨c, _, h⟩ := List.mem_flatMap.1 hx
  exact List.all_eq_true.1 (isStr_path c) x h
theorem isStr_origin : ∀ (ls : List Nat), (originR ls).all isStr = true
  | [] => rfl
  | [c] => rfl
  | c :: e :: l => by
    show (pathV c ++ originR (e :: l)).all isStr = true
    rw [List.all_append, isStr_origin (e :: l), isStr_path]; rfl
theorem isStr_tab (org : Bool) (ls : List Nat) : (tabR org ls).all isStr = true := by
  unfold tabR
  cases org
  · exact isStr_client ls
  · exact isStr_origin ls
end
section
variable {C : Cx} {Dt : Dat} {ρ : Nm} {nx : Nat} {H : T AB} {L : Log} {w : World} {k : AV → Nat → T AB → Log → Ans} {z : Ans} {vs : List Value} {o : Oper} {a : Act}
set_option maxRecDepth 100000 in
theorem ext_add (hG : Dt.Good) (ok : (nuD Dt).Ok C.bd) (hP : C.P = Tryz.prog) {call : Cll} (hc : CallOk C (nuD Dt) call) (hr : HR (nuD Dt) ρ nx H w) (hg : Glob ρ) (hz : Yes z) {t : Nat} {n v : SS} (hv : VRs (nuD Dt) ρ [.ptr t (.k 0), .agg [.str n, .str v]] vs)
    (h : addM C.bd call t n v k nx H L = z) : OpOk C (nuD Dt) ρ nx L w k z o a ((callFunc 171 ⟨vs⟩).run C.P w) := by
  obtain ⟨X, hX, h1⟩ := rd_ok hz h
  clear h
  have fall : ∀ {D : Log}, call 171 [.ptr t (.k 0), .agg [.str n, .str v], .tup []] k nx H (D ++ L) = z → OpOk C (nuD Dt) ρ nx L w k z o a ((callFunc 171 ⟨vs⟩).run C.P w) := fun {D} hq =>
    own_text hP hc hr hg hz (f := 171) (by kernel_rfl) rfl hv (Nat.le_of_ble_eq_true (show Nat.ble 3 (((Tryz.prog.funcs[171]?).map (·.ntmps)).getD 0) = true by rw [Tryz.func171]; kernel_rfl)) (D := D) hq
  have body : ∀ {b len low kn kv size}, tbRow X = some (b, len, low, kn, kv, size) → fldOf C.bd n v = some 1 → addT C.bd call t n v b kn len size k nx H ((t, false) :: L) = z → OpOk C (nuD Dt) ρ nx L w k z o a ((callFunc 171 ⟨vs⟩).run C.P w) := by
    intro b len low kn kv size hT hf g1
    clear h1
    obtain ⟨cap, kc, rfl, _⟩ := tbRow_ok hT
    obtain ⟨A, hA, h2⟩ := rd_ok hz g1
    cases hk : tbAt A with
    | none => simp only [hk] at h2; exact fall (D := [(b, false), (t, false)]) h2
    | some q =>
    simp only [hk] at h2
    obtain ⟨rfl, hq4⟩ := tbAt_ok hk
    obtain ⟨_, hak, h3⟩ := lift_ok hz h2
    obtain ⟨_, htl, h4⟩ := lift_ok hz h3
    obtain ⟨K, hK, h5⟩ := rd_ok hz h4
    obtain ⟨_, hkn, h6⟩ := lift_ok hz h5
    obtain ⟨_, h7⟩ := wr_ok hz h6
    have := isKn_ok hkn
    subst this
    obtain ⟨rfl, rfl⟩ := isTabL_ok htl
    have h7 : ((M.wr t (some (.row [.sl nx (.k 0) (.lin 0 [(49 + q, 1)]) (.ge (.lin 0 [(49 + q, 1)])) 2, .sl kn (.k 0) (.k 61) (.ge (.k 61)) 2, .int .i64 (.lin 0 [(53 + q, 1)]), .int .i64 (.k 4096)]))).bind fun _ => M.ret (.tup []) : M AV) k (nx + 1) ((H.put b none).put nx (some (.lt (3 + q) []))) ((nx, true) :: (b, true) :: (kn, false) :: (b, false) :: (t, false) :: L) = z := h7
    obtain ⟨_, h8⟩ := wr_ok hz h7
    clear g1 h2 h3 h4 h5 h6 h7
    obtain ⟨hak1, _⟩ := bc_some hak
    obtain ⟨hev, hf0⟩ := bc2 hak1
    have hev : q % 2 = 0 := Nat.eq_of_beq_eq_true hev
    have hkf := flag69n ok hf0
    obtain ⟨vt, l1, rfl, hvt, hl1⟩ := hv.cons
    obtain ⟨vf, l2, rfl, hvf, hl2⟩ := hl1.cons
    cases hl2.nil
    have hds : Dt.dsK q = Dt.ds := if_pos hev
    have hds1 : Dt.dsK (q + 1) = Dt.cur :: Dt.dsK q := by
      unfold Dat.dsK; rw [if_neg (by omega), if_pos hev, Dat.ds'_eq, if_neg (by rw [hkf]; simp)]
    have hls := lsE_map (hG.l' q) (hG.r' q) (x := fun _ => []) (d := Dt.cur) (y := 0) (f := fun _ => 0)
    have h32 : (nuS (fun _ => []) Dt.cur (fun _ => 0) (fun t => (Dt.dsK q).getD t 0) 0).n 32 = Dt.cur := by rw [nuS_32, wth_id Dt.cur_in.1 Dt.cur_in.2]
    obtain ⟨hne, pt, pb, pk, e1, e2, e3, hr2, hv6⟩ := tab_small hr hX hA hq4 hK hls.2 hls.1 hvt
    have hlen1 : 1 ≤ (Dt.dsK q).length := by cases hd : Dt.dsK q with | nil => exact (hne hd).elim | cons _ _ => simp
    have hlen14 : (Dt.dsK q).length ≤ 14 := by rw [hds]; have h1 := hG.dl; rw [hkf, if_neg (by simp)] at h1; have := Dt.hi; omega
    obtain ⟨n3, H3, D3, b2, cap2, hrun, hD, hb2, hH6, hHb⟩ := chkAdd_spec (add_chk (q := q) hlen1 hlen14)
    have hfv : n = [.lit 5 448629141562] ∧ curPath C.bd v = true := by
      rcases fldOf_ok ok hf with ⟨h, _⟩ | ⟨h, _⟩ | ⟨_, h1, h2⟩
      · cases h
      · cases h
      · exact ⟨h1, h2⟩
    obtain ⟨_, hsd⟩ := curPath_ok ok hfv.2
    have hpath : ∀ ρ2, VR (nuS (fun _ => []) Dt.cur (fun _ => 0) (fun t => (Dt.dsK q).getD t 0) 0) ρ2 (.agg (pathV 32)) vf := fun ρ2 => hvf.path hfv.1 (by rw [h32]; exact hsd) (by rw [h32]; exact Dt.cur_in)
    intro next Q hn
    rw [hP]
    refine small_run (okP0 fun _ => rfl) hrun hr2 (sig_glob hg) (VRs.mk hv6 (VRs.mk (hpath _) VRs.mk0)) fun σ' u w' _ hv' hr3 hst => ?_
    obtain ⟨r6, s6, ob6, g1, g2, g3⟩ := hr3.blk 6 _ hH6
    obtain ⟨rb, sb, obb, f1, f2, f3⟩ := hr3.blk b2 _ hHb
    have g0 : σ' 6 = some pt := hst.ext _ _ (sig_at (ps := [pt, pb, pk]) 0)
    rw [g0] at g1; cases g1
    have hσ8 : σ' 8 = some pk := hst.ext _ _ (sig_at (ps := [(r6, s6), pb, pk]) 2)
    have hcap : 61 + (Dt.dsK (q + 1)).length = 61 + ((Dt.dsK q).length + 1) := by rw [hds1]; simp
    have hdec : decide (2 ≤ q + 1) = decide (2 ≤ q) := by
      by_cases h : 2 ≤ q
      · rw [decide_eq_true h, decide_eq_true (by omega)]
      · rw [decide_eq_false h, decide_eq_false (by omega)]
    have hne1 : Dt.dsK (q + 1) ≠ [] := by rw [hds1]; simp
    have htb : tabF q (Dt.dsK (q + 1)) = tabF (q + 1) (Dt.dsK (q + 1)) := by
      unfold tabF
      by_cases h : q < 2
      · rw [if_pos h, if_pos (by omega)]
      · rw [if_neg h, if_neg (by omega)]
    have hL : ((tabLen (decide (2 ≤ q)) ((Dt.dsK q).length + 1) : Nat) : Int) = (SI.lin 0 [(49 + q, 1)]).den (nuD Dt) := by
      show _ = 0 + (1 * (nuD Dt).n (49 + q) + 0)
      rw [n_of _ (by omega), show 49 + q = 48 + (q + 1) by omega, m_tl _ (by omega), tabF_len hne1, hdec, hds1]; simp
    have hS : ((tabSize (decide (2 ≤ q)) ((Dt.dsK q).length + 1) : Nat) : Int) = (SI.lin 0 [(53 + q, 1)]).den (nuD Dt) := by
      show _ = 0 + (1 * (nuD Dt).n (53 + q) + 0)
      rw [n_of _ (by omega), show 53 + q = 52 + (q + 1) by omega, m_ts _ (by omega), tabF_size hne1, hdec, hds1]; simp
    have hnx : extN ρ nx [(rb, sb)] nx = some (rb, sb) := extN_at (new := [(rb, sb)]) 0
    have hkx : extN ρ nx [(rb, sb)] kn = some pk := extN_ext hr _ _ _ e3
    have key := hr.turn (t := t) (b := b) (H' := ((H.put b none).put nx (some (.lt (3 + q) []))).put t (some (.row [.sl nx (.k 0) (.lin 0 [(49 + q, 1)]) (.ge (.lin 0 [(49 + q, 1)])) 2, .sl kn (.k 0) (.k 61) (.ge (.k 61)) 2, .int .i64 (.lin 0 [(53 + q, 1)]), .int .i64 (.k 4096)])))
      (D := (t, true) :: (nx, true) :: (b, true) :: (kn, false) :: (b, false) :: [(t, false)]) hX e1 hA e2 hst hD (fun c hc => sig_top (by simpa using hc)) (sig_at (ps := [(r6, s6), pb, pk]) 0) (sig_at (ps := [(r6, s6), pb, pk]) 1) hr3 (by omega) hH6 (new := [(rb, sb)]) (As := [.lt (3 + q) []]) (Ht := .row [.sl nx (.k 0) (.lin 0 [(49 + q, 1)]) (.ge (.lin 0 [(49 + q, 1)])) 2, .sl kn (.k 0) (.k 61) (.ge (.k 61)) 2, .int .i64 (.lin 0 [(53 + q, 1)]), .int .i64 (.k 4096)])
      (fun i p hp => by
        have hi : i = 0 := by have := (List.getElem?_eq_some_iff.1 hp).1; simpa using this
        subst hi; cases hp
        exact ⟨b2, _, hb2, hHb, f1⟩)
      (fun i j p q h1 h2 _ => by
        have hi : i = 0 := by have := (List.getElem?_eq_some_iff.1 h1).1; simpa using this
        have hj : j = 0 := by have := (List.getElem?_eq_some_iff.1 h2).1; simpa using this
        omega)
      rfl (by
        obtain ⟨us, k1, k2, k3, k4⟩ := g3
        refine ⟨ob6, g2, us, ?_, k2, k3, k4⟩
        obtain ⟨v1, l1, rfl, a1, hv1⟩ := k1.cons
        obtain ⟨v2, l2, rfl, a2, hv2⟩ := hv1.cons
        obtain ⟨v3, l3, rfl, a3, hv3⟩ := hv2.cons
        obtain ⟨v4, l4, rfl, a4, hv4⟩ := hv3.cons
        cases hv4.nil
        refine VRs.mk ?_ (VRs.mk ?_ (VRs.mk ?_ (VRs.mk a4 VRs.mk0)))
        · obtain ⟨r, s, oo, nn, cc, b1, b2, b3, b4, b5, b6, rfl⟩ := a1
          rw [f1] at b1; cases b1
          have b3 : ((tabLen (decide (2 ≤ q)) ((Dt.dsK q).length + 1) : Nat) : Int) = (nn : Int) := b3
          exact ⟨_, _, oo, nn, cc, hnx, b2, by rw [← hL, b3], by show (SI.lin 0 [(49 + q, 1)]).den (nuD Dt) ≤ _; rw [← hL, b3]; omega, b5, b6, rfl⟩
        · obtain ⟨r, s, oo, nn, cc, b1, b2, b3, b4, b5, b6, rfl⟩ := a2
          rw [hσ8] at b1; cases b1
          exact ⟨_, _, oo, nn, cc, hkx, b2, b3, b4, b5, b6, rfl⟩
        · have a3 : v3 = .int .i64 ((tabSize (decide (2 ≤ q)) ((Dt.dsK q).length + 1) : Nat) : Int) := a3
          rw [a3, hS]; rfl)
      (fun i A p h1 h2 => by
        have hi : i = 0 := by have := (List.getElem?_eq_some_iff.1 h1).1; simpa using this
        subst hi; cases h1; cases h2
        refine ⟨obb, f2, ?_⟩
        obtain ⟨us, k1, k2, k3, k4⟩ := f3
        refine ⟨us, [], k3, k4, LR.mk0, .inr ?_⟩
        have hlsc : ∀ c ∈ 32 :: lsE (Dt.dsK q).length, 0 ≤ (nuS (fun _ => []) Dt.cur (fun _ => 0) (fun t => (Dt.dsK q).getD t 0) 0).n c ∧ (nuS (fun _ => []) Dt.cur (fun _ => 0) (fun t => (Dt.dsK q).getD t 0) 0).n c ≤ 9 := by
          intro c hc
          rcases List.mem_cons.1 hc with rfl | hc
          · rw [h32]; exact Dt.cur_in
          · exact hls.2 c hc
        have huv := str_unique (isStr_tab _ _) k1 (tabR_R (ρ := σ') (k := q) hlsc)
        rw [List.map_cons, h32, hls.1, ← hds1, htb] at huv
        show Dt.B (3 + q) [] us
        simp only [Dat.B, show ¬ 3 + q = 0 by omega, show ¬ 3 + q = 1 by omega, if_false]
        by_cases h5 : 3 + q ≤ 5
        · rw [if_pos h5, show 3 + q - 2 = q + 1 by omega]
          exact ⟨hne1, huv⟩
        · omega)
      (fun c => by
        rw [T.get_put, T.get_put, T.get_put]
        have htx := hr.lt e1
        by_cases c1 : c = t
        · rw [if_pos c1, if_pos c1]
        · rw [if_neg c1, if_neg c1]
          by_cases c2 : c = nx
          · rw [if_pos c2, c2, if_pos (Nat.le_refl _), Nat.sub_self]; rfl
          · rw [if_neg c2]
            by_cases c3 : nx ≤ c
            · rw [if_pos c3]
              have hbx := hr.lt e2
              rw [if_neg (by omega)]
              have : H.get c = none := by
                cases hq : H.get c with
                | none => rfl
                | some A => obtain ⟨r, s, _, q1, _⟩ := hr.blk c A hq; have := hr.lt q1; omega
              rw [this]
              exact (List.getElem?_eq_none (by simp; omega)).symm
            · rw [if_neg c3])
      (by simp) (by simp)
    refine hn _ _ _ ((t, true) :: (nx, true) :: (b, true) :: (kn, false) :: (b, false) :: [(t, false)]) _ u w' h8 (extN_low (new := [(rb, sb)])) ?_ key.1 key.2
    obtain ⟨us, hu, rfl⟩ := hv'
    cases hu.nil
    exact ⟨[], rfl, rfl⟩
  cases hf : fldOf C.bd n v with
  | none => simp only [hf] at h1; exact fall (D := [(t, false)]) h1
  | some j =>
  cases hT : tbRow X with
  | none =>
    match j, hf with
    | 0, hf => simp only [hf, hT] at h1; exact fall (D := [(t, false)]) h1
    | 1, hf => simp only [hf, hT] at h1; exact fall (D := [(t, false)]) h1
    | j + 2, hf => simp only [hf, hT] at h1; exact fall (D := [(t, false)]) h1
  | some r =>
  obtain ⟨b, len, low, kn, kv, size⟩ := r
  match j, hf with
  | 0, hf => simp only [hf, hT] at h1; exact fall (D := [(t, false)]) h1
  | 1, hf => simp only [hf, hT] at h1; exact body hT hf h1
  | j + 2, hf => simp only [hf, hT] at h1; exact fall (D := [(t, false)]) h1
end
end Go.AM
