import Derived.Test.YtpgfdoakehpnlaaGreatDoorAxS
import Derived.Test.YtpgfdoakehpnlaaGreatDoorAxT
set_option linter.unusedVariables false
set_option linter.unusedSimpArgs false
namespace Go.AM
open Go Go.Proofs
set_option linter.unusedVariables false
/-! # TopBudget: the store's blocks, as a few blocks -/
/-- what a pattern says of an entry -/
structure PatOk (ν : Vl) (σ : Nm) (bs : List (Nat × Nat)) (P : Pat) (e : Ent) : Prop where
  d : ν.n P.1 = e.d
  r : 0 ≤ e.d ∧ e.d ≤ 9
  f : ∃ q, bs[e.b]? = some q ∧ σ P.2.1 = some q
  b : sden ν P.2.2 = e.body
def PatsOk (ν : Vl) (σ : Nm) (bs : List (Nat × Nat)) : List Pat → List Ent → Prop
  | [], [] => True
  | P :: Ps, e :: es => PatOk ν σ bs P e ∧ PatsOk ν σ bs Ps es
  | _, _ => False
section
variable {ν ν2 : Vl} {σ σ' ρ : Nm} {bs : List (Nat × Nat)}
theorem PatsOk.of_map {π : Nat → Pat} {ε : Nat → Ent} : ∀ {ord : List Nat}, (∀ t ∈ ord, PatOk ν σ bs (π t) (ε t)) → PatsOk ν σ bs (ord.map π) (ord.map ε)
  | [], _ => trivial
  | t :: ord, h => ⟨h t (by simp), PatsOk.of_map fun u hu => h u (by simp [hu])⟩
theorem PatsOk.ext (h : Ext σ σ') : ∀ {Ps : List Pat} {es : List Ent}, PatsOk ν σ bs Ps es → PatsOk ν σ' bs Ps es
  | [], [], _ => trivial
  | P :: Ps, e :: es, ⟨k, k2⟩ => ⟨⟨k.d, k.r, let ⟨q, a, b⟩ := k.f; ⟨q, a, h _ _ b⟩, k.b⟩, PatsOk.ext h k2⟩
theorem PatsOk.more {x : List (Nat × Nat)} : ∀ {Ps : List Pat} {es : List Ent}, PatsOk ν σ bs Ps es → PatsOk ν σ (bs ++ x) Ps es
  | [], [], _ => trivial
  | P :: Ps, e :: es, ⟨k, k2⟩ => ⟨⟨k.d, k.r, let ⟨q, a, b⟩ := k.f; ⟨q, by rw [List.getElem?_append_left (List.getElem?_eq_some_iff.1 a).1]; exact a, b⟩, k.b⟩, PatsOk.more k2⟩
theorem entA_R {P : Pat} {e : Ent} {q : Nat × Nat} {c : Nat} (h : ν.n P.1 = e.d) (hr : 0 ≤ e.d ∧ e.d ≤ 9) (hq : σ P.2.1 = some q) (hb : sden ν P.2.2 = e.body) (h1 : 1 ≤ c) (h2 : c * 2 ≤ q.2) : VRs ν σ (patA P) (entVs e q.1 c) := by
  refine VRs.mk (strL _ _) (VRs.mk (strL _ _) (VRs.mk (strL _ _) (VRs.mk ?_ (VRs.mk rfl (VRs.mk rfl (VRs.mk rfl (VRs.mk ⟨q.1, q.2, 0, 1, c, hq, .inr rfl, rfl, ?_, h1, by omega, rfl⟩ (VRs.mk rfl (VRs.mk ?_ (VRs.mk rfl (VRs.mk rfl VRs.mk0)))))))))))
  · show _ = strV (sden ν [.lit 1 47, .one (.bt 48 [(P.1, 1)] 0 0)])
    rw [path_den (by rw [h]; exact hr), h]
  · show (1 : Int) ≤ (c : Int)
    omega
  · show _ = strV (sden ν P.2.2)
    rw [hb]
theorem entVs_cells (e : Ent) (r c : Nat) : ∀ x ∈ entVs e r c, cellV x = true := by
  intro x hx
  simp only [entVs, strB, List.mem_cons, List.not_mem_nil, or_false] at hx
  rcases hx with rfl | rfl | rfl | rfl | rfl | rfl | rfl | rfl | rfl | rfl | rfl | rfl <;> rfl
theorem ents_in : ∀ {Ps : List Pat} {es : List Ent} {vs : List Value}, EntsR es bs vs → PatsOk ν σ bs Ps es → ∃ v1 us, vs = v1 ++ us ∧ VRs ν σ (rowA Ps) v1 ∧ ∀ x ∈ v1, cellV x = true
  | [], [], vs, _, _ => ⟨[], vs, rfl, VRs.mk0, by simp⟩
  | P :: Ps, e :: es, vs, ⟨p, c, us, h1, h2, h3, h4, h5⟩, ⟨k, k2⟩ => by
    obtain ⟨v1, ws, e1, e2, e3⟩ := ents_in h5 k2
    obtain ⟨q, q1, q2⟩ := k.f
    rw [h1] at q1; cases q1
    refine ⟨entVs e p.1 c ++ v1, ws, by rw [h4, e1, List.append_assoc], ?_, fun x hx => ?_⟩
    · exact (entA_R k.d k.r q2 k.b h2 h3).append e2
    · rcases List.mem_append.1 hx with hx | hx
      · exact entVs_cells _ _ _ x hx
      · exact e3 x hx
theorem entA_out {P : Pat} {e : Ent} {q : Nat × Nat} {vs : List Value} (h : ν.n P.1 = e.d) (hr : 0 ≤ e.d ∧ e.d ≤ 9) (hq : σ P.2.1 = some q) (hb : sden ν P.2.2 = e.body) (hv : VRs ν σ (patA P) vs) : ∃ c, 1 ≤ c ∧ c * 2 ≤ q.2 ∧ vs = entVs e q.1 c := by
  obtain ⟨v1, l1, rfl, a1, hv⟩ := (show VRs ν σ (entA P.1 P.2.1 P.2.2) vs from hv).cons
  obtain ⟨v2, l2, rfl, a2, hv⟩ := hv.cons
  obtain ⟨v3, l3, rfl, a3, hv⟩ := hv.cons
  obtain ⟨v4, l4, rfl, a4, hv⟩ := hv.cons
  obtain ⟨v5, l5, rfl, a5, hv⟩ := hv.cons
  obtain ⟨v6, l6, rfl, a6, hv⟩ := hv.cons
  obtain ⟨v7, l7, rfl, a7, hv⟩ := hv.cons
  obtain ⟨v8, l8, rfl, a8, hv⟩ := hv.cons
  obtain ⟨v9, l9, rfl, a9, hv⟩ := hv.cons
  obtain ⟨v10, l10, rfl, a10, hv⟩ := hv.cons
  obtain ⟨v11, l11, rfl, a11, hv⟩ := hv.cons
  obtain ⟨v12, l12, rfl, a12, hv⟩ := hv.cons
  cases hv.nil
  obtain ⟨r, sz, o, n, c, b1, b2, b3, b4, b5, b6, rfl⟩ := a8
  rw [hq] at b1; cases b1
  have b3 : (1 : Int) = (n : Int) := b3
  have hn : n = 1 := by omega
  subst hn
  have ho : o = 0 := by
    rcases b2 with b2 | b2
    · omega
    · have : (0 : Int) = (o : Int) := b2; omega
  subst ho
  refine ⟨c, b5, by omega, ?_⟩
  have a1 : v1 = strV (sden ν [.lit 3 5522759]) := a1
  have a2 : v2 = strV (sden ν [.lit 5 495807919208]) := a2
  have a3 : v3 = strV (sden ν [.lit 1 97]) := a3
  have a4 : v4 = strV (sden ν [.lit 1 47, .one (.bt 48 [(P.1, 1)] 0 0)]) := a4
  have a5 : v5 = .slice none 0 0 := a5
  have a6 : v6 = .int .i64 (-1) := a6
  have a7 : v7 = .int .i64 200 := a7
  have a9 : v9 = .int .i64 (-1) := a9
  have a10 : v10 = strV (sden ν P.2.2) := a10
  have a11 : v11 = .int .i64 0 := a11
  have a12 : v12 = .int .i64 0 := a12
  rw [lit_den] at a1 a2 a3
  rw [path_den (by rw [h]; exact hr), h] at a4
  rw [hb] at a10
  subst a1; subst a2; subst a3; subst a4; subst a5; subst a6; subst a7; subst a9; subst a10; subst a11; subst a12
  rfl
theorem VRs.split {a b : List AV} : ∀ {vs : List Value}, VRs ν σ (a ++ b) vs → ∃ u v, vs = u ++ v ∧ VRs ν σ a u ∧ VRs ν σ b v := by
  induction a with
  | nil => intro vs h; exact ⟨[], vs, rfl, VRs.mk0, h⟩
  | cons x a ih =>
    intro vs h
    obtain ⟨y, ys, rfl, h1, h2⟩ := (show VRs ν σ (x :: (a ++ b)) vs from h).cons
    obtain ⟨u, v, rfl, h3, h4⟩ := ih h2
    exact ⟨y :: u, v, rfl, VRs.mk h1 h3, h4⟩
theorem ents_out : ∀ {Ps : List Pat} {es : List Ent} {vs : List Value}, VRs ν σ (rowA Ps) vs → PatsOk ν σ bs Ps es → EntsR es bs vs
  | [], [], vs, _, _ => trivial
  | P :: Ps, e :: es, vs, h, ⟨k, k2⟩ => by
    obtain ⟨u, v, rfl, h1, h2⟩ := VRs.split (show VRs ν σ (patA P ++ rowA Ps) vs from h)
    obtain ⟨q, q1, q2⟩ := k.f
    obtain ⟨c, c1, c2, rfl⟩ := entA_out k.d k.r q2 k.b h1
    exact ⟨q, c, v, q1, c1, c2, rfl, ents_out h2 k2⟩
theorem cc_R : VRs ν σ ccA ccVs := VRs.mk (strL _ _) (VRs.mk (strL _ _) VRs.mk0)
theorem cc_out {vs : List Value} (h : VRs ν σ ccA vs) : vs = ccVs := str_unique (ρ2 := σ) rfl h cc_R
/-- how much is told by letters -/
theorem sumA_den {ε : Nat → Ent} : ∀ {l : List Nat}, (∀ t ∈ l, ν.n (16 + t) = ((ε t).body.length : Int)) → (sumA (133 * l.length) l).den ν = cost (l.map ε) := by
  intro l h
  unfold sumA
  rw [SI.den_mk]
  have : ∀ {l : List Nat}, (∀ t ∈ l, ν.n (16 + t) = ((ε t).body.length : Int)) → ((133 * l.length : Nat) : Int) + linD ν (l.map fun t => (16 + t, 1)) = cost (l.map ε) := by
    intro l
    induction l with
    | nil => intro _; rfl
    | cons t l ih =>
      intro h
      have := ih fun u hu => h u (by simp [hu])
      show ((133 * (l.length + 1) : Nat) : Int) + (1 * ν.n (16 + t) + linD ν (l.map fun t => (16 + t, 1))) = (133 + ((ε t).body.length : Int)) + cost (l.map ε)
      rw [h t (by simp), ← this]; omega
  exact this h
end
section
variable {ν ν2 : Vl} {ρ : Nm} {nx : Nat} {H : T AB} {w : World}
/-- the store's root, its row, and rows of fields -/
theorem st_small (hr : HR ν ρ nx H w) {pg pb : Nat × Nat} {cs : List (Nat × Nat)} {rootL rowL : List AV}
    (hroot : ∃ obj, w.heap[pg.1]? = some obj ∧ BR ν2 (sig ρ (pg :: pb :: cs)) (.row rootL) pg.2 obj) (hrow : ∃ obj, w.heap[pb.1]? = some obj ∧ BR ν2 (sig ρ (pg :: pb :: cs)) (.row rowL) pb.2 obj)
    (hcs : ∀ q ∈ cs, ∃ obj, w.heap[q.1]? = some obj ∧ cellsR ccVs q.2 obj ∧ unfr obj) (hgb : pg.1 ≠ pb.1) (hgc : ∀ q ∈ cs, pg.1 ≠ q.1 ∧ pb.1 ≠ q.1)
    (hcc : ∀ (i j : Nat) (p q : Nat × Nat), cs[i]? = some p → cs[j]? = some q → p.1 = q.1 → i = j) :
    HR ν2 (sig ρ (pg :: pb :: cs)) (8 + cs.length) (mkH 6 (.row rootL :: .row rowL :: List.replicate cs.length (.row ccA))) w := by
  have := hr.small (ν2 := ν2) (.row rootL :: .row rowL :: List.replicate cs.length (.row ccA)) (pg :: pb :: cs) (by simp) (fun i A p h1 h2 => ?_) (fun i j p q h1 h2 h3 => ?_)
  · have e : 6 + (AB.row rootL :: AB.row rowL :: List.replicate cs.length (AB.row ccA)).length = 8 + cs.length := by simp; omega
    rw [e] at this
    exact this
  · match i, h1, h2 with
    | 0, h1, h2 => cases h1; cases h2; exact hroot
    | 1, h1, h2 => cases h1; cases h2; exact hrow
    | i + 2, h1, h2 =>
      have h1 : (List.replicate cs.length (AB.row ccA))[i]? = some A := h1
      have h2 : cs[i]? = some p := h2
      rw [List.getElem?_replicate] at h1
      split at h1
      · cases h1
        obtain ⟨obj, k1, k2, k3⟩ := hcs p (List.mem_of_getElem? h2)
        exact ⟨obj, k1, ccVs, cc_R, by intro x hx; simp only [ccVs, strB, List.mem_cons, List.not_mem_nil, or_false] at hx; rcases hx with rfl | rfl <;> rfl, k2, k3⟩
      · cases h1
  · match i, j, h1, h2 with
    | 0, 0, _, _ => rfl
    | 1, 1, _, _ => rfl
    | 0, 1, h1, h2 => cases h1; cases h2; exact (hgb h3).elim
    | 1, 0, h1, h2 => cases h1; cases h2; exact (hgb h3.symm).elim
    | 0, j + 2, h1, h2 => cases h1; exact ((hgc q (List.mem_of_getElem? (show cs[j]? = some q from h2))).1 h3).elim
    | 1, j + 2, h1, h2 => cases h1; exact ((hgc q (List.mem_of_getElem? (show cs[j]? = some q from h2))).2 h3).elim
    | i + 2, 0, h1, h2 => cases h2; exact ((hgc p (List.mem_of_getElem? (show cs[i]? = some p from h1))).1 h3.symm).elim
    | i + 2, 1, h1, h2 => cases h2; exact ((hgc p (List.mem_of_getElem? (show cs[i]? = some p from h1))).2 h3.symm).elim
    | i + 2, j + 2, h1, h2 => rw [hcc i j p q h1 h2 h3]
end
end Go.AM
namespace Go.AM
open Go Go.Proofs Go.ChangeShapes Go.WideShapes Go.ChangeAt Go.RowKit
set_option linter.unusedVariables false
/-! # TopBudget: what the store's blocks hold -/
def epsE (es : List Ent) (t : Nat) : Ent := es.getD t ⟨0, [], 0⟩
theorem epsE_at {es : List Ent} {t : Nat} (h : t < es.length) : epsE es t = es[t] := by unfold epsE; rw [List.getD_eq_getElem?_getD, List.getElem?_eq_getElem h]; rfl
theorem eps_map (es : List Ent) : (List.range es.length).map (epsE es) = es := by
  apply List.ext_getElem
  · simp
  · intro i h1 h2
    simp only [List.getElem_map, List.getElem_range]
    exact epsE_at h2
/-- the bounds of such runs -/
theorem okP {sub : Nat} {Y : Int} {x : Nat → List UInt8} {d y : Int} {f : Nat → Int} (hx : ∀ t, 16 ≤ t → t ≤ 31 → (x t).length ≤ 4000) (hs : sub ≤ (x 30).length) (hy : 0 ≤ y ∧ y ≤ Y) : (nuS x d f (fun _ => 0) y).Ok (bdP sub Y) := by
  intro i lo hi he
  rw [lget_eq] at he
  have h262 : i < 262 := by have := (List.getElem?_eq_some_iff.1 he).1; simpa [bdP] using this
  have hb : (bdP sub Y)[i]? = some (bc (Nat.beq i 30) ((.ofNat sub : Int), (4000 : Int)) (bc (Nat.ble 16 i && Nat.ble i 31) (0, 4000) (bc (Nat.beq i 32) (0, 9) (bc (Nat.ble 80 i && Nat.ble i 94) (0, 9) (bc (Nat.ble 100 i && Nat.ble i 114) (1, 1) (bc (Nat.beq i 140) (0, Y) (0, 0))))))) := by
    unfold bdP; rw [List.getElem?_map, List.getElem?_range h262]; rfl
  rw [hb, nbeq, nbeq, nbeq, nble, nble, nble, nble, nble, nble] at he
  have he := Option.some.inj he
  by_cases h0 : i = 30
  · subst h0; cases he
    rw [nuS_t (by omega) (by omega)]
    have := hx 30 (by omega) (by omega)
    have e : Int.ofNat sub = (sub : Int) := rfl
    omega
  by_cases h1 : 16 ≤ i ∧ i ≤ 31
  · simp only [h0, h1, decide_true, decide_false, Bool.and_true] at he
    cases he
    rw [nuS_t (by omega) (by omega)]
    have := hx i (by omega) (by omega)
    omega
  have e1 : (decide (16 ≤ i) && decide (i ≤ 31)) = false := by rw [← Bool.not_eq_true]; simp; omega
  by_cases h2 : i = 32
  · subst h2; cases he
    rw [nuS_32]; exact wth_in (by omega)
  by_cases h3 : 80 ≤ i ∧ i ≤ 94
  · simp only [h0, e1, h2, h3, decide_true, decide_false, Bool.and_true] at he
    cases he
    obtain ⟨t, rfl⟩ : ∃ t, i = 80 + t := ⟨i - 80, by omega⟩
    rw [nuS_80 (by omega)]
    have := oth_in d (f t); omega
  have e3 : (decide (80 ≤ i) && decide (i ≤ 94)) = false := by rw [← Bool.not_eq_true]; simp; omega
  by_cases h4 : 100 ≤ i ∧ i ≤ 114
  · simp only [h0, e1, h2, e3, h4, decide_true, decide_false, Bool.and_true] at he
    cases he
    obtain ⟨t, rfl⟩ : ∃ t, i = 100 + t := ⟨i - 100, by omega⟩
    rw [nuS_100 (by omega)]; omega
  have e4 : (decide (100 ≤ i) && decide (i ≤ 114)) = false := by rw [← Bool.not_eq_true]; simp; omega
  by_cases h5 : i = 140
  · subst h5; cases he
    have : (nuS x d f (fun _ => 0) y).n 140 = y := by rw [nuS_n (by omega)]; rfl
    rw [this]; exact hy
  · simp only [h0, e1, h2, e3, e4, h5, decide_false] at he
    cases he
    have : (nuS x d f (fun _ => 0) y).n i = 0 := by
      by_cases h31 : i < 16
      · exact nuS_0 h31
      · by_cases h220 : 220 ≤ i ∧ i ≤ 234
        · obtain ⟨t, rfl⟩ : ∃ t, i = 220 + t := ⟨i - 220, by omega⟩
          rw [nuS_220 (by omega)]; rfl
        · exact nuS_else (by omega) (by omega) (by omega) (by omega) (by omega)
    rw [this]; exact ⟨Int.le_refl _, Int.le_refl _⟩
section
variable {C : Cx} {Dt : Dat} {ρ : Nm} {nx : Nat} {H : T AB} {L : Log} {w : World} {k : AV → Nat → T AB → Log → Ans} {z : Ans} {vs : List Value} {o : Oper} {a : Act}
theorem natsEq_ok : ∀ {l m : List Nat}, natsEq l m = true → l = m
  | [], [], _ => rfl
  | [], _ :: _, h => by cases h
  | _ :: _, [], h => by cases h
  | a :: l, b :: m, h => by
    obtain ⟨h1, h2⟩ := bc2 (show bc (Nat.beq a b) (natsEq l m) false = true from h)
    rw [Nat.eq_of_beq_eq_true h1, natsEq_ok h2]
theorem isEn_ok {p : Nat} {l : List Nat} {A : AB} {u : Unit} (h : isEn p l A = some u) : A = .lt (6 + p) l := by
  unfold isEn at h
  split at h
  · obtain ⟨h, _⟩ := bc_some h
    obtain ⟨h1, h2⟩ := bc2 h
    have h1 : _ = 6 + p := Nat.eq_of_beq_eq_true h1
    rw [h1, natsEq_ok h2]
  · cases h
theorem stRoot_ok {X : AB} {p b : Nat} {l : List Nat} (h : stRoot X = some (p, b, l)) : X = .lt (10 + p) (b :: l) ∧ p < 3 := by
  unfold stRoot at h
  split at h
  · rename_i kk bb ll
    obtain ⟨h1, h⟩ := bc_some h
    obtain ⟨a1, a2⟩ := isIn_ok h1
    cases h
    refine ⟨?_, by show kk - 10 < 3; omega⟩
    have : 10 + Nat.sub kk 10 = kk := by show 10 + (kk - 10) = kk; omega
    rw [this]
  · cases h
theorem isHd_ok {j : Nat} {A : AB} {u : Unit} (h : isHd j A = some u) : A = .lt (20 + j) [] := by
  unfold isHd at h
  split at h
  · obtain ⟨h, _⟩ := bc_some h
    have h : _ = 20 + j := Nat.eq_of_beq_eq_true h
    rw [h]
  · cases h
theorem rdHd_ok (hz : Yes z) : ∀ {l : List Nat} {j : Nat} {D : Log} {k' : Unit → Nat → T AB → Log → Ans}, rdHd l j k' nx H (D ++ L) = z → (∀ (i c : Nat), l[i]? = some c → H.get c = some (.lt (20 + (j + i)) [])) ∧ ∃ D', k' () nx H (D' ++ (D ++ L)) = z
  | [], j, D, k', h => ⟨fun i c hc => by simp at hc, [], h⟩
  | b :: l, j, D, k', h => by
    obtain ⟨A, hA, h2⟩ := rd_ok hz h
    obtain ⟨_, hh, h3⟩ := lift_ok hz h2
    obtain ⟨h4, D', h5⟩ := rdHd_ok hz (D := (b, false) :: D) h3
    refine ⟨fun i c hc => ?_, D' ++ [(b, false)], by simpa using h5⟩
    cases i with
    | zero => cases hc; rw [hA, isHd_ok hh]; rfl
    | succ i =>
      have := h4 i c hc
      rw [this]; congr 2; omega
theorem stSee_ok (hz : Yes z) {p b i : Nat} {l : List Nat} {D : Log} {k' : Unit → Nat → T AB → Log → Ans} (h : stSee p b l i k' nx H (D ++ L) = z) : l.length = i ∧ H.get b = some (.lt (6 + p) l) ∧ (∀ (j c : Nat), l[j]? = some c → H.get c = some (.lt (20 + j) [])) ∧ ∃ D', k' () nx H (D' ++ (D ++ L)) = z := by
  obtain ⟨_, h1, h2⟩ := lift_ok hz h
  obtain ⟨A, hA, h3⟩ := rd_ok hz h2
  obtain ⟨_, h4, h5⟩ := lift_ok hz h3
  obtain ⟨h6, D', h7⟩ := rdHd_ok hz (D := (b, false) :: D) h5
  obtain ⟨h1, _⟩ := bc_some h1
  refine ⟨Nat.eq_of_beq_eq_true h1, by rw [hA, isEn_ok h4], fun j c hc => by have := h6 j c hc; rw [this]; congr 2; omega, D' ++ [(b, false)], by simpa using h7⟩
/-- what the store's blocks hold -/
structure StAt (D : Dat) (ρ : Nm) (H : T AB) (w : World) (p g b : Nat) (l : List Nat) (pg pb : Nat × Nat) (bs : List (Nat × Nat)) : Prop where
  eg : ρ g = some pg
  eb : ρ b = some pb
  el : LR ρ l bs
  gb : pg.1 ≠ pb.1
  root : ∃ obj s, w.heap[pg.1]? = some obj ∧ cellsR [s, .int .i64 (cost (D.esP p)), .int .i64 D.bud] pg.2 obj ∧ unfr obj ∧
    (D.esP p = [] ∧ s = .slice none 0 0 ∨ D.esP p ≠ [] ∧ ∃ c, s = .slice (some ⟨pb.1, 0, none⟩) (D.esP p).length c ∧ (D.esP p).length ≤ c ∧ c * 12 ≤ pb.2)
  row : ∃ obj vs, w.heap[pb.1]? = some obj ∧ cellsR vs pb.2 obj ∧ unfr obj ∧ EntsR (D.esP p) bs vs
  hd : ∀ (j : Nat) (q : Nat × Nat), bs[j]? = some q → pg.1 ≠ q.1 ∧ pb.1 ≠ q.1 ∧ ∃ obj vs, w.heap[q.1]? = some obj ∧ cellsR vs q.2 obj ∧ unfr obj ∧ ((∃ p, p < 3 ∧ ∃ e ∈ D.esP p, e.b = j) → vs = ccVs)
  hdd : ∀ (i j : Nat) (q r : Nat × Nat), bs[i]? = some q → bs[j]? = some r → q.1 = r.1 → i = j
theorem st_at (hr : HR (nuD Dt) ρ nx H w) {p g b : Nat} {l : List Nat} (hp : p < 3) (hX : H.get g = some (.lt (10 + p) (b :: l))) (hA : H.get b = some (.lt (6 + p) l)) (hh : ∀ (j c : Nat), l[j]? = some c → H.get c = some (.lt (20 + j) [])) :
    ∃ pg pb bs, StAt Dt ρ H w p g b l pg pb bs := by
  obtain ⟨rg, sg, og, eg, f1, f2⟩ := hr.blk g _ hX
  obtain ⟨rb, sb, ob', eb, g1, g2⟩ := hr.blk b _ hA
  obtain ⟨us, bs0, c1, c2, c3, c4⟩ := f2
  obtain ⟨ws, bs, d1, d2, d3, d4⟩ := g2
  obtain ⟨q0, qs, rfl, c5, c6⟩ := c3.cons
  rw [eb] at c5; cases c5
  have e0 : qs = bs := by
    have h1 : l.map ρ = qs.map some := c6
    have h2 : l.map ρ = bs.map some := d3
    rw [h1] at h2
    exact (List.map_inj_right (fun x y h => Option.some.inj h)).1 h2
  subst e0
  have hB : Dt.B (10 + p) ((rb, sb) :: qs) us := by
    rcases c4 with h | h
    · omega
    · exact h
  simp only [Dat.B, show ¬ 10 + p = 0 by omega, show ¬ 10 + p = 1 by omega, show ¬ 10 + p ≤ 5 by omega, show ¬ 10 + p ≤ 8 by omega, show ¬ 10 + p < 10 by omega, show 10 + p ≤ 12 by omega, if_true, if_false, show 10 + p - 10 = p by omega] at hB
  obtain ⟨p', ps', hpp, s, hus, hs⟩ := hB
  cases hpp
  have hB2 : Dt.B (6 + p) qs ws := by
    rcases d4 with h | h
    · omega
    · exact h
  simp only [Dat.B, show ¬ 6 + p = 0 by omega, show ¬ 6 + p = 1 by omega, show ¬ 6 + p ≤ 5 by omega, show 6 + p ≤ 8 by omega, if_true, if_false, show 6 + p - 6 = p by omega] at hB2
  have lk : ∀ {x y : Nat} {k1 k2 : Nat} {l1 l2 : List Nat} {r s s' : Nat}, H.get x = some (.lt k1 l1) → H.get y = some (.lt k2 l2) → k1 ≠ k2 → ρ x = some (r, s) → ρ y = some (r, s') → False := by
    intro x y k1 k2 l1 l2 r s s' h1 h2 h3 h4 h5
    have := hr.inj x y _ _ r s s' h1 h2 h4 h5
    subst this
    rw [h1] at h2; cases h2; exact h3 rfl
  have hdn : ∀ (j : Nat) (q : Nat × Nat), qs[j]? = some q → ∃ c, l[j]? = some c ∧ ρ c = some q := by
    intro j q hq
    have hj : j < l.length := by rw [← d3.length]; exact (List.getElem?_eq_some_iff.1 hq).1
    obtain ⟨q', h1, h2⟩ := d3.get (List.getElem?_eq_getElem hj)
    rw [hq] at h1; cases h1
    exact ⟨l[j], List.getElem?_eq_getElem hj, h2⟩
  refine ⟨(rg, sg), (rb, sb), qs, ⟨eg, eb, d3, fun e => ?_, ⟨og, s, f1, hus ▸ c1, c2, hs⟩, ⟨ob', ws, g1, d1, d2, hB2⟩, fun j q hq => ?_, fun i j q r h1 h2 h3 => ?_⟩⟩
  · have e : rg = rb := e
    subst e
    exact lk hX hA (by omega) eg eb
  · obtain ⟨c, h1, h2⟩ := hdn j q hq
    have hc := hh j c h1
    obtain ⟨rc, sc, oc, k1, k2, k3⟩ := hr.blk c _ hc
    rw [h2] at k1; cases k1
    obtain ⟨xs, bb, m1, m2, m3, m4⟩ := k3
    refine ⟨fun e => ?_, fun e => ?_, oc, xs, k2, m1, m2, fun he => ?_⟩
    · have e : rg = rc := e
      subst e
      exact lk hX hc (by omega) eg h2
    · have e : rb = rc := e
      subst e
      exact lk hA hc (by omega) eb h2
    · rcases m4 with h | h
      · omega
      · have h : Dt.B (20 + j) bb xs := h
        simp only [Dat.B, show ¬ 20 + j = 0 by omega, show ¬ 20 + j = 1 by omega, show ¬ 20 + j ≤ 5 by omega, show ¬ 20 + j ≤ 8 by omega, show ¬ 20 + j < 10 by omega, show ¬ 20 + j ≤ 12 by omega, show 20 ≤ 20 + j by omega, if_true, if_false, show 20 + j - 20 = j by omega] at h
        exact h he
  · obtain ⟨c, a1, a2⟩ := hdn i q h1
    obtain ⟨d, b1, b2⟩ := hdn j r h2
    have hc := hh i c a1
    have hd := hh j d b1
    obtain ⟨r1, s1⟩ := q
    obtain ⟨r2, s2⟩ := r
    have h3 : r1 = r2 := h3
    subst h3
    by_cases e : i = j
    · exact e
    · exact (lk hc hd (by omega) a2 b2).elim
end
end Go.AM
namespace Go.AM
open Go Go.Proofs
set_option linter.unusedVariables false
/-! # TopBudget: the store's entries -/
theorem pick_some {d : Int} : ∀ {es : List Ent} {f : Ent} {r : List Ent}, pick d es = some (f, r) → ∃ a b, es = a ++ f :: b ∧ r = a ++ b ∧ f.d = d ∧ ∀ e ∈ a, e.d ≠ d
  | [], f, r, h => by cases h
  | e :: es, f, r, h => by
    simp only [pick] at h
    split at h
    · rename_i hd
      cases h
      exact ⟨[], es, rfl, rfl, hd, by simp⟩
    · rename_i hd
      cases hp : pick d es with
      | none => rw [hp] at h; cases h
      | some q =>
        obtain ⟨f', r'⟩ := q
        rw [hp] at h
        cases h
        obtain ⟨a, b, h1, h2, h3, h4⟩ := pick_some hp
        refine ⟨e :: a, b, by rw [h1]; rfl, by rw [h2]; rfl, h3, fun x hx => ?_⟩
        rcases List.mem_cons.1 hx with rfl | hx
        · exact hd
        · exact h4 x hx
theorem pick_none {d : Int} : ∀ {es : List Ent}, pick d es = none → ∀ e ∈ es, e.d ≠ d
  | [], _, e, he => by cases he
  | x :: es, h, e, he => by
    simp only [pick] at h
    split at h
    · cases h
    · rename_i hd
      cases hp : pick d es with
      | some q => obtain ⟨f', r'⟩ := q; rw [hp] at h; cases h
      | none =>
        rcases List.mem_cons.1 he with rfl | he
        · exact hd
        · exact pick_none hp e he
/-- what holds of entries -/
structure GE (D : Dat) (l : List Ent) : Prop where
  er : ∀ e ∈ l, 0 ≤ e.d ∧ e.d ≤ 9
  en : (l.map (·.d)).Nodup
  el : l.length ≤ D.i
  eb : ∀ e ∈ l, e.b < D.i
  ebn : (l.map (·.b)).Nodup
  ec : cost l ≤ D.bud
theorem Dat.Good.ge {D : Dat} (h : D.Good) : GE D D.es := ⟨h.er, h.en, h.el, h.eb, h.ebn, h.ec⟩
theorem bud_in (D : Dat) : 0 ≤ D.bud ∧ D.bud ≤ 3000 := wth_in (by omega)
theorem cost_mem {l : List Ent} {e : Ent} (h : e ∈ l) : cost1 e ≤ cost l := by
  induction l with
  | nil => cases h
  | cons x l ih =>
    have h0 : 0 ≤ cost1 x := by unfold cost1; omega
    have h1 := cost_nn l
    rcases List.mem_cons.1 h with rfl | h
    · simp only [cost]; omega
    · have := ih h; simp only [cost]; omega
theorem GE.body {D : Dat} {l : List Ent} (h : GE D l) {e : Ent} (he : e ∈ l) : e.body.length ≤ 3000 := by
  have h1 := cost_mem he
  have h2 := h.ec
  have h3 := bud_in D
  unfold cost1 at h1
  omega
theorem GE.perm {D : Dat} {l m : List Ent} (h : GE D l) (hp : l.Perm m) (hc : cost m = cost l) : GE D m :=
  ⟨fun e he => h.er e (hp.mem_iff.2 he), (hp.map _).nodup_iff.1 h.en, by rw [← hp.length_eq]; exact h.el, fun e he => h.eb e (hp.mem_iff.2 he), (hp.map _).nodup_iff.1 h.ebn, by rw [hc]; exact h.ec⟩
theorem touch_perm (a b : List Ent) (f : Ent) : (a ++ f :: b).Perm (f :: (a ++ b)) := List.perm_middle
theorem touch_cost (a b : List Ent) (f : Ent) : cost (f :: (a ++ b)) = cost (a ++ f :: b) := by
  simp only [cost, cost_append]; omega
theorem Dat.Good.ge1 {D : Dat} (h : D.Good) : GE D D.es1 := by
  unfold Dat.es1
  cases hp : pick D.cur D.es with
  | none => exact h.ge
  | some q =>
    obtain ⟨f, r⟩ := q
    obtain ⟨a, b, h1, h2, _, _⟩ := pick_some hp
    show GE D (f :: r)
    rw [h2]
    have hg := h.ge
    rw [h1] at hg
    exact hg.perm (touch_perm a b f) (touch_cost a b f)
/-- an order of entries -/
theorem ordG_map (a b : List Ent) (f : Ent) : (ordG (a ++ f :: b).length a.length).map (epsE (a ++ f :: b)) = f :: (a ++ b) := by
  unfold ordG
  rw [List.map_cons, List.map_append, List.map_map]
  have hl : (a ++ f :: b).length = a.length + 1 + b.length := by simp; omega
  congr 1
  · rw [epsE_at (by omega)]; simp
  · congr 1
    · apply List.ext_getElem
      · simp
      · intro i h1 h2
        simp only [List.getElem_map, List.getElem_range]
        rw [epsE_at (by omega), List.getElem_append_left h2]
    · apply List.ext_getElem
      · simp
      · intro i h1 h2
        simp only [List.getElem_map, List.getElem_range, Function.comp]
        rw [epsE_at (by omega), List.getElem_append_right (by omega)]
        simp only [show a.length + 1 + i - a.length = i + 1 by omega, List.getElem_cons_succ]
section
variable {Dt : Dat} {ρ : Nm} {nx : Nat} {H : T AB} {w : World} {x : Nat → List UInt8} {y : Int} {g : Nat → Int} {bs : List (Nat × Nat)} {σ : Nm}
theorem var_den {t : Nat} (h1 : 16 ≤ t) (h2 : t ≤ 31) {f : Nat → Int} {d : Int} : sden (nuS x d f g y) [.var t] = x t := by
  simp [sden, Pc.den, Vl.t, h2, nuS_x h1]
theorem pat_ok {l : List Ent} {j c0 : Nat} {body : Nat → SS} (hn : l.length ≤ 15) (hr : ∀ e ∈ l, 0 ≤ e.d ∧ e.d ≤ 9) (hj : ∀ (t : Nat) (ht : t < l.length), t = j → l[t].d = Dt.cur) (hnj : ∀ (t : Nat) (ht : t < l.length), t ≠ j → l[t].d ≠ Dt.cur)
    (hσ : ∀ (t : Nat) (ht : t < l.length), ∃ q, bs[l[t].b]? = some q ∧ σ (c0 + t) = some q) (hb : ∀ (t : Nat) (ht : t < l.length), sden (nuS x Dt.cur (fun t => (epsE l t).d) g y) (body t) = l[t].body) :
    ∀ t, t < l.length → PatOk (nuS x Dt.cur (fun t => (epsE l t).d) g y) σ bs (pat j c0 body t) (epsE l t) := by
  intro t ht
  have hb0 := hr l[t] (List.getElem_mem ht)
  refine ⟨?_, by rw [epsE_at ht]; exact hb0, by rw [epsE_at ht]; exact hσ t ht, by rw [epsE_at ht]; exact hb t ht⟩
  show (nuS x Dt.cur (fun t => (epsE l t).d) g y).n (bc (Nat.beq t j) 32 (80 + t)) = _
  rw [epsE_at ht, nbeq]
  by_cases e : t = j
  · rw [decide_eq_true e]
    show (nuS x Dt.cur (fun t => (epsE l t).d) g y).n 32 = _
    rw [nuS_32, wth_id Dt.cur_in.1 Dt.cur_in.2, hj t ht e]
  · rw [decide_eq_false e]
    show (nuS x Dt.cur (fun t => (epsE l t).d) g y).n (80 + t) = _
    rw [nuS_80 (by omega), epsE_at ht]
    exact oth_id hb0.1 hb0.2 Dt.cur_in.1 Dt.cur_in.2 (hnj t ht e)
theorem bs_at {bs : List (Nat × Nat)} {i : Nat} (h : i < bs.length) : bs[i]? = some (bs.getD i (0, 0)) := by
  rw [List.getD_eq_getElem?_getD, List.getElem?_eq_getElem h]; rfl
/-- rows of fields of entries -/
def fbs (bs : List (Nat × Nat)) (l : List Ent) : List (Nat × Nat) := l.map fun e => bs.getD e.b (0, 0)
theorem fbs_at {l : List Ent} {t : Nat} (ht : t < l.length) (hb : l[t].b < bs.length) : ∃ q, bs[l[t].b]? = some q ∧ (fbs bs l)[t]? = some q := by
  refine ⟨_, bs_at hb, ?_⟩
  unfold fbs
  rw [List.getElem?_map, List.getElem?_eq_getElem ht]; rfl
theorem fbs_mem {l : List Ent} (hb : ∀ e ∈ l, e.b < bs.length) {q : Nat × Nat} (h : q ∈ fbs bs l) : ∃ e ∈ l, bs[e.b]? = some q := by
  obtain ⟨e, he, rfl⟩ := List.mem_map.1 h
  exact ⟨e, he, bs_at (hb e he)⟩
theorem nodup_get {α : Type} {l : List α} (hn : l.Nodup) {i j : Nat} (hi : i < l.length) (hj : j < l.length) (h : l[i] = l[j]) : i = j := by
  have hp := List.pairwise_iff_getElem.1 hn
  rcases Nat.lt_trichotomy i j with h1 | h1 | h1
  · exact (hp i j hi hj h1 h).elim
  · exact h1
  · exact (hp j i hj hi h1 h.symm).elim
theorem fbs_inj {l : List Ent} (hb : ∀ e ∈ l, e.b < bs.length) (hn : (l.map (·.b)).Nodup) (hd : ∀ (i j : Nat) (q r : Nat × Nat), bs[i]? = some q → bs[j]? = some r → q.1 = r.1 → i = j) :
    ∀ (i j : Nat) (p q : Nat × Nat), (fbs bs l)[i]? = some p → (fbs bs l)[j]? = some q → p.1 = q.1 → i = j := by
  intro i j p q h1 h2 h3
  have hi : i < l.length := by have := (List.getElem?_eq_some_iff.1 h1).1; simpa [fbs] using this
  have hj : j < l.length := by have := (List.getElem?_eq_some_iff.1 h2).1; simpa [fbs] using this
  obtain ⟨p', a1, a2⟩ := fbs_at (bs := bs) hi (hb _ (List.getElem_mem hi))
  obtain ⟨q', b1, b2⟩ := fbs_at (bs := bs) hj (hb _ (List.getElem_mem hj))
  rw [h1] at a2; cases a2
  rw [h2] at b2; cases b2
  have := hd _ _ _ _ a1 b1 h3
  exact nodup_get hn (by simpa using hi) (by simpa using hj) (by simpa using this)
end
end Go.AM
namespace Go.AM
open Go Go.Proofs Go.ChangeShapes Go.WideShapes Go.ChangeAt Go.RowKit
set_option linter.unusedVariables false
/-! # TopBudget: store.Get: the rule -/
section
variable {C : Cx} {Dt : Dat} {ρ : Nm} {nx : Nat} {H : T AB} {L : Log} {w : World} {k : AV → Nat → T AB → Log → Ans} {z : Ans} {vs : List Value} {o : Oper} {a : Act}
theorem sig7 {pg pb : Nat × Nat} {cs : List (Nat × Nat)} : sig ρ (pg :: pb :: cs) 7 = some pb := sig_at (ps := pg :: pb :: cs) 1
theorem sig6 {pg pb : Nat × Nat} {cs : List (Nat × Nat)} : sig ρ (pg :: pb :: cs) 6 = some pg := sig_at (ps := pg :: pb :: cs) 0
theorem sig8 {pg pb : Nat × Nat} {cs : List (Nat × Nat)} (i : Nat) : sig ρ (pg :: pb :: cs) (8 + i) = cs[i]? := by
  have := sig_at (ρ := ρ) (ps := pg :: pb :: cs) (2 + i)
  rw [show 6 + (2 + i) = 8 + i by omega] at this
  rw [this, show 2 + i = i + 1 + 1 by omega]; rfl
/-- the store, as a few blocks -/
theorem st_in (hr : HR (nuD Dt) ρ nx H w) {p g b : Nat} {l : List Nat} {pg pb : Nat × Nat} {bs : List (Nat × Nat)} (hp : p < 3) (hst : StAt Dt ρ H w p g b l pg pb bs) (hge : GE Dt (Dt.esP p)) (hbl : bs.length = Dt.i) {ν2 : Vl} {size bud' : SI}
    (hsize : size.den ν2 = cost (Dt.esP p)) (hbud : bud'.den ν2 = Dt.bud) {ex : List (Nat × Nat)} (hex : ∀ q ∈ ex, pg.1 ≠ q.1 ∧ pb.1 ≠ q.1 ∧ ∃ obj, w.heap[q.1]? = some obj ∧ cellsR ccVs q.2 obj ∧ unfr obj)
    (hcc : ∀ (i j : Nat) (p' q : Nat × Nat), (ex ++ fbs bs (Dt.esP p))[i]? = some p' → (ex ++ fbs bs (Dt.esP p))[j]? = some q → p'.1 = q.1 → i = j)
    {Ps : List Pat} (hPs : PatsOk ν2 (sig ρ (pg :: pb :: (ex ++ fbs bs (Dt.esP p)))) bs Ps (Dt.esP p)) :
    HR ν2 (sig ρ (pg :: pb :: (ex ++ fbs bs (Dt.esP p)))) (8 + (ex ++ fbs bs (Dt.esP p)).length) (mkH 6 (.row (stRootA (Dt.esP p).length size bud') :: .row (rowA Ps) :: List.replicate (ex ++ fbs bs (Dt.esP p)).length (.row ccA))) w := by
  have hbi : ∀ e ∈ Dt.esP p, e.b < bs.length := fun e he => by rw [hbl]; exact hge.eb e he
  refine st_small hr ?_ ?_ (fun q hq => ?_) hst.gb (fun q hq => ?_) hcc
  · obtain ⟨obj, s, h1, h2, h3, h4⟩ := hst.root
    refine ⟨obj, h1, [s, .int .i64 (cost (Dt.esP p)), .int .i64 Dt.bud], ?_, ?_, h2, h3⟩
    · refine VRs.mk ?_ (VRs.mk (by show _ = Value.int .i64 _; rw [hsize]) (VRs.mk (by show _ = Value.int .i64 _; rw [hbud]) VRs.mk0))
      rcases h4 with ⟨he, rfl⟩ | ⟨he, c, rfl, hc1, hc2⟩
      · rw [he]; rfl
      · have hl : (Dt.esP p).length ≠ 0 := fun e => he (List.eq_nil_of_length_eq_zero e)
        rw [nbeq, decide_eq_false hl]
        exact ⟨pb.1, pb.2, 0, (Dt.esP p).length, c, sig7, .inr rfl, rfl, by show ((Dt.esP p).length : Int) ≤ c; omega, hc1, by omega, rfl⟩
    · intro x hx
      simp only [List.mem_cons, List.not_mem_nil, or_false] at hx
      rcases hx with rfl | rfl | rfl
      · rcases h4 with ⟨_, rfl⟩ | ⟨_, c, rfl, _, _⟩ <;> rfl
      · rfl
      · rfl
  · obtain ⟨obj, us, h1, h2, h3, h4⟩ := hst.row
    obtain ⟨v1, ws, rfl, e2, e3⟩ := ents_in h4 hPs
    exact ⟨obj, h1, v1, e2, e3, h2.head, h3⟩
  · rcases List.mem_append.1 hq with hq | hq
    · exact (hex q hq).2.2
    · obtain ⟨e, he, hb⟩ := fbs_mem hbi hq
      obtain ⟨_, _, obj, us, h1, h2, h3, h4⟩ := hst.hd _ _ hb
      rw [h4 ⟨p, hp, e, he, rfl⟩] at h2
      exact ⟨obj, h1, h2, h3⟩
  · rcases List.mem_append.1 hq with hq | hq
    · exact ⟨(hex q hq).1, (hex q hq).2.1⟩
    · obtain ⟨e, he, hb⟩ := fbs_mem hbi hq
      obtain ⟨h1, h2, _⟩ := hst.hd _ _ hb
      exact ⟨h1, h2⟩
theorem isReq_ok (ok : (nuD Dt).Ok C.bd) {q : List AV} (h : isReq C.bd q = true) : ∃ p, q = [.str [.lit 3 5522759], .str [.lit 5 495807919208], .str [.lit 1 97], .str p, .nils, .int .i64 (.k (.negSucc 0))] ∧ sden (nuD Dt) p = pathB Dt.cur := by
  unfold isReq at h
  split at h
  · exact ⟨_, rfl, (curPath_ok ok h).2⟩
  · cases h
theorem req_R {ν2 : Vl} {σ : Nm} {p : SS} {us : List Value} (hp : sden (nuD Dt) p = pathB Dt.cur) (h32 : ν2.n 32 = Dt.cur) (h : VRs (nuD Dt) ρ [.str [.lit 3 5522759], .str [.lit 5 495807919208], .str [.lit 1 97], .str p, .nils, .int .i64 (.k (.negSucc 0))] us) : VRs ν2 σ (reqA 32) us := by
  obtain ⟨v1, l1, rfl, a1, hv⟩ := h.cons
  obtain ⟨v2, l2, rfl, a2, hv⟩ := hv.cons
  obtain ⟨v3, l3, rfl, a3, hv⟩ := hv.cons
  obtain ⟨v4, l4, rfl, a4, hv⟩ := hv.cons
  obtain ⟨v5, l5, rfl, a5, hv⟩ := hv.cons
  obtain ⟨v6, l6, rfl, a6, hv⟩ := hv.cons
  cases hv.nil
  have a1 : v1 = strV (sden _ [.lit 3 5522759]) := a1
  have a2 : v2 = strV (sden _ [.lit 5 495807919208]) := a2
  have a3 : v3 = strV (sden _ [.lit 1 97]) := a3
  have a4 : v4 = strV (sden _ p) := a4
  rw [lit_den] at a1 a2 a3
  rw [hp] at a4
  rw [a1, a2, a3, a4]
  refine VRs.mk (strL _ _) (VRs.mk (strL _ _) (VRs.mk (strL _ _) (VRs.mk ?_ (VRs.mk a5 (VRs.mk a6 VRs.mk0)))))
  show _ = strV (sden ν2 [.lit 1 47, .one (.bt 48 [(32, 1)] 0 0)])
  rw [path_den (by rw [h32]; exact Dt.cur_in), h32]
theorem nuS_140 {x : Nat → List UInt8} {d y : Int} {f g : Nat → Int} : (nuS x d f g y).n 140 = y := by rw [nuS_n (by omega)]; rfl
/-- the bodies of entries, as letters -/
def xE (l : List Ent) (t : Nat) : List UInt8 := (epsE l (t - 16)).body
theorem xE_le {l : List Ent} (h : ∀ e ∈ l, e.body.length ≤ 4000) (t : Nat) : (xE l t).length ≤ 4000 := by
  unfold xE epsE
  rw [List.getD_eq_getElem?_getD]
  cases hq : l[t - 16]? with
  | none => simp
  | some e => exact h e (List.mem_of_getElem? hq)
theorem sum_range {l : List Ent} (hl : l.length ≤ 15) {d y : Int} {f g : Nat → Int} : (sumA (133 * l.length) (List.range l.length)).den (nuS (xE l) d f g y) = cost l := by
  have := sumA_den (ν := nuS (xE l) d f g y) (ε := epsE l) (l := List.range l.length) (fun t ht => by
    have ht := List.mem_range.1 ht
    rw [nuS_t (by omega) (by omega)]
    unfold xE; rw [show 16 + t - 16 = t by omega])
  rw [List.length_range, eps_map] at this
  exact this
theorem mem_esP {p : Nat} (h : p = 0) : Dt.esP p = Dt.es := by subst h; rfl
set_option maxRecDepth 100000 in
theorem get_miss (hG : Dt.Good) (hP : C.P = Tryz.prog) (hr : HR (nuD Dt) ρ nx H w) (hg : Glob ρ) {g b : Nat} {l : List Nat} {pg pb : Nat × Nat} {bs : List (Nat × Nat)} (hst : StAt Dt ρ H w 0 g b l pg pb bs) (hbl : bs.length = Dt.i) (hf : Dt.found = false) {p : SS} (hp : sden (nuD Dt) p = pathB Dt.cur) {vg vq : Value}
    (hvg : VR (nuD Dt) ρ (.ptr g (.k 0)) vg) (hvq : VR (nuD Dt) ρ (.agg [.str [.lit 3 5522759], .str [.lit 5 495807919208], .str [.lit 1 97], .str p, .nils, .int .i64 (.k (.negSucc 0))]) vq) {D : Log} (h : k (.tup [.agg zeroE, .bool false]) nx H (D ++ L) = z) :
    OpOk C (nuD Dt) ρ nx L w k z o a ((callFunc 275 ⟨[vg, vq]⟩).run C.P w) := by
  have hge : GE Dt (Dt.esP 0) := hG.ge
  have hn14 : Dt.es.length ≤ 14 := by have := hG.el; have := Dt.hi; omega
  have hpn : pick Dt.cur Dt.es = none := by
    unfold Dat.found at hf
    cases hq : pick Dt.cur Dt.es with
    | none => rfl
    | some q => rw [hq] at hf; cases hf
  have hne := pick_none hpn
  have hbi : ∀ e ∈ Dt.es, e.b < bs.length := fun e he => by rw [hbl]; exact hG.eb e he
  let ν2 := nuS (xE Dt.es) Dt.cur (fun t => (epsE Dt.es t).d) (fun _ => 0) Dt.bud
  have h32 : ν2.n 32 = Dt.cur := by rw [nuS_32, wth_id Dt.cur_in.1 Dt.cur_in.2]
  have hpo := pat_ok (Dt := Dt) (l := Dt.es) (j := Dt.es.length) (c0 := 8) (bs := bs) (σ := sig ρ (pg :: pb :: ([] ++ fbs bs Dt.es))) (x := xE Dt.es) (y := Dt.bud) (g := fun _ => 0) (body := body0) (by omega) hG.er (fun t ht e => by omega) (fun t ht _ => hne _ (List.getElem_mem ht))
    (fun t ht => by
      obtain ⟨q, q1, q2⟩ := fbs_at (bs := bs) ht (hbi _ (List.getElem_mem ht))
      exact ⟨q, q1, by rw [sig8]; exact q2⟩)
    (fun t ht => by show sden _ [.var (16 + t)] = _; rw [var_den (by omega) (by omega)]; unfold xE; rw [show 16 + t - 16 = t by omega, epsE_at ht])
  have hPs : PatsOk ν2 (sig ρ (pg :: pb :: ([] ++ fbs bs Dt.es))) bs ((List.range Dt.es.length).map (pat Dt.es.length 8 body0)) Dt.es := by
    have := PatsOk.of_map (ν := ν2) (ord := List.range Dt.es.length) (π := pat Dt.es.length 8 body0) (ε := epsE Dt.es) (fun t ht => hpo t (List.mem_range.1 ht))
    rw [eps_map] at this
    exact this
  have hr2 := st_in hr (by omega) hst hge hbl (ν2 := ν2) (size := sumA (133 * Dt.es.length) (List.range Dt.es.length)) (bud' := .lin 0 [(140, 1)]) (sum_range (by omega)) (by show 0 + (1 * ν2.n 140 + 0) = _; rw [nuS_140]; omega) (ex := []) (by simp)
    (fbs_inj hbi hG.ebn hst.hdd) hPs
  have hlen : ([] ++ fbs bs Dt.es).length = Dt.es.length := by simp [fbs]
  have hlen' : ([] ++ fbs bs (Dt.esP 0)).length = Dt.es.length := hlen
  rw [hlen'] at hr2
  obtain ⟨n3, H3, D3, hrun, hD⟩ := chkMiss_spec (List.all_eq_true.1 miss_ok Dt.es.length (List.mem_range.2 (by omega)))
  have ok2 : ν2.Ok (bdP 0 3000) := okP (fun t _ _ => xE_le (fun e he => by have := hG.ge.body he; omega) t) (Nat.zero_le _) (bud_in Dt)
  intro next Q hn
  rw [hP]
  obtain ⟨us, hu, hc, rfl⟩ := hvq
  refine small_run ok2 hrun hr2 (sig_glob hg) (VRs.mk ?_ (VRs.mk ⟨us, req_R hp h32 hu, hc, rfl⟩ VRs.mk0)) fun σ' v w' _ hv' hr3 hst' => ?_
  · obtain ⟨r, s, oo, k1, k2, rfl⟩ := hvg
    rw [hst.eg] at k1; cases k1
    exact ⟨r, s, oo, sig6, k2, rfl⟩
  · obtain ⟨hr', hst''⟩ := hr.quiet hst' hD (fun c hc => by
      refine sig_top (ps := pg :: pb :: ([] ++ fbs bs Dt.es)) ?_
      simp only [List.length_cons, hlen]; omega)
    refine hn _ nx H D ρ v w' h .refl ?_ hr' (hst''.more (by simp))
    obtain ⟨ws, hw, rfl⟩ := hv'
    refine ⟨ws, ?_, rfl⟩
    obtain ⟨u1, l1, rfl, a1, b1⟩ := hw.cons
    obtain ⟨u2, l2, rfl, a2, b2⟩ := b1.cons
    cases b2.nil
    exact VRs.mk a1 (VRs.mk a2 VRs.mk0)
end
end Go.AM
namespace Go.AM
open Go Go.Proofs Go.ChangeShapes Go.WideShapes Go.ChangeAt Go.RowKit
set_option linter.unusedVariables false
/-! # TopBudget: store.Get, whole -/
section
variable {C : Cx} {Dt : Dat} {ρ : Nm} {nx : Nat} {H : T AB} {L : Log} {w : World} {k : AV → Nat → T AB → Log → Ans} {z : Ans} {vs : List Value} {o : Oper} {a : Act}
theorem hit_chk {n j : Nat} (hn : n ≤ 14) (hj : j < n) : chkHit n j (runSt n j) = true :=
  List.all_eq_true.1 (List.all_eq_true.1 hit_ok n (List.mem_range.2 (by omega))) j (List.mem_range.2 hj)
set_option maxRecDepth 100000 in
theorem get_hit (hG : Dt.Good) (hP : C.P = Tryz.prog) (hr : HR (nuD Dt) ρ nx H w) (hg : Glob ρ) {g b : Nat} {l : List Nat} {pg pb : Nat × Nat} {bs : List (Nat × Nat)} (hst : StAt Dt ρ H w 0 g b l pg pb bs) (hbl : bs.length = Dt.i)
    {Xg Xb : AB} (hXg : H.get g = some Xg) (hXb : H.get b = some Xb) (hgb : g ≠ b) (hf : Dt.found = true) {p : SS} (hp : sden (nuD Dt) p = pathB Dt.cur) {vg vq : Value}
    (hvg : VR (nuD Dt) ρ (.ptr g (.k 0)) vg) (hvq : VR (nuD Dt) ρ (.agg [.str [.lit 3 5522759], .str [.lit 5 495807919208], .str [.lit 1 97], .str p, .nils, .int .i64 (.k (.negSucc 0))]) vq) {D : Log}
    (h : k (.tup [.agg (entV (Nat.add 220 Dt.i) (nx + 1) [.var 15]), .bool true]) (nx + 2) ((((H.put b none).put nx (some (.lt 7 l))).put (nx + 1) (some (.row rowCC))).put g (some (.lt 11 (nx :: l)))) (((g, true) :: (nx + 1, true) :: (nx, true) :: (b, true) :: D) ++ L) = z) :
    OpOk C (nuD Dt) ρ nx L w k z o a ((callFunc 275 ⟨[vg, vq]⟩).run C.P w) := by
  have hge : GE Dt (Dt.esP 0) := hG.ge
  have hn14 : Dt.es.length ≤ 14 := by have := hG.el; have := Dt.hi; omega
  obtain ⟨f, r, hpk⟩ : ∃ f r, pick Dt.cur Dt.es = some (f, r) := by
    unfold Dat.found at hf
    cases hq : pick Dt.cur Dt.es with
    | none => rw [hq] at hf; cases hf
    | some q => exact ⟨q.1, q.2, rfl⟩
  obtain ⟨la, lb, hes, hr', hfd, hla⟩ := pick_some hpk
  have hes1 : Dt.es1 = f :: (la ++ lb) := by unfold Dat.es1; rw [hpk, ← hr']
  have hfb : Dt.fb = f.body := by unfold Dat.fb; rw [hpk]
  have hlen0 : Dt.es.length = la.length + 1 + lb.length := by rw [hes]; simp; omega
  have hjl : la.length < Dt.es.length := by omega
  have hfj : Dt.es[la.length] = f := by simp [hes]
  have hbi : ∀ e ∈ Dt.es, e.b < bs.length := fun e he => by rw [hbl]; exact hG.eb e he
  have hoth : ∀ (t : Nat) (ht : t < Dt.es.length), t ≠ la.length → Dt.es[t].d ≠ Dt.cur := by
    intro t ht hne e
    refine hne (nodup_get hG.en (by simpa using ht) (by simpa using hjl) ?_)
    simp only [List.getElem_map]
    rw [e, hfj, hfd]
  let ν2 := nuS (xE Dt.es) Dt.cur (fun t => (epsE Dt.es t).d) (fun _ => 0) Dt.bud
  have h32 : ν2.n 32 = Dt.cur := by rw [nuS_32, wth_id Dt.cur_in.1 Dt.cur_in.2]
  have hbody : ∀ (t : Nat) (ht : t < Dt.es.length), sden ν2 (body0 t) = Dt.es[t].body := fun t ht => by
    show sden _ [.var (16 + t)] = _; rw [var_den (by omega) (by omega)]; unfold xE; rw [show 16 + t - 16 = t by omega, epsE_at ht]
  have hpo := pat_ok (Dt := Dt) (l := Dt.es) (j := la.length) (c0 := 8) (bs := bs) (σ := sig ρ (pg :: pb :: ([] ++ fbs bs Dt.es))) (x := xE Dt.es) (y := Dt.bud) (g := fun _ => 0) (body := body0) (by omega) hG.er (fun t ht e => by subst e; rw [hfj, hfd]) hoth
    (fun t ht => by
      obtain ⟨q, q1, q2⟩ := fbs_at (bs := bs) ht (hbi _ (List.getElem_mem ht))
      exact ⟨q, q1, by rw [sig8]; exact q2⟩) hbody
  have hPs : PatsOk ν2 (sig ρ (pg :: pb :: ([] ++ fbs bs Dt.es))) bs ((List.range Dt.es.length).map (pat la.length 8 body0)) Dt.es := by
    have := PatsOk.of_map (ν := ν2) (ord := List.range Dt.es.length) (π := pat la.length 8 body0) (ε := epsE Dt.es) (fun t ht => hpo t (List.mem_range.1 ht))
    rw [eps_map] at this
    exact this
  have hordl : ∀ t ∈ ordG Dt.es.length la.length, t < Dt.es.length := by
    intro t ht
    unfold ordG at ht
    rcases List.mem_cons.1 ht with rfl | ht
    · exact hjl
    · rcases List.mem_append.1 ht with ht | ht
      · have := List.mem_range.1 ht; omega
      · obtain ⟨s, hs, rfl⟩ := List.mem_map.1 ht
        have := List.mem_range.1 hs; omega
  have hPo : PatsOk ν2 (sig ρ (pg :: pb :: ([] ++ fbs bs Dt.es))) bs ((ordG Dt.es.length la.length).map (pat la.length 8 body0)) Dt.es1 := by
    have := PatsOk.of_map (ν := ν2) (ord := ordG Dt.es.length la.length) (π := pat la.length 8 body0) (ε := epsE Dt.es) (fun t ht => hpo t (hordl t ht))
    have ho := ordG_map la lb f
    rw [← hes] at ho
    rw [ho, ← hes1] at this
    exact this
  have hsum : (sumA (133 * Dt.es.length) (List.range Dt.es.length)).den ν2 = cost Dt.es := sum_range (by omega)
  have hcost : cost Dt.es1 = cost Dt.es := by rw [hes1, hes]; exact touch_cost la lb f
  have hr2 := st_in hr (by omega) hst hge hbl (ν2 := ν2) (size := sumA (133 * Dt.es.length) (List.range Dt.es.length)) (bud' := .lin 0 [(140, 1)]) hsum (by show 0 + (1 * ν2.n 140 + 0) = _; rw [nuS_140]; omega) (ex := []) (by simp)
    (fbs_inj hbi hG.ebn hst.hdd) hPs
  have hlen : ([] ++ fbs bs Dt.es).length = Dt.es.length := by simp [fbs]
  have hlen' : ([] ++ fbs bs (Dt.esP 0)).length = Dt.es.length := hlen
  rw [hlen'] at hr2
  obtain ⟨c, n3, H3, D3, b2, cap, s2, hrun, hc8, hHc, hD, hb8, hH6, hsd, hHb⟩ := chkHit_spec (hit_chk hn14 hjl)
  have ok2 : ν2.Ok (bdP 0 3000) := okP (fun t _ _ => xE_le (fun e he => by have := hG.ge.body he; omega) t) (Nat.zero_le _) (bud_in Dt)
  have htop : ∀ c, 8 + Dt.es.length ≤ c → sig ρ (pg :: pb :: ([] ++ fbs bs Dt.es)) c = none := fun c hc => by
    refine sig_top (ps := pg :: pb :: ([] ++ fbs bs Dt.es)) ?_
    simp only [List.length_cons, hlen]; omega
  intro next Q hn
  rw [hP]
  obtain ⟨us, hu, hcv, rfl⟩ := hvq
  refine small_run ok2 hrun hr2 (sig_glob hg) (VRs.mk ?_ (VRs.mk ⟨us, req_R hp h32 hu, hcv, rfl⟩ VRs.mk0)) fun σ' v w' _ hv' hr3 hst' => ?_
  · obtain ⟨r, s, oo, k1, k2, rfl⟩ := hvg
    rw [hst.eg] at k1; cases k1
    exact ⟨r, s, oo, sig6, k2, rfl⟩
  have hext : Ext (sig ρ (pg :: pb :: ([] ++ fbs bs Dt.es))) σ' := hst'.ext
  obtain ⟨r6, s6, ob6, g1, g2, g3⟩ := hr3.blk 6 _ hH6
  obtain ⟨rb, sb, obb, f1, f2, f3⟩ := hr3.blk b2 _ hHb
  obtain ⟨rc, sc, obc, c1, c2, c3⟩ := hr3.blk c _ hHc
  have g0 : σ' 6 = some pg := hext _ _ sig6
  rw [g0] at g1; cases g1
  have hnb : c ≠ b2 := fun e => by
    subst e
    rw [hHc] at hHb
    cases hq : (ordG Dt.es.length la.length).map (pat la.length 8 body0) with
    | nil => unfold ordG at hq; simp at hq
    | cons P Ps =>
      rw [hq] at hHb
      have := Option.some.inj hHb
      injection this with this
      have := congrArg List.length this
      simp [rowA, patA, entA, reqA, ccA] at this
  let new : List (Nat × Nat) := [(rb, sb), (rc, sc)]
  have hx0 : extN ρ nx new nx = some (rb, sb) := extN_at (new := new) 0
  have hx1 : extN ρ nx new (nx + 1) = some (rc, sc) := extN_at (new := new) 1
  have hEx := extN_ext hr new
  have key := hr.turn (t := g) (b := b) (H' := ((((H.put b none).put nx (some (.lt 7 l))).put (nx + 1) (some (.row rowCC))).put g (some (.lt 11 (nx :: l))))) (D := (g, true) :: (nx + 1, true) :: (nx, true) :: (b, true) :: D)
    hXg hst.eg hXb hst.eb hst' hD htop sig6 sig7 hr3 (by omega) hH6 (new := new) (As := [.lt 7 l, .row rowCC]) (Ht := .lt 11 (nx :: l))
    (fun i p hp => by
      match i, hp with
      | 0, hp => cases hp; exact ⟨b2, _, hb8, hHb, f1⟩
      | 1, hp => cases hp; exact ⟨c, _, hc8, hHc, c1⟩
      | _ + 2, hp => simp [new] at hp)
    (fun i j p q h1 h2 h3 => by
      match i, j, h1, h2 with
      | 0, 0, _, _ => rfl
      | 1, 1, _, _ => rfl
      | 0, 1, h1, h2 => cases h1; cases h2; have h3 : rb = rc := h3; subst h3; exact (hnb (hr3.inj c b2 _ _ _ _ _ hHc hHb c1 f1)).elim
      | 1, 0, h1, h2 => cases h1; cases h2; have h3 : rc = rb := h3; subst h3; exact (hnb (hr3.inj c b2 _ _ _ _ _ hHc hHb c1 f1)).elim
      | _ + 2, _, h1, _ => simp [new] at h1
      | _, _ + 2, _, h2 => simp [new] at h2)
    rfl (by
      obtain ⟨us, k1, k2, k3, k4⟩ := g3
      refine ⟨ob6, g2, us, (rb, sb) :: bs, k3, k4, LR.mk hx0 (hst.el.ext hEx), .inr ?_⟩
      obtain ⟨v1, l1, rfl, a1, hv1⟩ := k1.cons
      obtain ⟨v2, l2, rfl, a2, hv2⟩ := hv1.cons
      obtain ⟨v3, l3, rfl, a3, hv3⟩ := hv2.cons
      cases hv3.nil
      show Dt.B 11 _ _
      simp only [Dat.B, show ¬ 11 = 0 by omega, show ¬ 11 = 1 by omega, show ¬ 11 ≤ 5 by omega, show ¬ 11 ≤ 8 by omega, show ¬ 11 < 10 by omega, show 11 ≤ 12 by omega, if_true, if_false]
      have he1 : Dt.esP (11 - 10) = Dt.es1 := rfl
      rw [he1]
      refine ⟨(rb, sb), bs, rfl, v1, ?_, .inr ⟨by rw [hes1]; simp, ?_⟩⟩
      · have a2 : v2 = .int .i64 (s2.den ν2) := a2
        have a3 : v3 = .int .i64 (0 + (1 * ν2.n 140 + 0)) := a3
        rw [a2, a3, hsd, hsum, hcost, nuS_140]
        simp
      · obtain ⟨r, s, oo, nn, cc, b1, b3, b4, b5, b6, b7, rfl⟩ := a1
        rw [f1] at b1; cases b1
        have b4 : (Dt.es.length : Int) = (nn : Int) := b4
        have hnn : nn = Dt.es.length := by omega
        subst hnn
        have ho : oo = 0 := by
          rcases b3 with b3 | b3
          · omega
          · have : (0 : Int) = (oo : Int) := b3; omega
        subst ho
        have hl1 : Dt.es1.length = Dt.es.length := by rw [hes1, hes]; simp; omega
        exact ⟨cc, by rw [hl1], by rw [hl1]; exact b6, by omega⟩)
    (fun i A p h1 h2 => by
      match i, h1, h2 with
      | 0, h1, h2 =>
        cases h1; cases h2
        obtain ⟨us, k1, k2, k3, k4⟩ := f3
        refine ⟨obb, f2, us, bs, k3, k4, hst.el.ext hEx, .inr ?_⟩
        show Dt.B 7 _ _
        simp only [Dat.B, show ¬ 7 = 0 by omega, show ¬ 7 = 1 by omega, show ¬ 7 ≤ 5 by omega, show 7 ≤ 8 by omega, if_true, if_false]
        exact ents_out k1 (hPo.ext hext)
      | 1, h1, h2 =>
        cases h1; cases h2
        obtain ⟨us, k1, k2, k3, k4⟩ := c3
        exact ⟨obc, c2, us, by rw [cc_out k1]; exact cc_R, k2, k3, k4⟩
      | _ + 2, h1, _ => simp at h1)
    (fun c' => by
      rw [T.get_put, T.get_put, T.get_put, T.get_put]
      have hgx := hr.lt hst.eg
      have hbx := hr.lt hst.eb
      by_cases e1 : c' = g
      · rw [if_pos e1, if_pos e1]
      · rw [if_neg e1, if_neg e1]
        by_cases e2 : nx ≤ c'
        · rw [if_pos e2]
          obtain ⟨i, rfl⟩ : ∃ i, c' = nx + i := ⟨c' - nx, by omega⟩
          rw [show nx + i - nx = i by omega]
          match i with
          | 0 => rw [if_neg (by omega), if_pos (by omega)]; rfl
          | 1 => rw [if_pos rfl]; rfl
          | i + 2 =>
            rw [if_neg (by omega), if_neg (by omega), if_neg (by omega)]
            have : H.get (nx + (i + 2)) = none := by
              cases hq : H.get (nx + (i + 2)) with
              | none => rfl
              | some A => obtain ⟨r, s, _, q1, _⟩ := hr.blk _ A hq; have := hr.lt q1; omega
            rw [this]; rfl
        · rw [if_neg e2, if_neg (by omega), if_neg (by omega)])
    (by simp) (by simp)
  refine hn _ (nx + 2) _ ((g, true) :: (nx + 1, true) :: (nx, true) :: (b, true) :: D) _ v w' h (extN_low (new := new)) ?_ key.1 key.2
  obtain ⟨ws, hw, rfl⟩ := hv'
  refine ⟨ws, ?_, rfl⟩
  obtain ⟨u1, l1, rfl, a1, b1⟩ := hw.cons
  obtain ⟨u2, l2, rfl, a2, b2'⟩ := b1.cons
  cases b2'.nil
  refine VRs.mk ?_ (VRs.mk a2 VRs.mk0)
  obtain ⟨es, he1, he2, he3⟩ := a1
  have hfr : 0 ≤ f.d ∧ f.d ≤ 9 := by rw [hfd]; exact Dt.cur_in
  obtain ⟨cc, q1, q2, rfl⟩ := entA_out (P := (32, c, body0 la.length)) (e := f) (q := (rc, sc)) (by show ν2.n 32 = _; rw [h32, hfd]) hfr c1 (by rw [← hfj]; exact hbody _ hjl) he1
  refine ⟨_, ?_, he2, he3⟩
  have hn220 : (nuD Dt).n (Nat.add 220 Dt.i) = Dt.cur := by show (nuD Dt).n (220 + Dt.i) = _; rw [n_of _ (by omega), m_dg _ Dt.hi]; rfl
  refine entA_R (P := (Nat.add 220 Dt.i, nx + 1, [.var 15])) (e := f) (q := (rc, sc)) (by rw [hn220, hfd]) hfr hx1 ?_ q1 q2
  show (nuD Dt).t 15 ++ [] = _
  rw [List.append_nil, ← hfb]; rfl
end
section
variable {C : Cx} {Dt : Dat} {ρ : Nm} {nx : Nat} {H : T AB} {L : Log} {w : World} {k : AV → Nat → T AB → Log → Ans} {z : Ans} {vs : List Value} {o : Oper} {a : Act}
set_option maxRecDepth 100000 in
theorem ext_stget (hG : Dt.Good) (ok : (nuD Dt).Ok C.bd) (hP : C.P = Tryz.prog) {call : Cll} (hc : CallOk C (nuD Dt) call) (hr : HR (nuD Dt) ρ nx H w) (hg : Glob ρ) (hz : Yes z) {g : Nat} {q : List AV} (hv : VRs (nuD Dt) ρ [.ptr g (.k 0), .agg q] vs)
    (h : stGet C.bd call g q k nx H L = z) : OpOk C (nuD Dt) ρ nx L w k z o a ((callFunc 275 ⟨vs⟩).run C.P w) := by
  obtain ⟨X, hX, h1⟩ := rd_ok hz h
  clear h
  cases hR : stRoot X with
  | none =>
    simp only [hR] at h1
    exact own_text hP hc hr hg hz (f := 275) (by kernel_rfl) rfl hv (Nat.le_of_ble_eq_true (show Nat.ble 3 (((Tryz.prog.funcs[275]?).map (·.ntmps)).getD 0) = true by rw [Tryz.func275]; kernel_rfl)) (D := [(g, false)]) h1
  | some r =>
  obtain ⟨p, b, l⟩ := r
  simp only [hR] at h1
  obtain ⟨i, hi, h2⟩ := lift_ok hz h1
  clear h1
  obtain ⟨hq, hi⟩ := bc_some hi
  obtain ⟨hp0, hi⟩ := bc_some hi
  have hp0 := Nat.eq_of_beq_eq_true hp0
  subst hp0
  have := turn_is ok hi
  subst this
  obtain ⟨rfl, _⟩ := stRoot_ok hR
  obtain ⟨s1, s2, s3, D', h3⟩ := stSee_ok hz (D := [(g, false)]) h2
  clear h2
  obtain ⟨pg, pb, bs, hst⟩ := st_at hr (by omega) hX s2 s3
  have hbl : bs.length = Dt.i := by rw [hst.el.length, s1]
  obtain ⟨pp, rfl, hpp⟩ := isReq_ok ok hq
  obtain ⟨vg, l1, rfl, hvg, hl1⟩ := hv.cons
  obtain ⟨vq, l2, rfl, hvq, hl2⟩ := hl1.cons
  cases hl2.nil
  have h3 : (bc (flag0 C.bd 70) (M.ret (.tup [.agg zeroE, .bool false])) (bc (flag C.bd 70) (hitA C.bd g b l Dt.i) (M.no "store: is it there?")) : M AV) k nx H ((D' ++ [(g, false)]) ++ L) = z := by rw [List.append_assoc]; exact h3
  rcases bcM_ok h3 with ⟨hf, h4⟩ | ⟨_, h4⟩
  · exact get_miss hG hP hr hg hst hbl (flag70n ok hf) hpp hvg hvq h4
  · rcases bcM_ok h4 with ⟨hf, h5⟩ | ⟨_, h5⟩
    · have hgb : g ≠ b := ne_get hX s2 (by simp)
      obtain ⟨_, h6⟩ := wr_ok hz (show ((M.wr b none).bind fun _ => (M.nw (.lt 7 l)).bind fun b' => (M.nw (.row rowCC)).bind fun c => (M.wr g (some (.lt 11 (b' :: l)))).bind fun _ => M.ret (.tup [.agg (entV (Nat.add 220 Dt.i) c [.var 15]), .bool true]) : M AV) k nx H ((D' ++ [(g, false)]) ++ L) = z from h5)
      have h6 : ((M.wr g (some (.lt 11 (nx :: l)))).bind fun _ => M.ret (.tup [.agg (entV (Nat.add 220 Dt.i) (nx + 1) [.var 15]), .bool true]) : M AV) k (nx + 2) (((H.put b none).put nx (some (.lt 7 l))).put (nx + 1) (some (.row rowCC))) ((nx + 1, true) :: (nx, true) :: (b, true) :: ((D' ++ [(g, false)]) ++ L)) = z := h6
      obtain ⟨_, h7⟩ := wr_ok hz h6
      exact get_hit hG hP hr hg hst hbl hX s2 hgb (flag70 ok hf) hpp hvg hvq (D := D' ++ [(g, false)]) h7
    · exact (hz _ h5.symm).elim
end
end Go.AM
