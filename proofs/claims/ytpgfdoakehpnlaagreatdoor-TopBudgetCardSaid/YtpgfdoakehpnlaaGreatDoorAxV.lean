import Derived.Test.YtpgfdoakehpnlaaGreatDoorAxTc
import Derived.Test.YtpgfdoakehpnlaaGreatDoorAxTa
import Derived.Test.YtpgfdoakehpnlaaGreatDoorAxTb
set_option linter.unusedVariables false
set_option linter.unusedSimpArgs false
namespace Go.AM
open Go Go.Proofs
set_option linter.unusedVariables false
/-! # TopBudget: what goes when an entry comes -/
theorem evictN_spec {room : Int} (hroom : 0 ≤ room) : ∀ (k : Nat) (l : List Ent), l.length ≤ k → ∃ m, m ≤ l.length ∧ evictN room k l = l.take m ∧ cost (l.take m) ≤ room ∧ (m < l.length → room < cost (l.take (m + 1)))
  | 0, l, h => by
    have : l = [] := List.eq_nil_of_length_eq_zero (by omega)
    subst this
    exact ⟨0, Nat.le_refl _, rfl, hroom, fun h => by simp at h⟩
  | k + 1, l, h => by
    by_cases hc : cost l ≤ room
    · refine ⟨l.length, Nat.le_refl _, ?_, by rw [List.take_length]; exact hc, fun h => by omega⟩
      rw [List.take_length]; show (if cost l ≤ room then l else _) = l; rw [if_pos hc]
    · have hne : l ≠ [] := fun e => by subst e; exact hc hroom
      have hlen : l.dropLast.length = l.length - 1 := List.length_dropLast
      have hpos : 0 < l.length := List.length_pos_iff.2 hne
      obtain ⟨m, h1, h2, h3, h4⟩ := evictN_spec hroom k l.dropLast (by omega)
      have htk : ∀ i, i ≤ l.length - 1 → l.dropLast.take i = l.take i := by
        intro i hi
        rw [List.dropLast_eq_take, List.take_take, Nat.min_eq_left (by omega)]
      refine ⟨m, by omega, ?_, by rw [← htk m (by omega)]; exact h3, fun hm => ?_⟩
      · show (if cost l ≤ room then l else evictN room k l.dropLast) = _
        rw [if_neg hc, h2, htk m (by omega)]
      · by_cases hm' : m < l.dropLast.length
        · rw [← htk (m + 1) (by omega)]; exact h4 hm'
        · have : m + 1 = l.length := by omega
          rw [this, List.take_length]; omega
theorem evict_spec {room : Int} (hroom : 0 ≤ room) (l : List Ent) : ∃ m, m ≤ l.length ∧ evict room l = l.take m ∧ cost (l.take m) ≤ room ∧ (m < l.length → room < cost (l.take (m + 1))) := evictN_spec hroom l.length l (Nat.le_refl _)
theorem cost_take_succ {l : List Ent} {m : Nat} (h : m < l.length) : cost (l.take (m + 1)) = cost (l.take m) + cost1 l[m] := by
  rw [List.take_succ_eq_append_getElem h, cost_append]; simp [cost]
theorem add_getD {ν : Vl} {p q : SI} (hp : ∀ n v i s, p ≠ .bt n v i s) (hq : ∀ n v i s, q ≠ .bt n v i s) : ((SI.add p q).getD (.k 0)).den ν = p.den ν + q.den ν := by
  have : ∃ r, SI.add p q = some r := by
    cases p with
    | bt n v i s => exact (hp _ _ _ _ rfl).elim
    | k a => cases q with
      | bt n v i s => exact (hq _ _ _ _ rfl).elim
      | k b => exact ⟨_, rfl⟩
      | lin n v => exact ⟨_, rfl⟩
    | lin a u => cases q with
      | bt n v i s => exact (hq _ _ _ _ rfl).elim
      | k b => exact ⟨_, rfl⟩
      | lin n v => exact ⟨_, rfl⟩
  obtain ⟨r, hr⟩ := this
  rw [hr]; exact SI.add_den hr
theorem mk_not (c : Int) (v : List (Nat × Int)) : ∀ n u i s, SI.mk c v ≠ .bt n u i s := by intro n u i s; cases v <;> simp [SI.mk]
theorem add_not {p q : SI} (hp : ∀ n v i s, p ≠ .bt n v i s) (hq : ∀ n v i s, q ≠ .bt n v i s) : ∀ n v i s, (SI.add p q).getD (.k 0) ≠ .bt n v i s := by
  intro n v i s
  cases p with
  | bt n v i s => exact (hp _ _ _ _ rfl).elim
  | k a => cases q with
    | bt n v i s => exact (hq _ _ _ _ rfl).elim
    | k b => intro h; cases h
    | lin m u => intro h; cases h
  | lin a u => cases q with
    | bt n v i s => exact (hq _ _ _ _ rfl).elim
    | k b => intro h; cases h
    | lin m u' => exact mk_not _ _ n v i s
theorem sum_not (c : Nat) (l : List Nat) : ∀ n u i s, sumA c l ≠ .bt n u i s := mk_not _ _
theorem lin_not (c : Int) (v : List (Nat × Int)) : ∀ n u i s, SI.lin c v ≠ .bt n u i s := by intro n u i s h; cases h
/-- the entries that stay -/
theorem stay_map {le : List Ent} {j0 m e : Nat} (h : j0 + m + e = le.length) : (stayP le.length j0 e).map (epsE le) = (le.drop j0).take m := by
  unfold stayP
  rw [List.map_map]
  have hm : le.length - j0 - e = m := by omega
  rw [hm]
  apply List.ext_getElem
  · simp; omega
  · intro i h1 h2
    have hi : i < m := by simpa using h1
    simp only [List.getElem_map, List.getElem_range, Function.comp, List.getElem_take, List.getElem_drop]
    exact epsE_at (by omega)
theorem stay_len {n j0 m e : Nat} (h : j0 + m + e = n) : (stayP n j0 e).length = m := by unfold stayP; simp; omega
theorem stay_mem {n j0 e t : Nat} (h : t ∈ stayP n j0 e) : t < n - e := by
  unfold stayP at h
  obtain ⟨s, hs, rfl⟩ := List.mem_map.1 h
  have := List.mem_range.1 hs; omega
/-- texts of such a run: the contents of entries, one of them in two parts; the new one's content -/
def xP (le : List Ent) (nb : List UInt8) (sub r zz : Nat) (u : Nat) : List UInt8 :=
  if u = 31 then nb else if u = 30 then (if sub = 1 then (epsE le r).body.drop zz else []) else if sub = 1 ∧ u = 16 + r then (epsE le r).body.take zz else if u < 30 then xE le u else []
theorem xP_31 {le : List Ent} {nb : List UInt8} {sub r zz : Nat} : xP le nb sub r zz 31 = nb := rfl
theorem xP_at {le : List Ent} {nb : List UInt8} {sub r zz t : Nat} (ht : t < 14) (h : ¬ (sub = 1 ∧ t = r)) : xP le nb sub r zz (16 + t) = (epsE le t).body := by
  unfold xP
  rw [if_neg (by omega), if_neg (by omega), if_neg (by omega), if_pos (by omega)]
  unfold xE; rw [show 16 + t - 16 = t by omega]
theorem xP_r {le : List Ent} {nb : List UInt8} {r zz : Nat} (ht : r < 14) : xP le nb 1 r zz (16 + r) = (epsE le r).body.take zz := by
  unfold xP
  rw [if_neg (by omega), if_neg (by omega), if_pos ⟨rfl, rfl⟩]
theorem xP_30 {le : List Ent} {nb : List UInt8} {r zz : Nat} : xP le nb 1 r zz 30 = (epsE le r).body.drop zz := rfl
theorem xP_le {le : List Ent} {nb : List UInt8} {sub r zz : Nat} (h : ∀ e ∈ le, e.body.length ≤ 4000) (hn : nb.length ≤ 4000) (u : Nat) : (xP le nb sub r zz u).length ≤ 4000 := by
  have hr : (epsE le r).body.length ≤ 4000 := by
    have := xE_le h (16 + r); unfold xE at this; rw [show 16 + r - 16 = r by omega] at this; exact this
  unfold xP
  split
  · exact hn
  · split
    · split
      · rw [List.length_drop]; omega
      · simp
    · split
      · rw [List.length_take]; omega
      · split
        · exact xE_le h u
        · simp
/-- all entries' cost, as letters tell it -/
theorem all_den {le : List Ent} {nb : List UInt8} {sub r zz : Nat} (hl : le.length ≤ 14) (hs : sub = 0 ∨ sub = 1 ∧ r < le.length ∧ zz ≤ (epsE le r).body.length) {d y : Int} {f g : Nat → Int} :
    (allP le.length sub).den (nuS (xP le nb sub r zz) d f g y) = cost le := by
  have hnl : ∀ (t : Nat), t < le.length → (nuS (xP le nb sub r zz) d f g y).n (16 + t) = ((xP le nb sub r zz (16 + t)).length : Int) := fun t ht => nuS_t (by omega) (by omega)
  rcases hs with rfl | ⟨rfl, hr, hz⟩
  · show (sumA (133 * le.length) (List.range le.length)).den _ = _
    have := sumA_den (ν := nuS (xP le nb 0 r zz) d f g y) (ε := epsE le) (l := List.range le.length) (fun t ht => by
      have ht := List.mem_range.1 ht
      rw [hnl t ht, xP_at (by omega) (by omega)])
    rw [List.length_range, eps_map] at this
    exact this
  · show ((SI.add (sumA (133 * le.length) (List.range le.length)) (.lin 0 [(30, 1)])).getD (.k 0)).den _ = _
    rw [add_getD (sum_not _ _) (lin_not _ _)]
    have := sumA_den (ν := nuS (xP le nb 1 r zz) d f g y) (ε := fun t => ⟨(epsE le t).d, xP le nb 1 r zz (16 + t), (epsE le t).b⟩) (l := List.range le.length) (fun t ht => hnl t (List.mem_range.1 ht))
    rw [List.length_range] at this
    rw [this]
    have h30 : (SI.lin 0 [(30, 1)]).den (nuS (xP le nb 1 r zz) d f g y) = ((epsE le r).body.length : Int) - zz := by
      show 0 + (1 * (nuS (xP le nb 1 r zz) d f g y).n 30 + 0) = _
      rw [nuS_t (by omega) (by omega), xP_30, List.length_drop]; omega
    rw [h30]
    -- the one that is told in two parts
    have key : ∀ (l : List Nat), l.Nodup → (∀ t ∈ l, t < 14) → cost (l.map fun t => (⟨(epsE le t).d, xP le nb 1 r zz (16 + t), (epsE le t).b⟩ : Ent)) + (if r ∈ l then ((epsE le r).body.length : Int) - zz else 0) = cost (l.map (epsE le)) := by
      intro l
      induction l with
      | nil => intro _ _; simp [cost]
      | cons t l ih =>
        intro hn hlt
        rw [List.nodup_cons] at hn
        have ih := ih hn.2 fun u hu => hlt u (by simp [hu])
        simp only [List.map_cons, cost, cost1]
        by_cases e : t = r
        · subst e
          rw [if_pos (by simp)]
          rw [if_neg hn.1] at ih
          rw [xP_r (hlt _ (by simp)), List.length_take]
          omega
        · rw [xP_at (hlt t (by simp)) (by omega)]
          have : (r ∈ t :: l) ↔ r ∈ l := by simp [Ne.symm e]
          by_cases hm : r ∈ l
          · rw [if_pos (this.2 hm)]; rw [if_pos hm] at ih; omega
          · rw [if_neg (fun h => hm (this.1 h))]; rw [if_neg hm] at ih; omega
    have := key (List.range le.length) List.nodup_range (fun t ht => by have := List.mem_range.1 ht; omega)
    rw [if_pos (List.mem_range.2 hr), eps_map] at this
    exact this
/-- the cost of what there is behind it -/
theorem new_den {le : List Ent} {nb : List UInt8} {sub r zz j0 m e : Nat} (hl : le.length ≤ 14) (hm : j0 + m + e = le.length) (hs : sub = 0 ∨ sub = 1 ∧ r = le.length - e) {d y : Int} {f g : Nat → Int} :
    (newP le.length j0 e).den (nuS (xP le nb sub r zz) d f g y) = cost ((le.drop j0).take m) + (133 + (nb.length : Int)) := by
  unfold newP
  rw [add_getD (sum_not _ _) (lin_not _ _)]
  have := sumA_den (ν := nuS (xP le nb sub r zz) d f g y) (ε := epsE le) (l := stayP le.length j0 e) (fun t ht => by
    have := stay_mem ht
    rw [nuS_t (by omega) (by omega), xP_at (by omega) (by omega)])
  rw [stay_len hm, stay_map hm] at this
  rw [show le.length - j0 - e = m by omega, this]
  congr 1
  show 133 + (1 * (nuS (xP le nb sub r zz) d f g y).n 31 + 0) = _
  rw [nuS_t (by omega) (by omega), xP_31]; omega
theorem new_not (n j0 e : Nat) : ∀ c v i s, newP n j0 e ≠ .bt c v i s := add_not (sum_not _ _) (lin_not _ _)
end Go.AM
namespace Go.AM
open Go Go.Proofs Go.ChangeShapes Go.WideShapes Go.ChangeAt Go.RowKit
set_option linter.unusedVariables false
/-! # TopBudget: store.Put: the rule -/
set_option maxRecDepth 100000 in
theorem put_all {j s n e : Nat} (hp : putAll j s = true) (hn : n ≤ 14) (hle : j + (e + 1) ≤ n) : chkPut n j (e + 1) s (runPut n j (e + 1) s) = true := by
  unfold putAll at hp
  exact List.all_eq_true.1 (List.all_eq_true.1 hp n (List.mem_range.2 (by omega))) e (List.mem_range.2 (by omega))
set_option maxRecDepth 100000 in
theorem put_chk {n j0 e sub : Nat} (hn : n ≤ 14) (hj : j0 ≤ 1) (he : j0 + e ≤ n) (hs : sub ≤ 1) (h0 : e = 0 → sub = 0) : chkPut n j0 e sub (runPut n j0 e sub) = true := by
  have hj : j0 = 0 ∨ j0 = 1 := by omega
  have hs : sub = 0 ∨ sub = 1 := by omega
  by_cases h : e = 0
  · subst h
    have := h0 rfl
    subst this
    have := List.all_eq_true.1 put_ok0 n (List.mem_range.2 (by omega))
    rw [Bool.and_eq_true] at this
    rcases hj with rfl | rfl
    · exact this.1
    · have h2 := this.2
      rw [nbeq, decide_eq_false (by omega)] at h2
      exact h2
  · obtain ⟨e, rfl⟩ : ∃ e', e = e' + 1 := ⟨e - 1, by omega⟩
    rcases hj with rfl | rfl <;> rcases hs with rfl | rfl
    · exact put_all put_00 hn he
    · exact put_all put_01 hn he
    · exact put_all put_10 hn he
    · exact put_all put_11 hn he
section
variable {C : Cx} {Dt : Dat} {ρ : Nm} {nx : Nat} {H : T AB} {L : Log} {w : World} {k : AV → Nat → T AB → Log → Ans} {z : Ans} {vs : List Value} {o : Oper} {a : Act}
/-- an entry that is handed in -/
theorem ent_R {ν2 : Vl} {σ : Nm} {p body : SS} {h0 : Nat} {cap : Cp} {pc : Nat × Nat} {us : List Value} (hp : sden (nuD Dt) p = pathB Dt.cur) (h32 : ν2.n 32 = Dt.cur) (hc : ρ h0 = some pc) (h8 : σ 8 = some pc) (hb : sden (nuD Dt) body = sden ν2 [.var 31])
    (h : VRs (nuD Dt) ρ [.str [.lit 3 5522759], .str [.lit 5 495807919208], .str [.lit 1 97], .str p, .nils, .int .i64 (.k (.negSucc 0)), .int .i64 (.k (.ofNat 200)), .sl h0 (.k 0) (.k 1) cap 2, .int .i64 (.k (.negSucc 0)), .str body, .int .i64 (.k 0), .int .i64 (.k 0)] us) : VRs ν2 σ (entA 32 8 [.var 31]) us := by
  obtain ⟨u, v, rfl, h1, h2⟩ := VRs.split (a := [.str [.lit 3 5522759], .str [.lit 5 495807919208], .str [.lit 1 97], .str p, .nils, .int .i64 (.k (.negSucc 0))]) h
  refine (req_R hp h32 h1).append ?_
  obtain ⟨v1, l1, rfl, a1, hv⟩ := h2.cons
  obtain ⟨v2, l2, rfl, a2, hv⟩ := hv.cons
  obtain ⟨v3, l3, rfl, a3, hv⟩ := hv.cons
  obtain ⟨v4, l4, rfl, a4, hv⟩ := hv.cons
  refine VRs.mk a1 (VRs.mk ?_ (VRs.mk a3 (VRs.mk ?_ ?_)))
  · obtain ⟨r, s, oo, nn, cc, b1, b2, b3, b4, b5, b6, rfl⟩ := a2
    rw [hc] at b1; cases b1
    have b3 : (1 : Int) = (nn : Int) := b3
    exact ⟨_, _, oo, nn, cc, h8, b2, b3, by show (1 : Int) ≤ _; omega, b5, b6, rfl⟩
  · have a4 : v4 = strV (sden (nuD Dt) body) := a4
    rw [a4, hb]; rfl
  · obtain ⟨v5, l5, rfl, a5, hv⟩ := hv.cons
    obtain ⟨v6, l6, rfl, a6, hv⟩ := hv.cons
    cases hv.nil
    exact VRs.mk a5 (VRs.mk a6 VRs.mk0)
set_option maxRecDepth 100000 in
theorem put_core (hP : C.P = Tryz.prog) (hr : HR (nuD Dt) ρ nx H w) (hg : Glob ρ) {pp g b h0 : Nat} {l : List Nat} {pg pb pc : Nat × Nat} {bs : List (Nat × Nat)} (hpp : pp < 3) (hst : StAt Dt ρ H w pp g b l pg pb bs) (hbl : bs.length = Dt.i) (hge : GE Dt (Dt.esP pp))
    {Xg Xb : AB} (hXg : H.get g = some Xg) (hXb : H.get b = some Xb) (hgb : g ≠ b) (hc : ρ h0 = some pc) (hpc : pg.1 ≠ pc.1 ∧ pb.1 ≠ pc.1 ∧ ∃ obj, w.heap[pc.1]? = some obj ∧ cellsR ccVs pc.2 obj ∧ unfr obj) (hpcb : ∀ (j : Nat) (q : Nat × Nat), bs[j]? = some q → pc.1 ≠ q.1)
    {j0 : Nat} (hj0 : j0 ≤ 1) (hjn : j0 ≤ (Dt.esP pp).length) (hcur : ∀ (t : Nat) (ht : t < (Dt.esP pp).length), t < j0 → (Dt.esP pp)[t].d = Dt.cur) (hoth : ∀ (t : Nat) (ht : t < (Dt.esP pp).length), j0 ≤ t → (Dt.esP pp)[t].d ≠ Dt.cur)
    (hrest : Dt.rest = (Dt.esP pp).drop j0) (hfit : Dt.fit = true) {p body : SS} {cap : Cp} (hp : sden (nuD Dt) p = pathB Dt.cur) (hbody : sden (nuD Dt) body = Dt.zs Dt.i) {vg vq : Value} (hvg : VR (nuD Dt) ρ (.ptr g (.k 0)) vg)
    (hvq : VR (nuD Dt) ρ (.agg [.str [.lit 3 5522759], .str [.lit 5 495807919208], .str [.lit 1 97], .str p, .nils, .int .i64 (.k (.negSucc 0)), .int .i64 (.k (.ofNat 200)), .sl h0 (.k 0) (.k 1) cap 2, .int .i64 (.k (.negSucc 0)), .str body, .int .i64 (.k 0), .int .i64 (.k 0)]) vq) {D : Log}
    (h : k (.bool true) (nx + 2) ((((H.put b none).put nx (some (.lt (20 + Dt.i) []))).put (nx + 1) (some (.lt 8 (l ++ [nx])))).put g (some (.lt 12 ((nx + 1) :: (l ++ [nx]))))) (((g, true) :: (nx + 1, true) :: (nx, true) :: (b, true) :: D) ++ L) = z) :
    OpOk C (nuD Dt) ρ nx L w k z o a ((callFunc 240 ⟨[vg, vq]⟩).run C.P w) := by
  obtain ⟨le, hle⟩ : ∃ le, le = Dt.esP pp := ⟨_, rfl⟩
  have hge' := hge
  rw [← hle] at hge' hjn hrest
  simp only [← hle] at hcur hoth
  have hn14 : le.length ≤ 14 := by have := hge'.el; have := Dt.hi; omega
  have hzl : ((Dt.zs Dt.i).length : Int) = Dt.sz Dt.i := by simp [Dat.zs]
  have hnc : cost1 Dt.new = 133 + (Dt.sz Dt.i : Int) := by unfold cost1 Dat.new; rw [hzl]
  have hroom : 0 ≤ Dt.bud - cost1 Dt.new := by
    unfold Dat.fit at hfit
    have := of_decide_eq_true hfit
    omega
  have hszb : (Dt.sz Dt.i : Int) ≤ 3000 := by have := (bud_in Dt).2; omega
  obtain ⟨m, m1, m2, m3, m4⟩ := evict_spec hroom Dt.rest
  rw [hrest] at m1 m2 m3 m4
  have hdl : (le.drop j0).length = le.length - j0 := List.length_drop
  rw [hdl] at m1 m4
  obtain ⟨e, he⟩ : ∃ e, j0 + m + e = le.length := ⟨le.length - j0 - m, by omega⟩
  have hes2 : Dt.es2 = Dt.new :: (le.drop j0).take m := by unfold Dat.es2; rw [if_pos hfit, hrest, m2]
  obtain ⟨y, hy⟩ : ∃ y, y = Dt.bud - cost1 Dt.new - cost ((le.drop j0).take m) := ⟨_, rfl⟩
  have hy0 : 0 ≤ y := by omega
  have hcn := cost_nn ((le.drop j0).take m)
  have hy3 : y ≤ 3000 := by have := (bud_in Dt).2; omega
  have hr0 : e ≠ 0 → le.length - e < le.length ∧ y < 133 + ((epsE le (le.length - e)).body.length : Int) := by
    intro h
    have hlt : m < le.length - j0 := by omega
    have h4 := m4 hlt
    have hlt' : m < (le.drop j0).length := by omega
    rw [cost_take_succ hlt'] at h4
    refine ⟨by omega, ?_⟩
    have : epsE le (le.length - e) = (le.drop j0)[m] := by
      rw [epsE_at (by omega), List.getElem_drop]
      congr 1; omega
    rw [this]
    have hc1 : cost1 (le.drop j0)[m] = 133 + ((le.drop j0)[m].body.length : Int) := rfl
    rw [hc1] at h4
    omega
  -- which of the runs it is
  obtain ⟨sub, zz, hsub⟩ : ∃ sub zz : Nat, (sub = 0 ∧ zz = 0 ∧ y ≤ boundP e) ∨ (sub = 1 ∧ e ≠ 0 ∧ (zz : Int) = y - 133 ∧ zz < (epsE le (le.length - e)).body.length) := by
    by_cases h : e = 0
    · exact ⟨0, 0, .inl ⟨rfl, rfl, by rw [h]; exact hy3⟩⟩
    · have := hr0 h
      by_cases h2 : y ≤ 132
      · refine ⟨0, 0, .inl ⟨rfl, rfl, ?_⟩⟩
        unfold boundP; rw [nbeq, decide_eq_false h]; exact h2
      · exact ⟨1, (y - 133).toNat, .inr ⟨rfl, h, by omega, by omega⟩⟩
  obtain ⟨yl, hyl⟩ : ∃ yl : Int, yl = if sub = 0 then y else 0 := ⟨_, rfl⟩
  obtain ⟨X, hX⟩ : ∃ X, X = xP le (Dt.zs Dt.i) sub (le.length - e) zz := ⟨_, rfl⟩
  have hle4 : ∀ e ∈ le, e.body.length ≤ 4000 := fun e he => by have := hge'.body he; omega
  have hXle : ∀ t, (X t).length ≤ 4000 := fun t => by rw [hX]; exact xP_le hle4 (by omega) t
  let ν2 := nuS X Dt.cur (fun t => (epsE le t).d) (fun _ => 0) yl
  have h32 : ν2.n 32 = Dt.cur := by rw [nuS_32, wth_id Dt.cur_in.1 Dt.cur_in.2]
  have hn31 : X 31 = Dt.zs Dt.i := by rw [hX]; rfl
  have hall : (allP le.length sub).den ν2 = cost le := by
    show (allP le.length sub).den (nuS X _ _ _ _) = _
    rw [hX]
    refine all_den hn14 ?_
    rcases hsub with ⟨h1, _, _⟩ | ⟨h1, h2, _, h3⟩
    · exact .inl h1
    · exact .inr ⟨h1, (hr0 h2).1, by omega⟩
  have hnew : (newP le.length j0 e).den ν2 = cost ((le.drop j0).take m) + (133 + ((Dt.zs Dt.i).length : Int)) := by
    show (newP le.length j0 e).den (nuS X _ _ _ _) = _
    rw [hX]
    refine new_den hn14 he ?_
    rcases hsub with ⟨h1, _, _⟩ | ⟨h1, _⟩
    · exact .inl h1
    · exact .inr ⟨h1, rfl⟩
  have hyP : (yP le.length e sub).den ν2 = y := by
    unfold yP
    rcases hsub with ⟨h1, _, _⟩ | ⟨h1, h2, h3, h4⟩
    · subst h1
      show 0 + (1 * ν2.n 140 + 0) = _
      rw [nuS_140, hyl, if_pos rfl]; omega
    · subst h1
      show 133 + (1 * ν2.n (16 + (le.length - e)) + 0) = _
      have := (hr0 h2).1
      rw [nuS_t (by omega) (by omega), hX, xP_r (by omega), List.length_take]
      omega
  have hyn : ∀ c v i s, yP le.length e sub ≠ .bt c v i s := by
    intro c v i s h
    unfold yP at h
    cases hq : Nat.beq sub 1 <;> rw [hq] at h <;> cases h
  have hbud : (budP le.length j0 e sub).den ν2 = Dt.bud := by
    unfold budP
    rw [add_getD (new_not _ _ _) hyn, hnew, hyP]
    omega
  have hbi : ∀ e ∈ le, e.b < bs.length := fun e he => by rw [hbl]; exact hge'.eb e he
  have hbd : ∀ (t : Nat) (ht : t < le.length), sden ν2 (bodyP le.length e sub t) = le[t].body := by
    intro t ht
    unfold bodyP
    rcases hsub with ⟨h1, _, _⟩ | ⟨h1, h2, h3, h4⟩
    · subst h1
      show sden _ [.var (16 + t)] = _
      rw [var_den (by omega) (by omega), hX, xP_at (by omega) (by omega), epsE_at ht]
    · subst h1
      by_cases ht2 : t = le.length - e
      · rw [nbeq, nbeq, decide_eq_true rfl, decide_eq_true ht2]
        subst ht2
        show ν2.t (16 + (le.length - e)) ++ (ν2.t 30 ++ []) = _
        have e1 : ν2.t (16 + (le.length - e)) = X (16 + (le.length - e)) := by unfold Vl.t; rw [if_pos (by omega)]; exact nuS_x (by omega)
        have e2 : ν2.t 30 = X 30 := by unfold Vl.t; rw [if_pos (by omega)]; exact nuS_x (by omega)
        rw [e1, e2, hX, xP_r (by omega), xP_30, List.append_nil, List.take_append_drop, epsE_at (by omega)]
      · rw [nbeq, nbeq, decide_eq_false ht2, Bool.and_false]
        show sden _ [.var (16 + t)] = _
        rw [var_den (by omega) (by omega), hX, xP_at (by omega) (by omega), epsE_at ht]
  have hjP : ∀ (t : Nat), t < le.length → (t = jP le.length j0 ↔ t < j0) := by
    intro t ht
    unfold jP
    rw [nbeq]
    by_cases h1 : j0 = 1
    · rw [decide_eq_true h1]; show t = 0 ↔ _; omega
    · rw [decide_eq_false h1]; show t = le.length ↔ _; omega
  have hpo := pat_ok (Dt := Dt) (l := le) (j := jP le.length j0) (c0 := 9) (bs := bs) (σ := sig ρ (pg :: pb :: ([pc] ++ fbs bs le))) (x := X) (y := yl) (g := fun _ => 0) (body := bodyP le.length e sub) (by omega) hge'.er (fun t ht h => hcur t ht ((hjP t ht).1 h))
    (fun t ht h => hoth t ht (by have := hjP t ht; omega))
    (fun t ht => by
      obtain ⟨q, q1, q2⟩ := fbs_at (bs := bs) ht (hbi _ (List.getElem_mem ht))
      exact ⟨q, q1, by rw [show 9 + t = 8 + (t + 1) by omega, sig8]; exact q2⟩) hbd
  have hPs : PatsOk ν2 (sig ρ (pg :: pb :: ([pc] ++ fbs bs le))) bs ((List.range le.length).map (pat (jP le.length j0) 9 (bodyP le.length e sub))) le := by
    have := PatsOk.of_map (ν := ν2) (ord := List.range le.length) (π := pat (jP le.length j0) 9 (bodyP le.length e sub)) (ε := epsE le) (fun t ht => hpo t (List.mem_range.1 ht))
    rw [eps_map] at this
    exact this
  have hcc : ∀ (i j : Nat) (p' q : Nat × Nat), ([pc] ++ fbs bs le)[i]? = some p' → ([pc] ++ fbs bs le)[j]? = some q → p'.1 = q.1 → i = j := by
    intro i j p' q h1 h2 h3
    have out : ∀ {q : Nat × Nat} {j : Nat}, (fbs bs le)[j]? = some q → pc.1 ≠ q.1 := fun {q j} hq => by
      obtain ⟨e, _, hb⟩ := fbs_mem hbi (List.mem_of_getElem? hq)
      exact hpcb _ _ hb
    match i, j, h1, h2 with
    | 0, 0, _, _ => rfl
    | 0, j + 1, h1, h2 => cases h1; exact (out (show (fbs bs le)[j]? = some q from h2) h3).elim
    | i + 1, 0, h1, h2 => cases h2; exact (out (show (fbs bs le)[i]? = some p' from h1) h3.symm).elim
    | i + 1, j + 1, h1, h2 => rw [fbs_inj hbi hge'.ebn hst.hdd i j p' q h1 h2 h3]
  have hr2 : HR ν2 (sig ρ (pg :: pb :: ([pc] ++ fbs bs le))) (9 + le.length) (mkH 6 (putHs le.length j0 e sub)) w := by
    have := st_in hr hpp hst hge hbl (ν2 := ν2) (size := allP le.length sub) (bud' := budP le.length j0 e sub) (by rw [hall, hle]) hbud (ex := [pc]) (by simpa using hpc) (by rw [← hle]; exact hcc) (Ps := (List.range le.length).map (pat (jP le.length j0) 9 (bodyP le.length e sub))) (by rw [← hle]; exact hPs)
    rw [← hle] at this
    have hlen : ([pc] ++ fbs bs le).length = le.length + 1 := by simp [fbs]
    rw [hlen, show 8 + (le.length + 1) = 9 + le.length by omega] at this
    exact this
  have hsub1 : sub ≤ 1 := by rcases hsub with ⟨h, _⟩ | ⟨h, _⟩ <;> omega
  obtain ⟨c, n3, H3, D3, b2, cap2, s2, hrun, hc8, hHc, hD, hb8, hH6, hsd, hHb⟩ := chkPut_spec (put_chk (n := le.length) (j0 := j0) (e := e) (sub := sub) hn14 hj0 (by omega) hsub1 (fun h => by rcases hsub with ⟨h1, _⟩ | ⟨_, h2, _⟩; exact h1; exact (h2 h).elim))
  have ok2 : ν2.Ok (bdP sub (boundP e)) := by
    refine okP (fun t _ _ => hXle t) ?_ ?_
    · rcases hsub with ⟨h1, _, _⟩ | ⟨h1, h2, h3, h4⟩
      · omega
      · rw [hX, h1, xP_30, List.length_drop]; omega
    · rcases hsub with ⟨h1, _, h2⟩ | ⟨h1, h2, h3, h4⟩
      · rw [hyl, if_pos h1]; exact ⟨hy0, h2⟩
      · rw [hyl, if_neg (by omega)]
        unfold boundP; rw [nbeq, decide_eq_false h2]
        show (0 : Int) ≤ 0 ∧ (0 : Int) ≤ 132
        omega
  have htop : ∀ c, 9 + le.length ≤ c → sig ρ (pg :: pb :: ([pc] ++ fbs bs le)) c = none := fun c hc => by
    refine sig_top (ps := pg :: pb :: ([pc] ++ fbs bs le)) ?_
    simp [fbs]; omega
  intro next Q hn
  rw [hP]
  obtain ⟨us, hu, hcv, rfl⟩ := hvq
  refine small_run ok2 hrun hr2 (sig_glob hg) (VRs.mk ?_ (VRs.mk ⟨us, ent_R hp h32 hc (sig8 (cs := [pc] ++ fbs bs le) 0) (by rw [hbody, var_den (by omega) (by omega), hn31]) hu, hcv, rfl⟩ VRs.mk0)) fun σ' v w' _ hv' hr3 hst' => ?_
  · obtain ⟨r, s, oo, k1, k2, rfl⟩ := hvg
    rw [hst.eg] at k1; cases k1
    exact ⟨r, s, oo, sig6, k2, rfl⟩
  have hext : Ext (sig ρ (pg :: pb :: ([pc] ++ fbs bs le))) σ' := hst'.ext
  obtain ⟨r6, s6, ob6, g1, g2, g3⟩ := hr3.blk 6 _ hH6
  obtain ⟨rb, sb, obb, f1, f2, f3⟩ := hr3.blk b2 _ hHb
  obtain ⟨rc, sc, obc, c1, c2, c3⟩ := hr3.blk c _ hHc
  have g0 : σ' 6 = some pg := hext _ _ sig6
  have hnb : c ≠ b2 := fun e => by
    subst e
    rw [hHc] at hHb
    have := Option.some.inj hHb
    injection this with this
    have := congrArg List.length this
    simp [putRow, rowA, patA, entA, reqA, ccA] at this
  have hPn : PatsOk ν2 σ' (bs ++ [(rc, sc)]) ((32, c, [.var 31]) :: (stayP le.length j0 e).map (pat (jP le.length j0) 9 (bodyP le.length e sub))) Dt.es2 := by
    rw [hes2]
    refine ⟨⟨h32, Dt.cur_in, ⟨(rc, sc), ?_, c1⟩, ?_⟩, ?_⟩
    · show (bs ++ [(rc, sc)])[Dt.i]? = _
      rw [← hbl]; simp
    · show sden ν2 [.var 31] = Dt.zs Dt.i
      rw [var_den (by omega) (by omega), hn31]
    · have := PatsOk.of_map (ν := ν2) (σ := sig ρ (pg :: pb :: ([pc] ++ fbs bs le))) (bs := bs) (ord := stayP le.length j0 e) (π := pat (jP le.length j0) 9 (bodyP le.length e sub)) (ε := epsE le) (fun t ht => hpo t (by have := stay_mem ht; omega))
      rw [stay_map he] at this
      exact (this.ext hext).more
  rw [g0] at g1; cases g1
  let new : List (Nat × Nat) := [(rc, sc), (rb, sb)]
  have hx0 : extN ρ nx new nx = some (rc, sc) := extN_at (new := new) 0
  have hx1 : extN ρ nx new (nx + 1) = some (rb, sb) := extN_at (new := new) 1
  have hEx := extN_ext hr new
  have hLR : LR (extN ρ nx new) (l ++ [nx]) (bs ++ [(rc, sc)]) := (hst.el.ext hEx).append (LR.mk hx0 LR.mk0)
  have key := hr.turn (t := g) (b := b) (H' := ((((H.put b none).put nx (some (.lt (20 + Dt.i) []))).put (nx + 1) (some (.lt 8 (l ++ [nx])))).put g (some (.lt 12 ((nx + 1) :: (l ++ [nx])))))) (D := (g, true) :: (nx + 1, true) :: (nx, true) :: (b, true) :: D)
    hXg hst.eg hXb hst.eb hst' hD htop sig6 sig7 hr3 (by omega) hH6 (new := new) (As := [.lt (20 + Dt.i) [], .lt 8 (l ++ [nx])]) (Ht := .lt 12 ((nx + 1) :: (l ++ [nx])))
    (fun i p hp => by
      match i, hp with
      | 0, hp => cases hp; exact ⟨c, _, hc8, hHc, c1⟩
      | 1, hp => cases hp; exact ⟨b2, _, hb8, hHb, f1⟩
      | _ + 2, hp => simp [new] at hp)
    (fun i j p q h1 h2 h3 => by
      match i, j, h1, h2 with
      | 0, 0, _, _ => rfl
      | 1, 1, _, _ => rfl
      | 0, 1, h1, h2 => cases h1; cases h2; have h3 : rc = rb := h3; subst h3; exact (hnb (hr3.inj c b2 _ _ _ _ _ hHc hHb c1 f1)).elim
      | 1, 0, h1, h2 => cases h1; cases h2; have h3 : rb = rc := h3; subst h3; exact (hnb (hr3.inj c b2 _ _ _ _ _ hHc hHb c1 f1)).elim
      | _ + 2, _, h1, _ => simp [new] at h1
      | _, _ + 2, _, h2 => simp [new] at h2)
    rfl (by
      obtain ⟨us, k1, k2, k3, k4⟩ := g3
      refine ⟨ob6, g2, us, (rb, sb) :: (bs ++ [(rc, sc)]), k3, k4, LR.mk hx1 hLR, .inr ?_⟩
      obtain ⟨v1, l1, rfl, a1, hv1⟩ := k1.cons
      obtain ⟨v2, l2, rfl, a2, hv2⟩ := hv1.cons
      obtain ⟨v3, l3, rfl, a3, hv3⟩ := hv2.cons
      cases hv3.nil
      show Dt.B 12 _ _
      simp only [Dat.B, show ¬ 12 = 0 by omega, show ¬ 12 = 1 by omega, show ¬ 12 ≤ 5 by omega, show ¬ 12 ≤ 8 by omega, show ¬ 12 < 10 by omega, show 12 ≤ 12 by omega, if_true, if_false]
      have he1 : Dt.esP (12 - 10) = Dt.es2 := rfl
      rw [he1]
      refine ⟨(rb, sb), _, rfl, v1, ?_, .inr ⟨by rw [hes2]; simp, ?_⟩⟩
      · have a2 : v2 = .int .i64 (s2.den ν2) := a2
        have a3 : v3 = .int .i64 ((budP le.length j0 e sub).den ν2) := a3
        have hc2 : cost Dt.es2 = cost1 Dt.new + cost ((le.drop j0).take m) := by rw [hes2]; rfl
        rw [a2, a3, hsd, hnew, hbud, hc2, hnc, hzl]
        congr 3; omega
      · obtain ⟨r, s, oo, nn, cc, b1, b3, b4, b5, b6, b7, rfl⟩ := a1
        rw [f1] at b1; cases b1
        have b4 : ((le.length - j0 - e + 1 : Nat) : Int) = (nn : Int) := b4
        have hnn : nn = m + 1 := by omega
        subst hnn
        have ho : oo = 0 := by
          rcases b3 with b3 | b3
          · omega
          · have : (0 : Int) = (oo : Int) := b3; omega
        subst ho
        have hl1 : Dt.es2.length = m + 1 := by rw [hes2]; simp; omega
        exact ⟨cc, by rw [hl1], by rw [hl1]; exact b6, by omega⟩)
    (fun i A p h1 h2 => by
      match i, h1, h2 with
      | 0, h1, h2 =>
        cases h1; cases h2
        obtain ⟨us, k1, k2, k3, k4⟩ := c3
        refine ⟨obc, c2, us, [], k3, k4, LR.mk0, .inr ?_⟩
        show Dt.B (20 + Dt.i) _ _
        simp only [Dat.B, show ¬ 20 + Dt.i = 0 by omega, show ¬ 20 + Dt.i = 1 by omega, show ¬ 20 + Dt.i ≤ 5 by omega, show ¬ 20 + Dt.i ≤ 8 by omega, show ¬ 20 + Dt.i < 10 by omega, show ¬ 20 + Dt.i ≤ 12 by omega, show 20 ≤ 20 + Dt.i by omega, if_true, if_false]
        exact fun _ => cc_out k1
      | 1, h1, h2 =>
        cases h1; cases h2
        obtain ⟨us, k1, k2, k3, k4⟩ := f3
        refine ⟨obb, f2, us, bs ++ [(rc, sc)], k3, k4, hLR, .inr ?_⟩
        show Dt.B 8 _ _
        simp only [Dat.B, show ¬ 8 = 0 by omega, show ¬ 8 = 1 by omega, show ¬ 8 ≤ 5 by omega, show 8 ≤ 8 by omega, if_true, if_false]
        exact ents_out k1 hPn
      | _ + 2, h1, _ => simp at h1)
    (fun c' => by
      rw [T.get_put, T.get_put, T.get_put, T.get_put]
      have hgx := hr.lt hst.eg
      have hbx := hr.lt hst.eb
      by_cases e1 : c' = g
      · rw [if_pos e1, if_pos e1]
      · rw [if_neg e1, if_neg e1]
        by_cases e2 : nx ≤ c'
        · rw [if_pos e2]
          obtain ⟨i, rfl⟩ : ∃ i, c' = nx + i := ⟨c' - nx, by omega⟩
          rw [show nx + i - nx = i by omega]
          match i with
          | 0 => rw [if_neg (by omega), if_pos (by omega)]; rfl
          | 1 => rw [if_pos rfl]; rfl
          | i + 2 =>
            rw [if_neg (by omega), if_neg (by omega), if_neg (by omega)]
            have : H.get (nx + (i + 2)) = none := by
              cases hq : H.get (nx + (i + 2)) with
              | none => rfl
              | some A => obtain ⟨r, s, _, q1, _⟩ := hr.blk _ A hq; have := hr.lt q1; omega
            rw [this]; rfl
        · rw [if_neg e2, if_neg (by omega), if_neg (by omega)])
    (by simp) (by simp)
  exact hn _ (nx + 2) _ ((g, true) :: (nx + 1, true) :: (nx, true) :: (b, true) :: D) _ v w' h (extN_low (new := new)) hv' key.1 key.2
end
end Go.AM
