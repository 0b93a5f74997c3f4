import Derived.Test.YtpgfdoakehpnlaaGreatDoorAxX
set_option linter.unusedVariables false
set_option linter.unusedSimpArgs false
namespace Go.AM
open Go Go.Proofs
set_option linter.unusedVariables false
/-! # TopBudget: from one round's letters to another's -/
noncomputable def qOf (D : Dat) (asg : T SI) (j : Nat) : Int := if j < 38 ∨ 262 ≤ j then D.q j else match asg.get j with
  | some e => e.den (nuD D)
  | none => 0
/-- ahead of the rounds; within one; behind it -/
noncomputable def Dat.pre (D : Dat) (asg : T SI) : Dat := { D with q := qOf D asg }
noncomputable def Dat.mid (D : Dat) (asg : T SI) : Dat := { D with ds := D.ds', q := qOf D asg }
noncomputable def Dat.next (D : Dat) (asg : T SI) (h : D.i + 1 ≤ 14) : Dat := { D with i := D.i + 1, hi := h, ds := D.ds', es := D.es2, q := qOf D asg }
/-- the same arguments -/
structure SameA (D D' : Dat) : Prop where
  bI : D'.bI = D.bI
  ln : D'.ln = D.ln
  lp : D'.lp = D.lp
  sn : D'.sn = D.sn
  sp : D'.sp = D.sp
  q : ∀ j, 262 ≤ j → D'.q j = D.q j
section
variable {D D' : Dat} {asg : T SI}
theorem SameA.bud (h : SameA D D') : D'.bud = D.bud := by unfold Dat.bud; rw [h.bI]
theorem SameA.dg (h : SameA D D') (t : Nat) : D'.dg t = D.dg t := by unfold Dat.dg; rw [h.lp]
theorem SameA.sz (h : SameA D D') (t : Nat) : D'.sz t = D.sz t := by unfold Dat.sz; rw [h.sn, h.sp]
theorem SameA.zs (h : SameA D D') (t : Nat) : D'.zs t = D.zs t := by unfold Dat.zs; rw [h.sz]
theorem commL_cases {j : Nat} (h : commL j = true) : j ≤ 14 ∨ (33 ≤ j ∧ j ≤ 37) ∨ (200 ≤ j ∧ j ≤ 214) ∨ (220 ≤ j ∧ j ≤ 234) ∨ (240 ≤ j ∧ j ≤ 254) ∨ j = 262 ∨ j = 263 := by
  unfold commL at h
  rcases bc_or h with ⟨h1, _⟩ | ⟨_, h⟩
  · exact .inl (Nat.le_of_ble_eq_true h1)
  · rcases bc_or h with ⟨h1, _⟩ | ⟨_, h⟩
    · rw [Bool.and_eq_true] at h1; exact .inr (.inl ⟨Nat.le_of_ble_eq_true h1.1, Nat.le_of_ble_eq_true h1.2⟩)
    · rcases bc_or h with ⟨h1, _⟩ | ⟨_, h⟩
      · rw [Bool.and_eq_true] at h1; exact .inr (.inr (.inl ⟨Nat.le_of_ble_eq_true h1.1, Nat.le_of_ble_eq_true h1.2⟩))
      · rcases bc_or h with ⟨h1, _⟩ | ⟨_, h⟩
        · rw [Bool.and_eq_true] at h1; exact .inr (.inr (.inr (.inl ⟨Nat.le_of_ble_eq_true h1.1, Nat.le_of_ble_eq_true h1.2⟩)))
        · rcases bc_or h with ⟨h1, _⟩ | ⟨_, h⟩
          · rw [Bool.and_eq_true] at h1; exact .inr (.inr (.inr (.inr (.inl ⟨Nat.le_of_ble_eq_true h1.1, Nat.le_of_ble_eq_true h1.2⟩))))
          · rcases bc_or h with ⟨h1, _⟩ | ⟨_, h⟩
            · exact .inr (.inr (.inr (.inr (.inr (.inl (Nat.eq_of_beq_eq_true h1))))))
            · exact .inr (.inr (.inr (.inr (.inr (.inr (Nat.eq_of_beq_eq_true h))))))
theorem m_35 (D : Dat) : D.m 35 = D.q 35 := rfl
theorem m_262 (D : Dat) : D.m 262 = D.q 262 := rfl
theorem m_263 (D : Dat) : D.m 263 = D.q 263 := rfl
theorem SameA.x (h : SameA D D') {t : Nat} (ht : t ≤ 14) : (nuD D').x t = (nuD D).x t := by
  show D'.x t = D.x t
  unfold Dat.x; rw [if_pos ht, if_pos ht, h.zs]
theorem SameA.comm (h : SameA D D') (h35 : D'.q 35 = D.q 35) {j : Nat} (k : commL j = true) : (nuD D').n j = (nuD D).n j := by
  rcases commL_cases k with k | k | k | k | k | rfl | rfl
  · rw [n_sz _ k, n_sz _ k, h.sz]
  · rw [n_of _ (by omega), n_of _ (by omega)]
    have : j = 33 ∨ j = 34 ∨ j = 35 ∨ j = 36 ∨ j = 37 := by omega
    rcases this with rfl | rfl | rfl | rfl | rfl
    · rw [m_bud, m_bud, h.bud]
    · rw [m_bI, m_bI, h.bI]
    · rw [m_35, m_35, h35]
    · rw [m_ln, m_ln, h.ln]
    · rw [m_sn, m_sn, h.sn]
  · obtain ⟨t, rfl⟩ : ∃ t, j = 200 + t := ⟨j - 200, by omega⟩
    rw [n_of _ (by omega), n_of _ (by omega), m_lp _ (by omega), m_lp _ (by omega), h.lp]
  · obtain ⟨t, rfl⟩ : ∃ t, j = 220 + t := ⟨j - 220, by omega⟩
    rw [n_of _ (by omega), n_of _ (by omega), m_dg _ (by omega), m_dg _ (by omega), h.dg]
  · obtain ⟨t, rfl⟩ : ∃ t, j = 240 + t := ⟨j - 240, by omega⟩
    rw [n_of _ (by omega), n_of _ (by omega), m_sp _ (by omega), m_sp _ (by omega), h.sp]
  · rw [n_of _ (by omega), n_of _ (by omega), m_262, m_262, h.q 262 (by omega)]
  · rw [n_of _ (by omega), n_of _ (by omega), m_263, m_263, h.q 263 (by omega)]
theorem qOf_n (hq : D'.q = qOf D asg) {j : Nat} {e : SI} (h1 : 38 ≤ j) (h2 : j ≤ 47) (h : asg.get j = some e) : (nuD D').n j = e.den (nuD D) := by
  rw [n_of _ (by omega), m_q _ h1 (by omega), hq]
  unfold qOf; rw [if_neg (by omega), h]
end
/-! ## tables -/
theorem tabF_first (d : Int) : tabF 0 [d] = [pathF d, authF] ∧ tabF 2 [d] = [viaF, pathF d, authF] := ⟨rfl, rfl⟩
section
variable {D D' : Dat}
/-- a table's letters, where the digits that it knows are those that it knew behind the round -/
theorem tab_told {c : TC} (hds : D'.ds = D.ds') (hkn : c.known = true → D.known = true) (h0 : c.i = 0 → D.ds' = [D.cur]) {j : Nat} {o : SI} (j1 : 48 ≤ j) (j2 : j ≤ 55) (j3 : j % 2 = 0) (h : okTab c j o = true) : (nuD D').n j = o.den (nuD D) := by
  have hn : (nuD D').n j = D'.m j := n_of _ (by omega)
  have lt : ∀ k, (SI.lin 0 [(k, 1)]).den (nuD D) = (nuD D).n k := fun k => by show 0 + (1 * (nuD D).n k + 0) = _; omega
  have hk1 : ∀ k, k % 2 = 0 → D'.dsK k = D.dsK (k + 1) := fun k hk => by
    unfold Dat.dsK; rw [if_pos hk, if_neg (by omega), hds]
  have htf : ∀ k l, k % 2 = 0 → k < 4 → tabF k l = tabF (k + 1) l := fun k l hk hk4 => by
    unfold tabF
    by_cases h : k < 2
    · rw [if_pos h, if_pos (by omega)]
    · rw [if_neg h, if_neg (by omega)]
  -- behind the round
  have key : D'.m j = D.m (j + 1) := by
    by_cases hj : j < 52
    · obtain ⟨k, rfl⟩ : ∃ k, j = 48 + k := ⟨j - 48, by omega⟩
      rw [show 48 + k + 1 = 48 + (k + 1) by omega, m_tl _ (by omega), m_tl _ (by omega), hk1 k (by omega), htf k _ (by omega) (by omega)]
    · obtain ⟨k, rfl⟩ : ∃ k, j = 52 + k := ⟨j - 52, by omega⟩
      rw [show 52 + k + 1 = 52 + (k + 1) by omega, m_ts _ (by omega), m_ts _ (by omega), hk1 k (by omega), htf k _ (by omega) (by omega)]
  rw [hn, key]
  unfold okTab at h
  split at h
  · rename_i k
    rw [lt]
    rcases bc_or h with ⟨h1, _⟩ | ⟨_, h⟩
    · have h1 : k = j + 1 := Nat.eq_of_beq_eq_true h1
      rw [h1, n_of _ (by omega)]
    · obtain ⟨h1, h2⟩ := bc2 h
      have h2 := Nat.eq_of_beq_eq_true h2
      subst h2
      rw [n_of _ (by omega)]
      have hk := hkn h1
      have hd : D.ds' = D.ds := by rw [Dat.ds'_eq, if_pos hk]
      have he : ∀ k, k % 2 = 0 → D.dsK (k + 1) = D.dsK k := fun k hk2 => by unfold Dat.dsK; rw [if_neg (by omega), if_pos hk2, hd]
      by_cases hj : k < 52
      · obtain ⟨q, rfl⟩ : ∃ q, k = 48 + q := ⟨k - 48, by omega⟩
        rw [show 48 + q + 1 = 48 + (q + 1) by omega, m_tl _ (by omega), m_tl _ (by omega), he q (by omega), htf q _ (by omega) (by omega)]
      · obtain ⟨q, rfl⟩ : ∃ q, k = 52 + q := ⟨k - 52, by omega⟩
        rw [show 52 + q + 1 = 52 + (q + 1) by omega, m_ts _ (by omega), m_ts _ (by omega), he q (by omega), htf q _ (by omega) (by omega)]
  · rename_i n
    obtain ⟨h1, h2⟩ := bc2 h
    have h1 := Nat.eq_of_beq_eq_true h1
    rw [ieq_eq] at h2
    have h2 := of_decide_eq_true h2
    have hdd := h0 h1
    have he : ∀ k, k % 2 = 0 → D.dsK (k + 1) = [D.cur] := fun k hk2 => by unfold Dat.dsK; rw [if_neg (by omega), hdd]
    show D.m (j + 1) = n
    rw [h2]
    have : j = 48 ∨ j = 50 ∨ j = 52 ∨ j = 54 := by omega
    rcases this with rfl | rfl | rfl | rfl
    · rw [show 48 + 1 = 48 + 1 from rfl, m_tl _ (by omega), he 0 rfl]; rfl
    · rw [show 50 + 1 = 48 + 3 from rfl, m_tl _ (by omega), he 2 rfl]; rfl
    · rw [show 52 + 1 = 52 + 1 from rfl, m_ts _ (by omega), he 0 rfl]
      show sizeF (clientF [D.cur]) = 82
      rw [clientF_size]; rfl
    · rw [show 54 + 1 = 52 + 3 from rfl, m_ts _ (by omega), he 2 rfl]
      show sizeF (originF [D.cur]) = 128
      rw [originF_size (by simp)]; rfl
  · cases h
end
/-! ## blocks that letters tell -/
section
variable {D : Dat}
/-- entries are among those that there were -/
theorem mem_rest {D : Dat} {e : Ent} (h : e ∈ D.rest) : e ∈ D.es := by
  unfold Dat.rest at h
  cases hp : pick D.cur D.es with
  | none => rw [hp] at h; exact h
  | some q =>
    obtain ⟨f, r⟩ := q
    rw [hp] at h
    obtain ⟨a, b, h1, h2, _, _⟩ := pick_some hp
    have h : e ∈ r := h
    rw [h2] at h
    rw [h1]
    simp only [List.mem_append, List.mem_cons] at h ⊢
    rcases h with h | h
    · exact .inl h
    · exact .inr (.inr h)
theorem mem_es1 {D : Dat} {e : Ent} (h : e ∈ D.es1) : e ∈ D.es := by
  unfold Dat.es1 at h
  cases hp : pick D.cur D.es with
  | none => rw [hp] at h; exact h
  | some q =>
    obtain ⟨f, r⟩ := q
    rw [hp] at h
    obtain ⟨a, b, h1, h2, _, _⟩ := pick_some hp
    have h : e ∈ f :: r := h
    rw [h2] at h
    rw [h1]
    simp only [List.mem_append, List.mem_cons] at h ⊢
    rcases h with h | h | h
    · exact .inr (.inl h)
    · exact .inl h
    · exact .inr (.inr h)
theorem evictN_sub (room : Int) : ∀ (k : Nat) (l : List Ent) {e : Ent}, e ∈ evictN room k l → e ∈ l
  | 0, _, e, h => by cases h
  | k + 1, l, e, h => by
    have h : e ∈ (if cost l ≤ room then l else evictN room k l.dropLast) := h
    split at h
    · exact h
    · have := evictN_sub room k _ h
      rw [List.dropLast_eq_take] at this
      exact List.mem_of_mem_take this
theorem mem_es2 {D : Dat} {e : Ent} (h : e ∈ D.es2) : (D.fit = true ∧ e = D.new) ∨ e ∈ D.es := by
  unfold Dat.es2 at h
  split at h
  · rename_i hf
    rcases List.mem_cons.1 h with h | h
    · exact .inl ⟨hf, h⟩
    · exact .inr (mem_rest (evictN_sub _ _ _ h))
  · exact .inr (mem_es1 h)
theorem mem_esPn {D : Dat} {p : Nat} {e : Ent} (h : e ∈ D.esP p) : (D.fit = true ∧ e = D.new) ∨ e ∈ D.es := by
  unfold Dat.esP at h
  split at h
  · exact .inr h
  · split at h
    · exact .inr (mem_es1 h)
    · exact mem_es2 h
end
theorem EntsR.more {x : List (Nat × Nat)} : ∀ {es : List Ent} {bs : List (Nat × Nat)} {vs : List Value}, EntsR es bs vs → EntsR es (bs ++ x) vs
  | [], _, _, _ => trivial
  | e :: es, bs, vs, ⟨p, c, us, h1, h2, h3, h4, h5⟩ => ⟨p, c, us, by rw [List.getElem?_append_left (List.getElem?_eq_some_iff.1 h1).1]; exact h1, h2, h3, h4, EntsR.more h5⟩
section
variable {D D' : Dat} {bs x : List (Nat × Nat)} {vs : List Value}
theorem B_0 (h : SameA D D') (hb : D.B 0 bs vs) : D'.B 0 (bs ++ x) vs := by
  simp only [Dat.B, if_true] at hb ⊢
  rw [h.ln, h.lp]; exact hb
theorem B_1 (h : SameA D D') (hb : D.B 1 bs vs) : D'.B 1 (bs ++ x) vs := by
  simp only [Dat.B, show ¬ 1 = 0 by omega, if_false, if_true] at hb ⊢
  rw [h.sn, h.sp]; exact hb
theorem B_tab {k n : Nat} (hn : n = 2 ∨ n = 4) (hk : k ≤ 5) (hk2 : 2 ≤ k) (h2 : D'.dsK (n - 2) = D.dsK (k - 2)) (h3 : k = n ∨ k = n + 1) (hb : D.B k bs vs) : D'.B n (bs ++ x) vs := by
  simp only [Dat.B, show ¬ k = 0 by omega, show ¬ k = 1 by omega, hk, if_true, if_false] at hb
  have ht : tabF (n - 2) (D.dsK (k - 2)) = tabF (k - 2) (D.dsK (k - 2)) := by
    unfold tabF
    rcases hn with rfl | rfl <;> rcases h3 with rfl | rfl <;> rfl
  rcases hn with rfl | rfl <;>
  · simp only [Dat.B, if_true, if_false]
    simp only [show ¬ (2 = 0) by omega, show ¬ (2 = 1) by omega, show ¬ (4 = 0) by omega, show ¬ (4 = 1) by omega, if_false, show 2 ≤ 5 by omega, show 4 ≤ 5 by omega, if_true]
    rw [h2, ht]
    exact hb
theorem B_ent {p q : Nat} (hp : p < 3) (hq : q < 3) (h : D'.esP q = D.esP p) (hb : D.B (6 + p) bs vs) : D'.B (6 + q) (bs ++ x) vs := by
  simp only [Dat.B, show ¬ 6 + p = 0 by omega, show ¬ 6 + p = 1 by omega, show ¬ 6 + p ≤ 5 by omega, show 6 + p ≤ 8 by omega, if_true, if_false, show 6 + p - 6 = p by omega] at hb
  simp only [Dat.B, show ¬ 6 + q = 0 by omega, show ¬ 6 + q = 1 by omega, show ¬ 6 + q ≤ 5 by omega, show 6 + q ≤ 8 by omega, if_true, if_false, show 6 + q - 6 = q by omega]
  rw [h]; exact hb.more
theorem B_root {p q : Nat} (hp : p < 3) (hq : q < 3) (h : D'.esP q = D.esP p) (ha : SameA D D') (hb : D.B (10 + p) bs vs) : D'.B (10 + q) (bs ++ x) vs := by
  simp only [Dat.B, show ¬ 10 + p = 0 by omega, show ¬ 10 + p = 1 by omega, show ¬ 10 + p ≤ 5 by omega, show ¬ 10 + p ≤ 8 by omega, show ¬ 10 + p < 10 by omega, show 10 + p ≤ 12 by omega, if_true, if_false, show 10 + p - 10 = p by omega] at hb
  simp only [Dat.B, show ¬ 10 + q = 0 by omega, show ¬ 10 + q = 1 by omega, show ¬ 10 + q ≤ 5 by omega, show ¬ 10 + q ≤ 8 by omega, show ¬ 10 + q < 10 by omega, show 10 + q ≤ 12 by omega, if_true, if_false, show 10 + q - 10 = q by omega]
  rw [h, ha.bud]
  obtain ⟨r, ps, rfl, s, h1, h2⟩ := hb
  exact ⟨r, ps ++ x, rfl, s, h1, h2⟩
theorem B_head {j : Nat} (h : ∀ p, p < 3 → ∀ e ∈ D'.esP p, e.b = j → ∃ q, q < 3 ∧ ∃ e' ∈ D.esP q, e'.b = j) (hb : D.B (20 + j) bs vs) : D'.B (20 + j) (bs ++ x) vs := by
  simp only [Dat.B, show ¬ 20 + j = 0 by omega, show ¬ 20 + j = 1 by omega, show ¬ 20 + j ≤ 5 by omega, show ¬ 20 + j ≤ 8 by omega, show ¬ 20 + j < 10 by omega, show ¬ 20 + j ≤ 12 by omega, show 20 ≤ 20 + j by omega, if_true, if_false, show 20 + j - 20 = j by omega] at hb ⊢
  rintro ⟨p, hp, e, he, hj⟩
  exact hb (h p hp e he hj)
theorem B_9 {n : Nat} (h : n = 9) : n = 9 ∨ D'.B n bs vs := .inl h
end
/-! ## from a round's head to its middle -/
section
variable {D : Dat} {asg : T SI} {c : TC}
theorem sameA_mid : SameA D (D.mid asg) := ⟨rfl, rfl, rfl, rfl, rfl, fun j h => if_pos (.inr h)⟩
theorem mid_esP (p : Nat) : (D.mid asg).esP p = D.esP p := by
  have h1 : (D.mid asg).es = D.es := rfl
  have hc : (D.mid asg).cur = D.cur := rfl
  have h2 : (D.mid asg).es1 = D.es1 := rfl
  have h3 : (D.mid asg).es2 = D.es2 := rfl
  unfold Dat.esP
  rw [h1, h2, h3]
theorem mid_known : (D.mid asg).known = true := by
  rw [Dat.known_iff]
  show D.cur ∈ D.ds'
  rw [Dat.ds'_eq]
  split
  · rename_i h; exact Dat.known_iff.1 h
  · simp
theorem okLt_cases {k n : Nat} (h : okLt c k n = true) : (n = 0 ∧ k = 0) ∨ (n = 1 ∧ k = 1) ∨ n = 9 ∨ (c.mode ≠ 0 ∧ ((n = 2 ∨ n = 4) ∧ (k = n + 1 ∨ (c.known = true ∧ k = n)) ∨ (20 ≤ n ∧ k = n) ∨
    (c.mode = 1 ∧ (n = 7 ∨ n = 11) ∧ (k = n ∨ (c.hit = false ∧ k + 1 = n))) ∨ (c.mode ≠ 1 ∧ (n = 6 ∨ n = 10) ∧ (c.put = true ∧ k = n + 2 ∨ c.put = false ∧ k = n + 1)))) := by
  unfold okLt at h
  rcases bc_or h with ⟨h1, h⟩ | ⟨_, h⟩
  · exact .inl ⟨Nat.eq_of_beq_eq_true h1, Nat.eq_of_beq_eq_true h⟩
  rcases bc_or h with ⟨h1, h⟩ | ⟨_, h⟩
  · exact .inr (.inl ⟨Nat.eq_of_beq_eq_true h1, Nat.eq_of_beq_eq_true h⟩)
  rcases bc_or h with ⟨h1, h⟩ | ⟨_, h⟩
  · exact .inr (.inr (.inl (Nat.eq_of_beq_eq_true h1)))
  rcases bc_or h with ⟨_, h⟩ | ⟨hm, h⟩
  · cases h
  have hm : c.mode ≠ 0 := fun e => by rw [e] at hm; cases hm
  refine .inr (.inr (.inr ⟨hm, ?_⟩))
  rcases bc_or h with ⟨h1, h⟩ | ⟨_, h⟩
  · refine .inl ⟨(bc3 h1).imp Nat.eq_of_beq_eq_true Nat.eq_of_beq_eq_true, ?_⟩
    rcases bc_or h with ⟨h2, _⟩ | ⟨_, h⟩
    · exact .inl (Nat.eq_of_beq_eq_true h2)
    · obtain ⟨h2, h3⟩ := bc2 h
      exact .inr ⟨h2, Nat.eq_of_beq_eq_true h3⟩
  rcases bc_or h with ⟨h1, h⟩ | ⟨_, h⟩
  · exact .inr (.inl ⟨Nat.le_of_ble_eq_true h1, Nat.eq_of_beq_eq_true h⟩)
  rcases bc_or h with ⟨h1, h⟩ | ⟨h1, h⟩
  · obtain ⟨h2, h⟩ := bc2 h
    refine .inr (.inr (.inl ⟨Nat.eq_of_beq_eq_true h1, (bc3 h2).imp Nat.eq_of_beq_eq_true Nat.eq_of_beq_eq_true, ?_⟩))
    rcases bc_or h with ⟨h3, _⟩ | ⟨_, h⟩
    · exact .inl (Nat.eq_of_beq_eq_true h3)
    · rcases bc_or h with ⟨_, h⟩ | ⟨h3, h⟩
      · cases h
      · exact .inr ⟨h3, Nat.eq_of_beq_eq_true h⟩
  · have h1 : c.mode ≠ 1 := fun e => by rw [e] at h1; cases h1
    obtain ⟨h2, h⟩ := bc2 h
    refine .inr (.inr (.inr ⟨h1, (bc3 h2).imp Nat.eq_of_beq_eq_true Nat.eq_of_beq_eq_true, ?_⟩))
    rcases bc_or h with ⟨h3, h⟩ | ⟨h3, h⟩
    · exact .inl ⟨h3, Nat.eq_of_beq_eq_true h⟩
    · exact .inr ⟨h3, Nat.eq_of_beq_eq_true h⟩
theorem found_es1 (h : D.found = false) : D.es1 = D.es := by
  unfold Dat.found at h
  unfold Dat.es1
  cases hq : pick D.cur D.es with
  | none => rfl
  | some q => rw [hq] at h; cases h
theorem dsK_told {n k : Nat} (hds : D.ds' = D.ds') (hn : n = 2 ∨ n = 4) (hk : k = n + 1 ∨ (D.known = true ∧ k = n)) : (D.dsK (k - 2)) = D.ds' := by
  unfold Dat.dsK
  rcases hk with rfl | ⟨hk, rfl⟩
  · rw [if_neg (by omega)]
  · rw [if_pos (by omega), Dat.ds'_eq, if_pos hk]
theorem ds'_first (h : D.ds = []) : D.ds' = [D.cur] := by
  have : D.known = false := by unfold Dat.known; rw [h]; rfl
  rw [Dat.ds'_eq, if_neg (by rw [this]; simp), h]
theorem Nx.mid (hci : c.i = D.i) (hnx : 8 ≤ c.nx) (hm : c.mode = 1) (hkn : c.known = true → D.known = true) (hhit : c.hit = false → D.found = false) (hz : c.zero = true → D.sz D.i = 0) (h0 : D.i = 0 → D.ds = []) : Nx (nuD D) (nuD (D.mid asg)) c asg where
  ci := by rw [hci]; exact D.hi
  nx6 := hnx
  comm := fun j h => sameA_mid.comm (by show qOf D asg 35 = _; unfold qOf; rw [if_pos (by omega)]) h
  txt := fun i hi => sameA_mid.x hi
  q := fun j e h1 h2 h => qOf_n rfl h1 h2 h
  tab := fun j o h1 h2 h3 _ h => tab_told rfl hkn (fun h => ds'_first (h0 (by omega))) h1 h2 h3 h
  zero := fun h => by
    show D.x c.i = []
    have hi := D.hi
    unfold Dat.x; rw [hci, if_pos hi]
    unfold Dat.zs; rw [hz h]; rfl
  lt := fun k n bs x vs hn h hb => by
    have ha : SameA D (D.mid asg) := sameA_mid
    rcases okLt_cases h with ⟨rfl, rfl⟩ | ⟨rfl, rfl⟩ | rfl | ⟨_, h⟩
    · exact .inr (B_0 (bs := bs) (x := x) ha (hb.resolve_left (by omega)))
    · exact .inr (B_1 (bs := bs) (x := x) ha (hb.resolve_left (by omega)))
    · exact .inl rfl
    · rcases h with ⟨h1, h2⟩ | ⟨h1, rfl⟩ | ⟨_, h1, h2⟩ | ⟨h1, _⟩
      · have hk := dsK_told (D := D) rfl h1 (h2.imp_right fun ⟨a, b⟩ => ⟨hkn a, b⟩)
        have hb : D.B k bs vs := hb.resolve_left (by omega)
        refine .inr (B_tab h1 (by omega) (by omega) ?_ (by omega) hb)
        rw [hk]
        unfold Dat.dsK; rw [if_pos (by omega)]; rfl
      · have hb : D.B k bs vs := hb.resolve_left (by omega)
        obtain ⟨j, rfl⟩ : ∃ j, k = 20 + j := ⟨k - 20, by omega⟩
        refine .inr (B_head (fun p hp e he hj => ⟨p, hp, e, ?_, hj⟩) hb)
        rw [← mid_esP (asg := asg) p]; exact he
      · have hb : D.B k bs vs := hb.resolve_left (by omega)
        refine .inr ?_
        rcases h1 with rfl | rfl <;> rcases h2 with rfl | ⟨h2, h3⟩
        · exact B_ent (p := 1) (q := 1) (by omega) (by omega) (mid_esP 1) hb
        · have : k = 6 := by omega
          subst this
          exact B_ent (p := 0) (q := 1) (by omega) (by omega) ((mid_esP 1).trans (found_es1 (hhit h2))) hb
        · exact B_root (p := 1) (q := 1) (by omega) (by omega) (mid_esP 1) ha hb
        · have : k = 10 := by omega
          subst this
          exact B_root (p := 0) (q := 1) (by omega) (by omega) ((mid_esP 1).trans (found_es1 (hhit h2))) ha hb
      · exact (h1 hm).elim
  row := fun cs n l vs bs ρ h hv hl => by
    unfold okRow at h
    rcases bc_or h with ⟨h1, _⟩ | ⟨_, h⟩
    · exact .inl (Nat.eq_of_beq_eq_true h1)
    rcases bc_or h with ⟨h1, _⟩ | ⟨_, h⟩
    · have := Nat.eq_of_beq_eq_true h1; omega
    rcases bc_or h with ⟨_, h⟩ | ⟨h1, _⟩
    case inr => rw [hm] at h1; cases h1
    obtain ⟨h2, h⟩ := bc2 h
    obtain ⟨h3, h⟩ := bc2 h
    obtain ⟨h4, _⟩ := bc2 h
    have h3 := Nat.eq_of_beq_eq_true h3
    have hi0 : D.i = 0 := by omega
    have hd := h0 hi0
    have h4 := lEq_of (avEq_of 8) h4
    subst h4
    have hdd : D.ds' = [D.cur] := by
      have : D.known = false := by unfold Dat.known; rw [hd]; rfl
      rw [Dat.ds'_eq, if_neg (by rw [this]; simp), hd]
    have hn220 : (nuD D).n 220 = D.cur := by
      have := m_dg D (t := 0) (by omega)
      rw [n_of _ (by omega), this]; unfold Dat.cur; rw [hi0]
    have hp : ∀ {ρ : Nm}, VRs (nuD D) ρ (pathV 220) [strV (pathF D.cur).1, strV (pathF D.cur).2] := fun {ρ} => by
      have := pathV_R (ν := nuD D) (ρ := ρ) (c := 220) (by rw [hn220]; exact D.cur_in)
      rw [hn220] at this; exact this
    refine .inr ?_
    have h2 := (bc3 h2).imp Nat.eq_of_beq_eq_true Nat.eq_of_beq_eq_true
    rcases h2 with rfl | rfl
    · have hu := str_unique (ρ2 := ρ) rfl hv ((hp (ρ := ρ)).append authV_R)
      show (D.mid asg).B 2 bs vs
      simp only [Dat.B, show ¬ (2 = 0) by omega, show ¬ (2 = 1) by omega, if_false, show 2 ≤ 5 by omega, if_true]
      have hk : (D.mid asg).dsK (2 - 2) = [D.cur] := by show D.ds' = _; exact hdd
      rw [hk]
      exact ⟨by simp, by rw [hu]; rfl⟩
    · have hu := str_unique (ρ2 := ρ) rfl hv (viaV_R.append ((hp (ρ := ρ)).append authV_R))
      show (D.mid asg).B 4 bs vs
      simp only [Dat.B, show ¬ (4 = 0) by omega, show ¬ (4 = 1) by omega, if_false, show 4 ≤ 5 by omega, if_true]
      have hk : (D.mid asg).dsK (4 - 2) = [D.cur] := by show D.ds' = _; exact hdd
      rw [hk]
      exact ⟨by simp, by rw [hu]; rfl⟩
end
end Go.AM
namespace Go.AM
open Go Go.Proofs
set_option linter.unusedVariables false
/-! # TopBudget: from a round's middle to the next one's head; ahead of the rounds -/
section
variable {D : Dat} {asg : T SI} {c : TC}
theorem sameA_next (h : D.i + 1 ≤ 14) : SameA D (D.next asg h) := ⟨rfl, rfl, rfl, rfl, rfl, fun j h => if_pos (.inr h)⟩
theorem sameA_pre : SameA D (D.pre asg) := ⟨rfl, rfl, rfl, rfl, rfl, fun j h => if_pos (.inr h)⟩
theorem next_es (h : D.i + 1 ≤ 14) : (D.next asg h).esP 0 = D.es2 := rfl
theorem fit_es2 (h : D.fit = false) : D.es2 = D.es1 := by unfold Dat.es2; rw [if_neg (by rw [h]; simp)]
theorem Nx.next (hi : D.i + 1 ≤ 14) (hb0 : ∀ e ∈ D.es, e.b < D.i) (hci : c.i = D.i) (hnx : 8 ≤ c.nx) (hm : c.mode = 2) (hkn : c.known = true → D.known = true) (hput : c.put = D.fit) (hz : c.zero = true → D.sz D.i = 0) (h0 : D.i = 0 → D.ds = [D.cur]) (hk1 : D.known = true) : Nx (nuD D) (nuD (D.next asg hi)) c asg where
  ci := by rw [hci]; exact D.hi
  nx6 := hnx
  comm := fun j h => (sameA_next hi).comm (by show qOf D asg 35 = _; unfold qOf; rw [if_pos (by omega)]) h
  txt := fun i h => (sameA_next hi).x h
  q := fun j e h1 h2 h => qOf_n rfl h1 h2 h
  tab := fun j o h1 h2 h3 _ h => tab_told rfl hkn (fun h => by rw [Dat.ds'_eq, if_pos hk1]; exact h0 (by omega)) h1 h2 h3 h
  zero := fun h => by
    show D.x c.i = []
    have hi := D.hi
    unfold Dat.x; rw [hci, if_pos hi]
    unfold Dat.zs; rw [hz h]; rfl
  lt := fun k n bs x vs hn h hb => by
    have ha : SameA D (D.next asg hi) := sameA_next hi
    rcases okLt_cases h with ⟨rfl, rfl⟩ | ⟨rfl, rfl⟩ | rfl | ⟨_, h⟩
    · exact .inr (B_0 (bs := bs) (x := x) ha (hb.resolve_left (by omega)))
    · exact .inr (B_1 (bs := bs) (x := x) ha (hb.resolve_left (by omega)))
    · exact .inl rfl
    · rcases h with ⟨h1, h2⟩ | ⟨h1, rfl⟩ | ⟨h1, _⟩ | ⟨_, h1, h2⟩
      · have hk := dsK_told (D := D) rfl h1 (h2.imp_right fun ⟨a, b⟩ => ⟨hkn a, b⟩)
        have hb : D.B k bs vs := hb.resolve_left (by omega)
        refine .inr (B_tab h1 (by omega) (by omega) ?_ (by omega) hb)
        rw [hk]
        unfold Dat.dsK; rw [if_pos (by omega)]; rfl
      · have hb : D.B k bs vs := hb.resolve_left (by omega)
        obtain ⟨j, rfl⟩ : ∃ j, k = 20 + j := ⟨k - 20, by omega⟩
        refine .inr (B_head (fun p hp e he hj => ?_) hb)
        rcases mem_esPn he with ⟨_, h⟩ | h
        · have : e.b = D.i + 1 := by rw [h]; rfl
          omega
        · exact ⟨2, by omega, e, h, hj⟩
      · rw [hm] at h1; cases h1
      · have hb : D.B k bs vs := hb.resolve_left (by omega)
        refine .inr ?_
        rcases h1 with rfl | rfl <;> rcases h2 with ⟨_, h3⟩ | ⟨h2, h3⟩
        · have : k = 8 := by omega
          subst this
          exact B_ent (p := 2) (q := 0) (by omega) (by omega) rfl hb
        · have : k = 7 := by omega
          subst this
          exact B_ent (p := 1) (q := 0) (by omega) (by omega) (fit_es2 (by rw [← hput, h2])) hb
        · have : k = 12 := by omega
          subst this
          exact B_root (p := 2) (q := 0) (by omega) (by omega) rfl ha hb
        · have : k = 11 := by omega
          subst this
          exact B_root (p := 1) (q := 0) (by omega) (by omega) (fit_es2 (by rw [← hput, h2])) ha hb
  row := fun cs n l vs bs ρ h hv hl => by
    unfold okRow at h
    rcases bc_or h with ⟨h1, _⟩ | ⟨_, h⟩
    · exact .inl (Nat.eq_of_beq_eq_true h1)
    rcases bc_or h with ⟨h1, _⟩ | ⟨_, h⟩
    · have := Nat.eq_of_beq_eq_true h1; omega
    rcases bc_or h with ⟨h1, _⟩ | ⟨_, h⟩
    · have := Nat.eq_of_beq_eq_true h1; omega
    obtain ⟨h1, h'⟩ := bc2 h
    clear h
    have h1 : n = 20 + c.i := Nat.eq_of_beq_eq_true h1
    subst h1
    have hp : c.put = false := by
      cases hq : c.put with
      | false => rfl
      | true => rw [hq] at h'; cases h'
    refine .inr ?_
    show (D.next asg hi).B (20 + c.i) bs vs
    simp only [Dat.B, show ¬ 20 + c.i = 0 by omega, show ¬ 20 + c.i = 1 by omega, show ¬ 20 + c.i ≤ 5 by omega, show ¬ 20 + c.i ≤ 8 by omega, show ¬ 20 + c.i < 10 by omega, show ¬ 20 + c.i ≤ 12 by omega, show 20 ≤ 20 + c.i by omega, if_true, if_false, show 20 + c.i - 20 = c.i by omega]
    rintro ⟨p, _, e, he, hj⟩
    exfalso
    rcases mem_esPn he with ⟨_, h⟩ | h
    · have : e.b = D.i + 1 := by rw [h]; rfl
      omega
    · have h : e ∈ D.es2 := h
      rw [fit_es2 (by rw [← hput, hp])] at h
      have := hb0 e (mem_es1 h)
      omega
theorem Nx.pre (hci : c.i = D.i) (hnx : 8 ≤ c.nx) (hm : c.mode = 0) (hzc : c.zero = false) (hes : D.es = []) : Nx (nuD D) (nuD (D.pre asg)) c asg where
  ci := by rw [hci]; exact D.hi
  nx6 := hnx
  comm := fun j h => sameA_pre.comm (by show qOf D asg 35 = _; unfold qOf; rw [if_pos (by omega)]) h
  txt := fun i h => sameA_pre.x h
  q := fun j e h1 h2 h => qOf_n rfl h1 h2 h
  tab := fun j o _ _ _ h _ => (h hm).elim
  zero := fun h => by rw [hzc] at h; cases h
  lt := fun k n bs x vs hn h hb => by
    have ha : SameA D (D.pre asg) := sameA_pre
    rcases okLt_cases h with ⟨rfl, rfl⟩ | ⟨rfl, rfl⟩ | rfl | ⟨h, _⟩
    · exact .inr (B_0 (bs := bs) (x := x) ha (hb.resolve_left (by omega)))
    · exact .inr (B_1 (bs := bs) (x := x) ha (hb.resolve_left (by omega)))
    · exact .inl rfl
    · exact (h hm).elim
  row := fun cs n l vs bs ρ h hv hl => by
    unfold okRow at h
    rcases bc_or h with ⟨h1, _⟩ | ⟨_, h⟩
    · exact .inl (Nat.eq_of_beq_eq_true h1)
    rcases bc_or h with ⟨_, h⟩ | ⟨h1, _⟩
    case inr => rw [hm] at h1; cases h1
    have he : (D.pre asg).esP 0 = [] := hes
    rcases bc_or h with ⟨h1, _⟩ | ⟨_, h⟩
    · have h1 := Nat.eq_of_beq_eq_true h1
      subst h1
      refine .inr ?_
      show (D.pre asg).B 6 bs vs
      simp only [Dat.B, show ¬ (6 = 0) by omega, show ¬ (6 = 1) by omega, show ¬ (6 ≤ 5) by omega, show 6 ≤ 8 by omega, if_false, if_true, Nat.sub_self]
      rw [he]; trivial
    · obtain ⟨h1, h⟩ := bc2 h
      obtain ⟨h2, h3⟩ := bc2 h
      have h1 := Nat.eq_of_beq_eq_true h1
      subst h1
      have h3 := Nat.eq_of_beq_eq_true h3
      have h2 := lEq_of (avEq_of 8) h2
      subst h2
      obtain ⟨v1, l1, rfl, a1, hv⟩ := hv.cons
      obtain ⟨v2, l2, rfl, a2, hv⟩ := hv.cons
      obtain ⟨v3, l3, rfl, a3, hv⟩ := hv.cons
      cases hv.nil
      have a1 : v1 = .slice none 0 0 := a1
      have a2 : v2 = .int .i64 0 := a2
      have a3 : v3 = .int .i64 (0 + (1 * (nuD D).n 33 + 0)) := a3
      refine .inr ?_
      show (D.pre asg).B 10 bs _
      simp only [Dat.B, show ¬ (10 = 0) by omega, show ¬ (10 = 1) by omega, show ¬ (10 ≤ 5) by omega, show ¬ (10 ≤ 8) by omega, show ¬ (10 < 10) by omega, show 10 ≤ 12 by omega, if_false, if_true, Nat.sub_self]
      rw [he]
      cases bs with
      | nil => simp at hl; omega
      | cons p ps =>
        refine ⟨p, ps, rfl, v1, ?_, .inl ⟨rfl, a1⟩⟩
        rw [a2, a3, n_of _ (by omega), m_bud]
        show [v1, Value.int .i64 0, Value.int .i64 (0 + (1 * D.bud + 0))] = [v1, .int .i64 0, .int .i64 (D.pre asg).bud]
        have : (D.pre asg).bud = D.bud := rfl
        rw [this, show (0 : Int) + (1 * D.bud + 0) = D.bud by omega]
end
end Go.AM
namespace Go.AM
open Go Go.Proofs
set_option linter.unusedVariables false
/-! # TopBudget: the letters lie within their bounds -/
/-- the arguments are such as the program may be given -/
structure Dat.Arg (D : Dat) : Prop where
  bI : bMin ≤ D.bI ∧ D.bI ≤ bBig
  lp : ∀ t, t ≤ 14 → bMin ≤ D.lp t ∧ D.lp t ≤ bBig
  sp : ∀ t, t ≤ 14 → bMin ≤ D.sp t ∧ D.sp t ≤ bBig
  q32 : D.q 32 = 0
  q35 : D.q 35 = 0
structure BOk (D : Dat) (x : BX) : Prop where
  z : x.z.1 ≤ (D.sz D.i : Nat) ∧ ((D.sz D.i : Nat) : Int) ≤ x.z.2
  bud : x.bud.1 ≤ D.bud ∧ D.bud ≤ x.bud.2
  ln : x.ln.1 ≤ D.ln ∧ (D.ln : Int) ≤ x.ln.2
  sn : x.sn.1 ≤ D.sn ∧ (D.sn : Int) ≤ x.sn.2
  kn : x.kn.1 ≤ (if D.known then 1 else 0) ∧ (if D.known then (1 : Int) else 0) ≤ x.kn.2
  hit : x.hit.1 ≤ (if D.found then 1 else 0) ∧ (if D.found then (1 : Int) else 0) ≤ x.hit.2
  dif : x.dif.1 ≤ D.bud - (D.sz D.i : Nat) ∧ D.bud - (D.sz D.i : Nat) ≤ x.dif.2
  q : ∀ j, 38 ≤ j → j ≤ 47 → 0 ≤ D.q j ∧ D.q j ≤ x.q
section
variable {D : Dat}
theorem sz_le (D : Dat) (t : Nat) : (D.sz t : Int) ≤ 4000 := by
  unfold Dat.sz
  split
  · have := wth_in (lo := 0) (hi := 4000) (n := D.sp t) (by omega); omega
  · simp
theorem fb_le (h : D.Good) : (D.fb.length : Int) ≤ 4000 := by
  unfold Dat.fb
  cases hp : pick D.cur D.es with
  | none => simp
  | some q =>
    obtain ⟨f, r⟩ := q
    obtain ⟨a, b, h1, _, _, _⟩ := pick_some hp
    have := h.ge.body (e := f) (by rw [h1]; simp)
    show (f.body.length : Int) ≤ 4000
    omega
theorem rest_le (D : Dat) : cost D.rest ≤ cost D.es ∧ D.rest.length ≤ D.es.length := by
  unfold Dat.rest
  cases hp : pick D.cur D.es with
  | none => exact ⟨Int.le_refl _, Nat.le_refl _⟩
  | some q =>
    obtain ⟨f, r⟩ := q
    obtain ⟨a, b, h1, h2, _, _⟩ := pick_some hp
    show cost r ≤ _ ∧ r.length ≤ _
    rw [h1, h2]
    simp only [cost_append, cost, List.length_append, List.length_cons]
    have : 0 ≤ cost1 f := by unfold cost1; omega
    omega
theorem es2_le (h : D.Good) : cost D.es2 ≤ D.bud ∧ D.es2.length ≤ D.i + 1 := by
  unfold Dat.es2
  split
  · rename_i hf
    have hroom : 0 ≤ D.bud - cost1 D.new := by
      unfold Dat.fit at hf
      have := of_decide_eq_true hf
      have : cost1 D.new = 133 + (D.sz D.i : Int) := by unfold cost1 Dat.new; simp [Dat.zs]
      omega
    obtain ⟨m, m1, m2, m3, _⟩ := evict_spec hroom D.rest
    rw [m2]
    have := (rest_le D).2
    have := h.el
    have hl : (D.rest.take m).length ≤ D.rest.length := by rw [List.length_take]; omega
    simp only [cost, List.length_cons]
    omega
  · have := h.ge1
    exact ⟨this.ec, Nat.le_succ_of_le this.el⟩
theorem esP_le (h : D.Good) (p : Nat) : cost (D.esP p) ≤ D.bud ∧ (D.esP p).length ≤ D.i + 1 := by
  unfold Dat.esP
  split
  · exact ⟨h.ec, Nat.le_succ_of_le h.el⟩
  · split
    · exact ⟨h.ge1.ec, Nat.le_succ_of_le h.ge1.el⟩
    · exact es2_le h
theorem tab_bounds (h : D.Good) (k : Nat) : 1 ≤ (tabF k (D.dsK k)).length ∧ (tabF k (D.dsK k)).length ≤ 17 ∧ 1 ≤ sizeF (tabF k (D.dsK k)) ∧ sizeF (tabF k (D.dsK k)) ≤ 1000 := by
  have hl := h.l' k
  unfold tabF
  split
  · rw [clientF_len, clientF_size]; omega
  · by_cases he : D.dsK k = []
    · rw [he]
      have : sizeF (originF []) = 43 := by show sizeF [authF] = _; rw [sizeF_cons]; simp [authF, sizeF]
      rw [this]
      exact ⟨by simp [originF], by simp [originF], by omega, by omega⟩
    · rw [originF_len he, originF_size he]; omega
theorem pos_bounds (h : D.Good) (k j : Nat) : 1 ≤ posF k j D.cur (D.dsK k) ∧ posF k j D.cur (D.dsK k) ≤ 20 := by
  have hl := h.l' k
  have ht := tab_bounds h k
  unfold posF
  split
  · omega
  · split
    · split
      · omega
      · omega
    · split
      · rename_i ha
        obtain ⟨hlt, _⟩ := idxD_in (any_mem.1 ha)
        rw [posD_idx]
        split
        · omega
        · split <;> omega
      · omega
theorem bdX_ok (hG : D.Good) (hA : D.Arg) {x : BX} (hx : BOk D x) : (nuD D).Ok (bdX D.i x) := by
  intro j lo hi he
  rw [lget_eq] at he
  have h262 : j < 262 := by have := (List.getElem?_eq_some_iff.1 he).1; simpa [bdX] using this
  have he : bdJ D.i x j = (lo, hi) := by
    unfold bdX at he
    rw [List.getElem?_map, List.getElem?_range h262] at he
    exact Option.some.inj he
  have hib := D.hi
  unfold bdJ at he
  rcases bc_or he with ⟨h1, he⟩ | ⟨h1, he⟩
  · have h1 := Nat.le_of_ble_eq_true h1
    rw [n_sz _ h1]
    rcases bc_or he with ⟨h2, hz⟩ | ⟨_, he⟩
    · have h2 := Nat.eq_of_beq_eq_true h2
      subst h2
      have := hx.z
      rw [hz] at this; exact this
    · cases he
      have := sz_le D j
      omega
  have g1 := ble_false h1
  rcases bc_or he with ⟨h2, he⟩ | ⟨h2, he⟩
  · have h2 := Nat.eq_of_beq_eq_true h2
    subst h2; cases he
    have : (nuD D).n 15 = (D.fb.length : Int) := rfl
    rw [this]
    have := fb_le hG
    omega
  have g2 : j ≠ 15 := by intro e; subst e; cases h2
  rcases bc_or he with ⟨h3, he⟩ | ⟨h3, he⟩
  · have h3 := Nat.le_of_ble_eq_true h3
    cases he
    have : (nuD D).n j = 0 := by
      by_cases h31 : j ≤ 31
      · unfold Vl.n; rw [if_pos h31]
        show (((if j ≤ 14 then D.zs j else if j = 15 then D.fb else []) : List UInt8).length : Int) = 0
        rw [if_neg (by omega), if_neg g2]; rfl
      · have : j = 32 := by omega
        subst this
        rw [n_of _ (by omega)]
        exact hA.q32
    rw [this]; exact ⟨Int.le_refl _, Int.le_refl _⟩
  have g3 := ble_false h3
  rw [n_of _ (by omega)]
  rcases bc_or he with ⟨h4, hz⟩ | ⟨h4, he⟩
  · have h4 := Nat.eq_of_beq_eq_true h4
    subst h4
    have := hx.bud
    rw [hz] at this; rw [m_bud]; exact this
  rcases bc_or he with ⟨h5, he⟩ | ⟨h5, he⟩
  · have h5 := Nat.eq_of_beq_eq_true h5
    subst h5; cases he
    rw [m_bI]; exact hA.bI
  rcases bc_or he with ⟨h6, he⟩ | ⟨h6, he⟩
  · have h6 := Nat.eq_of_beq_eq_true h6
    subst h6; cases he
    rw [m_35, hA.q35]; exact ⟨Int.le_refl _, Int.le_refl _⟩
  rcases bc_or he with ⟨h7, hz⟩ | ⟨h7, he⟩
  · have h7 := Nat.eq_of_beq_eq_true h7
    subst h7
    have := hx.ln
    rw [hz] at this; rw [m_ln]; exact this
  rcases bc_or he with ⟨h8, hz⟩ | ⟨h8, he⟩
  · have h8 := Nat.eq_of_beq_eq_true h8
    subst h8
    have := hx.sn
    rw [hz] at this; rw [m_sn]; exact this
  have nb : ∀ k, Nat.beq j k = false → j ≠ k := fun k h e => by subst e; rw [Nat.beq_refl] at h; cases h
  have g4 := nb _ h4
  have g5 := nb _ h5
  have g6 := nb _ h6
  have g7 := nb _ h7
  have g8 := nb _ h8
  rcases bc_or he with ⟨h9, he⟩ | ⟨h9, he⟩
  · have h9 := Nat.le_of_ble_eq_true h9
    cases he
    rw [m_q _ (by omega) (by omega)]
    exact hx.q j (by omega) h9
  have g9 := ble_false h9
  rcases bc_or he with ⟨ha, he⟩ | ⟨ha, he⟩
  · have ha := Nat.le_of_ble_eq_true ha
    cases he
    obtain ⟨k, rfl⟩ : ∃ k, j = 48 + k := ⟨j - 48, by omega⟩
    rw [m_tl _ (by omega)]
    have := tab_bounds hG k
    omega
  have ga := ble_false ha
  rcases bc_or he with ⟨hb, he⟩ | ⟨hb, he⟩
  · have hb := Nat.le_of_ble_eq_true hb
    cases he
    obtain ⟨k, rfl⟩ : ∃ k, j = 52 + k := ⟨j - 52, by omega⟩
    rw [m_ts _ (by omega)]
    have := tab_bounds hG k
    omega
  have gb := ble_false hb
  rcases bc_or he with ⟨hc, he⟩ | ⟨hc, he⟩
  · have hc := Nat.le_of_ble_eq_true hc
    cases he
    obtain ⟨k, r, rfl, hk, hr⟩ : ∃ k r, j = 56 + (3 * k + r) ∧ k < 4 ∧ r < 3 := ⟨(j - 56) / 3, (j - 56) % 3, by omega, by omega, by omega⟩
    rw [m_pos _ hk hr]
    have := pos_bounds hG k r
    omega
  have gc := ble_false hc
  rcases bc_or he with ⟨hd, he⟩ | ⟨hd, he⟩
  · have hd := Nat.eq_of_beq_eq_true hd
    subst hd; cases he
    rw [m_i]; exact ⟨Int.le_refl _, Int.le_refl _⟩
  rcases bc_or he with ⟨hf, hz⟩ | ⟨hf, he⟩
  · have hf := Nat.eq_of_beq_eq_true hf
    subst hf
    have := hx.kn
    rw [hz] at this; rw [m_known]; exact this
  rcases bc_or he with ⟨hg, hz⟩ | ⟨hg, he⟩
  · have hg := Nat.eq_of_beq_eq_true hg
    subst hg
    have := hx.hit
    rw [hz] at this; rw [m_found]; exact this
  have gd := nb _ hd
  have gf := nb _ hf
  have gg := nb _ hg
  rcases bc_or he with ⟨hh, he⟩ | ⟨hh, he⟩
  · have hh := Nat.le_of_ble_eq_true hh
    cases he
    obtain ⟨p, rfl⟩ : ∃ p, j = 71 + p := ⟨j - 71, by omega⟩
    rw [m_slack _ (by omega)]
    have := esP_le hG p
    have := cost_nn (D.esP p)
    have := bud_in D
    omega
  have gh := ble_false hh
  rcases bc_or he with ⟨hi', he⟩ | ⟨hi', he⟩
  · have hi' := Nat.le_of_ble_eq_true hi'
    cases he
    obtain ⟨p, rfl⟩ : ∃ p, j = 74 + p := ⟨j - 74, by omega⟩
    rw [m_len _ (by omega)]
    have := esP_le hG p
    omega
  have gi := ble_false hi'
  rcases bc_or he with ⟨hj, hz⟩ | ⟨hj, he⟩
  · have hj := Nat.eq_of_beq_eq_true hj
    subst hj
    have := hx.dif
    rw [hz] at this; rw [m_dif]; exact this
  have gj := nb _ hj
  rcases bc_or he with ⟨hk, he⟩ | ⟨hk, he⟩
  · rw [Bool.and_eq_true] at hk
    have k1 := Nat.le_of_ble_eq_true hk.1
    have k2 := Nat.le_of_ble_eq_true hk.2
    cases he
    obtain ⟨t, rfl⟩ : ∃ t, j = 200 + t := ⟨j - 200, by omega⟩
    rw [m_lp _ (by omega)]; exact hA.lp t (by omega)
  rcases bc_or he with ⟨hl, he⟩ | ⟨hl, he⟩
  · rw [Bool.and_eq_true] at hl
    have k1 := Nat.le_of_ble_eq_true hl.1
    have k2 := Nat.le_of_ble_eq_true hl.2
    cases he
    obtain ⟨t, rfl⟩ : ∃ t, j = 220 + t := ⟨j - 220, by omega⟩
    rw [m_dg _ (by omega)]; exact wth_in (by omega)
  rcases bc_or he with ⟨hm, he⟩ | ⟨hm, he⟩
  · rw [Bool.and_eq_true] at hm
    have k1 := Nat.le_of_ble_eq_true hm.1
    have k2 := Nat.le_of_ble_eq_true hm.2
    cases he
    obtain ⟨t, rfl⟩ : ∃ t, j = 240 + t := ⟨j - 240, by omega⟩
    rw [m_sp _ (by omega)]; exact hA.sp t (by omega)
  have nr : ∀ a b, (Nat.ble a j && Nat.ble j b) = false → ¬ (a ≤ j ∧ j ≤ b) := fun a b h e => by
    have h1 : Nat.ble a j = true := by rw [nble]; exact decide_eq_true e.1
    have h2 : Nat.ble j b = true := by rw [nble]; exact decide_eq_true e.2
    rw [h1, h2] at h; cases h
  have gk := nr _ _ hk
  have gl := nr _ _ hl
  have gm := nr _ _ hm
  cases he
  have : D.m j = 0 := by
    unfold Dat.m
    rw [if_neg g4, if_neg g5, if_neg g7, if_neg g8, if_neg (by omega), if_neg (by omega), if_neg (by omega), if_neg (by omega), if_neg gd, if_neg gf, if_neg gg, if_neg (by omega), if_neg (by omega), if_neg gj, if_neg (by omega), if_neg (by omega), if_neg (by omega), if_neg (by omega)]
  rw [this]; exact ⟨Int.le_refl _, Int.le_refl _⟩
end
end Go.AM
