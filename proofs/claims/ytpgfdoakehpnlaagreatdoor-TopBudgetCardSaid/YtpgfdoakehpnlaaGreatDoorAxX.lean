import Derived.Test.YtpgfdoakehpnlaaGreatDoorAxW
set_option linter.unusedVariables false
set_option linter.unusedSimpArgs false
namespace Go.AM
open Go Go.Proofs
set_option linter.unusedVariables false
/-! # TopBudget: what is told anew holds -/
/-- from one round's letters to another's -/
structure Nx (ν ν' : Vl) (c : TC) (asg : T SI) : Prop where
  ci : c.i ≤ 14
  nx6 : 8 ≤ c.nx
  comm : ∀ j, commL j = true → ν'.n j = ν.n j
  txt : ∀ i, i ≤ 14 → ν'.x i = ν.x i
  q : ∀ j e, 38 ≤ j → j ≤ 47 → asg.get j = some e → ν'.n j = e.den ν
  tab : ∀ j o, 48 ≤ j → j ≤ 55 → j % 2 = 0 → c.mode ≠ 0 → okTab c j o = true → ν'.n j = o.den ν
  zero : c.zero = true → ν.x c.i = []
  lt : ∀ k n bs x vs, n ≤ 20 + c.i → okLt c k n = true → (k = 9 ∨ ν.B k bs vs) → n = 9 ∨ ν'.B n (bs ++ x) vs
  row : ∀ (cs : List AV) n l vs bs (ρ : Nm), okRow c cs n l = true → VRs ν ρ cs vs → bs.length = l.length → n = 9 ∨ ν'.B n bs vs
/-- the names, as they are told -/
noncomputable def rnm (M : T Nat) (nx : Nat) (ρ : Nm) : Nm := fun b => if b < 8 then ρ b else if b < nx then (match M.get b with | some c => if 8 ≤ c then ρ c else none | none => none) else none
/-- no promise about rounds to come -/
def topB (i : Nat) (A : AB) : Bool := match A with
  | .lt k _ => Nat.ble k (20 + i)
  | _ => true
section
variable {ν ν' : Vl} {c : TC} {asg : T SI} {M R : T Nat} {ρ : Nm}
theorem comm_lin (h : Nx ν ν' c asg) : ∀ {v : List (Nat × Int)}, commV v = true → linD ν' v = linD ν v
  | [], _ => rfl
  | (i, k) :: v, hv => by
    have hv : (commL i && v.all fun p => commL p.1) = true := hv
    rw [Bool.and_eq_true] at hv
    show k * ν'.n i + linD ν' v = k * ν.n i + linD ν v
    rw [h.comm i hv.1, comm_lin h hv.2]
theorem comm_den (h : Nx ν ν' c asg) {e : SI} (he : commS e = true) : e.den ν' = e.den ν := by
  cases e with
  | k n => rfl
  | lin n v => show n + linD ν' v = n + linD ν v; rw [comm_lin h he]
  | bt n v i s => show ((n + linD ν' v) / 256 ^ i) % 256 * 2 ^ s = _; rw [comm_lin h he]; rfl
theorem okSame_den (h : Nx ν ν' c asg) {o n : SI} (k : okSame o n = true) : n.den ν' = o.den ν := by
  obtain ⟨h1, h2⟩ := bc2 k
  have := siEq_of h1
  subst this
  exact comm_den h h2
theorem isLet_eq {e : SI} {j : Nat} (h : isLet e = some j) : e = .lin 0 [(j, 1)] := by
  unfold isLet at h
  split at h
  · cases h; rfl
  · cases h
theorem okSI_den (h : Nx ν ν' c asg) {o n : SI} (k : okSI c asg o n = true) : n.den ν' = o.den ν := by
  unfold okSI at k
  split at k
  · rename_i j hj
    have hn := isLet_eq hj
    have hd : n.den ν' = ν'.n j := by rw [hn]; show 0 + (1 * ν'.n j + 0) = _; omega
    rcases bc_or k with ⟨h1, k⟩ | ⟨_, k⟩
    · rw [Bool.and_eq_true] at h1
      split at k
      · rename_i e he
        have := siEq_of k
        subst this
        rw [hd]
        exact h.q j _ (Nat.le_of_ble_eq_true h1.1) (Nat.le_of_ble_eq_true h1.2) he
      · cases k
    · rcases bc_or k with ⟨h1, k⟩ | ⟨_, k⟩
      · rw [Bool.and_eq_true] at h1
        obtain ⟨h2, k⟩ := bc2 k
        have h2 : j % 2 = 0 := Nat.eq_of_beq_eq_true h2
        rw [hd]
        rcases bc_or k with ⟨_, k⟩ | ⟨h3, k⟩
        · cases k
        · refine h.tab j o (Nat.le_of_ble_eq_true h1.1) (Nat.le_of_ble_eq_true h1.2) h2 (fun e => ?_) k
          rw [e] at h3; cases h3
      · exact okSame_den h k
  · exact okSame_den h k
theorem commP_den (h : Nx ν ν' c asg) {p : Pc} (k : commP p = true) : p.den ν' = p.den ν := by
  cases p with
  | lit l n => rfl
  | var i =>
    have hi := Nat.le_of_ble_eq_true k
    show ν'.t i = ν.t i
    unfold Vl.t
    rw [if_pos (by omega), if_pos (by omega), h.txt i hi]
  | one e => show [UInt8.ofNat (e.den ν').toNat] = _; rw [comm_den h k]; rfl
theorem commSS_den (h : Nx ν ν' c asg) : ∀ {s : SS}, s.all commP = true → sden ν' s = sden ν s
  | [], _ => rfl
  | p :: s, k => by
    rw [List.all_cons, Bool.and_eq_true] at k
    show p.den ν' ++ sden ν' s = p.den ν ++ sden ν s
    rw [commP_den h k.1, commSS_den h k.2]
theorem okSS_den (h : Nx ν ν' c asg) {o n : SS} (k : okSS c o n = true) : sden ν' n = sden ν o := by
  unfold okSS at k
  rcases bc_or k with ⟨h1, k⟩ | ⟨_, k⟩
  · have := lEq_of pcEq_of h1
    subst this
    exact commSS_den h k
  · have hx := h.ci
    split at k
    · rename_i i
      obtain ⟨hz, hi⟩ := bc2 k
      have hi := Nat.eq_of_beq_eq_true hi
      subst hi
      show ν'.t c.i ++ [] = []
      rw [List.append_nil]
      unfold Vl.t; rw [if_pos (by omega), h.txt _ hx, h.zero hz]
    · rename_i i
      obtain ⟨hz, hi⟩ := bc2 k
      have hi := Nat.eq_of_beq_eq_true hi
      subst hi
      show [] = ν.t c.i ++ []
      rw [List.append_nil]
      unfold Vl.t; rw [if_pos (by omega), h.zero hz]
    · cases k
theorem okN_ok {o n : Nat} (k : okN c M o n = true) {p : Nat × Nat} (hp : ρ o = some p) : rnm M c.nx ρ n = some p := by
  unfold okN at k
  rcases bc_or k with ⟨h6, k⟩ | ⟨h6, k⟩
  · have h6 := Nat.le_of_ble_eq_true h6
    obtain ⟨hn, k⟩ := bc2 k
    have hn : n < c.nx := Nat.le_of_ble_eq_true hn
    unfold rnm
    rw [if_neg (by omega), if_pos hn]
    obtain ⟨ho, k⟩ := bc2 k
    split at k
    · rename_i b hb
      rw [hb, Nat.eq_of_beq_eq_true k]
      show (if 8 ≤ o then ρ o else none) = _
      rw [if_pos (Nat.le_of_ble_eq_true ho)]; exact hp
    · cases k
  · have h6 := ble_false h6
    have k := Nat.eq_of_beq_eq_true k
    subst k
    unfold rnm; rw [if_pos h6]; exact hp
theorem okCp_ok (h : Nx ν ν' c asg) {o n : Cp} (k : okCp c asg o n = true) {cc : Nat} (hc : capR ν o cc) : capR ν' n cc := by
  unfold okCp at k
  split at k
  · split at k
    · have := okSI_den h k
      have hc : _ = (cc : Int) := hc
      show _ = (cc : Int)
      rw [this]; exact hc
    · cases k
  · rename_i e
    rcases bc_or k with ⟨h1, _⟩ | ⟨_, k⟩
    · have := siEq_of h1
      subst this
      show (0 : Int) ≤ cc
      omega
    · have := okSI_den h k
      show e.den ν' ≤ cc
      rw [this]; exact low_capR hc
theorem okL_vs {f : AV → AV → Bool} (hf : ∀ o n v, f o n = true → VR ν ρ o v → VR ν' (rnm M c.nx ρ) n v) : ∀ {m l : List AV} {vs : List Value}, okL f m l = true → VRs ν ρ m vs → VRs ν' (rnm M c.nx ρ) l vs
  | [], [], vs, _, h => h
  | [], _ :: _, _, k, _ => by cases k
  | _ :: _, [], _, k, _ => by cases k
  | x :: m, y :: l, vs, k, h => by
    obtain ⟨k1, k2⟩ := bc2 (show bc (f x y) (okL f m l) false = true from k)
    obtain ⟨v, us, rfl, h1, h2⟩ := h.cons
    exact VRs.mk (hf _ _ _ k1 h1) (okL_vs hf k2 h2)
theorem okV_ok (h : Nx ν ν' c asg) : ∀ (f : Nat) (o n : AV) (v : Value), okV c M asg f o n = true → VR ν ρ o v → VR ν' (rnm M c.nx ρ) n v
  | 0, _, _, _, k, _ => by cases k
  | f + 1, o, n, v, k, hv => by
    have ih := okV_ok h f
    cases n <;> cases o <;> first | (cases k; done) | exact hv | skip
    case bool.bool b d =>
      have hv : v = .bool d := hv
      have : d = b := by revert k; cases b <;> cases d <;> first | (intro _; rfl) | (intro k; cases k)
      rw [hv, this]; rfl
    case int.int k1 e k2 d =>
      obtain ⟨h1, h2⟩ := bc2 k
      have h1 := of_decide_eq_true h1
      have hv : v = .int k2 (d.den ν) := hv
      show v = .int k1 (e.den ν')
      rw [hv, okSI_den h h2, h1]
    case str.str s t =>
      have hv : v = strV (sden ν t) := hv
      show v = strV (sden ν' s)
      rw [hv, okSS_den h k]
    case flt.flt =>
      obtain ⟨h1, h2⟩ := bc2 k
      have h1 := of_decide_eq_true h1
      have h2 := Nat.eq_of_beq_eq_true h2
      subst h1; subst h2
      exact hv
    case ptr.ptr =>
      obtain ⟨h1, h2⟩ := bc2 k
      obtain ⟨r, sz, oo, a1, a2, a3⟩ := hv
      exact ⟨r, sz, oo, okN_ok h1 a1, by rw [okSI_den h h2]; exact a2, a3⟩
    case sl.sl b e l cp z b2 o2 l2 c2 z2 =>
      obtain ⟨h1, k⟩ := bc2 k
      obtain ⟨h2, k⟩ := bc2 k
      obtain ⟨h3, k⟩ := bc2 k
      obtain ⟨h4, h5⟩ := bc2 k
      have h5 := Nat.eq_of_beq_eq_true h5
      subst h5
      obtain ⟨r, sz, oo, nn, cc, a1, a2, a3, a4, a5, a6, a7⟩ := hv
      exact ⟨r, sz, oo, nn, cc, okN_ok h1 a1, a2.imp_right (fun a2 => by rw [okSI_den h h2]; exact a2), by rw [okSI_den h h3]; exact a3, okCp_ok h h4 a4, a5, a6, a7⟩
    case fn.fn =>
      obtain ⟨h1, k⟩ := bc2 k
      obtain ⟨h2, h3⟩ := bc2 k
      have h1 := Nat.eq_of_beq_eq_true h1
      subst h1
      obtain ⟨xs, ys, a1, a2, a3⟩ := hv
      exact ⟨xs, ys, okL_vs ih h2 a1, okL_vs ih h3 a2, a3⟩
    case agg.agg =>
      obtain ⟨us, a1, a2, a3⟩ := hv
      exact ⟨us, okL_vs ih k a1, a2, a3⟩
    case tup.tup =>
      obtain ⟨us, a1, a2⟩ := hv
      exact ⟨us, okL_vs ih k a1, a2⟩
    case map.map =>
      obtain ⟨r, sz, a1, a2⟩ := hv
      exact ⟨r, sz, okN_ok k a1, a2⟩
theorem okM_ok (h : Nx ν ν' c asg) : ∀ {fs es : List (AV × AV)} {l : List MapEntry}, okL (fun p q => bc (okV c M asg 8 p.1 q.1) (okV c M asg 8 p.2 q.2) false) fs es = true → MR ν ρ fs l → MR ν' (rnm M c.nx ρ) es l
  | [], [], _, _, h => h
  | [], _ :: _, _, k, _ => by cases k
  | _ :: _, [], _, k, _ => by cases k
  | (a, b) :: fs, (a', b') :: es, l, k, hm => by
    obtain ⟨k1, k2⟩ := bc2 (show bc (bc (okV c M asg 8 a a') (okV c M asg 8 b b') false) (okL _ fs es) false = true from k)
    obtain ⟨k3, k4⟩ := bc2 k1
    obtain ⟨e, l', h1, h2, h3, h4⟩ := hm
    exact ⟨e, l', h1, okV_ok h 8 _ _ _ k3 h2, okV_ok h 8 _ _ _ k4 h3, okM_ok h k2 h4⟩
variable {nx : Nat} {H : T AB} {w : World}
theorem okLv_ok (hr : HR ν ρ nx H w) {n : Nat} (k : okLv c M H n = true) : ∃ p, rnm M c.nx ρ n = some p := by
  unfold okLv at k
  obtain ⟨h6, k⟩ := bc2 k
  obtain ⟨hn, k⟩ := bc2 k
  have h6 := Nat.le_of_ble_eq_true h6
  have hn : n < c.nx := Nat.le_of_ble_eq_true hn
  split at k
  · rename_i b hb
    obtain ⟨hb6, k⟩ := bc2 k
    split at k
    · rename_i A hA
      obtain ⟨r, sz, _, h1, _⟩ := hr.blk b A hA
      refine ⟨(r, sz), ?_⟩
      unfold rnm; rw [if_neg (by omega), if_pos hn, hb]
      show (if 8 ≤ b then ρ b else none) = _
      rw [if_pos (Nat.le_of_ble_eq_true hb6)]; exact h1
    · cases k
  · cases k
theorem okNs_ok (hr : HR ν ρ nx H w) {more : Bool} : ∀ {m l : List Nat} {bs : List (Nat × Nat)}, okNs c M H more m l = true → LR ρ m bs → ∃ x, LR (rnm M c.nx ρ) l (bs ++ x)
  | [], [], bs, _, h => ⟨[], by rw [h.nil]; exact LR.mk0⟩
  | [], [b], bs, k, h => by
    obtain ⟨_, k⟩ := bc2 (show bc more (okLv c M H b) false = true from k)
    obtain ⟨p, hp⟩ := okLv_ok hr k
    exact ⟨[p], by rw [h.nil]; exact LR.mk hp LR.mk0⟩
  | [], _ :: _ :: _, _, k, _ => by cases k
  | _ :: _, [], _, k, _ => by cases k
  | a :: m, b :: l, bs, k, h => by
    obtain ⟨k1, k2⟩ := bc2 (show bc (okN c M a b) (okNs c M H more m l) false = true from k)
    obtain ⟨p, ps, rfl, h1, h2⟩ := h.cons
    obtain ⟨x, hx⟩ := okNs_ok hr k2 h2
    exact ⟨x, LR.mk (okN_ok k1 h1) hx⟩
theorem okLvs_ok (hr : HR ν ρ nx H w) : ∀ {l : List Nat}, l.all (okLv c M H) = true → ∃ bs, LR (rnm M c.nx ρ) l bs ∧ bs.length = l.length
  | [], _ => ⟨[], LR.mk0, rfl⟩
  | n :: l, k => by
    rw [List.all_cons, Bool.and_eq_true] at k
    obtain ⟨p, hp⟩ := okLv_ok hr k.1
    obtain ⟨bs, h1, h2⟩ := okLvs_ok hr k.2
    exact ⟨p :: bs, LR.mk hp h1, by simp [h2]⟩
theorem okB_ok (h : Nx ν ν' c asg) (hr : HR ν ρ nx H w) {o n : AB} (ht : topB c.i n = true) {sz : Nat} {obj : Obj} (k : okB c M asg H o n = true) (hb : BR ν ρ o sz obj) : BR ν' (rnm M c.nx ρ) n sz obj := by
  cases n with
  | row l =>
    cases o <;> first | (cases k; done) | skip
    obtain ⟨vs, h1, h2⟩ := hb
    exact ⟨vs, okL_vs (okV_ok h 8) k h1, h2⟩
  | byt s =>
    cases o <;> first | (cases k; done) | skip
    rename_i t
    have hb : cellsR ((sden ν t).map byteV) sz obj := hb
    show cellsR ((sden ν' s).map byteV) sz obj
    rw [okSS_den h k]; exact hb
  | map es =>
    cases o <;> first | (cases k; done) | skip
    obtain ⟨l, cl, h1, h2⟩ := hb
    exact ⟨l, cl, h1, okM_ok h k h2⟩
  | lt kk l =>
    cases o with
    | byt _ => cases k
    | map _ => cases k
    | row cs =>
      obtain ⟨k1, k2⟩ := bc2 (show bc (okRow c cs kk l) (l.all (okLv c M H)) false = true from k)
      obtain ⟨vs, h1, h2, h3, h4⟩ := hb
      obtain ⟨bs, b1, b2⟩ := okLvs_ok hr k2
      exact ⟨vs, bs, h3, h4, b1, h.row cs kk l vs bs ρ k1 h1 b2⟩
    | lt j m =>
      obtain ⟨k1, k2⟩ := bc2 (show bc (okLt c j kk) (okNs c M H (bc c.put false (Nat.beq c.mode 2)) m l) false = true from k)
      obtain ⟨vs, bs, h1, h2, h3, h4⟩ := hb
      obtain ⟨x, hx⟩ := okNs_ok hr k2 h3
      exact ⟨vs, bs ++ x, h1, h2, hx, h.lt j kk bs x vs (Nat.le_of_ble_eq_true ht) k1 h4⟩
theorem okE_ok (h : Nx ν ν' c asg) {e : T AV} {l : List (Nat × AV)} (k : okE c M asg e l = true) {n : Nat} {a : Act} (he : ER ν ρ n e a) : ER ν' (rnm M c.nx ρ) n (mkT l) a := by
  refine ⟨he.defers, he.size, fun t x hx => ?_⟩
  have := List.all_eq_true.1 k _ (mkT_get hx)
  simp only at this
  cases hq : e.get t with
  | none => rw [hq] at this; cases this
  | some y => rw [hq] at this; exact okV_ok h 8 _ _ _ this (he.slot t y hq)
theorem okH_ok (h : Nx ν ν' c asg) (hr : HR ν ρ nx H w) {l : List (Nat × AB)} (ht : l.all (fun p => topB c.i p.2) = true) (k : okH c M R asg H l = true) : HR ν' (rnm M c.nx ρ) c.nx (mkT l) w := by
  -- what is behind a name
  have src : ∀ b A, (mkT l).get b = some A → ∃ b0 B, H.get b0 = some B ∧ okB c M asg H B A = true ∧ rnm M c.nx ρ b = ρ b0 ∧ (b < 8 ∧ b0 = b ∨ 8 ≤ b ∧ 8 ≤ b0 ∧ R.get b0 = some b) := by
    intro b A hA
    have := List.all_eq_true.1 k _ (mkT_get hA)
    rcases bc_or this with ⟨h6, k1⟩ | ⟨h6, k1⟩
    · have h6 : 8 ≤ b := Nat.le_of_ble_eq_true h6
      split at k1
      · rename_i b0 hb0
        obtain ⟨k2, k1⟩ := bc2 k1
        obtain ⟨k3, k1⟩ := bc2 k1
        obtain ⟨k4, k1⟩ := bc2 k1
        have k4 : b < c.nx := Nat.le_of_ble_eq_true k4
        unfold okH1 at k2
        split at k2
        · rename_i B hB
          refine ⟨b0, B, hB, k2, ?_, .inr ⟨h6, Nat.le_of_ble_eq_true k3, ?_⟩⟩
          · unfold rnm; rw [if_neg (by omega), if_pos k4, hb0]
            show (if 8 ≤ b0 then ρ b0 else none) = _
            rw [if_pos (Nat.le_of_ble_eq_true k3)]
          · split at k1
            · rename_i d hd
              rw [hd, Nat.eq_of_beq_eq_true k1]
            · cases k1
        · cases k2
      · cases k1
    · have h6 : b < 8 := ble_false h6
      unfold okH1 at k1
      split at k1
      · rename_i B hB
        exact ⟨b, B, hB, k1, by unfold rnm; rw [if_pos h6], .inl ⟨h6, rfl⟩⟩
      · cases k1
  refine ⟨fun b A hA => ?_, fun b b' A A' r s t hA hA' h1 h2 => ?_, fun b hb => ?_, fun b r s hb => ?_⟩
  · obtain ⟨b0, B, hB, k1, k2, _⟩ := src b A hA
    obtain ⟨r, sz, obj, h1, h2, h3⟩ := hr.blk b0 B hB
    exact ⟨r, sz, obj, by rw [k2]; exact h1, h2, okB_ok h hr (List.all_eq_true.1 ht _ (mkT_get hA)) k1 h3⟩
  · obtain ⟨b0, B, hB, _, k2, k3⟩ := src b A hA
    obtain ⟨b1, B1, hB1, _, k4, k5⟩ := src b' A' hA'
    rw [k2] at h1
    rw [k4] at h2
    have := hr.inj b0 b1 B B1 r s t hB hB1 h1 h2
    subst this
    rcases k3 with ⟨c1, c2⟩ | ⟨c1, c2, c3⟩ <;> rcases k5 with ⟨d1, d2⟩ | ⟨d1, d2, d3⟩
    · rw [← c2, ← d2]
    · omega
    · omega
    · rw [c3] at d3; exact Option.some.inj d3
  · unfold rnm
    by_cases h6 : b < 8
    · have := h.nx6; omega
    · rw [if_neg h6, if_neg (by omega)]
  · unfold rnm at hb
    by_cases h6 : b < 8
    · rw [if_pos h6] at hb; exact hr.old b r s hb
    · rw [if_neg h6] at hb
      by_cases hn : b < c.nx
      · rw [if_pos hn] at hb
        split at hb
        · split at hb
          · exact hr.old _ r s hb
          · cases hb
        · cases hb
      · rw [if_neg hn] at hb; cases hb
end
end Go.AM
namespace Go.AM
open Go Go.Proofs
set_option linter.unusedVariables false
/-! # TopBudget: its body in parts; a round, from state to state -/
structure Sta where
  e : List (Nat × AV)
  nx : Nat
  H : List (Nat × AB)
noncomputable section
/-- nothing was written that the caller has -/
def newW8 (D : Log) : Bool := D.all fun x => Nat.ble 8 x.1 || !x.2
def chk8 : Ans → Bool
  | .ok (.bool true) _ _ D => newW8 D
  | _ => false
theorem chk8_spec {A : Ans} (h : chk8 A = true) : ∃ nx H D, A = .ok (.bool true) nx H D ∧ newW8 D = true := by
  unfold chk8 at h
  split at h
  · rename_i nx H D; exact ⟨nx, H, D, rfl, h⟩
  · cases h
def sL : Code → Code
  | .seq a _ => a
  | c => c
def sR : Code → Code
  | .seq _ b => b
  | c => c
def sBlk : Code → Code
  | .block _ c => c
  | c => c
def sLoop : Code → Code
  | .loop c => c
  | c => c
def b60 : Code := (Tryz.f6.body).getD .skip
def b61 : Code := sR b60
def b62 : Code := sR b61
def b63 : Code := sR b62
def b64 : Code := sR b63
def b65 : Code := sR b64
def b66 : Code := sR b65
def b67 : Code := sR b66
def c6h : Code := sL (sL b67)
def cs6 : List Code := [sL b60, sL b61, sL b62, sL b63, sL b64, sL b65, sL b66, c6h]
def c6B : Code := sLoop (sBlk (sR (sL b67)))
def c6E : Code := sR b67
def cA0 : Code := sL c6B
def cI : Code := sR (sR c6B)
def g1 : Code := sBlk (sL (sR c6B))
def g2 : Code := sR g1
def g3 : Code := sR g2
def g4 : Code := sR g3
def g5 : Code := sR g4
def g6 : Code := sR g5
def cA8 : Code := sL (sL g6)
def cK : Code := sLoop (sBlk (sR (sL g6)))
def cZ : Code := sR g6
def cK0 : Code := sL cK
def cK3 : Code := sR (sBlk (sL (sR cK)))
def cK6 : Code := sR (sR cK)
def b33 : Code := (Tryz.f33.body).getD .skip
def c33a : Code := sL b33
def c33b : Code := sL (sR b33)
def c33c : Code := sR (sR b33)
def cndL : Code → Code
  | .cond _ x _ => x
  | c => c
def opsOf : Code → Array Oper
  | .region _ ops _ => ops
  | _ => #[]
def subOps (id : Nat) (ops : Array Oper) (i n : Nat) : Code := .region id ⟨(ops.toList.drop i).take n⟩ false
def c12 : Code := sL (sL g2)
def ops13 : Array Oper := opsOf (cndL (sR (sL g2)))
def ops15 : Array Oper := opsOf (sL g4)
def c13a : Code := subOps 13 ops13 0 3
def c13b : Code := subOps 13 ops13 4 2
def c15a : Code := subOps 15 ops15 0 5
def c15b : Code := subOps 15 ops15 6 6
/-! ## the machine, code by code -/
def noS : KE := fun _ _ _ _ => .no "another way out"
def runC (bd : Bd) (c : Code) (kN : KE) (kE : Nat → KE) : KE := (codeF (CW bd) c).run (callG (CW bd) extIsW 1000) 100000 kN kE noS
def runL (bd : Bd) : List Code → KE → KE
  | [], k => k
  | c :: cs, k => runC bd c (runL bd cs k) (fun _ => noS)
def exitK (k : KE) (i : Nat) : KE := bc (Nat.beq i 2) k noS
/-- outer slots, and inner ones, which stand behind the hundredth -/
def outE (l : List (Nat × AV)) : List (Nat × AV) := l.filter fun p => Nat.ble p.1 99
def inE (l : List (Nat × AV)) : List (Nat × AV) := (l.filter fun p => Nat.ble 100 p.1).map fun p => (Nat.sub p.1 100, p.2)
def told (bd : Bd) (top : Int) (c : TC) (s : Sta) (e f : T AV) (nx : Nat) (H : T AB) : Bool := tellB bd top ⟨c.i, c.known, c.hit, c.zero, c.put, c.mode, s.nx⟩ ⟨outE s.e, inE s.e⟩ s.H e f nx H
def endK (b : Bool) : Log → Ans := fun L => bc b (.ok (.bool true) 0 .leaf L) (.no "told otherwise")
/-- without sizes -/
def nilE (p : Nat × AV) : Nat × AV := bc (Nat.beq p.1 2) (2, .nils) p
def nilS (s : Sta) : Sta := ⟨s.e.map nilE, s.nx, s.H⟩
def nilB (nil : Bool) (s : Sta) : Sta := bc nil (nilS s) s
/-- with nothing as a round's content -/
def zAV (i : Nat) (v : AV) : AV := match v with
  | .str s => (match s with
    | [.var j] => bc (Nat.beq i j) (.str []) (.str s)
    | _ => .str s)
  | v => v
def zAB (i : Nat) (A : AB) : AB := match A with
  | .row l => .row (l.map (zAV i))
  | A => A
def zeroS (i : Nat) (s : Sta) : Sta := ⟨s.e.map fun p => (p.1, zAV i p.2), s.nx, s.H.map fun p => (p.1, zAB i p.2)⟩
/-- a number is loaded from what the caller handed in -/
def ld (t d : Nat) (p : AV) (j : Nat) (k : KE) : KE := fun e nx H L => match e.get t with
  | some x => bc (avEq 8 x p) (bc (newW8 L) (k (e.put d (some (.int .i64 (.lin 0 [(j, 1)])))) nx H L) (.no "what was written")) (.no "from where")
  | none => .no "from where"
def ifK (b : Bool) (t : Nat) (k : KE) : KE := fun e nx H L => match e.get t with
  | some (.bool c) => bc (bc b c (bc c false true)) (k e nx H L) (.no "if")
  | _ => .no "if"
def ptrL (i : Nat) : AV := .ptr 6 (.lin (.ofNat (Nat.succ (Nat.mul 4 i))) [(262, 1)])
def ptrS (i : Nat) : AV := .ptr 7 (.lin (.ofNat i) [(263, 1)])
/-- a round's first part: from its head into Round, behind the clients' bytes and the origins' hearing -/
def k1c (bd : Bd) (got : T AV → T AV → Nat → T AB → Bool) : KE := fun e nx H L => Option.rec (.no "no origins") (fun v => runL bd [c33a, c33b] (fun f nx H L => endK (got e f nx H) L) (slots [v] 0 .leaf) nx H L) (e.get 14)
def k1b (bd : Bd) (i : Nat) (got : T AV → T AV → Nat → T AB → Bool) : KE := runL bd [sL g3, c15a] (ld 66 67 (ptrL i) (Nat.add 200 i) (runL bd [c15b, sL g5, cA8, cK0] (k1c bd got)))
def part1 (bd : Bd) (i : Nat) (short : Bool) (s : Sta) (got : T AV → T AV → Nat → T AB → Bool) : Ans :=
  runL bd [cA0, sL g1, c12] (bc short (ifK false 53 (k1b bd i got)) (ifK true 53 (runL bd [c13a] (ld 56 57 (ptrS i) (Nat.add 240 i) (runL bd [c13b] (k1b bd i got)))))) (mkT s.e) s.nx (mkT s.H) []
def part1B (i : Nat) (known hit : Bool) (s m : Sta) : Bool :=
  chk8 (part1 (bdX i (bx1 i known hit false)) i false s fun e f nx H => told (bdX i (bx1 i known hit false)) (qTop i 2) ⟨i, known, hit, false, false, 1, 0⟩ m e f nx H && told (bdX i (bx1 i known hit false)) (qTop i 2) ⟨i, known, hit, true, false, 1, 0⟩ (zeroS i m) e f nx H)
def part1S (i : Nat) (known hit nil : Bool) (s m : Sta) : Bool :=
  chk8 (part1 (bdX i (bx1 i known hit true)) i true (nilB nil s) fun e f nx H => told (bdX i (bx1 i known hit true)) (qTop i 2) ⟨i, known, hit, true, false, 1, 0⟩ (zeroS i (nilB nil m)) e f nx H)
/-- its second part: the rest of Round, three more, and what is held against -/
def part2 (bd : Bd) (m : Sta) (got : T AV → Nat → T AB → Bool) : Ans :=
  runL bd [c33c] (fun _ nx H L => runL bd [cK3, cK6, cK, cK, cK] (runC bd cK noS (exitK (runL bd [cZ, cI] (fun e nx H L => endK (got e nx H) L)))) (mkT (outE m.e)) nx H L) (mkT (inE m.e)) m.nx (mkT m.H) []
def part2B (i size : Nat) (nil : Bool) (m s' : Sta) : Bool :=
  chk8 (part2 (bdX i (bx2 i size)) (bc (Nat.ble 3 size) (zeroS i (nilB nil m)) m) fun e nx H => told (bdX i (bx2 i size)) (qTop (Nat.succ i) 1) ⟨i, true, true, Nat.ble 3 size, bc (Nat.beq size 0) true (Nat.beq size 3), 2, 0⟩ (nilB nil s') e .leaf nx H)
def paths1 (i : Nat) (known hit : Bool) (s m : Sta) : Bool := part1B i known hit s m && (part1S i known hit false s m && part1S i known hit true s m)
def sizes2 (i : Nat) (m s' : Sta) : Bool := part2B i 0 false m s' && (part2B i 1 false m s' && (part2B i 2 false m s' && (part2B i 3 false m s' && (part2B i 4 false m s' && (part2B i 3 true m s' && part2B i 4 true m s')))))
/-- the way out of the loop -/
def outB (i : Nat) (s : Sta) : Bool := chk8 (runC (bdX i (bxE i)) c6B noS (fun j => bc (Nat.beq j 0) (fun _ _ _ L => endK true L) noS) (mkT s.e) s.nx (mkT s.H) [])
/-- ahead of the rounds -/
def row0 : AB := .row (powZ.map fun n => .int .u64 (.k n))
def H6 : List (Nat × AB) := [(0, row0)]
def s6 : Sta := ⟨[(0, .int .i64 (.lin 0 [(34, 1)])), (1, .sl 6 (.lin 0 [(262, 1)]) (.lin 0 [(36, 1)]) (.ge (.lin 0 [(36, 1)])) 4), (2, .sl 7 (.lin 0 [(263, 1)]) (.lin 0 [(37, 1)]) (.ge (.lin 0 [(37, 1)])) 1)], 8, H6⟩
def preB (nil : Bool) (s : Sta) : Bool :=
  chk8 (runL (bdX 0 bxP) cs6 (fun e nx H L => endK (told (bdX 0 bxP) (qTop 0 1) ⟨0, false, false, false, false, 0, 0⟩ (nilB nil s) e .leaf nx H) L) (mkT (nilB nil s6).e) 8 (mkT (nilB nil s6).H) [])
theorem body6_eq : Tryz.f6.body = some (.seq (sL b60) (.seq (sL b61) (.seq (sL b62) (.seq (sL b63) (.seq (sL b64) (.seq (sL b65) (.seq (sL b66) (.seq (.seq c6h (.block 0 (.loop c6B))) c6E)))))))) := by kernel_rfl
theorem B_eq : c6B = .seq cA0 (.seq (.block 1 (.seq (sL g1) (.seq (sL g2) (.seq (sL g3) (.seq (sL g4) (.seq (sL g5) (.seq (.seq cA8 (.block 2 (.loop cK))) cZ))))))) cI) := by kernel_rfl
theorem body33_eq : Tryz.f33.body = some (.seq c33a (.seq c33b c33c)) := by kernel_rfl
theorem fit6a : cs6.all (codeFit Tryz.f6.ntmps) = true := by kernel_rfl
theorem fit6b : [cA0, sL g1, c12, c13a, c13b, sL g3, c15a, c15b, sL g5, cA8, cK0].all (codeFit Tryz.f6.ntmps) = true := by kernel_rfl
theorem g2_eq : sL g2 = .seq c12 (.cond (.tmp 53) (.region 13 ops13 false) .skip) := by kernel_rfl
theorem g4_eq : sL g4 = .region 15 ops15 false := by kernel_rfl
theorem fit6c : [cK3, cK6, cK, cZ, cI, c6B, c6E].all (codeFit Tryz.f6.ntmps) = true := by kernel_rfl
theorem fit33 : [c33a, c33b, c33c].all (codeFit Tryz.f33.ntmps) = true := by kernel_rfl
end
end Go.AM
