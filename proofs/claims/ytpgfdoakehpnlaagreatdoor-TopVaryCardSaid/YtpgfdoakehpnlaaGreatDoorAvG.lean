import Derived.Test.YtpgfdoakehpnlaaGreatDoorAvF
set_option linter.unusedVariables false
set_option linter.unusedSimpArgs false
namespace Go.AM
/-! # Soundness, part 29: a drawn region's run in the text's order, laid out -/
def WantA (all : List Oper) (e : T AV) (g : Option (Nat × Bool)) (b : Bool) : Prop := match g with
  | none => b = true
  | some g => yieldA all e g = some b
/-- one operation of the run -/
structure StepR (C : Cx) (call : Nat → List AV → M AV) (all : List Oper) (o : Oper) (e : T AV) (nx : Nat) (H : T AB) (x : AV) (e' : T AV) (nx' : Nat) (H' : T AB) (D : Log) : Prop where
  put : e' = putDst e o.dst x
  did : (WantA all e o.guard true ∧ LocAt (execOp C call e o.op) nx H x nx' H' D) ∨ (WantA all e o.guard false ∧ x = .tup [] ∧ nx' = nx ∧ H' = H ∧ D = [])
/-- a sequence with a new head -/
def consF {α : Type} (a : α) (f : Nat → α) : Nat → α
  | 0 => a
  | i+1 => f i
section
variable {C : Cx} {call : Nat → List AV → M AV} {z : Ans}
theorem want_of {α : Type} {all : List Oper} {e : T AV} {g : Option (Nat × Bool)} {y n : M α} {k : α → Nat → T AB → Log → Ans} {nx : Nat} {H : T AB} {L : Log} (hz : Yes z) (h : wantedA all e g y n k nx H L = z) :
    (WantA all e g true ∧ y k nx H L = z) ∨ (WantA all e g false ∧ n k nx H L = z) := by
  cases g with
  | none => exact .inl ⟨rfl, h⟩
  | some g =>
    obtain ⟨b, hb, h⟩ := lift_ok hz (show ((M.lift "guard" (yieldA all e g)).bind fun w => bc w y n) k nx H L = z from h)
    cases b with
    | true => exact .inl ⟨hb, h⟩
    | false => exact .inr ⟨hb, h⟩
theorem unroll (hc : LocC call) (hz : Yes z) {all : List Oper} : ∀ {l : List Oper} {e : T AV} {nx : Nat} {H : T AB} {L : Log} {ls : List Log} {k : (T AV × List Log) → Nat → T AB → Log → Ans}, Cl nx H → execOpsL C call all l e ls k nx H L = z →
    ∃ (E : Nat → T AV) (NX : Nat → Nat) (HH : Nat → T AB) (X : Nat → AV) (DD : Nat → Log) (D : Log), E 0 = e ∧ NX 0 = nx ∧ HH 0 = H ∧
      (∀ i o, l[i]? = some o → StepR C call all o (E i) (NX i) (HH i) (X i) (E (i+1)) (NX (i+1)) (HH (i+1)) (DD i)) ∧ (∀ i, i ≤ l.length → Cl (NX i) (HH i)) ∧
      k (E l.length, ((List.range l.length).map DD).reverse ++ ls) (NX l.length) (HH l.length) (D ++ L) = z ∧ (∀ i y, i < l.length → y ∈ DD i → y ∈ D) := by
  intro l
  induction l with
  | nil =>
    intro e nx H L ls k hcl h
    exact ⟨fun _ => e, fun _ => nx, fun _ => H, fun _ => .tup [], fun _ => [], [], rfl, rfl, rfl, fun i o ho => by simp at ho, fun _ _ => hcl, h, fun i y hi => by simp at hi⟩
  | cons o l ih =>
    intro e nx H L ls k hcl h
    rcases want_of hz (show wantedA all e o.guard (fun k nx H L => execOp C call e o.op (fun x nx H l1 => execOpsL C call all l (putDst e o.dst x) (l1 :: ls) k nx H (l1 ++ L)) nx H []) (execOpsL C call all l (putDst e o.dst (.tup [])) ([] :: ls)) k nx H L = z from h) with ⟨hw, h1⟩ | ⟨hw, h1⟩
    · rcases (loc_execOp hc (e := e) (o := o.op)).go nx H hcl with ⟨s, hs⟩ | ⟨x, nx1, H1, D1, hl⟩
      · rw [hs] at h1; exact (hz _ h1.symm).elim
      · rw [hl.runs] at h1
        obtain ⟨E, NX, HH, X, DD, D, a1, a2, a3, a4, a5, a6, a7⟩ := ih hl.cl h1
        refine ⟨consF e E, consF nx NX, consF H HH, consF x X, consF D1 DD, D ++ D1, rfl, rfl, rfl, ?_, ?_, ?_, ?_⟩
        · intro i p hp
          cases i with
          | zero =>
            simp at hp; subst hp
            refine ⟨a1, .inl ⟨hw, ?_⟩⟩
            show LocAt _ nx H x (NX 0) (HH 0) D1
            rw [a2, a3]; exact hl
          | succ i => exact a4 i p (by simpa using hp)
        · intro i hi
          cases i with
          | zero => exact hcl
          | succ i => exact a5 i (by simpa using hi)
        · show k (E l.length, _) (NX l.length) (HH l.length) _ = z
          rw [List.length_cons, List.range_succ_eq_map, List.map_cons, List.map_map, List.reverse_cons, List.append_assoc]
          rw [List.append_nil] at a6
          rw [List.append_assoc]
          exact a6
        · intro i y hi hy
          cases i with
          | zero => exact List.mem_append_right _ hy
          | succ i => exact List.mem_append_left _ (a7 i y (by simpa using hi) hy)
    · obtain ⟨E, NX, HH, X, DD, D, a1, a2, a3, a4, a5, a6, a7⟩ := ih hcl h1
      refine ⟨consF e E, consF nx NX, consF H HH, consF (.tup []) X, consF [] DD, D, rfl, rfl, rfl, ?_, ?_, ?_, ?_⟩
      · intro i p hp
        cases i with
        | zero =>
          simp at hp; subst hp
          exact ⟨a1, .inr ⟨hw, rfl, a2, a3, rfl⟩⟩
        | succ i => exact a4 i p (by simpa using hp)
      · intro i hi
        cases i with
        | zero => exact hcl
        | succ i => exact a5 i (by simpa using hi)
      · show k (E l.length, _) (NX l.length) (HH l.length) _ = z
        rw [List.length_cons, List.range_succ_eq_map, List.map_cons, List.map_map, List.reverse_cons, List.append_assoc]
        exact a6
      · intro i y hi hy
        cases i with
        | zero => cases hy
        | succ i => exact a7 i y (by simpa using hi) hy
end
end Go.AM
namespace Go.AM
/-! # Soundness, part 30: what the check of a drawn region says -/
theorem meets_false {a b : Log} (h : meets a b = false) {x : Nat} {u v : Bool} (ha : (x, u) ∈ a) (hb : (x, v) ∈ b) : u = false ∧ v = false := by
  have h1 : meets a b = true ∨ (u = false ∧ v = false) := by
    cases hu : u || v with
    | true =>
      left
      unfold meets
      rw [List.any_eq_true]
      refine ⟨_, ha, ?_⟩
      simp only [List.any_eq_true]
      exact ⟨_, hb, by simp [hu]⟩
    | false => right; simpa using hu
  rcases h1 with h1 | h1
  · rw [h] at h1; cases h1
  · exact h1
theorem apart1_spec {b : Nat} {l : Log} : ∀ {ms : List Log} {k : Nat}, ms.length = k → apart1 b l ms k = true → ∀ j, j < k → ∀ m, ms[k - 1 - j]? = some m → Nat.testBit b j = true ∨ meets l m = false := by
  intro ms
  induction ms with
  | nil => intro k hk _ j hj; simp at hk; omega
  | cons m ms ih =>
    intro k hk h j hj q hq
    simp only [List.length_cons] at hk
    simp only [apart1, Bool.and_eq_true] at h
    rcases Nat.lt_or_ge j (k - 1) with hlt | hge
    · refine ih (k := k - 1) (by omega) h.2 j hlt q ?_
      rw [show k - 1 - j = (k - 1 - 1 - j) + 1 by omega] at hq
      simpa using hq
    · have : j = k - 1 := by omega
      subst this
      rw [Nat.sub_self] at hq
      simp at hq; subst hq
      simpa using h.1
theorem apartAll_spec : ∀ {bs : List Nat} {ls : List Log} {n : Nat}, bs.length = n → ls.length = n → apartAll bs ls n = true → ∀ i j, i < n → j < i → ∀ b l m, bs[n - 1 - i]? = some b → ls[n - 1 - i]? = some l → ls[n - 1 - j]? = some m →
    Nat.testBit b j = true ∨ meets l m = false := by
  intro bs
  induction bs with
  | nil => intro ls n hb hl _ i j hi; simp at hb; omega
  | cons b bs ih =>
    intro ls n hb hl h i j hi hj b' l' m' h1 h2 h3
    cases ls with
    | nil => simp at hl; simp at hb; omega
    | cons l ls =>
      simp only [List.length_cons] at hb hl
      simp only [apartAll, Bool.and_eq_true] at h
      rcases Nat.lt_or_ge i (n - 1) with hlt | hge
      · refine ih (n := n - 1) (by omega) (by omega) h.2 i j hlt hj b' l' m' ?_ ?_ ?_
        · rw [show n - 1 - i = (n - 1 - 1 - i) + 1 by omega] at h1; simpa using h1
        · rw [show n - 1 - i = (n - 1 - 1 - i) + 1 by omega] at h2; simpa using h2
        · rw [show n - 1 - j = (n - 1 - 1 - j) + 1 by omega] at h3; simpa using h3
      · have : i = n - 1 := by omega
        subst this
        rw [Nat.sub_self] at h1 h2
        simp at h1 h2; subst h1; subst h2
        cases l with
        | nil => right; rfl
        | cons y l =>
          refine apart1_spec (k := n - 1) (by omega) h.1 j hj m' ?_
          rw [show n - 1 - j = (n - 1 - 1 - j) + 1 by omega] at h3; simpa using h3
/-- edges rise -/
def Rising (ops : List Oper) : Prop := ∀ i o, ops[i]? = some o → ∀ e ∈ o.after.toList, Region.binds .any e = true → e.on < i
/-- those ahead of an operation, by the bits -/
noncomputable def befBits (o : Oper) (acc : List Nat) : Nat := o.after.toList.foldl (fun s e => if Region.binds .any e then Nat.lor s (Nat.lor (2 ^ e.on) ((lget acc (Nat.sub (Nat.sub acc.length 1) e.on)).getD 0)) else s) 0
theorem foldBits {acc : List Nat} {j : Nat} : ∀ {es : List Edge} {s : Nat}, Nat.testBit (es.foldl (fun s e => if Region.binds .any e then Nat.lor s (Nat.lor (2 ^ e.on) ((lget acc (Nat.sub (Nat.sub acc.length 1) e.on)).getD 0)) else s) s) j = true →
    Nat.testBit s j = true ∨ ∃ e ∈ es, Region.binds .any e = true ∧ (j = e.on ∨ Nat.testBit ((lget acc (Nat.sub (Nat.sub acc.length 1) e.on)).getD 0) j = true) := by
  intro es
  induction es with
  | nil => intro s h; exact .inl h
  | cons e es ih =>
    intro s h
    rw [List.foldl_cons] at h
    rcases ih h with h | ⟨e', he, hb, hj⟩
    · by_cases hbd : Region.binds .any e = true
      · rw [if_pos hbd] at h
        have h : Nat.testBit (s ||| (2 ^ e.on ||| ((lget acc (Nat.sub (Nat.sub acc.length 1) e.on)).getD 0))) j = true := h
        rw [Nat.testBit_or, Nat.testBit_or, Bool.or_eq_true, Bool.or_eq_true, Nat.testBit_two_pow] at h
        rcases h with h | h | h
        · exact .inl h
        · exact .inr ⟨e, List.mem_cons_self .., hbd, .inl (by simpa using (of_decide_eq_true h).symm)⟩
        · exact .inr ⟨e, List.mem_cons_self .., hbd, .inr h⟩
      · rw [if_neg hbd] at h; exact .inl h
    · exact .inr ⟨e', List.mem_cons_of_mem _ he, hb, hj⟩
theorem before_length : ∀ {ops : List Oper} {acc : List Nat}, (before ops acc).length = ops.length + acc.length := by
  intro ops
  induction ops with
  | nil => intro acc; simp [before]
  | cons o ops ih => intro acc; simp only [before, ih, List.length_cons]; omega
/-- what a bit stands for -/
def Just (all : List Oper) (bs : List Nat) : Prop := ∀ i o, i < bs.length → all[i]? = some o → ∀ j, Nat.testBit (Bits bs i) j = true → ∃ e ∈ o.after.toList, Region.binds .any e = true ∧ (j = e.on ∨ Nat.testBit (Bits bs e.on) j = true)
theorem Bits_cons {b : Nat} {bs : List Nat} {i : Nat} (h : i < bs.length) : Bits (b :: bs) i = Bits bs i := by
  unfold Bits
  rw [List.length_cons, show bs.length + 1 - 1 - i = (bs.length - 1 - i) + 1 by omega]
  simp
theorem before_just {all : List Oper} (hr : Rising all) : ∀ {ops : List Oper} {acc : List Nat}, (∀ j, ops[j]? = all[acc.length + j]?) → Just all acc → Just all (before ops acc) := by
  intro ops
  induction ops with
  | nil => intro acc _ h; exact h
  | cons o ops ih =>
    intro acc hl h
    show Just all (before ops (befBits o acc :: acc))
    refine ih (fun j => by have := hl (j + 1); simpa [Nat.add_assoc, Nat.add_comm 1 j] using this) ?_
    intro i p hi hp j hj
    rcases Nat.lt_or_ge i acc.length with hlt | hge
    · rw [Bits_cons hlt] at hj
      obtain ⟨e, he, hb, hj⟩ := h i p hlt hp j hj
      have := hr i p hp e he hb
      refine ⟨e, he, hb, hj.imp id fun hj => ?_⟩
      rw [Bits_cons (by omega)]; exact hj
    · have hi : i = acc.length := by simp at hi; omega
      subst hi
      have ho : all[acc.length]? = some o := by have := hl 0; simpa using this.symm
      rw [ho] at hp; cases hp
      have hb0 : Bits (befBits o acc :: acc) acc.length = befBits o acc := by unfold Bits; simp
      rw [hb0] at hj
      rcases foldBits hj with hj | ⟨e, he, hb, hj⟩
      · simp at hj
      · have hlt := hr _ o ho e he hb
        refine ⟨e, he, hb, hj.imp id fun hj => ?_⟩
        rw [Bits_cons hlt]
        rw [lget_eq] at hj
        exact hj
end Go.AM
namespace Go.AM
/-! # Soundness, part 31: a drawn region, where some operations are done: slots and blocks -/
/-- two operations share no slot -/
def slotsOff (all : List Oper) (o p : Oper) : Prop := (∀ d, o.dst = some d → d ∉ looksA all p ∧ p.dst ≠ some d) ∧ (∀ d, p.dst = some d → d ∉ looksA all o)
theorem slotsOff.symm {all : List Oper} {o p : Oper} (h : slotsOff all o p) : slotsOff all p o :=
  ⟨fun d hd => ⟨h.2 d hd, fun ho => (h.1 d ho).2 hd⟩, fun d hd => (h.1 d hd).1⟩
def SlotsApart (all : List Oper) (bs : List Nat) : Prop := ∀ i j o p, j < i → all[i]? = some o → all[j]? = some p → Nat.testBit (Bits bs i) j = true ∨ slotsOff all o p
/-- two operations that are not ordered -/
def Free (bs : List Nat) (i j : Nat) : Prop := i ≠ j ∧ (j < i → Nat.testBit (Bits bs i) j = false) ∧ (i < j → Nat.testBit (Bits bs j) i = false)
theorem Free.slots {all : List Oper} {bs : List Nat} (h : SlotsApart all bs) {i j : Nat} {o p : Oper} (hf : Free bs i j) (hi : all[i]? = some o) (hj : all[j]? = some p) : slotsOff all o p := by
  rcases Nat.lt_trichotomy i j with hlt | he | hgt
  · rcases h j i p o hlt hj hi with h1 | h1
    · rw [hf.2.2 hlt] at h1; cases h1
    · exact h1.symm
  · exact (hf.1 he).elim
  · rcases h i j o p hgt hi hj with h1 | h1
    · rw [hf.2.1 hgt] at h1; cases h1
    · exact h1
/-- the slots, where the operations of S are done -/
noncomputable def sval (all : List Oper) (E0 : T AV) (X : Nat → AV) (S : Nat → Bool) : Nat → Nat → Option AV
  | 0, t => E0.get t
  | m+1, t => if S m = true ∧ (all[m]?).bind (·.dst) = some t then some (X m) else sval all E0 X S m t
/-- the blocks -/
noncomputable def hval (H0 : T AB) (HH : Nat → T AB) (DD : Nat → Log) (S : Nat → Bool) : Nat → Nat → Option AB
  | 0, b => H0.get b
  | m+1, b => if S m = true ∧ (b, true) ∈ DD m then (HH (m+1)).get b else hval H0 HH DD S m b
theorem putDst_get {e : T AV} {d : Option Nat} {x : AV} {t : Nat} : (putDst e d x).get t = if d = some t then some x else e.get t := by
  cases d with
  | none => rw [if_neg (by simp)]; rfl
  | some d =>
    show (e.put d (some x)).get t = _
    rw [T.get_put]
    by_cases h : t = d
    · subst h; rw [if_pos rfl, if_pos rfl]
    · rw [if_neg h, if_neg (by simpa using Ne.symm h)]
section
variable {C : Cx} {call : Nat → List AV → M AV} {all : List Oper} {bs : List Nat} {E : Nat → T AV} {NX : Nat → Nat} {HH : Nat → T AB} {X : Nat → AV} {DD : Nat → Log} {S : Nat → Bool} {i : Nat}
/-- the run of a region, and what the checks say of it -/
structure RunR (C : Cx) (call : Nat → List AV → M AV) (all : List Oper) (bs : List Nat) (E : Nat → T AV) (NX : Nat → Nat) (HH : Nat → T AB) (X : Nat → AV) (DD : Nat → Log) : Prop where
  step : ∀ i o, all[i]? = some o → StepR C call all o (E i) (NX i) (HH i) (X i) (E (i+1)) (NX (i+1)) (HH (i+1)) (DD i)
  cl : ∀ i, i ≤ all.length → Cl (NX i) (HH i)
  off : ∀ i j, i < all.length → j < all.length → Free bs i j → meets (DD i) (DD j) = false
  slots : SlotsApart all bs
theorem RunR.get {i : Nat} (hi : i < all.length) : ∃ o, all[i]? = some o := ⟨_, List.getElem?_eq_getElem hi⟩
theorem RunR.E_val (h : RunR C call all bs E NX HH X DD) (t : Nat) : ∀ m, m ≤ all.length → (E m).get t = sval all (E 0) X (fun _ => true) m t := by
  intro m
  induction m with
  | zero => intro _; rfl
  | succ m ih =>
    intro hm
    obtain ⟨o, ho⟩ := RunR.get (all := all) (i := m) (by omega)
    rw [(h.step m o ho).put, putDst_get]
    simp only [sval, ho, Option.bind_some, true_and]
    rw [ih (by omega)]
theorem RunR.H_val (h : RunR C call all bs E NX HH X DD) (b : Nat) : ∀ m, m ≤ all.length → (HH m).get b = hval (HH 0) HH DD (fun _ => true) m b := by
  intro m
  induction m with
  | zero => intro _; rfl
  | succ m ih =>
    intro hm
    obtain ⟨o, ho⟩ := RunR.get (all := all) (i := m) (by omega)
    simp only [hval, true_and]
    by_cases hb : (b, true) ∈ DD m
    · rw [if_pos hb]
    · rw [if_neg hb, ← ih (by omega)]
      rcases (h.step m o ho).did with ⟨_, hl⟩ | ⟨_, _, _, hH, _⟩
      · exact hl.keep b hb
      · rw [hH]
theorem RunR.mono (h : RunR C call all bs E NX HH X DD) : ∀ {i j : Nat}, i ≤ j → j ≤ all.length → NX i ≤ NX j := by
  intro i j hij
  induction j with
  | zero => intro _; have : i = 0 := by omega
            subst this; exact Nat.le_refl _
  | succ j ih =>
    intro hj
    rcases Nat.lt_or_ge i (j + 1) with hlt | hge
    · refine Nat.le_trans (ih (by omega) (by omega)) ?_
      obtain ⟨o, ho⟩ := RunR.get (all := all) (i := j) (by omega)
      rcases (h.step j o ho).did with ⟨_, hl⟩ | ⟨_, _, hn, _, _⟩
      · exact hl.le
      · rw [hn]; exact Nat.le_refl _
    · have : i = j + 1 := by omega
      subst this; exact Nat.le_refl _
/-- operation i is not done, and may be done now -/
structure Due (all : List Oper) (bs : List Nat) (S : Nat → Bool) (i : Nat) : Prop where
  lt : i < all.length
  no : S i = false
  ahead : ∀ m, m < i → S m = false → Free bs i m
  behind : ∀ m, i < m → m < all.length → S m = true → Free bs i m
theorem RunR.slot_now (h : RunR C call all bs E NX HH X DD) (hd : Due all bs S i) {o : Oper} (ho : all[i]? = some o) {t : Nat} (ht : t ∈ looksA all o) : sval all (E 0) X S all.length t = (E i).get t := by
  rw [h.E_val t i (Nat.le_of_lt hd.lt)]
  have key : ∀ m, m ≤ all.length → sval all (E 0) X S m t = sval all (E 0) X (fun _ => true) (min m i) t := by
    intro m
    induction m with
    | zero => intro _; rw [Nat.zero_min]; rfl
    | succ m ih =>
      intro hm
      obtain ⟨p, hp⟩ := RunR.get (all := all) (i := m) (by omega)
      have hne : Free bs i m → (all[m]?).bind (·.dst) ≠ some t := by
        intro hf he
        rw [hp] at he
        exact (hf.slots h.slots ho hp).2 t he ht
      have ih := ih (by omega)
      simp only [sval]
      rcases Nat.lt_trichotomy m i with hlt | he | hgt
      · rw [Nat.min_eq_left (by omega)]
        rw [Nat.min_eq_left (by omega)] at ih
        simp only [sval, true_and]
        cases hS : S m with
        | true => simp only [true_and]; rw [ih]
        | false => rw [if_neg (by simp), if_neg (hne (hd.ahead m hlt hS)), ih]
      · subst he
        rw [hd.no, if_neg (by simp), ih, Nat.min_eq_right (by omega), Nat.min_eq_right (by omega)]
      · rw [Nat.min_eq_right (by omega)]
        rw [Nat.min_eq_right (by omega)] at ih
        cases hS : S m with
        | true => rw [if_neg (fun hh => hne (hd.behind m hgt (by omega) hS) hh.2), ih]
        | false => rw [if_neg (by simp), ih]
  rw [key all.length (Nat.le_refl _), Nat.min_eq_right (Nat.le_of_lt hd.lt)]
theorem RunR.block_now (h : RunR C call all bs E NX HH X DD) (hd : Due all bs S i) {b : Nat} {u : Bool} (hb : (b, u) ∈ DD i) : hval (HH 0) HH DD S all.length b = (HH i).get b := by
  rw [h.H_val b i (Nat.le_of_lt hd.lt)]
  have key : ∀ m, m ≤ all.length → hval (HH 0) HH DD S m b = hval (HH 0) HH DD (fun _ => true) (min m i) b := by
    intro m
    induction m with
    | zero => intro _; rw [Nat.zero_min]; rfl
    | succ m ih =>
      intro hm
      have hne : Free bs i m → (b, true) ∉ DD m := by
        intro hf he
        have := (meets_false (h.off i m hd.lt (by omega) hf) hb he).2
        cases this
      have ih := ih (by omega)
      simp only [hval]
      rcases Nat.lt_trichotomy m i with hlt | he | hgt
      · rw [Nat.min_eq_left (by omega)]
        rw [Nat.min_eq_left (by omega)] at ih
        simp only [hval, true_and]
        cases hS : S m with
        | true => simp only [true_and]; rw [ih]
        | false => rw [if_neg (by simp), if_neg (hne (hd.ahead m hlt hS)), ih]
      · subst he
        rw [hd.no, if_neg (by simp), ih, Nat.min_eq_right (by omega), Nat.min_eq_right (by omega)]
      · rw [Nat.min_eq_right (by omega)]
        rw [Nat.min_eq_right (by omega)] at ih
        cases hS : S m with
        | true => rw [if_neg (fun hh => hne (hd.behind m hgt (by omega) hS) hh.2), ih]
        | false => rw [if_neg (by simp), ih]
  rw [key all.length (Nat.le_refl _), Nat.min_eq_right (Nat.le_of_lt hd.lt)]
/-- operation i is done besides -/
def also (S : Nat → Bool) (i : Nat) : Nat → Bool := fun m => if m = i then true else S m
theorem RunR.slot_then (h : RunR C call all bs E NX HH X DD) (hd : Due all bs S i) {o : Oper} (ho : all[i]? = some o) (t : Nat) :
    sval all (E 0) X (also S i) all.length t = if o.dst = some t then some (X i) else sval all (E 0) X S all.length t := by
  have key : ∀ m, m ≤ all.length → sval all (E 0) X (also S i) m t = if i < m ∧ o.dst = some t then some (X i) else sval all (E 0) X S m t := by
    intro m
    induction m with
    | zero => intro _; rw [if_neg (by omega)]; rfl
    | succ m ih =>
      intro hm
      obtain ⟨p, hp⟩ := RunR.get (all := all) (i := m) (by omega)
      have ih := ih (by omega)
      simp only [sval]
      rcases Nat.lt_trichotomy m i with hlt | he | hgt
      · rw [if_neg (by omega)] at ih
        rw [show also S i m = S m by unfold also; rw [if_neg (by omega)], ih]
        rw [if_neg (show ¬ (i < m + 1 ∧ _) by omega)]
      · subst he
        rw [if_neg (by omega)] at ih
        rw [show also S m m = true by unfold also; rw [if_pos rfl], ih, hd.no, ho]
        simp
      · have hsm : also S i m = S m := by unfold also; rw [if_neg (by omega)]
        rw [hsm, ih]
        by_cases hS : S m = true ∧ (all[m]?).bind (·.dst) = some t
        · rw [if_pos hS, if_pos hS]
          have : o.dst ≠ some t := by
            intro he
            have h2 := hS.2
            rw [hp] at h2
            exact (((hd.behind m hgt (by omega) hS.1).slots h.slots ho hp).1 t he).2 h2
          rw [if_neg (fun hh => this hh.2)]
        · rw [if_neg hS, if_neg hS]
          by_cases he : o.dst = some t
          · rw [if_pos ⟨hgt, he⟩, if_pos ⟨by omega, he⟩]
          · rw [if_neg (fun hh => he hh.2), if_neg (fun hh => he hh.2)]
  rw [key all.length (Nat.le_refl _)]
  have := hd.lt
  by_cases he : o.dst = some t
  · rw [if_pos ⟨this, he⟩, if_pos he]
  · rw [if_neg (fun hh => he hh.2), if_neg he]
theorem RunR.block_then (h : RunR C call all bs E NX HH X DD) (hd : Due all bs S i) (b : Nat) :
    hval (HH 0) HH DD (also S i) all.length b = if (b, true) ∈ DD i then (HH (i+1)).get b else hval (HH 0) HH DD S all.length b := by
  have key : ∀ m, m ≤ all.length → hval (HH 0) HH DD (also S i) m b = if i < m ∧ (b, true) ∈ DD i then (HH (i+1)).get b else hval (HH 0) HH DD S m b := by
    intro m
    induction m with
    | zero => intro _; rw [if_neg (by omega)]; rfl
    | succ m ih =>
      intro hm
      have ih := ih (by omega)
      simp only [hval]
      rcases Nat.lt_trichotomy m i with hlt | he | hgt
      · rw [if_neg (by omega)] at ih
        rw [show also S i m = S m by unfold also; rw [if_neg (by omega)], ih]
        rw [if_neg (show ¬ (i < m + 1 ∧ _) by omega)]
      · subst he
        rw [if_neg (by omega)] at ih
        rw [show also S m m = true by unfold also; rw [if_pos rfl], ih, hd.no]
        simp
      · have hsm : also S i m = S m := by unfold also; rw [if_neg (by omega)]
        rw [hsm, ih]
        by_cases hS : S m = true ∧ (b, true) ∈ DD m
        · rw [if_pos hS, if_pos hS]
          have : (b, true) ∉ DD i := by
            intro he
            have := (meets_false (h.off i m hd.lt (by omega) (hd.behind m hgt (by omega) hS.1)) he hS.2).1
            cases this
          rw [if_neg (fun hh => this hh.2)]
        · rw [if_neg hS, if_neg hS]
          by_cases he : (b, true) ∈ DD i
          · rw [if_pos ⟨hgt, he⟩, if_pos ⟨by omega, he⟩]
          · rw [if_neg (fun hh => he hh.2), if_neg (fun hh => he hh.2)]
  rw [key all.length (Nat.le_refl _)]
  have := hd.lt
  by_cases he : (b, true) ∈ DD i
  · rw [if_pos ⟨this, he⟩, if_pos he]
  · rw [if_neg (fun hh => he hh.2), if_neg he]
end
end Go.AM
namespace Go.AM
/-! # Soundness, part 32: names below a bound; what an operation's law says is there -/
/-- the names below a bound -/
def cut (ρ : Nm) (nx : Nat) : Nm := fun b => if b < nx then ρ b else none
/-- names that are known lie below a bound -/
def Supp (ρ : Nm) (nx : Nat) : Prop := ∀ b, nx ≤ b → ρ b = none
theorem cut_get {ρ ρ1 : Nm} {nx b : Nat} {p q : Nat × Nat} (hs : Supp ρ1 nx) (h1 : ρ1 b = some p) (h : ρ b = some q) : cut ρ nx b = some q := by
  unfold cut
  rw [if_pos]
  · exact h
  · rcases Nat.lt_or_ge b nx with hlt | hge
    · exact hlt
    · rw [hs b hge] at h1; cases h1
section
variable {ν : Vl} {ρ ρ1 : Nm} {nx : Nat}
mutual
theorem VR.cut (hs : Supp ρ1 nx) : ∀ {a : AV} {v v1 : Value}, VR ν ρ1 a v1 → VR ν ρ a v → VR ν (AM.cut ρ nx) a v
  | .bool _, _, _, _, k => k
  | .int _ _, _, _, _, k => k
  | .str _, _, _, _, k => k
  | .flt _ _, _, _, _, k => k
  | .ptr _ _, _, _, h, k => let ⟨_, _, _, h1, _⟩ := h; let ⟨r, sz, o, a, b, c⟩ := k; ⟨r, sz, o, cut_get hs h1 a, b, c⟩
  | .nilp, _, _, _, k => k
  | .sl _ _ _ _ _, _, _, h, k => let ⟨_, _, _, _, _, h1, _⟩ := h; let ⟨r, sz, o, n, c, a, b⟩ := k; ⟨r, sz, o, n, c, cut_get hs h1 a, b⟩
  | .nils, _, _, _, k => k
  | .fn _ _ _, _, _, h, k => let ⟨_, _, h1, h2, _⟩ := h; let ⟨as, bs, a, b, c⟩ := k; ⟨as, bs, VRs.cut hs h1 a, VRs.cut hs h2 b, c⟩
  | .nilf, _, _, _, k => k
  | .agg _, _, _, h, k => let ⟨_, h1, _⟩ := h; let ⟨vs, a, b⟩ := k; ⟨vs, VRs.cut hs h1 a, b⟩
  | .tup _, _, _, h, k => let ⟨_, h1, _⟩ := h; let ⟨vs, a, b⟩ := k; ⟨vs, VRs.cut hs h1 a, b⟩
  | .map _, _, _, h, k => let ⟨_, _, h1, _⟩ := h; let ⟨r, sz, a, b⟩ := k; ⟨r, sz, cut_get hs h1 a, b⟩
  | .nilm, _, _, _, k => k
  | .nili, _, _, _, k => k
theorem VRs.cut (hs : Supp ρ1 nx) : ∀ {a : List AV} {v v1 : List Value}, VRs ν ρ1 a v1 → VRs ν ρ a v → VRs ν (AM.cut ρ nx) a v
  | [], _, _, _, k => k
  | _ :: _, _, _, h, k => let ⟨_, _, _, h1, h2⟩ := h; let ⟨v, vs, a, b, c⟩ := k; ⟨v, vs, a, VR.cut hs h1 b, VRs.cut hs h2 c⟩
end
theorem MR.cut (hs : Supp ρ1 nx) {es : List (AV × AV)} : ∀ {l l1 : List MapEntry}, MR ν ρ1 es l1 → MR ν ρ es l → MR ν (AM.cut ρ nx) es l := by
  induction es with
  | nil => intro l l1 _ k; exact k
  | cons p es ih =>
    intro l l1 h k
    obtain ⟨_, _, _, h1, h2, h3⟩ := h
    obtain ⟨e, l', rfl, k1, k2, k3⟩ := k
    exact ⟨e, l', rfl, h1.cut hs k1, h2.cut hs k2, ih h3 k3⟩
theorem BR.cut (hs : Supp ρ1 nx) {A : AB} {s1 sz : Nat} {o1 obj : Obj} (h : BR ν ρ1 A s1 o1) (k : BR ν ρ A sz obj) : BR ν (AM.cut ρ nx) A sz obj := by
  cases A with
  | row cs => obtain ⟨_, h1, _⟩ := h; obtain ⟨vs, k1, k2⟩ := k; exact ⟨vs, h1.cut hs k1, k2⟩
  | byt s => exact k
  | map es => obtain ⟨_, _, _, h1⟩ := h; obtain ⟨l, c, k1, k2⟩ := k; exact ⟨l, c, k1, h1.cut hs k2⟩
end
theorem cut_supp (ρ : Nm) (nx : Nat) : Supp (cut ρ nx) nx := fun b hb => by unfold cut; rw [if_neg (by omega)]
theorem cut_ext (ρ : Nm) (nx : Nat) : Ext (cut ρ nx) ρ := fun b p h => by
  unfold cut at h
  by_cases hb : b < nx
  · rw [if_pos hb] at h; exact h
  · rw [if_neg hb] at h; cases h
/-- a heap, without the blocks that are not wanted -/
theorem heap_keep {α : Type} (p : Nat → Bool) {H : T α} : ∀ {M : Nat}, (∀ b, M ≤ b → H.get b = none) → ∃ G : T α, ∀ b, G.get b = if p b = true then H.get b else none := by
  have key : ∀ M (H : T α), ∃ G : T α, ∀ b, G.get b = if b < M ∧ p b = false then none else H.get b := by
    intro M
    induction M with
    | zero => intro H; exact ⟨H, fun b => by rw [if_neg (by omega)]⟩
    | succ M ih =>
      intro H
      obtain ⟨G, hG⟩ := ih H
      cases hp : p M with
      | true =>
        refine ⟨G, fun b => ?_⟩
        rw [hG]
        by_cases hb : b = M
        · subst hb; rw [if_neg (by omega), if_neg (by rw [hp]; simp)]
        · by_cases hl : b < M ∧ p b = false
          · rw [if_pos hl, if_pos ⟨by omega, hl.2⟩]
          · rw [if_neg hl, if_neg (fun hh => hl ⟨by omega, hh.2⟩)]
      | false =>
        refine ⟨G.put M none, fun b => ?_⟩
        rw [T.get_put, hG]
        by_cases hb : b = M
        · subst hb; rw [if_pos rfl, if_pos ⟨by omega, hp⟩]
        · rw [if_neg hb]
          by_cases hl : b < M ∧ p b = false
          · rw [if_pos hl, if_pos ⟨by omega, hl.2⟩]
          · rw [if_neg hl, if_neg (fun hh => hl ⟨by omega, hh.2⟩)]
  intro M hM
  obtain ⟨G, hG⟩ := key M H
  refine ⟨G, fun b => ?_⟩
  rw [hG]
  cases hp : p b with
  | true => rw [if_neg (by simp), if_pos rfl]
  | false =>
    rw [if_neg (by simp : ¬ false = true)]
    by_cases hlt : b < M
    · rw [if_pos ⟨hlt, rfl⟩]
    · rw [if_neg (fun hh => hlt hh.1)]; exact hM b (by omega)
/-- two heaps, the one over the other where a list tells -/
theorem heap_over {H G : T AB} : ∀ D : Log, ∃ F : T AB, ∀ b, F.get b = if (b, true) ∈ D then G.get b else H.get b := by
  intro D
  induction D with
  | nil => exact ⟨H, fun b => by simp⟩
  | cons y D ih =>
    obtain ⟨F, hF⟩ := ih
    obtain ⟨c, u⟩ := y
    cases u with
    | false => exact ⟨F, fun b => by rw [hF]; simp⟩
    | true =>
      refine ⟨F.put c (G.get c), fun b => ?_⟩
      rw [T.get_put, hF]
      by_cases hb : b = c
      · subst hb; rw [if_pos rfl, if_pos (by simp)]
      · rw [if_neg hb]; simp [hb]
section
variable {C : Cx} {ν : Vl} {ρ : Nm} {nx : Nat} {L : Log} {w : World} {k : AV → Nat → T AB → Log → Ans} {z : Ans} {a : Act}
/-- there is an outcome -/
theorem OpOk.outcome {o : Oper} {r : Result Next} (h : OpOk C ν ρ nx L w k z o a r) :
    ∃ x nx' H' D ρ' v w', k x nx' H' (D ++ L) = z ∧ Low nx ρ nx' ρ' ∧ VR ν ρ' x v ∧ HR ν ρ' nx' H' w' ∧ Stp ρ w ρ' w' D := by
  have h := h (fun _ _ => ∃ x nx' H' D ρ' v w', k x nx' H' (D ++ L) = z ∧ Low nx ρ nx' ρ' ∧ VR ν ρ' x v ∧ HR ν ρ' nx' H' w' ∧ Stp ρ w ρ' w' D) (fun _ _ _ => False)
    (fun x nx' H' D ρ' v w' h1 h2 h3 h4 h5 => ⟨x, nx', H', D, ρ', v, w', h1, h2, h3, h4, h5⟩)
  cases r with
  | ok n w' =>
    cases n <;> first | (exact h) | (exact h.elim) | skip
    case enter f args =>
      obtain ⟨e, w'', fr, hR, _⟩ := h []
      cases e with
      | returned v => exact hR
      | panicked c => exact hR.elim
      | outgrown => obtain ⟨_, _, hq⟩ := hR; exact hq.elim
    case row row args =>
      obtain ⟨v, w'', hR, _⟩ := h default []
      exact hR
  | halt x w' => cases x <;> exact h.elim
end
end Go.AM
namespace Go.AM
/-! # Soundness, part 33: a drawn region, one operation -/
section
variable {C : Cx} {ν : Vl} {call : Nat → List AV → M AV} {all : List Oper} {bs : List Nat} {E : Nat → T AV} {NX : Nat → Nat} {HH : Nat → T AB} {X : Nat → AV} {DD : Nat → Log} {S : Nat → Bool} {i n : Nat} {ρ0 : Nm} {w0 : World} {D : Log} {ρ : Nm} {eS : T AV} {HS : T AB} {a : Act} {w : World}
/-- the state where the operations of S are done -/
structure Mid (ν : Vl) (n : Nat) (all : List Oper) (E : Nat → T AV) (NX : Nat → Nat) (HH : Nat → T AB) (X : Nat → AV) (DD : Nat → Log) (ρ0 : Nm) (w0 : World) (D : Log) (S : Nat → Bool) (ρ : Nm) (eS : T AV) (HS : T AB) (a : Act) (w : World) : Prop where
  slots : ∀ t, eS.get t = sval all (E 0) X S all.length t
  heap : ∀ b, HS.get b = hval (HH 0) HH DD S all.length b
  er : ER ν ρ n eS a
  blk : ∀ b A, HS.get b = some A → ∃ r sz obj, ρ b = some (r, sz) ∧ w.heap[r]? = some obj ∧ BR ν ρ A sz obj
  inj : ∀ b c A B r s t, HS.get b = some A → HS.get c = some B → ρ b = some (r, s) → ρ c = some (r, t) → b = c
  old : ∀ b r s, ρ b = some (r, s) → r < w.heap.size
  supp : ∀ b p, ρ b = some p → b < NX 0 ∨ ∃ j, j < all.length ∧ S j = true ∧ NX j ≤ b ∧ b < NX (j + 1)
  stp : Stp ρ0 w0 ρ w D
  low : ∀ b, b < NX 0 → ρ b = ρ0 b
  glob : Glob ρ
/-- the names, where operation i is done besides -/
def rejoin (ρ ρ' : Nm) (x y : Nat) : Nm := fun b => if x ≤ b ∧ b < y then ρ' b else ρ b
theorem get_leaf' {α : Type} {t : Nat} : (T.leaf : T α).get t = none := T.get_leaf t
theorem pick_slots {H : T AV} : ∀ l : List Nat, ∃ G : T AV, ∀ t, G.get t = if t ∈ l then H.get t else none := by
  intro l
  induction l with
  | nil => exact ⟨.leaf, fun t => by rw [get_leaf', if_neg (by simp)]⟩
  | cons x l ih =>
    obtain ⟨G, hG⟩ := ih
    refine ⟨G.put x (H.get x), fun t => ?_⟩
    rw [T.get_put, hG]
    by_cases h : t = x
    · subst h; rw [if_pos rfl, if_pos (by simp)]
    · rw [if_neg h]; simp [h]
/-- the state behind one operation more -/
theorem Mid.next (h : RunR C call all bs E NX HH X DD) (hd : Due all bs S i) (hm : Mid ν n all E NX HH X DD ρ0 w0 D S ρ eS HS a w) {o : Oper} (ho : all[i]? = some o)
    (hl : LocAt (execOp C call (E i) o.op) (NX i) (HH i) (X i) (NX (i+1)) (HH (i+1)) (DD i)) (hdst : ∀ d, o.dst = some d → d < n) (hD : ∀ y, y ∈ DD i → y ∈ D)
    (hfree : ∀ b, NX i ≤ b → b < NX (i+1) → ρ b = none) (hnow : ∀ b u, (b, u) ∈ DD i → HS.get b = (HH i).get b) {G' : T AB} (g2 : ∀ b, (b, true) ∈ DD i → G'.get b = (HH (i+1)).get b)
    {ρ' : Nm} {v : Value} {w' : World} (hlow : Low (NX i) (cut ρ (NX i)) (NX (i+1)) ρ') (hx : VR ν ρ' (X i) v) (hr' : HR ν ρ' (NX (i+1)) G' w') (hs' : Stp (cut ρ (NX i)) w ρ' w' (DD i)) :
    ∃ eS' HS', Mid ν n all E NX HH X DD ρ0 w0 D (also S i) (rejoin ρ ρ' (NX i) (NX (i+1))) eS' HS' (a.put o.dst v) w' := by
  have hi := hd.lt
  have h0i : NX 0 ≤ NX i := h.mono (Nat.zero_le _) (Nat.le_of_lt hi)
  obtain ⟨F, hF⟩ := heap_over (H := HS) (G := HH (i+1)) (DD i)
  have e1 : Ext ρ (rejoin ρ ρ' (NX i) (NX (i+1))) := by
    intro b p hb
    unfold rejoin
    rw [if_neg]
    · exact hb
    · intro hh; rw [hfree b hh.1 hh.2] at hb; cases hb
  have hin : ∀ b, b < NX i → ρ' b = ρ b := fun b hb => by rw [hlow.2 b hb]; unfold cut; rw [if_pos hb]
  have e2 : Ext ρ' (rejoin ρ ρ' (NX i) (NX (i+1))) := by
    intro b p hb
    have hlt : b < NX (i+1) := by
      rcases Nat.lt_or_ge b (NX (i+1)) with h1 | h1
      · exact h1
      · rw [hr'.new b h1] at hb; cases hb
    unfold rejoin
    by_cases h1 : NX i ≤ b
    · rw [if_pos ⟨h1, hlt⟩]; exact hb
    · rw [if_neg (fun hh => h1 hh.1), ← hin b (by omega)]; exact hb
  -- a block that is written and was there
  have hwas : ∀ b u, (b, u) ∈ DD i → b < NX i → ∃ A, HS.get b = some A := fun b u hb hlt => by rw [hnow b u hb]; exact hl.had b u hb hlt
  -- rows of other blocks are not written
  have hrow : ∀ c A r t, HS.get c = some A → (c, true) ∉ DD i → ρ c = some (r, t) → w'.heap[r]? = w.heap[r]? := by
    intro c A r t hcA hcw hcr
    refine hs'.frame r (hm.old c r t hcr) fun b s hb hbr => ?_
    have hlt : b < NX i := by
      rcases Nat.lt_or_ge b (NX i) with h1 | h1
      · exact h1
      · rw [cut_supp ρ _ b h1] at hbr; cases hbr
    obtain ⟨B, hB⟩ := hwas b true hb hlt
    have := hm.inj b c B A r s t hB hcA (cut_ext ρ _ b _ hbr) hcr
    subst this
    exact hcw hb
  -- a written block and another one lie apart
  have hapart : ∀ b c A r s t, (b, true) ∈ DD i → ρ' b = some (r, s) → HS.get c = some A → (c, true) ∉ DD i → ρ c = some (r, t) → False := by
    intro b c A r s t hb hbr hcA hcw hcr
    rcases Nat.lt_or_ge b (NX i) with hlt | hge
    · obtain ⟨B, hB⟩ := hwas b true hb hlt
      have := hm.inj b c B A r s t hB hcA (by rw [← hin b hlt]; exact hbr) hcr
      subst this
      exact hcw hb
    · rcases hs'.own b r s (cut_supp ρ _ b hge) hbr with h1 | ⟨c', t', hc', hr1⟩
      · have := hm.old c r t hcr; omega
      · have hlt : c' < NX i := by
          rcases Nat.lt_or_ge c' (NX i) with h2 | h2
          · exact h2
          · rw [cut_supp ρ _ c' h2] at hr1; cases hr1
        obtain ⟨B, hB⟩ := hwas c' true hc' hlt
        have := hm.inj c' c B A r t' t hB hcA (cut_ext ρ _ c' _ hr1) hcr
        subst this
        exact hcw hc'
  -- what a block's name is now
  have hof : ∀ b A, F.get b = some A → ((b, true) ∈ DD i ∧ G'.get b = some A ∧ rejoin ρ ρ' (NX i) (NX (i+1)) b = ρ' b) ∨ ((b, true) ∉ DD i ∧ HS.get b = some A ∧ rejoin ρ ρ' (NX i) (NX (i+1)) b = ρ b) := by
    intro b A hb
    rw [hF] at hb
    by_cases hw : (b, true) ∈ DD i
    · rw [if_pos hw, ← g2 b hw] at hb
      left
      refine ⟨hw, hb, ?_⟩
      obtain ⟨r, sz, obj, hp, _⟩ := hr'.blk b A hb
      rw [hp]; exact e2 b _ hp
    · rw [if_neg hw] at hb
      right
      refine ⟨hw, hb, ?_⟩
      obtain ⟨r, sz, obj, hp, _⟩ := hm.blk b A hb
      rw [hp]; exact e1 b _ hp
  refine ⟨putDst eS o.dst (X i), F, ?_⟩
  refine ⟨fun t => ?_, fun b => ?_, (hm.er.ext e1).put hdst (hx.ext e2), fun b A hb => ?_, fun b c A B r s t hb hc h1 h2 => ?_, fun b r s hb => ?_, fun b p hb => ?_, ?_, fun b hb => ?_, hm.glob.ext e1⟩
  · rw [putDst_get, h.slot_then hd ho, hm.slots]
  · rw [hF, h.block_then hd, hm.heap]
  · rcases hof b A hb with ⟨hw, h1, h2⟩ | ⟨hw, h1, h2⟩
    · obtain ⟨r, sz, obj, q1, q2, q3⟩ := hr'.blk b A h1
      exact ⟨r, sz, obj, by rw [h2]; exact q1, q2, q3.ext e2⟩
    · obtain ⟨r, sz, obj, q1, q2, q3⟩ := hm.blk b A h1
      exact ⟨r, sz, obj, by rw [h2]; exact q1, by rw [hrow b A r sz h1 hw q1]; exact q2, q3.ext e1⟩
  · rcases hof b A hb with ⟨hw, k1, k2⟩ | ⟨hw, k1, k2⟩ <;> rcases hof c B hc with ⟨hw', q1, q2⟩ | ⟨hw', q1, q2⟩ <;> rw [k2] at h1 <;> rw [q2] at h2
    · exact hr'.inj b c A B r s t k1 q1 h1 h2
    · exact (hapart b c B r s t hw h1 q1 hw' h2).elim
    · exact (hapart c b A r t s hw' h2 k1 hw h1).elim
    · exact hm.inj b c A B r s t k1 q1 h1 h2
  · unfold rejoin at hb
    split at hb
    · exact hr'.old b r s hb
    · exact Nat.lt_of_lt_of_le (hm.old b r s hb) hs'.size
  · unfold rejoin at hb
    split at hb
    · rename_i hh; exact .inr ⟨i, hi, by unfold also; rw [if_pos rfl], hh.1, hh.2⟩
    · rcases hm.supp b p hb with h1 | ⟨j, h1, h2, h3, h4⟩
      · exact .inl h1
      · exact .inr ⟨j, h1, by unfold also; split <;> first | rfl | exact h2, h3, h4⟩
  · have hstp : Stp ρ w (rejoin ρ ρ' (NX i) (NX (i+1))) w' (DD i) := by
      refine ⟨e1, hs'.os, hs'.tape, hs'.output, hs'.size, fun r hr hn => hs'.frame r hr fun b s hb hbr => hn b s hb (cut_ext ρ _ b _ hbr), fun b r s hb hb' => ?_⟩
      unfold rejoin at hb'
      split at hb'
      · rename_i hh
        exact (hs'.own b r s (cut_supp ρ _ b hh.1) hb').imp id fun ⟨c, t, hc, hcr⟩ => ⟨c, t, hc, cut_ext ρ _ c _ hcr⟩
      · rw [hb] at hb'; cases hb'
    exact (hm.stp.trans hstp).more fun y hy => by
      rcases List.mem_append.1 hy with hy | hy
      · exact hD y hy
      · exact hy
  · unfold rejoin
    rw [if_neg (by omega)]
    exact hm.low b hb
theorem Mid.step (ok : ν.Ok C.bd) (hpl : PlainOk C) (hc : CallOk C ν call) (h : RunR C call all bs E NX HH X DD) (hd : Due all bs S i) (hm : Mid ν n all E NX HH X DD ρ0 w0 D S ρ eS HS a w) {o : Oper} (ho : all[i]? = some o)
    (hl : LocAt (execOp C call (E i) o.op) (NX i) (HH i) (X i) (NX (i+1)) (HH (i+1)) (DD i)) {ρi : Nm} {wi : World} {ai : Act} (hv : HR ν ρi (NX i) (HH i) wi) (hve : ER ν ρi n (E i) ai) (hdst : ∀ d, o.dst = some d → d < n)
    (hg0 : ∀ g, g < nGlob → g < NX 0) (hD : ∀ y, y ∈ DD i → y ∈ D) {next : Act → World → Prop} {Q : Exit → Act → World → Prop}
    (hn : ∀ ρ' eS' HS' a' w', Mid ν n all E NX HH X DD ρ0 w0 D (also S i) ρ' eS' HS' a' w' → next a' w') : o.wp C.P a w next Q := by
  have hi := hd.lt
  have h0i : NX 0 ≤ NX i := h.mono (Nat.zero_le _) (Nat.le_of_lt hi)
  have hsupi : Supp ρi (NX i) := hv.new
  -- a name of the interval is free
  have hfree : ∀ b, NX i ≤ b → b < NX (i+1) → ρ b = none := by
    intro b h1 h2
    cases hb : ρ b with
    | none => rfl
    | some p =>
      rcases hm.supp b p hb with h3 | ⟨j, h3, h4, h5, h6⟩
      · omega
      · rcases Nat.lt_trichotomy j i with hlt | he | hgt
        · have := h.mono (show j + 1 ≤ i by omega) (Nat.le_of_lt hi); omega
        · subst he; rw [hd.no] at h4; cases h4
        · have := h.mono (show i + 1 ≤ j by omega) (Nat.le_of_lt h3); omega
  have hnow : ∀ b u, (b, u) ∈ DD i → HS.get b = (HH i).get b := fun b u hb => by rw [hm.heap]; exact h.block_now hd hb
  have hbound : ∀ b, NX all.length ≤ b → HS.get b = none := by
    intro b hb
    cases hA : HS.get b with
    | none => rfl
    | some A =>
      obtain ⟨r, sz, obj, hp, _⟩ := hm.blk b A hA
      rcases hm.supp b _ hp with h3 | ⟨j, h3, h4, h5, h6⟩
      · have := h.mono (Nat.zero_le all.length) (Nat.le_refl _); omega
      · have := h.mono (show j + 1 ≤ all.length by omega) (Nat.le_refl _); omega
  obtain ⟨G, hG⟩ := heap_keep (fun b => (DD i).any (fun y => y.1 == b) && decide (b < NX i)) hbound
  have hGt : ∀ b u, (b, u) ∈ DD i → b < NX i → G.get b = HS.get b := by
    intro b u hb hlt
    rw [hG, if_pos]
    rw [Bool.and_eq_true]
    exact ⟨List.any_eq_true.2 ⟨_, hb, by simp⟩, by simpa using hlt⟩
  have hGs : ∀ b A, G.get b = some A → HS.get b = some A ∧ b < NX i ∧ ∃ u, (b, u) ∈ DD i := by
    intro b A hb
    rw [hG] at hb
    split at hb
    · rename_i hp
      rw [Bool.and_eq_true] at hp
      obtain ⟨⟨c, u⟩, hy, he⟩ := List.any_eq_true.1 hp.1
      have he : c = b := by simpa using he
      subst he
      exact ⟨hb, by simpa using hp.2, u, hy⟩
    · cases hb
  have hclG : Cl (NX i) G := by
    intro b hb
    cases hA : G.get b with
    | none => rfl
    | some A => have := (hGs b A hA).2.1; omega
  have hHR : HR ν (cut ρ (NX i)) (NX i) G w := by
    refine ⟨fun b A hb => ?_, fun b c A B r s t hb hc' h1 h2 => ?_, cut_supp ρ _, fun b r s hb => hm.old b r s (cut_ext ρ _ b _ hb)⟩
    · obtain ⟨h1, h2, u, h3⟩ := hGs b A hb
      obtain ⟨r, sz, obj, k1, k2, k3⟩ := hm.blk b A h1
      obtain ⟨r1, sz1, obj1, q1, q2, q3⟩ := hv.blk b A (by rw [← hnow b u h3]; exact h1)
      exact ⟨r, sz, obj, by unfold cut; rw [if_pos h2]; exact k1, k2, q3.cut hsupi k3⟩
    · exact hm.inj b c A B r s t (hGs b A hb).1 (hGs c B hc').1 (cut_ext ρ _ b _ h1) (cut_ext ρ _ c _ h2)
  obtain ⟨G', g1, g2, g3⟩ := hl.loc G hclG fun b u hb hlt => by rw [hGt b u hb hlt, hnow b u hb]
  -- the slots that are looked at
  obtain ⟨ec, hec⟩ := pick_slots (H := eS) (looksA all o)
  have hslot : ∀ t, t ∈ looksA all o → eS.get t = (E i).get t := fun t ht => by rw [hm.slots]; exact h.slot_now hd ho ht
  have hER : ER ν (cut ρ (NX i)) n ec a := by
    refine ⟨hm.er.defers, hm.er.size, fun t x hx => ?_⟩
    rw [hec] at hx
    split at hx
    · rename_i ht
      have h1 := hm.er.slot t x hx
      have h2 := hve.slot t x (by rw [← hslot t ht]; exact hx)
      exact h2.cut hsupi h1
    · cases hx
  have hcong : execOp C call ec o.op = execOp C call (E i) o.op := by
    refine execOp_congr fun x hx => ?_
    cases x with
    | tmp t =>
      have ht : t ∈ looksA all o := List.mem_append_left _ (List.mem_filterMap.2 ⟨_, hx, rfl⟩)
      show ec.get t = (E i).get t
      rw [hec, if_pos ht, hslot t ht]
    | const v => rfl
    | global g => rfl
    | func f => rfl
  have hgl : Glob (cut ρ (NX i)) := by
    intro g hg
    obtain ⟨sz, hsz⟩ := hm.glob g hg
    refine ⟨sz, ?_⟩
    unfold cut
    rw [if_pos (Nat.lt_of_lt_of_le (hg0 g hg) h0i)]
    exact hsz
  have hrun : execOp C call ec o.op (fun x nx H L => Ans.ok x nx H L) (NX i) G [] = Ans.ok (X i) (NX (i+1)) G' (DD i ++ []) := by rw [hcong]; exact g1 _ _
  refine execOp_ok ok hpl hc hHR hgl hER (z := Ans.ok (X i) (NX (i+1)) G' (DD i ++ [])) (fun s hs => by cases hs) hrun next Q ?_
  intro x nx' H' D1 ρ' v w' hk hlow hx hr' hs'
  have hk : Ans.ok x nx' H' (D1 ++ []) = Ans.ok (X i) (NX (i+1)) G' (DD i ++ []) := hk
  rw [List.append_nil, List.append_nil] at hk
  injection hk with e1 e2 e3 e4
  subst e1; subst e2; subst e3; subst e4
  obtain ⟨eS', HS', hmid⟩ := Mid.next h hd hm ho hl hdst hD hfree hnow g2 hlow hx hr' hs'
  exact hn _ _ _ _ _ hmid
end
end Go.AM
namespace Go.AM
/-! # Soundness, part 34: a drawn region -/
section
variable {C : Cx} {ν : Vl} {call : Nat → List AV → M AV} {all : List Oper} {bs : List Nat} {E : Nat → T AV} {NX : Nat → Nat} {HH : Nat → T AB} {X : Nat → AV} {DD : Nat → Log} {S : Nat → Bool} {i n : Nat} {ρ0 : Nm} {w0 : World} {D : Log} {ρ : Nm} {eS : T AV} {HS : T AB} {a : Act} {w : World}
/-- an operation that is not wanted -/
theorem Mid.skip (h : RunR C call all bs E NX HH X DD) (hd : Due all bs S i) (hm : Mid ν n all E NX HH X DD ρ0 w0 D S ρ eS HS a w) {o : Oper} (ho : all[i]? = some o) (hx : X i = .tup []) (hD : DD i = [])
    (hdst : ∀ d, o.dst = some d → d < n) : Mid ν n all E NX HH X DD ρ0 w0 D (also S i) ρ (putDst eS o.dst (.tup [])) HS (a.put o.dst undef) w := by
  refine ⟨fun t => ?_, fun b => ?_, hm.er.put hdst VR_undef, hm.blk, hm.inj, hm.old, fun b p hb => ?_, hm.stp, hm.low, hm.glob⟩
  · rw [putDst_get, h.slot_then hd ho, hm.slots, hx]
  · rw [h.block_then hd, hm.heap, hD, if_neg (by simp)]
  · rcases hm.supp b p hb with h1 | ⟨j, h1, h2, h3, h4⟩
    · exact .inl h1
    · exact .inr ⟨j, h1, by unfold also; split <;> first | rfl | exact h2, h3, h4⟩
/-- a run in the text's order: there is one -/
theorem virt (ok : ν.Ok C.bd) (hpl : PlainOk C) (hc : CallOk C ν call) (h : RunR C call all bs E NX HH X DD) (hfit : all.all (opFit n) = true) (hr : HR ν ρ (NX 0) (HH 0) w) (hg : Glob ρ) (he : ER ν ρ n (E 0) a) :
    ∀ i, i ≤ all.length → ∃ ρi wi ai, HR ν ρi (NX i) (HH i) wi ∧ ER ν ρi n (E i) ai ∧ Glob ρi := by
  intro i
  induction i with
  | zero => intro _; exact ⟨ρ, w, a, hr, he, hg⟩
  | succ i ih =>
    intro hi
    obtain ⟨ρi, wi, ai, h1, h2, h3⟩ := ih (by omega)
    obtain ⟨o, ho⟩ := RunR.get (all := all) (i := i) (by omega)
    have hdst : ∀ d, o.dst = some d → d < n := by
      intro d hd
      have := List.all_eq_true.1 hfit o (List.mem_of_getElem? ho)
      unfold opFit at this
      rw [hd] at this
      exact Nat.le_of_ble_eq_true this
    have hs := h.step i o ho
    rcases hs.did with ⟨_, hl⟩ | ⟨_, hx, hn, hH, _⟩
    · have hrun : execOp C call (E i) o.op (fun x nx H L => Ans.ok x nx H L) (NX i) (HH i) [] = Ans.ok (X i) (NX (i+1)) (HH (i+1)) (DD i ++ []) := hl.runs _ _
      obtain ⟨x, nx', H', D1, ρ', v, w', hk, hlow, hv, hr', hs'⟩ := (execOp_ok ok hpl hc h1 h3 h2 (z := Ans.ok (X i) (NX (i+1)) (HH (i+1)) (DD i ++ [])) (fun s hs => by cases hs) hrun).outcome
      injection hk with e1 e2 e3 e4
      subst e1; subst e2; subst e3
      exact ⟨ρ', w', ai.put o.dst v, hr', by rw [hs.put]; exact (h2.ext hs'.ext).put hdst hv, h3.ext hs'.ext⟩
    · exact ⟨ρi, wi, ai.put o.dst undef, by rw [hn, hH]; exact h1, by rw [hs.put, hx]; exact h2.put hdst VR_undef, h3⟩
end
end Go.AM
namespace Go.AM
/-! # Soundness, part 35: a drawn region, whatever the order -/
section
variable {C : Cx} {ν : Vl} {call : Nat → List AV → M AV} {ops : Array Oper} {bs : List Nat} {E : Nat → T AV} {NX : Nat → Nat} {HH : Nat → T AB} {X : Nat → AV} {DD : Nat → Log} {n : Nat} {ρ0 : Nm} {w0 : World} {D : Log} {Q : Exit → Act → World → Prop}
theorem ready_mem {listed : Array Bool} {i : Nat} (h : i ∈ Region.ready .any ops listed) : i < ops.size ∧ listed.getD i true = false ∧ ∃ o, ops[i]? = some o ∧ ∀ e ∈ o.after.toList, Region.binds .any e = true → listed.getD e.on false = true := by
  unfold Region.ready at h
  rw [List.mem_filter, List.mem_range, Bool.and_eq_true] at h
  obtain ⟨h1, h2, h3⟩ := h
  refine ⟨h1, by simpa using h2, ?_⟩
  have ho : ops[i]? = some ops[i] := by simp [h1]
  rw [ho] at h3
  refine ⟨_, ho, fun e he hb => ?_⟩
  simp only [Option.map_some, Option.getD_some] at h3
  rw [Array.all_eq_true'] at h3
  have := h3 e (by simpa using he)
  rw [hb] at this
  simpa using this
theorem mem_ready' {listed : Array Bool} {i : Nat} {o : Oper} (h1 : i < ops.size) (h2 : listed.getD i true = false) (ho : ops[i]? = some o) (h3 : ∀ e ∈ o.after.toList, Region.binds .any e = true → listed.getD e.on false = true) : i ∈ Region.ready .any ops listed := by
  unfold Region.ready
  rw [List.mem_filter, List.mem_range, Bool.and_eq_true]
  refine ⟨h1, by simpa using h2, ?_⟩
  rw [ho]
  simp only [Option.map_some, Option.getD_some]
  rw [Array.all_eq_true']
  intro e he
  by_cases hb : Region.binds .any e = true
  · rw [hb, h3 e (by simpa using he) hb]; rfl
  · have : Region.binds .any e = false := by simpa using hb
    rw [this]; rfl
theorem getD_tf {listed : Array Bool} {m : Nat} (h : m < listed.size) : listed.getD m true = listed.getD m false := by
  simp [Array.getD_eq_getD_getElem?, h]
theorem any_ok (ok : ν.Ok C.bd) (hpl : PlainOk C) (hc : CallOk C ν call) (h : RunR C call ops.toList bs E NX HH X DD) (hrise : Rising ops.toList) (hjust : Just ops.toList bs) (hbs : bs.length = ops.toList.length) (hfit : ops.toList.all (opFit n) = true)
    (hvirt : ∀ i, i ≤ ops.toList.length → ∃ ρi wi ai, HR ν ρi (NX i) (HH i) wi ∧ ER ν ρi n (E i) ai ∧ Glob ρi) (hg0 : ∀ g, g < nGlob → g < NX 0) (hD : ∀ i y, i < ops.toList.length → y ∈ DD i → y ∈ D)
    (hQ : ∀ S ρ eS HS a w, (∀ m, m < ops.toList.length → S m = true) → Mid ν n ops.toList E NX HH X DD ρ0 w0 D S ρ eS HS a w → Q .normal a w) :
    ∀ (fuel : Nat) (listed : Array Bool) (U : List Nat) (ρ : Nm) (eS : T AV) (HS : T AB) (a : Act) (w : World), listed.size = ops.size → U.Nodup → U.length = fuel → (∀ m, m ∈ U ↔ m < ops.size ∧ listed.getD m true = false) →
      (∀ i j, i < ops.size → listed.getD i true = true → Nat.testBit (Bits bs i) j = true → listed.getD j true = true) → Mid ν n ops.toList E NX HH X DD ρ0 w0 D (fun m => listed.getD m true) ρ eS HS a w →
      wpAny C.P .any ops Q fuel listed a w := by
  intro fuel
  induction fuel with
  | zero =>
    intro listed U ρ eS HS a w hsz hU hlen hmem hclosed hm
    have hall : ∀ m, m < ops.size → listed.getD m true = true := by
      intro m hlt
      cases hb : listed.getD m true with
      | true => rfl
      | false =>
        have := (hmem m).2 ⟨hlt, hb⟩
        rw [List.eq_nil_of_length_eq_zero hlen] at this
        cases this
    refine ⟨?_, hQ _ _ _ _ _ _ (fun m hlt => hall m (by simpa using hlt)) hm⟩
    cases hr : Region.ready .any ops listed with
    | nil => rfl
    | cons i l =>
      have := ready_mem (ops := ops) (listed := listed) (i := i) (by rw [hr]; exact List.mem_cons_self ..)
      rw [hall i this.1] at this
      cases this.2.1
  | succ fuel ih =>
    intro listed U ρ eS HS a w hsz hU hlen hmem hclosed hm
    refine ⟨fun hnil => ?_, fun i hi => ?_⟩
    · exfalso
      have hno : ∀ k, k ∉ U := by
        intro k
        induction k using Nat.strongRecOn with
        | _ k ihk =>
          intro hk
          obtain ⟨h1, h2⟩ := (hmem k).1 hk
          have ho : ops[k]? = some ops[k] := by simp [h1]
          have : k ∈ Region.ready .any ops listed := mem_ready' h1 h2 ho fun e he hb => by
            have hlt := hrise k _ (by simp) e he hb
            rw [← getD_tf (by rw [hsz]; omega)]
            cases hv : listed.getD e.on true with
            | true => rfl
            | false => exact (ihk e.on hlt ((hmem _).2 ⟨by omega, hv⟩)).elim
          rw [hnil] at this; cases this
      cases U with
      | nil => cases hlen
      | cons k U => exact hno k (List.mem_cons_self ..)
    · obtain ⟨hlt, hun, o, ho, hedge⟩ := ready_mem hi
      have hoL : ops.toList[i]? = some o := by simpa using ho
      have hnb : ∀ m, listed.getD m true = false → Nat.testBit (Bits bs i) m = true → False := by
        intro m hm1 hm2
        obtain ⟨e, he, hb, hj⟩ := hjust i o (by rw [hbs]; simpa using hlt) hoL m hm2
        have hon := hrise i o hoL e he hb
        have hl1 : listed.getD e.on true = true := by rw [getD_tf (by rw [hsz]; omega)]; exact hedge e he hb
        rcases hj with hj | hj
        · subst hj; rw [hm1] at hl1; cases hl1
        · rw [hclosed e.on m (by omega) hl1 hj] at hm1; cases hm1
      have hdue : Due ops.toList bs (fun m => listed.getD m true) i := by
        refine ⟨by simpa using hlt, hun, fun m hmi hm1 => ⟨by omega, fun _ => ?_, fun hh => by omega⟩, fun m hmi hml hm1 => ⟨by omega, fun hh => by omega, fun _ => ?_⟩⟩
        · cases hb : Nat.testBit (Bits bs i) m with
          | false => rfl
          | true => exact (hnb m hm1 hb).elim
        · cases hb : Nat.testBit (Bits bs m) i with
          | false => rfl
          | true =>
            have := hclosed m i (by simpa using hml) hm1 hb
            rw [hun] at this; cases this
      have hdst : ∀ d, o.dst = some d → d < n := by
        intro d hd
        have := List.all_eq_true.1 hfit o (List.mem_of_getElem? hoL)
        unfold opFit at this
        rw [hd] at this
        exact Nat.le_of_ble_eq_true this
      have halso : (fun m => (listed.setIfInBounds i true).getD m true) = also (fun m => listed.getD m true) i := by
        funext m
        unfold also
        simp only [Array.getD_eq_getD_getElem?]
        by_cases hmi : m = i
        · subst hmi; rw [if_pos rfl]; simp [hsz, hlt]
        · rw [if_neg hmi, Array.getElem?_setIfInBounds_ne (Ne.symm hmi)]
      have goon : ∀ {ρ' eS' HS' a' w'}, Mid ν n ops.toList E NX HH X DD ρ0 w0 D (also (fun m => listed.getD m true) i) ρ' eS' HS' a' w' → wpAny C.P .any ops Q fuel (listed.setIfInBounds i true) a' w' := by
        intro ρ' eS' HS' a' w' hm'
        rw [← halso] at hm'
        have hget : ∀ m, (listed.setIfInBounds i true).getD m true = also (fun m => listed.getD m true) i m := fun m => congrFun halso m
        refine ih _ (U.erase i) ρ' eS' HS' a' w' (by simp [hsz]) (hU.erase i) ?_ ?_ ?_ hm'
        · rw [List.length_erase_of_mem ((hmem i).2 ⟨hlt, hun⟩), hlen]; rfl
        · intro m
          rw [hU.mem_erase_iff, hmem, hget]
          unfold also
          by_cases hmi : m = i
          · subst hmi; simp
          · rw [if_neg hmi]; simp [hmi]
        · intro p j hp hp1 hb
          rw [hget] at hp1 ⊢
          unfold also at hp1 ⊢
          by_cases hji : j = i
          · rw [if_pos hji]
          · rw [if_neg hji]
            by_cases hpi : p = i
            · subst hpi
              cases hv : listed.getD j true with
              | true => exact hv
              | false => exact (hnb j hv hb).elim
            · rw [if_neg hpi] at hp1
              exact hclosed p j hp hp1 hb
      -- the guard
      have hs := h.step i o hoL
      have hwant : ∀ b, WantA ops.toList (E i) o.guard b → Region.wanted o (yielded ops a.tmps) = b := by
        intro b hb
        unfold Region.wanted
        cases hgd : o.guard with
        | none => rw [hgd] at hb; have hb : b = true := hb; rw [hb]
        | some g =>
          rw [hgd] at hb
          have hb : yieldA ops.toList (E i) g = some b := hb
          have hb2 : yieldA ops.toList eS g = some b := by
            obtain ⟨p, hp, hb⟩ := ob_some hb
            obtain ⟨d, hd, hb⟩ := ob_some hb
            obtain ⟨x, hx, hb⟩ := ob_some hb
            have ht : d ∈ looksA ops.toList o := by
              refine List.mem_append_right _ ?_
              rw [hgd]
              rw [lget_eq] at hp
              simp only [hp, Option.bind_some, hd]
              simp
            have : eS.get d = some x := by rw [hm.slots, h.slot_now hdue hoL ht]; exact hx
            unfold yieldA
            rw [hp, ob_of, hd, ob_of, this, ob_of]
            exact hb
          exact yield_ok hm.er hb2
      unfold wpOp
      rw [ho]
      simp only
      rcases hs.did with ⟨hw, hl⟩ | ⟨hw, hx, hnx, hH, hDi⟩
      · rw [if_pos (hwant true hw)]
        obtain ⟨ρi, wi, ai, v1, v2, _⟩ := hvirt i (by simpa using Nat.le_of_lt hlt)
        exact .inl (Mid.step ok hpl hc h hdue hm hoL hl v1 v2 hdst hg0 (fun y => hD i y (by simpa using hlt)) (fun ρ' eS' HS' a' w' hm' => goon hm'))
      · rw [if_neg (by rw [hwant false hw]; simp)]
        exact goon (Mid.skip h hdue hm hoL hx hDi hdst)
end
end Go.AM
