import Derived.Test.YtpgfdoakehpnlaaGreatDoorAxC
import Derived.Laws.StructEq
import Derived.Laws.Concat
import Derived.Laws.Pointers
import Derived.Laws.BytesString
set_option linter.unusedVariables false
set_option linter.unusedSimpArgs false
namespace Go.AM
/-! # Soundness, part 12: texts, pointers and structs held against each other -/
/-- the structs that may be held against each other hold nothing of the model's own -/
def PlainOk (C : Cx) : Prop := ∀ t ∈ C.plain, C.P.stoodInHeld t = false
section
variable {C : Cx} {ν : Vl} {ρ : Nm} {nx : Nat} {H : T AB} {L : Log} {w : World} {k : AV → Nat → T AB → Log → Ans} {z : Ans}
theorem strV_toList (l : List UInt8) : (⟨⟨l⟩⟩ : ByteArray).toList = l := by rw [ByteArray.toList_eq]
theorem str_append (a b : List UInt8) : ((⟨⟨a⟩⟩ : ByteArray) ++ ⟨⟨b⟩⟩) = ⟨⟨a ++ b⟩⟩ := by
  apply ByteArray.ext
  rw [ByteArray.data_append]
  exact arr_eq (by simp)
theorem lbeq (a b : List UInt8) : (a == b) = decide (a = b) := by rw [Bool.eq_iff_iff]; simp
theorem strOp_ok (ok : ν.Ok C.bd) {op : BinOp} {t : TypeId} {a b : SS} {y : AV} (h : strOp C op a b = some y) :
    ∃ u, (Go.binOp op t (strV (sden ν a)) (strV (sden ν b))).run C.P w = .ok u w ∧ VR ν ρ y u := by
  cases op <;> first | (cases h; done) | skip
  case add =>
    obtain ⟨x, hx, h⟩ := ob_some h
    obtain ⟨x2, hx2, h⟩ := ob_some h
    obtain ⟨s, hs, h⟩ := ob_some h
    obtain ⟨u, hu, h⟩ := ob_some h
    obtain ⟨hlt, h⟩ := bc_some h
    cases h
    rw [ilt_eq] at hlt
    have hlt : u < 4611686018427387904 := by simpa using hlt
    have h1 := slen_den (ν := ν) hx
    have h2 := slen_den (ν := ν) hx2
    have h3 := SI.add_den (ν := ν) hs
    have h4 := SI.hi_den ok hu
    refine ⟨strV (sden ν a ++ sden ν b), ?_, by show _ = _; rw [scat_den]⟩
    show (Op.stringOp .add _ _).run C.P w = _
    have e1 : (⟨⟨sden ν a⟩⟩ : ByteArray).size = (sden ν a).length := rfl
    have e2 : (⟨⟨sden ν b⟩⟩ : ByteArray).size = (sden ν b).length := rfl
    rw [run_string_add_sum w _ _ (by rw [e1, e2]; omega), str_append]
    rfl
  case eql =>
    obtain ⟨e, he, h⟩ := ob_some h
    cases h
    refine ⟨.bool (decide (sden ν a = sden ν b)), ?_, by show _ = _; rw [seq_den ok he]⟩
    show (Op.stringOp .eql _ _).run C.P w = _
    simp only [Op.stringOp, strV_toList, Sem.run_pure]
    rw [lbeq]
  case neq =>
    obtain ⟨e, he, h⟩ := ob_some h
    cases h
    refine ⟨.bool (!decide (sden ν a = sden ν b)), ?_, by show _ = _; rw [seq_den ok he]; cases decide (sden ν a = sden ν b) <;> rfl⟩
    show (Op.stringOp .neq _ _).run C.P w = _
    simp only [Op.stringOp, strV_toList, Sem.run_pure]
    rw [lbeq]
theorem fz_row {r o : Nat} {obj : Obj} (hb : w.heap[r]? = some obj) (h : unfr obj) : w.frozen? ⟨r, o, none⟩ = false := by
  cases obj <;> try exact h.elim
  case cells c e fr =>
    have h : fr = (0, 0) := h
    subst h
    simp [World.frozen?, hb]
theorem shape_row {r sz : Nat} {vs : List Value} {obj : Obj} (hb : w.heap[r]? = some obj) (h : cellsR vs sz obj) : ∃ e, w.shape? r = some (e, sz) := by
  obtain ⟨c, e, fr, rest, rfl, h1, h2, h3⟩ := h
  exact ⟨e, by simp [World.shape?, hb, h2]⟩
theorem sameAddr_run {a b : Addr} {ra rb : Nat} {oa oB : Nat} {obja objb : Obj} {va vb : List Value} {sa sb : Nat} (ha : a = ⟨ra, oa, none⟩) (hb : b = ⟨rb, oB, none⟩)
    (h1 : w.heap[ra]? = some obja) (h2 : w.heap[rb]? = some objb) (u1 : unfr obja) (u2 : unfr objb) (c1 : cellsR va sa obja) (c2 : cellsR vb sb objb) :
    (sameAddr a b).run C.P w = .ok (decide (ra = rb ∧ oa = oB)) w := by
  subst ha; subst hb
  unfold sameAddr
  by_cases e : ra = rb
  · subst e
    simp only [beq_self_eq_true, if_true, Sem.run_bind, Sem.run_pure]
    congr 1
    rw [Bool.eq_iff_iff]; simp
  · have e' : (ra == rb) = false := by simpa using e
    obtain ⟨e1, s1⟩ := shape_row (w := w) h1 c1
    obtain ⟨e2, s2⟩ := shape_row (w := w) h2 c2
    have f1 : ∀ o, w.frozen? ⟨ra, o, none⟩ = false := fun o => fz_row h1 u1
    have f2 : ∀ o, w.frozen? ⟨rb, o, none⟩ = false := fun o => fz_row h2 u2
    simp [e', f1, f2, s1, s2, noView, viewAt, mayBeOne, stringish, e]
theorem ptrEq_ok (hr : HR ν ρ nx H w) (hz : Yes z) {t : TypeId} {a b : Nat} {i j : SI} {va vb : Value} {kk : Bool → Nat → T AB → Log → Ans} (ha : VR ν ρ (.ptr a i) va) (hb : VR ν ρ (.ptr b j) vb)
    (h : ptrEq C t a i b j kk nx H L = z) : ∃ r D, kk r nx H (D ++ L) = z ∧ (Op.equal t va vb).run C.P w = .ok r w := by
  obtain ⟨A, hA, h⟩ := rd_ok hz h
  obtain ⟨B, hB, h⟩ := rd_ok hz h
  obtain ⟨r, hr', hk⟩ := lift_ok hz h
  refine ⟨r, [(b, false), (a, false)], hk, ?_⟩
  cases hd : desc C t with
  | none => simp [hd] at hr'
  | some d =>
    rw [hd] at hr'
    cases d <;> try (cases hr'; done)
    case pointer e =>
    obtain ⟨n, hn, hr1⟩ := ob_some hr'
    obtain ⟨la, hla, hr2⟩ := ob_some hr1
    obtain ⟨lb, hlb, hr3⟩ := ob_some hr2
    obtain ⟨hn1, hr4⟩ := bc_some hr3
    clear hr' hr1 hr2 hr3
    have hn1 := Nat.le_of_ble_eq_true hn1
    obtain ⟨ca, rfl, _⟩ := rowLen_some hla
    obtain ⟨cb, rfl, _⟩ := rowLen_some hlb
    obtain ⟨ra, sa, oa, p1, p2, rfl⟩ := ha
    obtain ⟨rb, sb, oB, q1, q2, rfl⟩ := hb
    obtain ⟨ra', sa', obja, p3, p4, p5⟩ := hr.blk a _ hA
    obtain ⟨rb', sb', objb, q3, q4, q5⟩ := hr.blk b _ hB
    rw [p1] at p3; cases p3
    rw [q1] at q3; cases q3
    obtain ⟨va, _, _, p6, p7⟩ := p5
    obtain ⟨vb, _, _, q6, q7⟩ := q5
    have hs := sameAddr_run (C := C) (w := w) (a := ⟨ra, oa, none⟩) (b := ⟨rb, oB, none⟩) rfl rfl p4 q4 p7 q7 p6 q6
    have hres : r = decide (ra = rb ∧ oa = oB) := by
      cases hab : Nat.beq a b with
      | true =>
        rw [hab] at hr4
        have := Nat.eq_of_beq_eq_true hab
        subst this
        rw [p1] at q1; cases q1
        obtain ⟨x, hx, hr5⟩ := ob_some hr4
        obtain ⟨y, hy, hr6⟩ := ob_some hr5
        cases hr6
        have := ptr_off p2 hx; subst this
        have := ptr_off q2 hy; subst this
        rw [Bool.eq_iff_iff, Nat.beq_eq]; simp
      | false =>
        rw [hab] at hr4
        cases hr4
        have hne : a ≠ b := fun e => by subst e; rw [show Nat.beq a a = true by simp [Nat.beq_eq]] at hab; cases hab
        have : ra ≠ rb := fun e => hne (by subst e; exact hr.inj a b _ _ ra sa sb hA hB p1 q1)
        simp [this]
    rw [hres]
    unfold Op.equal
    rw [show Op.maxDepth = 9999 + 1 from rfl]
    generalize 9999 = dd
    simp only [Op.equalIn, Sem.run_bind, under hd, Result.andThen_ok, tsize_ok hn]
    rw [if_pos (by omega), hs]
end
end Go.AM
namespace Go.AM
/-! # Soundness, part 13: structs held against each other; conversions -/
section
variable {C : Cx} {ν : Vl} {ρ : Nm} {nx : Nat} {H : T AB} {L : Log} {w : World} {k : AV → Nat → T AB → Log → Ans} {z : Ans}
theorem eqc_ok (ok : ν.Ok C.bd) {t : TypeId} {x y : AV} {vx vy : Value} {r : Bool} {d : Nat} (hx : VR ν ρ x vx) (hy : VR ν ρ y vy) (h : eqc C (desc C t) x y = some r) :
    (isAgg t).run C.P w = .ok false w ∧ (Op.equalIn (d + 1) t vx vy).run C.P w = .ok r w := by
  cases hd : desc C t with
  | none => rw [hd] at h; cases h
  | some dd =>
    rw [hd] at h
    rw [isAgg_ok hd]
    cases dd <;> try (cases h; done)
    case bool =>
      cases x <;> try (cases h; done)
      cases y <;> try (cases h; done)
      cases h
      have hx : vx = _ := hx
      have hy : vy = _ := hy
      subst hx; subst hy
      exact ⟨rfl, run_equalIn_bool' w d t _ _ (desc_ok hd)⟩
    case int kk =>
      cases x <;> try (cases h; done)
      case int k1 a =>
      cases y <;> try (cases h; done)
      case int k2 b =>
      obtain ⟨h1, h2⟩ := bc_some h
      have h1 : k1 = k2 := by simpa using h1
      subst h1
      have hx : vx = _ := hx
      have hy : vy = _ := hy
      subst hx; subst hy
      refine ⟨rfl, ?_⟩
      rw [run_equalIn_int w d t k1 kk _ _ (desc_ok hd), SI.eq_den ok h2]
      rfl
    case string =>
      cases x <;> try (cases h; done)
      case str a =>
      cases y <;> try (cases h; done)
      case str b =>
      have hx : vx = _ := hx
      have hy : vy = _ := hy
      subst hx; subst hy
      refine ⟨rfl, ?_⟩
      unfold strV
      rw [run_equalIn_string w d t _ _ (desc_ok hd), strV_toList, strV_toList, lbeq, seq_den ok h]
theorem eqcs_ok (ok : ν.Ok C.bd) {d : Nat} {xs ys : List Value} : ∀ {fs : List Field} {i : Nat} {a b : List AV} {r : Bool},
    (∀ (p : Field × Nat), p ∈ fs.zipIdx i → p.1.name ≠ "_" ∧ p.1.offset = p.2) → VRs ν ρ a (xs.drop i) → VRs ν ρ b (ys.drop i) → eqcs C fs a b = some r →
    (Op.eqFields (d + 1) ⟨xs⟩ ⟨ys⟩ fs).run C.P w = .ok r w := by
  intro fs
  induction fs with
  | nil =>
    intro i a b r _ _ _ h
    cases a <;> cases b <;> first | (cases h; done) | skip
    cases h
    rfl
  | cons f fs ih =>
    intro i a b r hf ha hb h
    cases a with
    | nil => cases b <;> cases h
    | cons x a => cases b with
      | nil => cases h
      | cons y b =>
        obtain ⟨r1, hr1, h⟩ := ob_some (show ob (eqc C (desc C f.type) x y) (fun r => bc r (eqcs C fs a b) (some false)) = some r from h)
        obtain ⟨vx, xs', ex, hvx, hxs⟩ := ha.cons
        obtain ⟨vy, ys', ey, hvy, hys⟩ := hb.cons
        obtain ⟨hname, hoff⟩ := hf (f, i) (by simp [List.zipIdx_cons])
        simp only at hname hoff
        have gx : xs[i]? = some vx := by have := congrArg (fun l => l[0]?) ex; simpa using this
        have gy : ys[i]? = some vy := by have := congrArg (fun l => l[0]?) ey; simpa using this
        obtain ⟨hag, heq⟩ := eqc_ok (w := w) (d := d) ok hvx hvy hr1
        have px : ∀ {l : List Value} {v : Value}, l[i]? = some v → (Go.part f.type ⟨l⟩ f.offset).run C.P w = .ok v w := by
          intro l v hl
          simp only [Go.part, Sem.run_bind, hag, Result.andThen_ok, hoff]
          simp [hl]
        simp only [Op.eqFields]
        rw [if_pos hname]
        simp only [Sem.run_bind, px gx, px gy, Result.andThen_ok, heq]
        cases r1 with
        | false => cases h; rfl
        | true =>
          simp only [Bool.not_true, Bool.false_eq_true, if_false]
          refine ih (i := i + 1) (fun p hp => hf p (by rw [List.zipIdx_cons]; exact List.mem_cons_of_mem _ hp)) ?_ ?_ h
          · have : xs.drop (i + 1) = xs' := by have := congrArg List.tail ex; simpa using this
            rw [this]; exact hxs
          · have : ys.drop (i + 1) = ys' := by have := congrArg List.tail ey; simpa using this
            rw [this]; exact hys
theorem eqst_ok (ok : ν.Ok C.bd) (hpl : PlainOk C) {t : TypeId} {x y : AV} {vx vy : Value} {r : Bool} {d : Nat} (hx : VR ν ρ x vx) (hy : VR ν ρ y vy) (h : eqst C t x y = some r) :
    ∃ xs ys, vx = .agg xs ∧ vy = .agg ys ∧ (Op.equalIn (d + 2) t vx vy).run C.P w = .ok r w ∧ (∀ n, C.P.eqGuardType (n + 2) t = false) := by
  unfold eqst at h
  cases hd : desc C t with
  | none => simp [hd] at h
  | some dd =>
    rw [hd] at h
    cases dd <;> try (cases h; done)
    case struct fs =>
    cases x <;> try (cases h; done)
    case agg a =>
    cases y <;> try (cases h; done)
    case agg b =>
    obtain ⟨hp, h⟩ := bc_some h
    obtain ⟨xs, hxs, _, rfl⟩ := hx
    obtain ⟨ys, hys, _, rfl⟩ := hy
    have hp' : bc (C.plain.any fun u => Nat.beq u t) (fs.toList.zipIdx.all fun (f, i) => f.name != "_" && (Nat.beq f.offset i && (match desc C f.type with
      | some .bool => true
      | some (.int _) => true
      | some .string => true
      | _ => false))) false = true := hp
    have hin : C.plain.any (fun u => Nat.beq u t) = true := by
      cases e : C.plain.any (fun u => Nat.beq u t) with
      | true => rfl
      | false => rw [e] at hp'; cases hp'
    rw [hin, bc_true, List.all_eq_true] at hp'
    have hmem : t ∈ C.plain := by
      obtain ⟨u, hu, e⟩ := List.any_eq_true.1 hin
      have := Nat.eq_of_beq_eq_true e
      subst this; exact hu
    have hund := desc_ok hd
    have hfo : C.P.fieldsOf t = fs := by simp [Program.fieldsOf, hund]
    have hgood : ∀ (p : Field × Nat), p ∈ fs.toList.zipIdx → p.1.name ≠ "_" ∧ p.1.offset = p.2 ∧ (desc C p.1.type = some .bool ∨ (∃ kk, desc C p.1.type = some (.int kk)) ∨ desc C p.1.type = some .string) := by
      intro p hp
      have := hp' p hp
      obtain ⟨f, i⟩ := p
      simp only [Bool.and_eq_true, bne_iff_ne] at this
      refine ⟨this.1, Nat.eq_of_beq_eq_true this.2.1, ?_⟩
      have h3 := this.2.2
      split at h3 <;> first | (cases h3; done) | skip
      · rename_i e; exact .inl e
      · rename_i kk e; exact .inr (.inl ⟨kk, e⟩)
      · rename_i e; exact .inr (.inr e)
    refine ⟨⟨xs⟩, ⟨ys⟩, rfl, rfl, ?_, ?_⟩
    · rw [run_equalIn_struct w (d + 1) t _ _ (by rw [hfo]; exact hund) (hpl t hmem), hfo]
      exact eqcs_ok ok (fun p hp => ⟨(hgood p hp).1, (hgood p hp).2.1⟩) (by simpa using hxs) (by simpa using hys) h
    · intro n
      show C.P.eqGuardType (n + 1 + 1) t = false
      rw [Program.eqGuardType, hund]
      simp only [Array.any_eq_false']
      intro f hf
      have hmf : f ∈ fs.toList := by simpa using hf
      obtain ⟨i, hi, e⟩ := List.mem_iff_getElem.1 hmf
      have hp := hgood (f, i) (by rw [List.mem_zipIdx_iff_getElem?]; simp [← e])
      have : C.P.eqGuardType (n + 1) f.type = false := by
        rw [Program.eqGuardType]
        rcases hp.2.2 with e | ⟨kk, e⟩ | e <;> rw [desc_ok e]
      rw [this]
      simp
theorem depth_two (P : Program) : ∃ n, P.depth = n + 2 := ⟨2 * (P.types.size + Made.depth), rfl⟩
end
end Go.AM
namespace Go.AM
/-! # Soundness, part 14: the binary operations whole; conversions, lengths, least and greatest -/
section
variable {P : Program} {w : World} {d : Nat} {t : TypeId}
theorem eqn_ptr {e : TypeId} (h : P.underlying t = some (.pointer e)) (b : Option Addr) : (Op.equalIn (d + 1) t (.pointer none) (.pointer b)).run P w = .ok b.isNone w := by
  unfold Op.equalIn
  rw [Sem.run_bind, run_underlying h]; rfl
theorem eqn_sl {e : TypeId} (h : P.underlying t = some (.slice e)) (b : Option Addr) (n c m e' : Nat) : (Op.equalIn (d + 1) t (.slice none n c) (.slice b m e')).run P w = .ok b.isNone w := by
  unfold Op.equalIn
  rw [Sem.run_bind, run_underlying h]; rfl
theorem eqn_sl2 {e : TypeId} (h : P.underlying t = some (.slice e)) (a : Addr) (n c m e' : Nat) : (Op.equalIn (d + 1) t (.slice (some a) n c) (.slice none m e')).run P w = .ok false w := by
  unfold Op.equalIn
  rw [Sem.run_bind, run_underlying h]; rfl
theorem eqn_fn {ps rs : Array TypeId} {v : Bool} (h : P.underlying t = some (.func ps rs v)) : (Op.equalIn (d + 1) t .nilFunc .nilFunc).run P w = .ok true w := by
  unfold Op.equalIn
  rw [Sem.run_bind, run_underlying h]; rfl
theorem eqn_fn2 {ps rs : Array TypeId} {v : Bool} (h : P.underlying t = some (.func ps rs v)) (f : Fn) (a b : Array Value) : (Op.equalIn (d + 1) t (.func f a b) .nilFunc).run P w = .ok false w := by
  unfold Op.equalIn
  rw [Sem.run_bind, run_underlying h]; rfl
theorem eqn_fn3 {ps rs : Array TypeId} {v : Bool} (h : P.underlying t = some (.func ps rs v)) (f : Fn) (a b : Array Value) : (Op.equalIn (d + 1) t .nilFunc (.func f a b)).run P w = .ok false w := by
  unfold Op.equalIn
  rw [Sem.run_bind, run_underlying h]; rfl
end
section
variable {C : Cx} {ν : Vl} {ρ : Nm} {nx : Nat} {H : T AB} {L : Log} {w : World} {k : AV → Nat → T AB → Log → Ans} {z : Ans}
/-- the model's sentence for a binary operation -/
def binSem (op : BinOp) (t : TypeId) (x y : Operand) (vx vy : Value) : Sem Value := do eqGuard op t x y vx vy; Go.binOp op t vx vy
theorem bin_of {op : BinOp} {t : TypeId} {x y : Operand} {vx vy u : Value} {w' : World} (hg : (eqGuard op t x y vx vy).run C.P w = .ok () w) (h : (Go.binOp op t vx vy).run C.P w = .ok u w') :
    (binSem op t x y vx vy).run C.P w = .ok u w' := by
  simp only [binSem, Sem.run_bind, hg, Result.andThen_ok, h]
theorem eqv_run (ok : ν.Ok C.bd) (hpl : PlainOk C) {t : TypeId} {x y : AV} {vx vy : Value} {r : Bool} (hx : VR ν ρ x vx) (hy : VR ν ρ y vy) (h : eqv C t x y = some r) :
    (Op.equal t vx vy).run C.P w = .ok r w := by
  unfold Op.equal
  rw [show Op.maxDepth = 9998 + 2 from rfl]
  generalize 9998 = dd
  unfold eqv at h
  cases hd : desc C t with
  | none => simp [hd] at h
  | some d =>
    have hund := desc_ok hd
    rw [hd] at h
    cases d <;> try (cases h; done)
    case bool =>
      cases x <;> try (cases h; done)
      cases y <;> try (cases h; done)
      cases h
      have hx : vx = _ := hx
      have hy : vy = _ := hy
      subst hx; subst hy
      exact run_equalIn_bool' w _ t _ _ hund
    case pointer e =>
      have hpt : C.P.underlying t = some (.pointer (C.P.pointee t)) := by simp [Program.pointee, hund]
      cases x <;> try (cases h; done)
      case ptr b i =>
        cases y <;> try (cases h; done)
        case nilp =>
        cases h
        obtain ⟨ra, sa, oa, _, _, rfl⟩ := hx
        have hy : vy = _ := hy
        subst hy
        exact run_equalIn_pointer_nil w _ t _ hpt
      case nilp =>
        have hx : vx = _ := hx
        subst hx
        cases y <;> try (cases h; done)
        case ptr b i =>
          cases h
          obtain ⟨ra, sa, oa, _, _, rfl⟩ := hy
          exact eqn_ptr hund _
        case nilp =>
          cases h
          have hy : vy = _ := hy
          subst hy
          exact run_equalIn_pointer_nil w _ t _ hpt
    case slice e =>
      cases x <;> try (cases h; done)
      case sl =>
        cases y <;> try (cases h; done)
        case nils =>
        cases h
        obtain ⟨ra, sa, oa, n, c, _, _, _, _, _, _, rfl⟩ := hx
        have hy : vy = _ := hy
        subst hy
        exact eqn_sl2 hund _ _ _ _ _
      case nils =>
        have hx : vx = _ := hx
        subst hx
        cases y <;> try (cases h; done)
        case sl =>
          cases h
          obtain ⟨ra, sa, oa, n, c, _, _, _, _, _, _, rfl⟩ := hy
          exact eqn_sl hund _ _ _ _ _
        case nils =>
          cases h
          have hy : vy = _ := hy
          subst hy
          exact eqn_sl hund _ _ _ _ _
    case func ps rs vv =>
      cases x <;> try (cases h; done)
      case fn f a b =>
        cases y <;> try (cases h; done)
        case nilf =>
        cases h
        obtain ⟨as, bs, _, _, rfl⟩ := hx
        have hy : vy = _ := hy
        subst hy
        exact eqn_fn2 hund _ _ _
      case nilf =>
        have hx : vx = _ := hx
        subst hx
        cases y <;> try (cases h; done)
        case fn f a b =>
          cases h
          obtain ⟨as, bs, _, _, rfl⟩ := hy
          exact eqn_fn3 hund _ _ _
        case nilf =>
          cases h
          have hy : vy = _ := hy
          subst hy
          exact eqn_fn hund
    case struct fs =>
      obtain ⟨xs, ys, rfl, rfl, h1, h2⟩ := eqst_ok (w := w) (d := dd) ok hpl hx hy h
      exact h1
def eqShape (vx vy : Value) : Prop := match vx, vy with
  | .bool _, .bool _ => True
  | .pointer _, .pointer _ => True
  | .slice .., .slice .. => True
  | .func .., .func .. => True
  | .func .., .nilFunc => True
  | .nilFunc, .func .. => True
  | .nilFunc, .nilFunc => True
  | .agg _, .agg _ => True
  | _, _ => False
theorem eqShape_bin {t : TypeId} {vx vy : Value} (h : eqShape vx vy) : Go.binOp .eql t vx vy = (do pure (.bool (← Op.equal t vx vy))) ∧ Go.binOp .neq t vx vy = (do pure (.bool (!(← Op.equal t vx vy)))) := by
  cases vx <;> cases vy <;> first | exact h.elim | exact ⟨rfl, rfl⟩
theorem eqv_shape (ok : ν.Ok C.bd) (hpl : PlainOk C) {t : TypeId} {ox oy : Operand} {x y : AV} {vx vy : Value} {r : Bool} (hx : VR ν ρ x vx) (hy : VR ν ρ y vy) (h : eqv C t x y = some r) :
    eqShape vx vy ∧ ∀ op, (eqGuard op t ox oy vx vy).run C.P w = .ok () w := by
  unfold eqv at h
  cases hd : desc C t with
  | none => simp [hd] at h
  | some d =>
    rw [hd] at h
    cases d <;> try (cases h; done)
    case bool =>
      cases x <;> try (cases h; done)
      cases y <;> try (cases h; done)
      have hx : vx = _ := hx
      have hy : vy = _ := hy
      subst hx; subst hy
      exact ⟨trivial, fun op => by rw [eqGuard_at_bool]; rfl⟩
    case pointer e =>
      have px : ∃ p, vx = .pointer p := by
        cases x <;> try (cases h; done)
        case ptr => obtain ⟨ra, sa, oa, _, _, rfl⟩ := hx; exact ⟨_, rfl⟩
        case nilp => exact ⟨none, hx⟩
      have py : ∃ p, vy = .pointer p := by
        cases x <;> cases y <;> try (cases h; done)
        case ptr.nilp => exact ⟨none, hy⟩
        case nilp.ptr => obtain ⟨ra, sa, oa, _, _, rfl⟩ := hy; exact ⟨_, rfl⟩
        case nilp.nilp => exact ⟨none, hy⟩
      obtain ⟨p, rfl⟩ := px
      obtain ⟨q, rfl⟩ := py
      exact ⟨trivial, fun op => by rw [eqGuard_at_pointer]; rfl⟩
    case slice e =>
      have px : ∃ p n c, vx = .slice p n c := by
        cases x <;> try (cases h; done)
        case sl => obtain ⟨ra, sa, oa, n, c, _, _, _, _, _, _, rfl⟩ := hx; exact ⟨_, _, _, rfl⟩
        case nils => exact ⟨none, 0, 0, hx⟩
      have py : ∃ p n c, vy = .slice p n c := by
        cases x <;> cases y <;> try (cases h; done)
        case sl.nils => exact ⟨none, 0, 0, hy⟩
        case nils.sl => obtain ⟨ra, sa, oa, n, c, _, _, _, _, _, _, rfl⟩ := hy; exact ⟨_, _, _, rfl⟩
        case nils.nils => exact ⟨none, 0, 0, hy⟩
      obtain ⟨p, n, c, rfl⟩ := px
      obtain ⟨p', n', c', rfl⟩ := py
      exact ⟨trivial, fun op => by rw [eqGuard_at_slice]; rfl⟩
    case func ps rs vv =>
      cases x <;> try (cases h; done)
      case fn f a b =>
        obtain ⟨as, bs, _, _, rfl⟩ := hx
        cases y <;> try (cases h; done)
        case nilf =>
        have hy : vy = _ := hy
        subst hy
        exact ⟨trivial, fun op => by rw [eqGuard_at_func]; rfl⟩
      case nilf =>
        have hx : vx = _ := hx
        subst hx
        cases y <;> try (cases h; done)
        case fn f a b =>
          obtain ⟨as, bs, _, _, rfl⟩ := hy
          exact ⟨trivial, fun op => by rw [eqGuard_at_nilFunc]; rfl⟩
        case nilf =>
          have hy : vy = _ := hy
          subst hy
          exact ⟨trivial, fun op => by rw [eqGuard_at_nilFunc]; rfl⟩
    case struct fs =>
      obtain ⟨xs, ys, rfl, rfl, h1, h2⟩ := eqst_ok (w := w) (d := 0) ok hpl hx hy h
      obtain ⟨n, hn⟩ := depth_two C.P
      exact ⟨trivial, fun op => run_eqGuard_agg (P := C.P) w op t ox oy xs ys (by rw [hn]; exact h2 n)⟩
theorem binOp_ok (ok : ν.Ok C.bd) (hpl : PlainOk C) (hr : HR ν ρ nx H w) (hz : Yes z) {op : BinOp} {t : TypeId} {ox oy : Operand} {x y : AV} {vx vy : Value} (hx : VR ν ρ x vx) (hy : VR ν ρ y vy)
    (h : binOp C op t x y k nx H L = z) : Out C.P ν ρ nx L w k z (binSem op t ox oy vx vy) := by
  -- two numbers
  have ints : ∀ {k1 k2 : IntKind} {a b : SI}, x = .int k1 a → y = .int k2 b → Out C.P ν ρ nx L w k z (binSem op t ox oy vx vy) := by
    intro k1 k2 a b ex ey
    subst ex; subst ey
    have hx : vx = _ := hx
    have hy : vy = _ := hy
    subst hx; subst hy
    rcases bcM_ok (show (bc (k1 == k2 || op == .shl || op == .shr) (M.lift "intOp" (intOp C op k1 a b)) (M.no "kinds") : M AV) k nx H L = z from h) with ⟨hc, h⟩ | ⟨_, h⟩
    · obtain ⟨r, hr', hk⟩ := lift_ok hz h
      have hc : k1 = k2 ∨ op = .shl ∨ op = .shr := by
        simp only [Bool.or_eq_true, beq_iff_eq] at hc
        rcases hc with (hc | hc) | hc
        · exact .inl hc
        · exact .inr (.inl hc)
        · exact .inr (.inr hc)
      obtain ⟨u, h1, h2⟩ := intOp_ok (w := w) (t := t) (ρ := ρ) ok hc hr'
      exact Out.pure hr hk (bin_of (by rw [eqGuard_at_int]; rfl) h1) h2
    · exact (no_ok hz h).elim
  have strs : ∀ {a b : SS}, x = .str a → y = .str b → Out C.P ν ρ nx L w k z (binSem op t ox oy vx vy) := by
    intro a b ex ey
    subst ex; subst ey
    have hx : vx = _ := hx
    have hy : vy = _ := hy
    subst hx; subst hy
    obtain ⟨r, hr', hk⟩ := lift_ok hz h
    obtain ⟨u, h1, h2⟩ := strOp_ok (w := w) (t := t) (ρ := ρ) ok hr'
    exact Out.pure hr hk (bin_of (by unfold strV; rw [eqGuard_at_string]; rfl) h1) h2
  have rest : binOp2 C op t x y k nx H L = z → Out C.P ν ρ nx L w k z (binSem op t ox oy vx vy) := by
    intro h
    unfold binOp2 at h
    split at h
    · rename_i a i b j
      obtain ⟨r, D, hk, he⟩ := ptrEq_ok hr hz hx hy h
      obtain ⟨ra, sa, oa, _, _, rfl⟩ := hx
      obtain ⟨rb, sb, oB, _, _, rfl⟩ := hy
      refine Out.seen hr (D := D) (x := .bool r) hk (bin_of (by rw [eqGuard_at_pointer]; rfl) (u := .bool r) ?_) rfl
      show (do pure (Value.bool (← Op.equal t _ _))).run C.P w = _
      rw [Sem.run_bind, he]; rfl
    · rename_i a i b j
      obtain ⟨r, D, hk, he⟩ := ptrEq_ok hr hz hx hy h
      obtain ⟨ra, sa, oa, _, _, rfl⟩ := hx
      obtain ⟨rb, sb, oB, _, _, rfl⟩ := hy
      refine Out.seen hr (D := D) (x := .bool (bc r false true)) hk (bin_of (by rw [eqGuard_at_pointer]; rfl) (u := .bool (bc r false true)) ?_) rfl
      show (do pure (Value.bool (!(← Op.equal t _ _)))).run C.P w = _
      rw [Sem.run_bind, he]; cases r <;> rfl
    · obtain ⟨r, hr', hk⟩ := lift_ok hz h
      obtain ⟨e, he, hr'⟩ := ob_some hr'
      cases hr'
      have h1 := eqv_run (w := w) ok hpl hx hy he
      obtain ⟨hs, hg⟩ := eqv_shape (w := w) (ox := ox) (oy := oy) ok hpl hx hy he
      obtain ⟨h4, h5⟩ := eqShape_bin (t := t) hs
      refine Out.pure hr hk (bin_of (hg _) (u := .bool e) ?_) rfl
      rw [h4, Sem.run_bind, h1]; rfl
    · obtain ⟨r, hr', hk⟩ := lift_ok hz h
      obtain ⟨e, he, hr'⟩ := ob_some hr'
      cases hr'
      have h1 := eqv_run (w := w) ok hpl hx hy he
      obtain ⟨hs, hg⟩ := eqv_shape (w := w) (ox := ox) (oy := oy) ok hpl hx hy he
      obtain ⟨h4, h5⟩ := eqShape_bin (t := t) hs
      refine Out.pure hr hk (bin_of (hg _) (u := .bool (bc e false true)) ?_) rfl
      rw [h5, Sem.run_bind, h1]; cases e <;> rfl
    · exact (no_ok hz h).elim
  cases x <;> first | exact rest h | skip
  case int k1 a => cases y <;> first | exact ints rfl rfl | exact rest h
  case str a => cases y <;> first | exact strs rfl rfl | exact rest h
theorem un_ok (ok : ν.Ok C.bd) (hr : HR ν ρ nx H w) (hz : Yes z) {op : UnOp} {x : AV} {vx : Value} (hx : VR ν ρ x vx)
    (h : (match op, x with
      | .not, .bool b => M.ret (AV.bool (bc b false true))
      | .neg, .int k n => M.lift "neg" (mkI k (ob (SI.sub (.k 0) n) fun e => wrap C.bd k e))
      | _, _ => M.no "unOp") k nx H L = z) : Out C.P ν ρ nx L w k z (Op.unary op vx) := by
  cases op <;> try (exact (no_ok hz h).elim)
  case not =>
    cases x <;> try (exact (no_ok hz h).elim)
    case bool b =>
    have hx : vx = _ := hx
    subst hx
    exact Out.pure hr h (v := .bool (bc b false true)) (by cases b <;> rfl) rfl
  case neg =>
    cases x <;> try (exact (no_ok hz h).elim)
    case int kk n =>
    have hx : vx = _ := hx
    subst hx
    obtain ⟨r, hr', hk⟩ := lift_ok hz h
    obtain ⟨e, he, hr'⟩ := ob_some hr'
    obtain ⟨d, hd, he⟩ := ob_some he
    cases hr'
    refine Out.pure hr hk (v := .int kk (kk.wrap (0 - n.den ν))) rfl ?_
    show _ = _
    rw [wrap_den ok he, SI.sub_den hd]; rfl
theorem min2_ok (ok : ν.Ok C.bd) {mx : Bool} {x y r : AV} {vx vy : Value} (hx : VR ν ρ x vx) (hy : VR ν ρ y vy) (h : min2 C mx x y = some r) :
    ∃ u, ((if mx then Builtin.max2 vx vy else Builtin.min2 vx vy)).run C.P w = .ok u w ∧ VR ν ρ r u := by
  cases x <;> try (cases h; done)
  case int k1 a =>
  cases y <;> try (cases h; done)
  case int k2 b =>
  have hx : vx = _ := hx
  have hy : vy = _ := hy
  subst hx; subst hy
  cases mx with
  | false =>
    obtain ⟨q, hq, h⟩ := ob_some (show (ob (SI.lt C.bd b a) fun r => some (AV.int k1 (bc r b a))) = some r from h)
    cases h
    have := SI.lt_den ok hq
    refine ⟨.int k1 (if b.den ν < a.den ν then b.den ν else a.den ν), rfl, ?_⟩
    show _ = _
    rw [this]
    by_cases e : b.den ν < a.den ν <;> simp [e]
  | true =>
    obtain ⟨q, hq, h⟩ := ob_some (show (ob (SI.lt C.bd a b) fun r => some (AV.int k1 (bc r b a))) = some r from h)
    cases h
    have := SI.lt_den ok hq
    refine ⟨.int k1 (if b.den ν > a.den ν then b.den ν else a.den ν), rfl, ?_⟩
    show _ = _
    rw [this]
    by_cases e : a.den ν < b.den ν <;> simp [e]
end
end Go.AM
namespace Go.AM
/-! # Soundness, part 15: conversions -/
section
variable {C : Cx} {ν : Vl} {ρ : Nm} {nx : Nat} {H : T AB} {L : Log} {w : World} {k : AV → Nat → T AB → Log → Ans} {z : Ans}
theorem elemS_ok {t : TypeId} {nb : Nat × Bool} (h : elemS C t = some nb) : ∃ e i, desc C t = some (.slice e) ∧ info C e = some i ∧ i.size = nb.1 ∧ i.bytes ≤ 65536 ∧ isByte C e = nb.2 := by
  unfold elemS at h
  cases hd : desc C t with
  | none => simp [hd] at h
  | some d =>
    rw [hd] at h
    cases d <;> try (cases h; done)
    case slice e =>
    obtain ⟨i, hi, h⟩ := ob_some h
    obtain ⟨hb, h⟩ := bc_some h
    cases h
    exact ⟨e, i, rfl, hi, rfl, Nat.le_of_ble_eq_true hb, rfl⟩
theorem isByte_ok {e : TypeId} (h : isByte C e = true) : desc C e = some (.int .u8) := by
  unfold isByte at h
  split at h
  · assumption
  · cases h
theorem byteV_back (l : List UInt8) : ∀ s : ByteArray, (l.map fun b => (b.toNat : Int)).foldl (fun r n => r.push (UInt8.ofNat n.toNat)) s = ⟨s.data ++ ⟨l⟩⟩ := by
  induction l with
  | nil => intro s; simp
  | cons b l ih =>
    intro s
    simp only [List.map_cons, List.foldl_cons, Int.toNat_natCast]
    rw [ih]
    have : UInt8.ofNat b.toNat = b := by simp
    rw [this]
    cases s
    simp [ByteArray.push]
/-- what a content is in the model's cells -/
def CtR (ν : Vl) (ρ : Nm) : Ct → List Value → Prop
  | .cells cs, l => VRs ν ρ cs l
  | .bytes s, l => l = (sden ν s).map byteV
  | .opq, _ => True
theorem content_lt {off len : SI} {esz k : Nat} {l : List Nat} {ct : Ct} (h : content C (.lt k l) off len esz = some ct) : k = 9 ∧ l = [] ∧ ct = .opq := by
  obtain ⟨h1, h⟩ := bc_some (show bc (Nat.beq k 9) (match l with | [] => some Ct.opq | _ => none) none = some ct from h)
  cases l with
  | nil => cases h; exact ⟨Nat.eq_of_beq_eq_true h1, rfl, rfl⟩
  | cons b l => cases h
/-- the whole of a block -/
theorem LT.whole {k : Nat} {l : List Nat} {sz : Nat} {obj : Obj} (h : LT ν ρ k l sz obj) : ∃ vs, vs.length = sz ∧ cellsR vs sz obj ∧ unfr obj := by
  obtain ⟨_, _, ⟨c, e, fr, rest, rfl, h2, h3, h4⟩, h5, _⟩ := h
  exact ⟨c.toList, by simpa using h3, ⟨c, e, fr, [], rfl, by simp, h3, h4⟩, h5⟩
/-- the cells of a slice, read -/
theorem content_loads (ok : ν.Ok C.bd) (hr : HR ν ρ nx H w) {b r sz o n c esz : Nat} {off len : SI} {A : AB} {ct : Ct} (hb : H.get b = some A) (hp : ρ b = some (r, sz)) (ho : c = 0 ∨ off.den ν = (o : Nat)) (hn : len.den ν = (n : Nat))
    (hc : n ≤ c) (h : content C A off len esz = some ct) (hopq : ct = .opq → o + c * esz ≤ sz) :
    ∃ l : List Value, l.length = n * esz ∧ (ct ≠ .opq → ∀ x ∈ l, cellV x = true) ∧ (∀ w' : World, w'.heap = w.heap → ∀ j v, l[j]? = some v → w'.cell? ((⟨r, o, none⟩ : Addr).add j) = some v) ∧
      CtR ν ρ ct l := by
  obtain ⟨r', sz', obj, hp', hob, hBR⟩ := hr.blk b _ hb
  rw [hp] at hp'; cases hp'
  have cellw : ∀ {vs : List Value}, cellsR vs sz obj → ∀ w' : World, w'.heap = w.heap → ∀ {i : Nat} {v : Value}, vs[i]? = some v → w'.cell? ⟨r, i, none⟩ = some v := by
    intro vs h w' hw i v hv
    exact cellsR.cell (w := w') (by rw [hw]; exact hob) h hv
  cases A with
  | map es => cases h
  | row cs =>
    obtain ⟨on, hon, h⟩ := ob_some (show ob off.isNat (fun o => ob len.isNat fun n => ob (ltake (Nat.mul n esz) (ldrop o cs)) fun l => some (Ct.cells l)) = some ct from h)
    obtain ⟨ln, hln, h⟩ := ob_some h
    obtain ⟨l, hl, h⟩ := ob_some h
    cases h
    obtain ⟨rfl, h2⟩ := ltake_some hl
    rw [ldrop_eq] at h2 ⊢
    have := ptr_off hn hln; subst this
    obtain ⟨vs, h5, h6, h7, _⟩ := hBR
    refine ⟨(vs.drop on).take (n * esz), ?_, fun _ x hx => h6 x (List.mem_of_mem_drop (List.mem_of_mem_take hx)), ?_, (h5.drop on).take _⟩
    · have := (h5.drop on).length
      simp only [List.length_take]
      have h2' : n * esz ≤ (cs.drop on).length := h2
      omega
    · intro w' hw j v hj
      rw [List.getElem?_take] at hj
      split at hj
      · rename_i hlt
        have hn0 : 0 < n := by
          rcases Nat.eq_zero_or_pos n with e | e
          · subst e; simp at hlt
          · exact e
        have ho' : off.den ν = (o : Nat) := by rcases ho with ho | ho
                                               · omega
                                               · exact ho
        have := ptr_off ho' hon; subst this
        rw [addr_add]
        exact cellw h7 w' hw (by simpa using hj)
      · cases hj
  | byt s =>
    obtain ⟨h1, h⟩ := bc_some (show bc (Nat.beq esz 1) (ob (sdrop C.bd s off) (fun r => ob (stake C.bd r len) fun t => some (Ct.bytes t))) none = some ct from h)
    have := Nat.eq_of_beq_eq_true h1
    subst this
    obtain ⟨q, hq, h⟩ := ob_some h
    obtain ⟨t, ht, h⟩ := ob_some h
    cases h
    obtain ⟨q1, q2, q3⟩ := sdrop_den ok hq
    obtain ⟨t1, t2, t3⟩ := stake_den ok ht
    rw [hn] at t2 t3
    simp only [Int.toNat_natCast] at t3
    have hlen : (sden ν t).length = n := by rw [t3, List.length_take]; omega
    refine ⟨(sden ν t).map byteV, by simp [hlen], fun _ x hx => ?_, ?_, rfl⟩
    · obtain ⟨y, _, rfl⟩ := List.mem_map.1 hx; rfl
    · intro w' hw j v hj
      have hj' : j < n := by have := (List.getElem?_eq_some_iff.1 hj).1; simpa [hlen] using this
      have ho' : off.den ν = (o : Nat) := by rcases ho with ho | ho
                                             · omega
                                             · exact ho
      rw [addr_add]
      refine cellw hBR w' hw ?_
      rw [t3, q3, ho'] at hj
      simp only [Int.toNat_natCast, List.getElem?_map, List.getElem?_take, hj', if_true, List.getElem?_drop] at hj
      simpa using hj
  | lt k l0 =>
    obtain ⟨rfl, rfl, rfl⟩ := content_lt h
    obtain ⟨vs, h1, h2, h3⟩ := LT.whole hBR
    have hop := hopq rfl
    have hle : n * esz ≤ c * esz := Nat.mul_le_mul_right _ hc
    refine ⟨(vs.drop o).take (n * esz), ?_, fun hne => (hne rfl).elim, ?_, trivial⟩
    · rw [List.length_take, List.length_drop]; omega
    · intro w' hw j v hj
      rw [List.getElem?_take] at hj
      split at hj
      · rw [addr_add]
        exact cellw h2 w' hw (by simpa using hj)
      · cases hj
theorem convB_ok (ok : ν.Ok C.bd) (hr : HR ν ρ nx H w) {b r sz o n c : Nat} {off len : SI} {A : AB} {y : AV} (hb : H.get b = some A) (hp : ρ b = some (r, sz)) (ho : c = 0 ∨ off.den ν = (o : Nat)) (hn : len.den ν = (n : Nat))
    (hc : n ≤ c) (h : convB C A off len = some y) : ∃ u, (Conv.bytesToString (.slice (some ⟨r, o, none⟩) n c)).run C.P w = .ok u w ∧ VR ν ρ y u := by
  have fin : ∀ {l : List Value} {bs : List UInt8}, l.length = n * 1 → (∀ w' : World, w'.heap = w.heap → ∀ j v, l[j]? = some v → w'.cell? ((⟨r, o, none⟩ : Addr).add j) = some v) → l = bs.map byteV →
      (Conv.bytesToString (.slice (some ⟨r, o, none⟩) n c)).run C.P w = .ok (strV bs) w := by
    intro l bs hl hcell e
    have hload : (loadCells ⟨r, o, none⟩ n).run C.P w = .ok ((bs.map fun b => (b.toNat : Int)).map (Value.int .u8)).toArray w := by
      have := run_loadCells_list (P := C.P) (w := w) ⟨r, o, none⟩ l (hcell w rfl)
      rw [Nat.mul_one] at hl
      rw [hl] at this
      rw [this, e]
      congr 2
      simp [byteV, Function.comp_def]
    rw [run_bytesToString w _ _ _ _ hload, byteV_back]
    simp [strV, ByteArray.empty, ByteArray.emptyWithCapacity]
    rfl
  cases A with
  | map es => cases h
  | lt k l => cases h
  | byt s =>
    obtain ⟨q, hq, h⟩ := ob_some (show ob (sdrop C.bd s off) (fun r => ob (stake C.bd r len) fun t => some (AV.str t)) = some y from h)
    obtain ⟨t, ht, h⟩ := ob_some h
    cases h
    obtain ⟨l, h1, h2, h3, h4⟩ := content_loads (c := c) (esz := 1) (ct := .bytes t) ok hr hb hp ho hn hc (by show ob (sdrop C.bd s off) (fun r => ob (stake C.bd r len) fun t => some (Ct.bytes t)) = _; rw [hq, ob_of, ht, ob_of]) (fun e => by cases e)
    exact ⟨_, fin h1 h3 h4, rfl⟩
  | row cs =>
    obtain ⟨ct, hct, h⟩ := ob_some (show ob (content C (.row cs) off len 1) (fun c => (match c with
      | .cells l => ob (bytesOf l) fun s => some (AV.str s)
      | _ => none)) = some y from h)
    obtain ⟨l, h1, h2, h3, h4⟩ := content_loads (c := c) ok hr hb hp ho hn hc hct (fun e => by subst e; cases h)
    cases ct with
    | bytes _ => cases h
    | opq => cases h
    | cells cs' =>
      obtain ⟨s, hs, h⟩ := ob_some h
      cases h
      exact ⟨_, fin h1 h3 (bytesOf_ok hs h4), rfl⟩
end
end Go.AM
namespace Go.AM
/-! # Soundness, part 16: conversions whole, lengths, new slices -/
section
variable {C : Cx} {ν : Vl} {ρ : Nm} {nx : Nat} {H : T AB} {L : Log} {w : World} {k : AV → Nat → T AB → Log → Ans} {z : Ans}
theorem freeze_cells {c : Array Value} {e : TypeId} {fr : Nat × Nat} {r n : Nat} (hb : w.heap[r]? = some (.cells c e fr)) :
    (w.freeze ⟨r, n, none⟩ 1).heap = w.heap.setIfInBounds r (.cells c e (if fr.1 == fr.2 then (n, n + 1) else (min fr.1 n, max fr.2 (n + 1)))) ∧
    (w.freeze ⟨r, n, none⟩ 1).os = w.os ∧ (w.freeze ⟨r, n, none⟩ 1).tape = w.tape ∧ (w.freeze ⟨r, n, none⟩ 1).output = w.output := by
  have hr : r < w.heap.size := (Array.getElem?_eq_some_iff.1 hb).1
  have hg : w.heap[r] = .cells c e fr := (Array.getElem?_eq_some_iff.1 hb).2
  unfold World.freeze
  rw [if_neg (by omega)]
  refine ⟨?_, rfl, rfl, rfl⟩
  apply Array.ext_getElem?
  intro i
  simp only [Array.getElem?_modify]
  by_cases e1 : r = i
  · subst e1
    simp [hr, hg]
  · rw [if_neg e1, Array.getElem?_setIfInBounds_ne e1]
theorem byteCells (l : List UInt8) : (Array.map (fun b : UInt8 => Value.int .u8 b.toNat) ⟨l⟩).toList = l.map byteV := by simp [byteV]
theorem conv_ok (ok : ν.Ok C.bd) (hr : HR ν ρ nx H w) (hz : Yes z) {s d : TypeId} {x : AV} {vx : Value} (hx : VR ν ρ x vx) (h : conv C s d x k nx H L = z) :
    Out C.P ν ρ nx L w k z (Go.convert s d vx) := by
  obtain ⟨ds, hds, hh⟩ := lift_ok hz h
  clear h
  have h := hh
  clear hh
  cases hdd : desc C d with
  | none => rw [hdd] at h; exact (hz _ h.symm).elim
  | some dd =>
    rw [hdd] at h
    cases dd <;> try (exact (hz _ h.symm).elim)
    case int kk =>
      unfold convInt at h
      rw [hdd] at h
      cases x <;> try (exact (hz _ h.symm).elim)
      case int k1 e =>
      have hx : vx = _ := hx
      subst hx
      obtain ⟨r, hr', hk⟩ := lift_ok hz h
      obtain ⟨e', he, hr'⟩ := ob_some hr'
      cases hr'
      refine Out.pure hr hk (v := .int kk (kk.wrap (e.den ν))) ?_ (by show _ = _; rw [wrap_den ok he])
      simp only [Go.convert, Sem.run_bind, under hds, under hdd, Result.andThen_ok]
      cases ds <;> rfl
    case string =>
      cases x <;> try (exact (hz _ h.symm).elim)
      case str t =>
        have hx : vx = _ := hx
        subst hx
        refine Out.pure hr h (v := strV (sden ν t)) ?_ rfl
        simp only [Go.convert, Sem.run_bind, under hds, under hdd, Result.andThen_ok, strV]
        cases ds <;> rfl
      case nils =>
        have hx : vx = _ := hx
        subst hx
        obtain ⟨y, hy, hk⟩ := lift_ok hz h
        obtain ⟨⟨n, b⟩, hel, hy⟩ := ob_some hy
        obtain ⟨hb, hy⟩ := bc_some hy
        cases hy
        obtain ⟨e, i, he, hi, _, _, hby⟩ := elemS_ok hel
        simp only at hb hby
        rw [hb] at hby
        refine Out.pure hr hk (v := .string .empty) ?_ rfl
        rw [run_convert_bytes_string w s d e none 0 0 (desc_ok he) (desc_ok (isByte_ok hby)) (desc_ok hdd)]
        rfl
      case sl b off len cap zz =>
        obtain ⟨_, hy, h⟩ := lift_ok hz h
        obtain ⟨⟨n', b'⟩, hel, hy⟩ := ob_some hy
        obtain ⟨hb, _⟩ := bc_some hy
        obtain ⟨e, i, he, hi, _, _, hby⟩ := elemS_ok hel
        simp only at hb hby
        rw [hb] at hby
        obtain ⟨A, hA, h⟩ := rd_ok hz h
        obtain ⟨y, hy, hk⟩ := lift_ok hz h
        obtain ⟨r, sz, o, n, c, h1, h2, h3, h4, h5, h6, rfl⟩ := hx
        obtain ⟨u, hu, hyu⟩ := convB_ok ok hr hA h1 h2 h3 h5 hy
        refine Out.seen hr (D := [(b, false)]) hk (v := u) ?_ hyu
        rw [run_convert_bytes_string w s d e _ _ _ (desc_ok he) (desc_ok (isByte_ok hby)) (desc_ok hdd)]
        exact hu
    case slice de =>
      cases x <;> try (exact (hz _ h.symm).elim)
      case str t =>
        have hx : vx = _ := hx
        subst hx
        obtain ⟨n, hn, h⟩ := lift_ok hz h
        obtain ⟨⟨n', b'⟩, hel, hn⟩ := ob_some hn
        obtain ⟨hb, hn⟩ := bc_some hn
        obtain ⟨e, i, he, hi, _, _, hby⟩ := elemS_ok hel
        rw [hdd] at he; cases he
        simp only at hb hby
        rw [hb] at hby
        have hnl := slen_den (ν := ν) hn
        obtain ⟨l, hl⟩ : ∃ l, l = sden ν t := ⟨_, rfl⟩
        rw [← hl] at hnl
        have hcap : ∀ c : Nat, l.length ≤ c → True := fun _ _ => trivial
        obtain ⟨cp, hcp⟩ : ∃ cp, cp = (Question.appendCap l.length 0 de).cut (w.tape w.drawn (.appendCap l.length 0 de)) := ⟨_, rfl⟩
        have hge : l.length ≤ cp := by rw [hcp]; exact Nat.le_add_right _ _
        obtain ⟨cs, hcs⟩ : ∃ cs : Array Value, cs = (Array.map (fun b : UInt8 => Value.int .u8 b.toNat) ⟨l⟩) ++ Array.replicate (cp - l.length) (.int .u8 0) := ⟨_, rfl⟩
        have hsz : cs.size = cp := by rw [hcs]; simp; omega
        obtain ⟨w1, hw1⟩ : ∃ w1 : World, w1 = { w with drawn := w.drawn + 1, heap := w.heap.push (.cells cs de) } := ⟨_, rfl⟩
        have hget : w1.heap[w.heap.size]? = some (.cells cs de (0, 0)) := by rw [hw1]; simp
        obtain ⟨f1, f2, f3, f4⟩ := freeze_cells (w := w1) (n := cp) hget
        have hheap : (w1.freeze ⟨w.heap.size, cp, none⟩ 1).heap = w.heap.push (.cells cs de (cp, cp + 1)) := by
          rw [f1, hw1]
          apply Array.ext_getElem?
          intro i
          by_cases e1 : w.heap.size = i
          · subst e1; simp
          · rw [Array.getElem?_setIfInBounds_ne e1, Array.getElem?_push, Array.getElem?_push, if_neg (by omega), if_neg (by omega)]
        refine Out.new hr (D := [(nx, true)]) (w' := w1.freeze ⟨w.heap.size, cp, none⟩ 1) (A := .byt t) (sz := cp) (obj := .cells cs de (cp, cp + 1)) hheap (by rw [f2, hw1]) (by rw [f3, hw1]) (by rw [f4, hw1]) ?_ h
          (v := .slice (some ⟨w.heap.size, 0, none⟩) l.length cp) ?_ ⟨_, cp, 0, l.length, cp, upd_same .., .inr rfl, hnl, by show n.den ν ≤ _; omega, hge, by omega, rfl⟩
        · refine ⟨cs, de, (cp, cp + 1), List.replicate (cp - l.length) (.int .u8 0), rfl, ?_, hsz, .inr (Nat.le_refl _)⟩
          rw [hcs, ← hl, Array.toList_append, byteCells, Array.toList_replicate]
        · have hst : (Conv.stringToBytes de ⟨⟨l⟩⟩).run C.P w = .ok (.slice (some ⟨w.heap.size, 0, none⟩) l.length cp) (w1.freeze ⟨w.heap.size, cp, none⟩ 1) := by
            have hszl : (⟨⟨l⟩⟩ : ByteArray).size = l.length := rfl
            simp only [Conv.stringToBytes, Sem.run_bind, run_choose, Question.forced, hszl]
            simp only [Bool.false_eq_true, if_false, Result.andThen_ok, newRow, Sem.run_bind, run_newObj, Sem.run_pure, ← hcp]
            rw [← hcs]
            have e1 : ({ heap := w.heap.push (.cells cs de), tape := w.tape, drawn := w.drawn + 1, os := w.os, output := w.output } : World) = w1 := by rw [hw1]
            rw [e1]
            have hshape : w1.shape? w.heap.size = some (de, cp) := by simp only [World.shape?, hget, hsz]
            simp only [markStringish, Sem.run_bind, run_shape, Result.andThen_ok, hshape, run_freeze]
          simp only [Go.convert, Sem.run_bind, under hds, under hdd, Result.andThen_ok, strV]
          rw [← hl]
          have hin : (underlying de).run C.P w = .ok (.int .u8) w := under (isByte_ok hby)
          cases ds <;> (simp only [Sem.run_bind, hin, Result.andThen_ok]; exact hst)
      case sl b off len cap zz =>
        obtain ⟨_, hy, hq⟩ := lift_ok hz h
        clear h
        obtain ⟨⟨n', b'⟩, hel, hy⟩ := ob_some hy
        obtain ⟨hb, _⟩ := bc_some hy
        rw [Bool.and_eq_true] at hb
        have hsd := Nat.eq_of_beq_eq_true hb.1
        obtain ⟨e, i, he, hi, _, _, hby⟩ := elemS_ok hel
        rw [hdd] at he; cases he
        simp only at hb hby
        rw [hb.2] at hby
        obtain ⟨A, hA, hq2⟩ := rd_ok hz hq
        obtain ⟨A', hA', hq3⟩ := lift_ok hz hq2
        obtain ⟨_, hk⟩ := wr_ok hz hq3
        clear hq hq2 hq3
        cases A <;> try (cases hA'; done)
        case byt t =>
        cases hA'
        have hx' := hx
        obtain ⟨r, sz, o, n, c, h1, h2, h3, h4, h5, h6, rfl⟩ := hx
        obtain ⟨r', sz', obj, hp, hob, hB⟩ := hr.blk b _ hA
        rw [h1] at hp; cases hp
        obtain ⟨cs, e2, fr, rest, rfl, q1, q2, q3⟩ := hB
        obtain ⟨f1, f2, f3, f4⟩ := freeze_cells (w := w) (n := sz) hob
        refine Out.wrote hr (D := [(b, true), (b, false)]) hA h1 f1 f2 f3 f4 (A := .byt t) (sz := sz) ?_ (by simp) hk (v := .slice (some ⟨r, o, none⟩) n c) ?_ hx'
        · refine ⟨cs, e2, _, rest, rfl, q1, q2, ?_⟩
          rcases q3 with q3 | q3
          · rw [if_pos (by simpa using q3)]; exact .inr (Nat.le_refl _)
          · split
            · exact .inr (Nat.le_refl _)
            · exact .inr (by show sz ≤ min fr.1 sz; omega)
        · subst hsd
          rw [hdd] at hds; cases hds
          have hin : (underlying de).run C.P w = .ok (.int .u8) w := under (isByte_ok hby)
          simp only [Go.convert, Sem.run_bind, under hdd, Result.andThen_ok]
          simp only [beq_self_eq_true, Sem.run_bind, hin, Result.andThen_ok]
          have hshape : w.shape? r = some (e2, sz) := by simp only [World.shape?, hob, q2]
          simp only [markStringish, Sem.run_bind, run_shape, Result.andThen_ok, hshape, run_freeze, Sem.run_pure]
end
end Go.AM
