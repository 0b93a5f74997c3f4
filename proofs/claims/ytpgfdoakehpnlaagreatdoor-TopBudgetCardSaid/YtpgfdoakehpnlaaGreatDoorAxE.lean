import Derived.Test.YtpgfdoakehpnlaaGreatDoorAxD
import Derived.MapKept
set_option linter.unusedVariables false
set_option linter.unusedSimpArgs false
namespace Go.AM
/-! # Soundness, part 17: lengths, least and greatest, new slices, clear -/
section
variable {C : Cx} {ν : Vl} {ρ : Nm} {nx : Nat} {H : T AB} {L : Log} {w : World} {k : AV → Nat → T AB → Log → Ans} {z : Ans}
theorem len_ok {t ty : TypeId} {x y : AV} {vx : Value} (hx : VR ν ρ x vx) (h : lenOp C t x = some y) : ∃ u, (Builtin.len_ #[t] ty #[vx]).run C.P w = .ok u w ∧ VR ν ρ y u := by
  unfold lenOp at h
  cases hd : desc C t with
  | none => simp [hd] at h
  | some d =>
    rw [hd] at h
    cases d <;> try (cases h; done)
    case string =>
      cases x <;> try (cases h; done)
      case str s =>
      obtain ⟨n, hn, h⟩ := ob_some h
      cases h
      have hx : vx = _ := hx
      subst hx
      refine ⟨goInt (sden ν s).length, ?_, by show _ = _; rw [slen_den hn]; rfl⟩
      simp only [Builtin.len_, strV]
      simp [under hd]
      rfl
    case slice e =>
      cases x <;> try (cases h; done)
      case nils =>
        cases h
        have hx : vx = _ := hx
        subst hx
        exact ⟨goInt 0, by simp [Builtin.len_, under hd], rfl⟩
      case sl b off n cap zz =>
        cases h
        obtain ⟨r, sz, o, n', c, h1, h2, h3, h4, h5, h6, rfl⟩ := hx
        exact ⟨goInt n', by simp [Builtin.len_, under hd], by show _ = _; rw [h3]; rfl⟩
    case array n e =>
      cases h
      refine ⟨goInt n, ?_, rfl⟩
      simp only [Builtin.len_]
      simp [under hd]
theorem minAll_ok (ok : ν.Ok C.bd) {mx : Bool} {l : List AV} : ∀ {x y : AV} {vx : Value} {vs : List Value}, VR ν ρ x vx → VRs ν ρ l vs → minAll C mx x l = some y →
    ∃ u, (vs.foldlM (if mx then Builtin.max2 else Builtin.min2) vx : Sem Value).run C.P w = .ok u w ∧ VR ν ρ y u := by
  induction l with
  | nil =>
    intro x y vx vs hx hl h
    rw [hl.nil]
    cases h
    exact ⟨vx, rfl, hx⟩
  | cons a l ih =>
    intro x y vx vs hx hl h
    obtain ⟨v, vs', rfl, hv, hl'⟩ := hl.cons
    obtain ⟨q, hq, h⟩ := ob_some (show (ob (min2 C mx x a) fun z => minAll C mx z l) = some y from h)
    obtain ⟨u, h1, h2⟩ := min2_ok (w := w) ok hx hv hq
    obtain ⟨u', h3, h4⟩ := ih h2 hl' h
    refine ⟨u', ?_, h4⟩
    rw [List.foldlM_cons, Sem.run_bind]
    cases mx <;> (simp only [if_true, if_false, Bool.false_eq_true] at h1 h3 ⊢; rw [h1]; exact h3)
theorem mk_no {b l c : Int} (h1 : 0 ≤ l) (h2 : l ≤ c) (h0 : 0 ≤ b * c) (h3 : b * c ≤ 65536 * 1000000) : ¬ ((decide (c < 0) || decide (b * c > 2 ^ 48) || decide (l < 0) || decide (l > c)) = true) := by
  generalize b * c = x at h0 h3
  have : (2 : Int) ^ 48 = 281474976710656 := by decide
  rw [this]
  simp only [Bool.or_eq_true, decide_eq_true_eq]
  omega
theorem zerosOf_den {l : SI} {t : SS} (h : zerosOf l = some t) {n : Nat} (hn : l.den ν = (n : Int)) : sden ν t = List.replicate n 0 := by
  unfold zerosOf at h
  split at h
  · rename_i i
    obtain ⟨h1, h⟩ := bc_some h
    cases h
    have h1 := Nat.le_of_ble_eq_true h1
    have e : ν.n i = ((ν.x i).length : Int) := by unfold Vl.n; rw [if_pos (by omega)]
    have hn : 0 + (1 * ν.n i + 0) = (n : Int) := hn
    have hn : (ν.x i).length = n := by omega
    have : sden ν [.var i] = ν.x i := by simp [sden, Pc.den, Vl.t, show i ≤ 31 by omega]
    rw [this]
    exact List.eq_replicate_iff.2 ⟨hn, ν.zr i h1⟩
  · cases h
theorem makeSlice_ok (ok : ν.Ok C.bd) (hr : HR ν ρ nx H w) (hz : Yes z) {t : TypeId} {l c : AV} {vl vc : Value} (hl : VR ν ρ l vl) (hc : VR ν ρ c vc) (h : makeSlice C t l c k nx H L = z) :
    Out C.P ν ρ nx L w k z (Instr.makeSlice t vl vc) := by
  unfold makeSlice at h
  cases hd : desc C t with
  | none => rw [hd] at h; exact (hz _ h.symm).elim
  | some d =>
    rw [hd] at h
    cases d <;> try (exact (hz _ h.symm).elim)
    case slice e =>
    cases l <;> try (exact (hz _ h.symm).elim)
    case int k1 l =>
    cases c <;> try (exact (hz _ h.symm).elim)
    case int k2 c =>
    have hl : vl = _ := hl
    have hc : vc = _ := hc
    subst hl; subst hc
    obtain ⟨⟨es, isB⟩, hel, hq⟩ := lift_ok hz h
    clear h
    obtain ⟨e', i, he, hi, hsz, hby, hbyte⟩ := elemS_ok hel
    rw [hd] at he; cases he
    simp only at hsz hbyte
    have hes : tsize C e = some es := by unfold tsize; rw [hi]; simp [hsz]
    rcases bcM_ok (show (bc (makeFits C l c) (bc isB (makeB C e l c) (makeR C e es l c)) (M.no "makeSlice: bounds") : M AV) k nx H L = z from hq) with ⟨hf, hq2⟩ | ⟨_, hq2⟩
    case inr => exact (hz _ hq2.symm).elim
    clear hq
    have hfb : bounds C (.k 0) l c = true ∧ within C 0 1000000 c = true := by
      unfold makeFits at hf
      cases hb : bounds C (.k 0) l c with
      | false => rw [hb] at hf; cases hf
      | true => rw [hb] at hf; exact ⟨rfl, hf⟩
    obtain ⟨b1, b2, b3⟩ := bounds_den ok hfb.1
    have hw := within_ok ok hfb.2
    rw [den_k] at b1 b2
    obtain ⟨lN, hlN⟩ := nat_of b2
    obtain ⟨cN, hcN⟩ := nat_of hw.1
    have hcm : cN ≤ 1000000 := by omega
    have hlc : lN ≤ cN := by omega
    -- what the model makes
    have hrun : ∀ (v : Value) (zn : Nat), (∀ w, (zeroValue e).run C.P w = .ok v w) → v.cells.size = es →
        ∃ c0 : Array Value, c0.toList = rep cN v.cells.toList ∧ (Instr.makeSlice t (.int k1 (lN : Int)) (.int k2 (cN : Int))).run C.P w = .ok (.slice (some ⟨w.heap.size, 0, none⟩) lN cN) { w with heap := w.heap.push (.cells c0 e) } := by
      intro v _ hv hvs
      refine ⟨(Array.range (cN * v.cells.size)).map (v.cells[· % v.cells.size]!), zeros_eq _ _, ?_⟩
      have w1 : IntKind.i64.wrap (lN : Int) = lN := wrap_of_fits (by show _ ∧ _; constructor <;> omega)
      have w2 : IntKind.i64.wrap (cN : Int) = cN := wrap_of_fits (by show _ ∧ _; constructor <;> omega)
      have hbb : i.bytes * cN ≤ 65536 * 1000000 := Nat.mul_le_mul hby hcm
      have hlarge : ((i.bytes : Int) * (cN : Int)) ≤ 65536 * 1000000 := by rw [← Int.natCast_mul]; exact Int.le_trans (Int.ofNat_le.2 hbb) (by decide)
      simp only [Instr.makeSlice, Sem.run_bind, under hd, Result.andThen_ok, asInt, asIntOf, Sem.run_pure, typeInfo_ok hi, w1, w2]
      rw [if_neg (mk_no (by omega) (by omega) (Int.mul_nonneg (Int.natCast_nonneg _) (Int.natCast_nonneg _)) hlarge)]
      simp only [Sem.run_bind, run_askRoom, Result.andThen_ok, Int.toNat_natCast, tsize_ok hes]
      by_cases e0 : cN * es = 0
      · rw [if_pos e0]
        have er : ∀ f : Nat → Value, (Array.range (cN * es)).map f = (Array.range (cN * v.cells.size)).map (v.cells[· % v.cells.size]!) := by intro f; rw [hvs, e0]; simp
        simp only [pure_bind, er, Sem.run_bind, newRow, run_newObj, Result.andThen_ok, Sem.run_pure]
      · rw [if_neg e0]
        simp only [Sem.run_bind, hv, Result.andThen_ok, Sem.run_pure, newRow, run_newObj, hvs]
    rw [hlN, hcN]
    cases isB with
    | true =>
      obtain ⟨_, hzb, hq3⟩ := lift_ok hz hq2
      obtain ⟨zl, hzl, hzb⟩ := ob_some hzb
      obtain ⟨v, zn, z1, z2, z3, z4, z5⟩ := tzeroC_ok (ν := ν) (ρ := ρ) hzl
      rw [hes] at z4; cases z4
      have hvs : v.cells.size = es := by have := z2.length; simp at this; omega
      obtain ⟨c0, hc0, hrn⟩ := hrun v 0 z1 hvs
      have hzl' : zl = [.int .u8 (.k 0)] := by
        unfold zeroB at hzb
        split at hzb
        · rfl
        · cases hzb
      subst hzl'
      have hes1 : es = 1 := by simpa using z5.symm
      subst hes1
      have hvc : v.cells.toList = [.int .u8 0] := by
        obtain ⟨v', vs', e1, e2, e3⟩ := z2.cons
        rw [e1, e3.nil, show v' = .int .u8 0 from e2]
      have hreplen : ∀ m, rep m [Value.int .u8 0] = List.replicate m (Value.int .u8 0) := by
        intro m
        induction m with
        | zero => rfl
        | succ m ih => simp [rep, ih, List.replicate_succ]
      have hc0s : c0.size = cN := by have := congrArg List.length hc0; rw [rep_length, hvc] at this; simpa using this
      have fin : ∀ {u : SS} {l' : SI}, l'.den ν = (lN : Int) → sden ν u = List.replicate lN 0 → ((M.nw (.byt u)).bind fun b => M.ret (.sl b (.k 0) l' (.eq c) 1) : M AV) k nx H L = z →
          Out C.P ν ρ nx L w k z (Instr.makeSlice t (.int k1 (lN : Int)) (.int k2 (cN : Int))) := by
        intro t' l' hl' hden hq
        refine Out.new hr (D := [(nx, true)]) (w' := { w with heap := w.heap.push (.cells c0 e) }) (A := .byt t') (sz := cN) (obj := .cells c0 e) rfl rfl rfl rfl ?_ hq hrn ?_
        · refine ⟨c0, e, (0, 0), List.replicate (cN - lN) (.int .u8 0), rfl, ?_, hc0s, .inl rfl⟩
          rw [hden, hc0, hvc, hreplen, List.map_replicate]
          show _ = List.replicate lN (Value.int .u8 0) ++ _
          rw [List.replicate_append_replicate]
          congr 1
          omega
        · exact ⟨_, cN, 0, lN, cN, upd_same .., .inr rfl, hl', hcN, hlc, by omega, rfl⟩
      have oth : ∀ {l' : SI}, l'.den ν = (lN : Int) → ((M.lift "makeSlice: bytes" (zerosOf l')).bind fun s => (M.nw (.byt s)).bind fun b => M.ret (.sl b (.k 0) l' (.eq c) 1) : M AV) k nx H L = z →
          Out C.P ν ρ nx L w k z (Instr.makeSlice t (.int k1 (lN : Int)) (.int k2 (cN : Int))) := by
        intro l' hl' hq
        obtain ⟨s', hs', hq'⟩ := lift_ok hz hq
        exact fin hl' (zerosOf_den hs' hl') hq'
      cases l with
      | lin a v => exact oth hlN hq3
      | bt a v i s => exact oth hlN hq3
      | k l =>
      cases l with
      | negSucc n => exact oth hlN hq3
      | ofNat n =>
      have hn : n = lN := by have : ((n : Nat) : Int) = lN := hlN; omega
      subst hn
      have hden : sden ν (bc (Nat.beq n 0) [] [Pc.lit n 0]) = List.replicate n 0 := by
        have hz0 : ∀ m, litB m 0 = List.replicate m 0 := by
          intro m
          induction m with
          | zero => rfl
          | succ m ih => simp only [litB, Nat.zero_mod, Nat.zero_div, ih, List.replicate_succ]; rfl
        cases hb : Nat.beq n 0 with
        | true => have := Nat.eq_of_beq_eq_true hb; subst this; rfl
        | false => simp [sden, Pc.den, hz0]
      exact fin rfl hden hq3
    | false =>
      cases l <;> try (exact (hz _ hq2.symm).elim)
      case k l =>
      cases l <;> try (exact (hz _ hq2.symm).elim)
      case ofNat n =>
      cases c <;> try (exact (hz _ hq2.symm).elim)
      case k c =>
      cases c <;> try (exact (hz _ hq2.symm).elim)
      case ofNat m =>
      have hn : n = lN := by have : ((n : Nat) : Int) = lN := hlN; omega
      have hm : m = cN := by have : ((m : Nat) : Int) = cN := hcN; omega
      subst hn; subst hm
      obtain ⟨zl, hzl, hq3⟩ := lift_ok hz hq2
      obtain ⟨v, zn, z1, z2, z3, z4, z5⟩ := tzeroC_ok (ν := ν) (ρ := ρ) hzl
      rw [hes] at z4; cases z4
      have hvs : v.cells.size = es := by have := z2.length; simp at this; omega
      obtain ⟨c0, hc0, hrn⟩ := hrun v 0 z1 hvs
      have hc0s : c0.size = m * es := by have := congrArg List.length hc0; rw [rep_length] at this; simpa [hvs] using this
      refine Out.new hr (D := [(nx, true)]) (w' := { w with heap := w.heap.push (.cells c0 e) }) (A := .row (rep m zl)) (sz := c0.size) (obj := .cells c0 e) rfl rfl rfl rfl ?_ hq3 hrn ?_
      · exact BR.row (by rw [hc0]; exact z2.rep m) (by rw [hc0]; exact fun y hy => z3 y (rep_mem hy))
      · exact ⟨_, c0.size, 0, n, m, upd_same .., .inr rfl, rfl, rfl, hlc, by omega, rfl⟩
theorem clear_ok (ok : ν.Ok C.bd) (hr : HR ν ρ nx H w) (hz : Yes z) {t ty : TypeId} {x : AV} {vx : Value} (hx : VR ν ρ x vx) (h : clearOp C t x k nx H L = z) :
    Out C.P ν ρ nx L w k z (Builtin.clear_ #[t] ty #[vx]) := by
  unfold clearOp at h
  cases hd : desc C t with
  | none => rw [hd] at h; exact (hz _ h.symm).elim
  | some d =>
    rw [hd] at h
    cases d <;> try (exact (hz _ h.symm).elim)
    case slice e =>
    cases x <;> try (exact (hz _ h.symm).elim)
    case nils =>
      have hx : vx = _ := hx
      subst hx
      refine Out.pure hr h (v := .tuple #[]) ?_ ⟨[], rfl, rfl⟩
      simp only [Builtin.clear_]
      simp [under hd]
    case sl b off n cap zz =>
    cases n <;> try (exact (hz _ h.symm).elim)
    case k n =>
    cases n <;> try (exact (hz _ h.symm).elim)
    case ofNat n =>
    obtain ⟨r, sz, o, n', c, h1, h2, h3, h4, h5, h6, rfl⟩ := hx
    have hn : n = n' := by have : ((n : Nat) : Int) = n' := h3; omega
    subst hn
    cases n with
    | zero =>
      refine Out.pure hr h (v := .tuple #[]) ?_ ⟨[], rfl, rfl⟩
      simp only [Builtin.clear_]
      simp [under hd]
    | succ n =>
      obtain ⟨zl, hzl, hq⟩ := lift_ok hz h
      obtain ⟨A, hA, hq2⟩ := rd_ok hz hq
      obtain ⟨A', hA', hq3⟩ := lift_ok hz hq2
      obtain ⟨_, hk⟩ := wr_ok hz hq3
      clear h hq hq2 hq3
      cases A <;> try (cases hA'; done)
      case row cs =>
      obtain ⟨on, hon, hA'⟩ := ob_some hA'
      obtain ⟨q, hq, hA'⟩ := ob_some hA'
      cases hA'
      have ho' : off.den ν = (o : Nat) := by rcases h2 with h2 | h2
                                             · omega
                                             · exact h2
      have := ptr_off ho' hon; subst this
      obtain ⟨zv, zn, z1, z2, z3, _, _⟩ := tzeroC_ok (ν := ν) (ρ := ρ) hzl
      obtain ⟨q1, q2⟩ := lput_some hq
      obtain ⟨r', sz', obj, hp, hob, hB⟩ := hr.blk b _ hA
      rw [h1] at hp; cases hp
      obtain ⟨vs, b1, b2, b3, b4⟩ := hB
      have hrep : VRs ν ρ (rep (n + 1) zl) (rep (n + 1) zv.cells.toList) := z2.rep _
      have hlen := hrep.length
      have hvl := b1.length
      obtain ⟨w', obj', hrun, hw, e1, e2, e3, hput, _, hu⟩ := b3.put (P := C.P) hob (o := o) (l := rep (n + 1) zv.cells.toList) (fun y hy => z3 y (rep_mem hy)) (by have := b3.len; omega)
      refine Out.wrote hr (D := [(b, true), (b, false)]) hA h1 hw e1 e2 e3 (A := .row q) (sz := sz) ⟨_, ?_, ?_, hput (by omega), hu b4⟩ (by simp) hk (v := .tuple #[]) ?_ ⟨[], rfl, rfl⟩
      · rw [q1, hlen]
        exact ((b1.take o).append hrep).append (b1.drop _)
      · intro y hy
        rcases List.mem_append.1 hy with hy | hy
        · rcases List.mem_append.1 hy with hy | hy
          · exact b2 y (List.mem_of_mem_take hy)
          · exact z3 y (rep_mem hy)
        · exact b2 y (List.mem_of_mem_drop hy)
      · have hzc : (Builtin.zeroCells zv.cells (n + 1)).toList = rep (n + 1) zv.cells.toList := zeros_eq _ _
        simp only [Builtin.clear_]
        simp only [List.getElem?_toArray, List.getElem?_cons_zero, Sem.run_bind, under hd, Result.andThen_ok, z1, hzc, hrun, Sem.run_pure]
end
end Go.AM
namespace Go.AM
/-! # Soundness, part 18: append -/
section
variable {C : Cx} {ν : Vl} {ρ : Nm} {nx : Nat} {H : T AB} {L : Log} {w : World} {k : AV → Nat → T AB → Log → Ans} {z : Ans}
/-- what the model makes of what is appended -/
structure SrcR (P : Program) (w : World) (size : Nat) (x : Value) (n : Nat) (l : List Value) : Prop where
  lenOf : ∀ w' : World, (Builtin.lenOf x).run P w' = .ok n w'
  first : ∀ w' : World, w'.heap = w.heap → (Builtin.firstCells size n x).run P w' = .ok l.toArray w'
  len : l.length = n * size
  cell : ∀ y ∈ l, cellV y = true
theorem run_first (P : Program) {size r o n c : Nat} {l : List Value} {w' : World} (hl : l.length = n * size) (h : ∀ j v, l[j]? = some v → w'.cell? ((⟨r, o, none⟩ : Addr).add j) = some v) :
    (Builtin.firstCells size n (.slice (some ⟨r, o, none⟩) n c)).run P w' = .ok l.toArray w' := run_firstCells_some w' size n _ n c l hl h
theorem src_ok (ok : ν.Ok C.bd) (hr : HR ν ρ nx H w) (hz : Yes z) {esz : Nat} {isB : Bool} (hB : isB = true → esz = 1) {x : AV} {vx : Value} (hx : VR ν ρ x vx) {k' : Ct → Nat → T AB → Log → Ans} (h : srcCt C esz isB x k' nx H L = z) {e : SI} (hn : srcLen x = some e) :
    ∃ ct D n l, (∀ y ∈ D, y.2 = false) ∧ k' ct nx H (D ++ L) = z ∧ SrcR C.P w esz vx n l ∧ e.den ν = (n : Nat) ∧ CtR ν ρ ct l ∧ ct ≠ .opq := by
  unfold srcCt at h
  cases x <;> try (cases hn; done)
  case nils =>
    cases hn
    have hx : vx = _ := hx
    subst hx
    refine ⟨bc isB (.bytes []) (.cells []), [], 0, [], by simp, h, ⟨fun _ => rfl, fun w' _ => run_firstCells_none w' _ _ _ _, by simp, by simp⟩, rfl, ?_⟩
    cases isB
    · exact ⟨(VRs.mk0 : VRs ν ρ [] []), by simp⟩
    · exact ⟨rfl, by simp⟩
  case str s =>
    have hx : vx = _ := hx
    subst hx
    rcases bcM_ok (show (bc isB (M.ret (.bytes s)) (M.no "append: a text to what") : M Ct) k' nx H L = z from h) with ⟨hb, hk⟩ | ⟨_, hk⟩
    case inr => exact (hz _ hk.symm).elim
    have := hB hb
    subst this
    have hs : (⟨⟨sden ν s⟩⟩ : ByteArray).size = (sden ν s).length := rfl
    refine ⟨.bytes s, [], (sden ν s).length, (sden ν s).map byteV, by simp, hk, ⟨fun _ => rfl, fun w' _ => ?_, by simp, fun y hy => ?_⟩, slen_den hn, rfl, by simp⟩
    · simp only [Builtin.firstCells, strV, Sem.run_pure]
      rw [extract_eq]
      simp [byteV]
    · obtain ⟨b, _, rfl⟩ := List.mem_map.1 hy; rfl
  case sl b off len cap zz =>
    cases hn
    have full : ((M.rd b).bind fun A => M.lift "append: source" (ob (content C A off e esz) fun c => (match c with
        | .cells l => bc isB (ob (bytesOf l) fun s => some (.bytes s)) (some (.cells l))
        | .bytes s => some (.bytes s)
        | .opq => none)) : M Ct) k' nx H L = z → ∃ ct D n l, (∀ y ∈ D, y.2 = false) ∧ k' ct nx H (D ++ L) = z ∧ SrcR C.P w esz vx n l ∧ e.den ν = (n : Nat) ∧ CtR ν ρ ct l ∧ ct ≠ .opq := by
      intro h
      obtain ⟨A, hA, hq⟩ := rd_ok hz h
      obtain ⟨ct, hct, hk⟩ := lift_ok hz hq
      obtain ⟨c0, hc0, hct⟩ := ob_some hct
      obtain ⟨r, sz, o, n, c, h1, h2, h3, h4, h5, h6, rfl⟩ := hx
      obtain ⟨l, l1, l2, l3, l4⟩ := content_loads (c := c) ok hr hA h1 h2 h3 h5 hc0 (fun e => by subst e; cases hct)
      refine ⟨ct, [(b, false)], n, l, by simp, hk, ⟨fun _ => rfl, fun w' hw => run_first _ l1 (l3 w' hw), l1, l2 (fun e => by subst e; cases hct)⟩, h3, ?_⟩
      cases c0 with
      | opq => cases hct
      | bytes s => cases hct; exact ⟨l4, by simp⟩
      | cells cs =>
        cases isB with
        | false => cases hct; exact ⟨l4, by simp⟩
        | true =>
          obtain ⟨s, hs, hct⟩ := ob_some (show ob (bytesOf cs) (fun s => some (Ct.bytes s)) = some ct from hct)
          cases hct
          exact ⟨bytesOf_ok hs l4, by simp⟩
    cases e with
    | lin a v => exact full h
    | bt a v i s => exact full h
    | k m => cases m with
      | negSucc m => exact full h
      | ofNat m => cases m with
        | succ m => exact full h
        | zero =>
          obtain ⟨r, sz, o, n, c, h1, h2, h3, h4, h5, h6, rfl⟩ := hx
          have : n = 0 := by have : (0 : Int) = (n : Nat) := h3; omega
          subst this
          refine ⟨bc isB (.bytes []) (.cells []), [], 0, [], by simp, h, ⟨fun _ => rfl, fun w' _ => run_first C.P (by simp) (fun j v hj => by simp at hj), by simp, by simp⟩, rfl, ?_⟩
          cases isB
          · exact ⟨(VRs.mk0 : VRs ν ρ [] []), by simp⟩
          · exact ⟨rfl, by simp⟩
theorem appT_ok {t : TypeId} {nb : Nat × Bool} (h : appT C t = some nb) : (∃ e i, desc C t = some (.slice e) ∧ info C e = some i ∧ i.size = nb.1 ∧ i.bytes ≤ 65536) ∧ (nb.2 = true → nb.1 = 1) := by
  obtain ⟨nb', he, h⟩ := ob_some h
  obtain ⟨e, i, h1, h2, h3, h4, h5⟩ := elemS_ok he
  obtain ⟨sz, isB⟩ := nb'
  cases isB with
  | false => cases h; exact ⟨⟨e, i, h1, h2, h3, h4⟩, fun h => by cases h⟩
  | true =>
    obtain ⟨h6, h⟩ := bc_some (show bc (Nat.beq sz 1) (some (sz, true)) none = some nb from h)
    cases h
    exact ⟨⟨e, i, h1, h2, h3, h4⟩, fun _ => Nat.eq_of_beq_eq_true h6⟩
theorem appFew_ok (ok : ν.Ok C.bd) {n : SI} (h : appFew C n = true) : n.den ν < 1000000000 := by
  obtain ⟨u, hu, h⟩ := ob_some (isT_some h)
  have := SI.hi_den ok hu
  cases h'' : ilt u 1000000000 with
  | false => rw [h''] at h; cases h
  | true => rw [ilt_eq] at h''; simp only [decide_eq_true_eq] at h''; omega
/-- how the model appends where there is room -/
theorem room_run {P : Program} {t u ty : TypeId} {e : TypeId} {du : TypeDesc} {size : Nat} (ht : P.underlying t = some (.slice e)) (hu : P.underlying u = some du) (hl : isList (some du) = true) (hs : ∀ w, (sizeOf e).run P w = .ok size w)
    {base : Option Addr} {sl sc n : Nat} {x : Value} {l : List Value} (hx : SrcR P w size x n l) (hroom : sl + n ≤ sc) {w' : World} (hput : ∀ a, base = some a → (storeCells (a.add (sl * size)) l).run P w = .ok () w') (hn : base = none → w' = w) :
    (Builtin.append_ #[t, u] ty #[.slice base sl sc, x]).run P w = .ok (.slice base (sl + n) sc) w' := by
  cases du <;> try (cases hl; done)
  all_goals
    simp only [Builtin.append_]
    simp only [List.getElem?_toArray, List.getElem?_cons_zero, List.getElem?_cons_succ, Sem.run_bind, run_underlying ht, run_underlying hu, Result.andThen_ok, hs, Sem.run_pure]
    simp only [Bool.false_eq_true, if_false, hx.lenOf, Result.andThen_ok, hroom, if_true, Bool.not_false, Sem.run_bind, hx.first w rfl]
    cases base with
    | none => rw [hn rfl]; rfl
    | some a => simp only [Sem.run_bind, hput a rfl, Result.andThen_ok, Sem.run_pure]
/-- how it appends where there is none -/
theorem grow_run {P : Program} {t u ty : TypeId} {e : TypeId} {du : TypeDesc} {i : TypeInfo} {zv : Value} (ht : P.underlying t = some (.slice e)) (hu : P.underlying u = some du) (hl : isList (some du) = true) (hi : P.info? e = some i)
    (hby : i.bytes ≤ 65536) (hzv : ∀ w, (zeroValue e).run P w = .ok zv w)
    {base : Option Addr} {sl sc n : Nat} {x : Value} {l old : List Value} (hx : SrcR P w i.size x n l) (hroom : ¬ sl + n ≤ sc) (hfew : sl + n < 1000000000)
    (hold : ∀ w' : World, w'.heap = w.heap → (Builtin.firstCells i.size sl (.slice base sl sc)).run P w' = .ok old.toArray w') :
    ∃ nc c', sl + n ≤ nc ∧ c'.toList = old ++ l ++ rep (nc - (sl + n)) zv.cells.toList ∧
    (Builtin.append_ #[t, u] ty #[.slice base sl sc, x]).run P w = .ok (.slice (some ⟨w.heap.size, 0, none⟩) (sl + n) nc) { w with drawn := w.drawn + 1, heap := w.heap.push (.cells c' e) } := by
  obtain ⟨nc, hnc⟩ : ∃ nc, nc = (Question.appendCap (sl + n) sc e).cut (w.tape w.drawn (.appendCap (sl + n) sc e)) := ⟨_, rfl⟩
  have hge : sl + n ≤ nc := by rw [hnc]; exact Nat.le_add_right _ _
  refine ⟨nc, old.toArray ++ l.toArray ++ Builtin.zeroCells zv.cells (nc - (sl + n)), hge, ?_, ?_⟩
  · rw [Array.toList_append, Array.toList_append]
    congr 1
    exact zeros_eq _ _
  · have hsz : ∀ w, (sizeOf e).run P w = .ok i.size w := fun w => by simp [sizeOf, typeInfo, hi]
    have hti : ∀ w, (typeInfo e).run P w = .ok i w := fun w => by simp [typeInfo, hi]
    have hfits : Builtin.nextslicecap (sl + n) sc * i.bytes ≤ 281474976710656 := growslice_fits (by omega) (by
      have : (sl + n) * i.bytes ≤ 1000000000 * 65536 := Nat.mul_le_mul (by omega) hby
      omega)
    have h48 : ¬ (Builtin.nextslicecap (sl + n) sc * i.bytes > 2 ^ 48) := by
      generalize Builtin.nextslicecap (sl + n) sc * i.bytes = q at hfits ⊢
      have : (2 : Nat) ^ 48 = 281474976710656 := by decide
      omega
    have h63 : ¬ (((sl + n : Nat) : Int) > IntKind.i64.max) := by
      have : IntKind.i64.max = 9223372036854775807 := by decide
      omega
    cases du <;> try (cases hl; done)
    all_goals
      simp only [Builtin.append_]
      simp only [List.getElem?_toArray, List.getElem?_cons_zero, List.getElem?_cons_succ, Sem.run_bind, run_underlying ht, run_underlying hu, Result.andThen_ok, hsz, Sem.run_pure]
      simp only [Bool.false_eq_true, if_false, hx.lenOf, Result.andThen_ok, hroom, Bool.not_false, Sem.run_bind, hti]
      simp only [h63, false_and, if_false, h48, Sem.run_pure, Result.andThen_ok, Sem.run_bind, hti, run_choose, Question.forced, Bool.false_eq_true, run_askRoom, ← hnc]
      simp only [hold, hx.first, if_true, Result.andThen_ok, hzv, newRow, Sem.run_bind, run_newObj, Sem.run_pure]

/-- the old content is the head of what a block has -/
theorem cellsR.head {vs ws : List Value} {sz : Nat} {obj : Obj} (h : cellsR (vs ++ ws) sz obj) : cellsR vs sz obj := by
  obtain ⟨c, e, fr, rest, h1, h2, h3, h4⟩ := h
  exact ⟨c, e, fr, ws ++ rest, h1, by rw [h2, List.append_assoc], h3, h4⟩
/-- a content as a block -/
theorem CtR.block {ct : Ct} {l : List Value} {sz : Nat} {obj : Obj} (h : CtR ν ρ ct l) (hc : ct ≠ .opq → ∀ x ∈ l, cellV x = true) (ho : cellsR l sz obj) (hu : (¬ ∃ s, ct = .bytes s) → unfr obj) : BR ν ρ (ctBlock ct) sz obj := by
  cases ct with
  | opq => exact ⟨l, [], ho, hu (by simp), LR.mk0, .inl rfl⟩
  | cells cs => exact ⟨l, h, hc (by simp), ho, hu (by simp)⟩
  | bytes s => have h : l = _ := h; subst h; exact ho
theorem ctCat_ok {a b c : Ct} {l m : List Value} (ha : CtR ν ρ a l) (hb : CtR ν ρ b m) (h : ctCat a b = some c) : CtR ν ρ c (l ++ m) := by
  cases a <;> cases b <;> try (cases h; done)
  case opq.cells => cases h; trivial
  case cells.cells => cases h; exact VRs.append ha hb
  case bytes.bytes =>
    cases h
    have ha : l = _ := ha
    have hb : m = _ := hb
    show _ = _
    rw [ha, hb, scat_den, List.map_append]
theorem ctCat_no {a b c : Ct} (h : ctCat a b = some c) : (c ≠ .opq → a ≠ .opq) ∧ ((¬ ∃ s, c = .bytes s) → ¬ ∃ s, a = .bytes s) := by
  cases a <;> cases b <;> try (cases h; done)
  all_goals (cases h; exact ⟨by simp, by simp⟩)
theorem appZ_ok {t : TypeId} {e : TypeId} {zl : List AV} (hd : desc C t = some (.slice e)) (h : appZ C t = some zl) :
    ∃ v n, (∀ w, (zeroValue e).run C.P w = .ok v w) ∧ tsize C e = some n ∧ v.cells.toList.length = n := by
  unfold appZ at h
  rw [hd] at h
  obtain ⟨v, n, h1, h2, _, h4, h5⟩ := tzeroC_ok (ν := nu0) (ρ := fun _ => none) h
  exact ⟨v, n, h1, h4, by rw [h2.length, h5]⟩
/-- a new row holds what was told -/
theorem appNew_ok (hr : HR ν ρ nx H w) {need : SI} {ct : Ct} {e : TypeId} {esz nd nc : Nat} {c : Array Value} {l rest : List Value} {w' : World} {D : Log} (hc : c.toList = l ++ rest) (hl : CtR ν ρ ct l) (hcell : ct ≠ .opq → ∀ x ∈ l, cellV x = true)
    (hnd : need.den ν = (nd : Nat)) (hge : nd ≤ nc) (hsz : nc * esz ≤ c.size) (hw : w' = { w with drawn := w.drawn + 1, heap := w.heap.push (.cells c e) }) (h : appNew need ct esz k nx H (D ++ L) = z)
    {s : Sem Value} (hs : s.run C.P w = .ok (.slice (some ⟨w.heap.size, 0, none⟩) nd nc) w') : Out C.P ν ρ nx L w k z s := by
  subst hw
  refine Out.new hr (D := (nx, true) :: D) (w' := { w with drawn := w.drawn + 1, heap := w.heap.push (.cells c e) }) (A := ctBlock ct) (sz := c.size) (obj := .cells c e) rfl rfl rfl rfl (hl.block hcell ⟨c, e, (0, 0), rest, rfl, hc, rfl, .inl rfl⟩ fun _ => rfl) h hs ?_
  exact ⟨_, c.size, 0, nd, nc, upd_same .., .inr rfl, hnd, by show need.den ν ≤ _; omega, hge, by omega, rfl⟩

theorem lputx_nil {α : Type} {n : Nat} {l r : List α} (h : lputx n l [] = some r) : r = l := by
  rcases lputx_some h with ⟨h, _⟩ | ⟨_, h⟩
  · simpa using h
  · exact h
theorem putB_nil (ok : ν.Ok C.bd) {s t : SS} {off : SI} {A : AB} (h : putB C s off t = some A) (ht : sden ν t = []) : ∃ u, A = .byt u ∧ sden ν u = sden ν s := by
  obtain ⟨a, ha, _⟩ := ob_some h
  obtain ⟨h1, _, _⟩ := stake_den ok ha
  obtain ⟨o, ho⟩ := nat_of h1
  obtain ⟨_, u, hu, hd⟩ := putB_ok ok ho h
  exact ⟨u, hu, by rw [hd, ht]; simp⟩
/-- a content is put into a block -/
theorem putCt_ok (ok : ν.Ok C.bd) {P : Program} {A A' : AB} {off : SI} {ct : Ct} {l : List Value} {r o sz : Nat} {obj : Obj} (hb : w.heap[r]? = some obj) (hB : BR ν ρ A sz obj) (hl : CtR ν ρ ct l) (hc : ∀ x ∈ l, cellV x = true)
    (ho : l = [] ∨ off.den ν = (o : Nat)) (hsz : o + l.length ≤ sz) (h : putCt C A off ct = some A') :
    ∃ w' obj', (storeCells ⟨r, o, none⟩ l).run P w = .ok () w' ∧ w'.heap = w.heap.setIfInBounds r obj' ∧ w'.os = w.os ∧ w'.tape = w.tape ∧ w'.output = w.output ∧ BR ν ρ A' sz obj' := by
  have byt : ∀ {s t : SS}, cellsR ((sden ν s).map byteV) sz obj → l = (sden ν t).map byteV → putB C s off t = some A' →
      ∃ w' obj', (storeCells ⟨r, o, none⟩ l).run P w = .ok () w' ∧ w'.heap = w.heap.setIfInBounds r obj' ∧ w'.os = w.os ∧ w'.tape = w.tape ∧ w'.output = w.output ∧ BR ν ρ A' sz obj' := by
    intro s t hs ht hp
    obtain ⟨w', obj', h1, h2, h3, h4, h5, h6, h7, h8⟩ := hs.put (P := P) hb hc hsz
    refine ⟨w', obj', h1, h2, h3, h4, h5, ?_⟩
    rcases ho with ho | ho
    · obtain ⟨u, rfl, hu⟩ := putB_nil (ν := ν) ok hp (by rw [ho] at ht; exact List.map_eq_nil_iff.1 ht.symm)
      show cellsR _ _ _
      rw [hu]
      exact h7 ho
    · obtain ⟨q, u, rfl, hu⟩ := putB_ok (ν := ν) ok ho hp
      show cellsR _ _ _
      have := h6 (by simpa using q)
      rw [hu]
      rw [ht] at this
      simpa using this
  cases A with
  | map es => cases ct <;> cases h
  | lt k l => cases ct <;> cases h
  | byt s =>
    cases ct with
    | opq => cases h
    | bytes t => exact byt hB hl h
    | cells cs =>
      obtain ⟨t, ht, h⟩ := ob_some (show ob (bytesOf cs) (fun t => putB C s off t) = some A' from h)
      exact byt hB (bytesOf_ok ht hl) h
  | row cs =>
    cases ct with
    | opq => cases h
    | bytes t => cases h
    | cells ns =>
      obtain ⟨on, hon, h⟩ := ob_some (show ob off.isNat (fun o => ob (lputx o cs ns) fun l => some (.row l)) = some A' from h)
      obtain ⟨q, hq, h⟩ := ob_some h
      cases h
      obtain ⟨vs, b1, b2, b3, b4⟩ := hB
      obtain ⟨w', obj', h1, h2, h3, h4, h5, h6, h7, h8⟩ := b3.put (P := P) hb hc hsz
      refine ⟨w', obj', h1, h2, h3, h4, h5, ?_⟩
      have hns : l.length = ns.length := VRs.length hl
      have same : l = [] → BR ν ρ (.row q) sz obj' := by
        intro e
        have : ns = [] := by rw [e] at hns; exact List.eq_nil_of_length_eq_zero hns.symm
        subst this
        rw [lputx_nil hq]
        exact ⟨vs, b1, b2, h7 e, h8 b4⟩
      rcases ho with ho | ho
      · exact same ho
      · have := ptr_off ho hon; subst this
        rcases lputx_some hq with ⟨q1, q2⟩ | ⟨q1, q2⟩
        · refine ⟨_, ?_, ?_, h6 (by have := b1.length; omega), h8 b4⟩
          · rw [q1, ← hns]
            exact ((b1.take o).append hl).append (b1.drop _)
          · intro y hy
            rcases List.mem_append.1 hy with hy | hy
            · rcases List.mem_append.1 hy with hy | hy
              · exact b2 y (List.mem_of_mem_take hy)
              · exact hc y hy
            · exact b2 y (List.mem_of_mem_drop hy)
        · exact same (by subst q1; exact List.eq_nil_of_length_eq_zero hns)
/-- the head of a block -/
theorem content_head (ok : ν.Ok C.bd) {A : AB} {len : SI} {esz n sz : Nat} {obj : Obj} {ct : Ct} (hB : BR ν ρ A sz obj) (hn : len.den ν = (n : Nat)) (h : content C A (.k 0) len esz = some ct) (hopq : ct = .opq → n * esz ≤ sz) :
    ∃ l, l.length = n * esz ∧ (ct ≠ .opq → ∀ x ∈ l, cellV x = true) ∧ CtR ν ρ ct l ∧ cellsR l sz obj ∧ ((¬ ∃ s, ct = .bytes s) → unfr obj) := by
  cases A with
  | map es => cases h
  | row cs =>
    obtain ⟨on, hon, h⟩ := ob_some (show ob (SI.k 0).isNat (fun o => ob len.isNat fun n => ob (ltake (Nat.mul n esz) (ldrop o cs)) fun l => some (Ct.cells l)) = some ct from h)
    cases hon
    obtain ⟨ln, hln, h⟩ := ob_some h
    obtain ⟨l, hl, h⟩ := ob_some h
    cases h
    obtain ⟨rfl, h2⟩ := ltake_some hl
    have := ptr_off hn hln; subst this
    rw [ldrop_eq] at h2 ⊢
    simp only [List.drop_zero] at h2 ⊢
    obtain ⟨vs, b1, b2, b3, b4⟩ := hB
    refine ⟨vs.take (n * esz), ?_, fun _ y hy => b2 y (List.mem_of_mem_take hy), b1.take _, ?_, fun _ => b4⟩
    · have h2' : n * esz ≤ cs.length := h2
      rw [List.length_take, b1.length]; omega
    · exact cellsR.head (ws := vs.drop (n * esz)) (by rw [List.take_append_drop]; exact b3)
  | byt s =>
    obtain ⟨h1, h⟩ := bc_some (show bc (Nat.beq esz 1) (ob (sdrop C.bd s (.k 0)) (fun r => ob (stake C.bd r len) fun t => some (Ct.bytes t))) none = some ct from h)
    have := Nat.eq_of_beq_eq_true h1
    subst this
    obtain ⟨q, hq, h⟩ := ob_some h
    obtain ⟨t, ht, h⟩ := ob_some h
    cases h
    obtain ⟨q1, q2, q3⟩ := sdrop_den ok hq
    obtain ⟨t1, t2, t3⟩ := stake_den ok ht
    rw [hn] at t2 t3
    simp only [Int.toNat_natCast] at t3
    have q3 : sden ν q = sden ν s := by rw [q3]; rfl
    rw [q3] at t2 t3
    refine ⟨(sden ν t).map byteV, ?_, fun _ y hy => ?_, rfl, ?_, fun e => (e ⟨t, rfl⟩).elim⟩
    · rw [List.length_map, t3, List.length_take]; omega
    · obtain ⟨b, _, rfl⟩ := List.mem_map.1 hy; rfl
    · refine cellsR.head (ws := ((sden ν s).drop n).map byteV) ?_
      rw [t3, ← List.map_append, List.take_append_drop]
      exact hB
  | lt k l0 =>
    obtain ⟨rfl, rfl, rfl⟩ := content_lt h
    obtain ⟨vs, h1, h2, h3⟩ := LT.whole hB
    have hop := hopq rfl
    refine ⟨vs.take (n * esz), ?_, fun hne => (hne rfl).elim, trivial, ?_, fun _ => h3⟩
    · rw [List.length_take]; omega
    · exact cellsR.head (ws := vs.drop (n * esz)) (by rw [List.take_append_drop]; exact h2)
end
end Go.AM
namespace Go.AM
/-! # Soundness, part 19: append, whole -/
section
variable {C : Cx} {ν : Vl} {ρ : Nm} {nx : Nat} {H : T AB} {L : Log} {w : World} {k : AV → Nat → T AB → Log → Ans} {z : Ans}
theorem low_le {cap : Cp} {c : Nat} (h : capR ν cap c) : cap.low.den ν ≤ (c : Nat) := low_capR h
theorem appSl_ok (ok : ν.Ok C.bd) (hr : HR ν ρ nx H w) (hz : Yes z) {t u ty : TypeId} {e : TypeId} {du : TypeDesc} {i : TypeInfo} (ht : desc C t = some (.slice e)) (hu : desc C u = some du) (hl : isList (some du) = true) (hi : info C e = some i) (hby : i.bytes ≤ 65536)
    {b : Nat} {off len need : SI} {cap : Cp} {vs x : Value} (hs : VR ν ρ (.sl b off len cap i.size) vs) {n : Nat} {l : List Value} {ct : Ct} (hx : SrcR C.P w i.size x n l) (hct : CtR ν ρ ct l) (hneed : need.den ν = len.den ν + (n : Nat)) (hfew : need.den ν < 1000000000)
    {D : Log} (h : appSl C t i.size b off len cap need ct k nx H (D ++ L) = z) :
    Out C.P ν ρ nx L w k z (Builtin.append_ #[t, u] ty #[vs, x]) := by
  have hs0 := hs
  obtain ⟨r, sz, o, sl, c, h1, h2, h3, h4, h5, h6, rfl⟩ := hs
  have hnd : need.den ν = ((sl + n : Nat) : Int) := by rw [hneed, h3]; omega
  have hpt := desc_ok ht
  have hpu := desc_ok hu
  have hpi := info_ok hi
  have hsz : ∀ w, (sizeOf e).run C.P w = .ok i.size w := fun w => tsize_ok (by unfold tsize; rw [hi]; rfl)
  have hlow := low_capR h4
  have hfit : sl + n ≤ c → o + sl * i.size + l.length ≤ sz := by
    intro hle
    have : (sl + n) * i.size ≤ c * i.size := Nat.mul_le_mul_right _ hle
    rw [Nat.add_mul] at this
    have := hx.len
    omega
  have hemp : c = 0 → sl + n ≤ c → l = [] := by
    intro h0 hle
    have : n = 0 := by omega
    have := hx.len
    subst n
    exact List.eq_nil_of_length_eq_zero (by simpa using this)
  -- where there is no room
  have grow : ∀ {H' : T AB} {D' : Log} {A : AB} {old all : Ct}, HR ν ρ nx H' w → ¬ sl + n ≤ c → H.get b = some A → content C A off len i.size = some old → ctCat old ct = some all → (∃ zl, appZ C t = some zl) → appNew need all i.size k nx H' (D' ++ L) = z →
      Out C.P ν ρ nx L w k z (Builtin.append_ #[t, u] ty #[.slice (some ⟨r, o, none⟩) sl c, x]) := by
    intro H' D' A old all hr' hroom hA hold hall ⟨zl, hzl⟩ hk
    obtain ⟨lo, l1, l2, l3, l4⟩ := content_loads (c := c) ok hr hA h1 h2 h3 h5 hold (fun _ => h6)
    obtain ⟨zv, zn, z1, z2, z3⟩ := appZ_ok ht hzl
    have hzn : zn = i.size := by unfold tsize at z2; rw [hi] at z2; simpa using z2.symm
    subst hzn
    obtain ⟨nc, c', g1, g2, g3⟩ := grow_run (ty := ty) hpt hpu hl hpi hby z1 hx hroom (by omega) (fun w' hw => run_first _ l1 (l3 w' hw) (c := c))
    refine appNew_ok hr' g2 (ctCat_ok l4 hct hall) ?_ hnd g1 ?_ rfl hk g3
    · intro hno y hy
      rcases List.mem_append.1 hy with hy | hy
      · exact l2 ((ctCat_no hall).1 hno) y hy
      · exact hx.cell y hy
    · have := congrArg List.length g2
      rw [List.length_append, List.length_append, rep_length, l1, hx.len, z3, Array.length_toList] at this
      rw [this, ← Nat.add_mul, ← Nat.add_mul]
      apply Nat.mul_le_mul_right
      omega
  -- where nobody knows
  have behind : ∀ {A : AB} {old all : Ct} {ce : SI} {D' : Log}, cap = .ge ce → H.get b = some A → content C A off len i.size = some old → ctCat old ct = some all → (∃ zl, appZ C t = some zl) →
      appGe i.size b off need all k nx H (D' ++ L) = z →
      Out C.P ν ρ nx L w k z (Builtin.append_ #[t, u] ty #[.slice (some ⟨r, o, none⟩) sl c, x]) := by
    intro A old all ce D' hcap hA hold hall hzl hk
    subst hcap
    cases off <;> try (exact (hz _ hk.symm).elim)
    case k off =>
    cases off <;> try (exact (hz _ hk.symm).elim)
    case ofNat off =>
    cases off <;> try (exact (hz _ hk.symm).elim)
    case zero =>
    obtain ⟨_, hk2⟩ := wr_ok hz (show ((M.wr b none).bind fun _ => appNew need all i.size) k nx H (D' ++ L) = z from hk)
    by_cases hroom : sl + n ≤ c
    · obtain ⟨r', sz', obj, hp, hob, hB⟩ := hr.blk b _ hA
      rw [h1] at hp; cases hp
      obtain ⟨lo, l1, l2, l3, l4, l5⟩ := content_head ok hB h3 hold (fun _ => by have : sl * i.size ≤ c * i.size := Nat.mul_le_mul_right _ h5
                                                                                 omega)
      obtain ⟨w', obj', p1, p2, p3, p4, p5, p6, p7, p8⟩ := l4.put (P := C.P) hob (o := o + sl * i.size) hx.cell (hfit hroom)
      have hcells : cellsR (lo ++ l) sz obj' := by
        rcases h2 with h2 | h2
        · have := hemp h2 hroom; subst this; rw [List.append_nil]; exact p7 rfl
        · have : o = 0 := by have : (0 : Int) = o := h2; omega
          subst this
          have := (p6 (by omega)).head
          rw [Nat.zero_add, ← l1, List.take_length] at this
          exact this
      have hBR : BR ν ρ (ctBlock all) sz obj' := by
        refine (ctCat_ok l3 hct hall).block ?_ hcells ?_
        · intro hno y hy
          rcases List.mem_append.1 hy with hy | hy
          · exact l2 ((ctCat_no hall).1 hno) y hy
          · exact hx.cell y hy
        · intro hnb
          exact p8 (l5 ((ctCat_no hall).2 hnb))
      refine ⟨_, nx + 1, _, (nx, true) :: (b, true) :: D', _, _, w', hk2, .upd, room_run (ty := ty) hpt hpu hl hsz hx hroom (fun a ha => ?_) (fun hn => by cases hn), ?_, hr.alias hA h1 p2 hBR, Stp.alias hr h1 p2 p3 p4 p5 (by simp)⟩
      · cases ha; rw [addr_add]; exact p1
      · exact ⟨r, sz, o, sl + n, c, upd_same .., h2, hnd, by show need.den ν ≤ _; omega, hroom, h6, rfl⟩
    · exact grow (hr.kill b) hroom hA hold hall hzl (D' := (b, true) :: D') hk2
  unfold appSl at h
  cases hle : SI.le C.bd need cap.low with
  | some bb =>
    rw [hle] at h
    cases bb with
    | true =>
      have hle' := SI.le_den ok hle
      have hle' : need.den ν ≤ cap.low.den ν := by simpa using hle'.symm
      have hroom : sl + n ≤ c := by omega
      obtain ⟨A, hA, hq⟩ := rd_ok hz h
      obtain ⟨A', hA', hq2⟩ := lift_ok hz hq
      obtain ⟨_, hk⟩ := wr_ok hz hq2
      clear h hq hq2
      obtain ⟨o', ho', hput⟩ := ob_some hA'
      obtain ⟨r', sz', obj, hp, hob, hB⟩ := hr.blk b _ hA
      rw [h1] at hp; cases hp
      have hden := sliceCell_den (ν := ν) ho'
      have hpl : l = [] ∨ o'.den ν = ((o + sl * i.size : Nat) : Int) := by
        rcases h2 with h2 | h2
        · exact .inl (hemp h2 hroom)
        · right; rw [hden, h2, h3]; simp
      obtain ⟨w', obj', p1, p2, p3, p4, p5, p6⟩ := putCt_ok ok (P := C.P) hob hB hct hx.cell hpl (hfit hroom) hput
      refine Out.wrote hr (D := (b, true) :: (b, false) :: D) hA h1 p2 p3 p4 p5 p6 (by simp) hk (room_run (ty := ty) hpt hpu hl hsz hx hroom (fun a ha => ?_) (fun hn => by cases hn)) ?_
      · cases ha; rw [addr_add]; exact p1
      · exact ⟨r, sz, o, sl + n, c, h1, h2, hnd, h4, hroom, h6, rfl⟩
    | false =>
      have hle' := SI.le_den ok hle
      have hle' : ¬ need.den ν ≤ cap.low.den ν := by simpa using hle'.symm
      obtain ⟨zl, hzl, hq0⟩ := lift_ok hz h
      obtain ⟨A, hA, hq⟩ := rd_ok hz hq0
      obtain ⟨all, hall, hq2⟩ := lift_ok hz hq
      obtain ⟨old, hold, hall⟩ := ob_some hall
      clear h hq0 hq
      cases cap with
      | eq ce =>
        have h4 : ce.den ν = (c : Nat) := h4
        have hroom : ¬ sl + n ≤ c := by
          have hle' : ¬ need.den ν ≤ ce.den ν := hle'
          omega
        exact grow hr hroom hA hold hall ⟨zl, hzl⟩ (D' := (b, false) :: D) hq2
      | ge ce =>
        exact behind rfl hA hold hall ⟨zl, hzl⟩ (D' := (b, false) :: D) hq2
  | none =>
    rw [hle] at h
    obtain ⟨zl, hzl, hq0⟩ := lift_ok hz h
    obtain ⟨A, hA, hq⟩ := rd_ok hz hq0
    obtain ⟨all, hall, hq2⟩ := lift_ok hz hq
    obtain ⟨old, hold, hall⟩ := ob_some hall
    clear h hq0 hq
    cases cap with
    | eq ce => exact (hz _ hq2.symm).elim
    | ge ce =>
      exact behind rfl hA hold hall ⟨zl, hzl⟩ (D' := (b, false) :: D) hq2

theorem append_ok (ok : ν.Ok C.bd) (hr : HR ν ρ nx H w) (hz : Yes z) {t u ty : TypeId} (hl : isList (desc C u) = true) {s x : AV} {vs vx : Value} (hs : VR ν ρ s vs) (hx : VR ν ρ x vx) (h : append C t s x k nx H L = z) :
    Out C.P ν ρ nx L w k z (Builtin.append_ #[t, u] ty #[vs, vx]) := by
  cases hdu : desc C u with
  | none => rw [hdu] at hl; cases hl
  | some du =>
  rw [hdu] at hl
  obtain ⟨⟨esz, isB⟩, hT, hq⟩ := lift_ok hz h
  obtain ⟨⟨e, i, he, hi, hsz, hby⟩, hB⟩ := appT_ok hT
  simp only at hsz hB
  subst hsz
  have hpt := desc_ok he
  have hpu := desc_ok hdu
  have hsz : ∀ w, (sizeOf e).run C.P w = .ok i.size w := fun w => tsize_ok (by unfold tsize; rw [hi]; rfl)
  -- the length of what is appended is known
  cases hn : srcLen x with
  | none =>
    exfalso
    have hq : ((srcCt C i.size isB x).bind fun new => (M.lift "append: n" (srcLen x)).bind fun n => (match s with
      | .nils => appNil C t i.size n new
      | .sl b off len cap z => (M.lift "append: need" (appNeed C i.size z len n)).bind fun need => appSl C t i.size b off len cap need new
      | _ => M.no "append: to what")) k nx H L = z := hq
    rw [hn] at hq
    clear h
    cases x with
    | str txt =>
      rcases bcM_ok (show (bc isB (M.ret (.bytes txt)) (M.no "append: a text to what") : M Ct) _ nx H L = z from hq) with ⟨_, h2⟩ | ⟨_, h2⟩ <;> exact hz _ h2.symm
    | _ => first | (cases hn; done) | exact hz _ hq.symm
  | some ne =>
  obtain ⟨ct, D, n, l, hD, hq2, hS, hne, hct, _⟩ := src_ok ok hr hz hB hx hq hn
  obtain ⟨ne', hne', hq3⟩ := lift_ok hz hq2
  rw [hn] at hne'; cases hne'
  clear h hq hq2
  cases s <;> try (exact (hz _ hq3.symm).elim)
  case nils =>
    have hs : vs = _ := hs
    subst hs
    have hq3 : appNil C t i.size ne ct k nx H (D ++ L) = z := hq3
    unfold appNil at hq3
    cases hf : appFew C ne with
    | false => rw [hf] at hq3; exact (hz _ hq3.symm).elim
    | true =>
    rw [hf] at hq3
    have hfew := appFew_ok ok hf
    rw [hne] at hfew
    simp only [bc_true] at hq3
    cases heq : SI.eq C.bd ne (.k 0) with
    | none => rw [heq] at hq3; exact (hz _ hq3.symm).elim
    | some bb =>
    rw [heq] at hq3
    have hden := SI.eq_den ok heq
    rw [hne] at hden
    cases bb with
    | true =>
      have : (n : Int) = 0 := by simpa [SI.den] using hden.symm
      have : n = 0 := by omega
      subst this
      exact Out.seen hr (D := D) hq3 (room_run (ty := ty) hpt hpu hl hsz hS (Nat.le_refl _) (w' := w) (fun a ha => by cases ha) (fun _ => rfl)) rfl
    | false =>
      have hn0 : ¬ (n : Int) = 0 := by simpa [SI.den] using hden.symm
      obtain ⟨zl, hzl, hk⟩ := lift_ok hz hq3
      obtain ⟨zv, zn, z1, z2, z3⟩ := appZ_ok he hzl
      have hzn : zn = i.size := by unfold tsize at z2; rw [hi] at z2; simpa using z2.symm
      subst hzn
      obtain ⟨nc, c', g1, g2, g3⟩ := grow_run (base := none) (sl := 0) (sc := 0) (old := []) (ty := ty) hpt hpu hl (info_ok hi) hby z1 hS (by omega) (by omega) (fun w' _ => run_firstCells_none w' _ _ _ _)
      rw [Nat.zero_add] at g1 g2 g3
      refine appNew_ok hr g2 hct (fun _ => hS.cell) hne g1 ?_ rfl hk g3
      have := congrArg List.length g2
      simp only [List.length_append, rep_length, hS.len, z3, Array.length_toList, List.nil_append] at this
      rw [this, ← Nat.add_mul]
      apply Nat.mul_le_mul_right
      omega
  case sl b off len cap zz =>
    obtain ⟨need, hneed, hk⟩ := lift_ok hz hq3
    obtain ⟨hzz, hneed⟩ := bc_some hneed
    obtain ⟨q, hq, hneed⟩ := ob_some hneed
    obtain ⟨hf, hneed⟩ := bc_some hneed
    cases hneed
    have := Nat.eq_of_beq_eq_true hzz
    subst this
    have hadd := SI.add_den (ν := ν) hq
    rw [hne] at hadd
    exact appSl_ok ok hr hz he hdu hl hi hby hs hS hct hadd (appFew_ok ok hf) hk
end
end Go.AM
namespace Go.AM
/-! # Soundness, part 20: maps -/
section
variable {C : Cx} {ν : Vl} {ρ : Nm} {nx : Nat} {H : T AB} {L : Log} {w : World} {k : AV → Nat → T AB → Log → Ans} {z : Ans}
theorem eqc_same (ok : ν.Ok C.bd) {d : Option TypeDesc} {x y : AV} {vx vy : Value} (hx : VR ν ρ x vx) (hy : VR ν ρ y vy) (h : eqc C d x y = some true) : vx = vy := by
  unfold eqc at h
  split at h
  · have hx : vx = _ := hx
    have hy : vy = _ := hy
    subst hx; subst hy
    simp at h; rw [h]
  · have hx : vx = _ := hx
    have hy : vy = _ := hy
    subst hx; subst hy
    obtain ⟨hk, h⟩ := bc_some h
    have h2 := SI.eq_den ok h
    simp only [eq_comm (a := true), decide_eq_true_eq] at h2
    simp only [beq_iff_eq] at hk
    rw [h2, hk]
  · have hx : vx = _ := hx
    have hy : vy = _ := hy
    subst hx; subst hy
    have h2 := seq_den ok h
    simp only [eq_comm (a := true), decide_eq_true_eq] at h2
    rw [h2]
  · cases h
theorem eqcs_same (ok : ν.Ok C.bd) : ∀ {fs : List Field} {a b : List AV} {xs ys : List Value}, VRs ν ρ a xs → VRs ν ρ b ys → eqcs C fs a b = some true → xs = ys := by
  intro fs
  induction fs with
  | nil =>
    intro a b xs ys ha hb h
    cases a with
    | nil => cases b with
      | nil => rw [ha.nil, hb.nil]
      | cons => cases h
    | cons => cases h
  | cons f fs ih =>
    intro a b xs ys ha hb h
    cases a with
    | nil => cases h
    | cons x a => cases b with
      | nil => cases h
      | cons y b =>
        obtain ⟨r, hr, h⟩ := ob_some (show ob (eqc C (desc C f.type) x y) (fun r => bc r (eqcs C fs a b) (some false)) = some true from h)
        obtain ⟨vx, xs', rfl, h1, h2⟩ := ha.cons
        obtain ⟨vy, ys', rfl, h3, h4⟩ := hb.cons
        cases r with
        | false => cases h
        | true => rw [eqc_same ok h1 h3 hr, ih h2 h4 h]
theorem eqst_same (ok : ν.Ok C.bd) {t : TypeId} {x y : AV} {vx vy : Value} (hx : VR ν ρ x vx) (hy : VR ν ρ y vy) (h : eqst C t x y = some true) : vx = vy := by
  unfold eqst at h
  split at h
  · obtain ⟨_, h⟩ := bc_some h
    obtain ⟨xs, h1, _, rfl⟩ := hx
    obtain ⟨ys, h2, _, rfl⟩ := hy
    rw [eqcs_same ok h1 h2 h]
  · cases h
/-- a struct of plain kinds, taken apart -/
theorem plainS_ok {t : TypeId} {fs : List Field} (h : plainS C t fs = true) : ∀ p ∈ fs.zipIdx, p.1.name ≠ "_" ∧ p.1.offset = p.2 ∧ (desc C p.1.type = some .bool ∨ (∃ kk, desc C p.1.type = some (.int kk)) ∨ desc C p.1.type = some .string) := by
  have hp' : bc (C.plain.any fun u => Nat.beq u t) (fs.zipIdx.all fun (f, i) => f.name != "_" && (Nat.beq f.offset i && (match desc C f.type with
    | some .bool => true
    | some (.int _) => true
    | some .string => true
    | _ => false))) false = true := h
  have hin : C.plain.any (fun u => Nat.beq u t) = true := by
    cases e : C.plain.any (fun u => Nat.beq u t) with
    | true => rfl
    | false => rw [e] at hp'; cases hp'
  rw [hin, bc_true, List.all_eq_true] at hp'
  intro p hp
  have := hp' p hp
  obtain ⟨f, i⟩ := p
  simp only [Bool.and_eq_true, bne_iff_ne] at this
  refine ⟨this.1, Nat.eq_of_beq_eq_true this.2.1, ?_⟩
  have h3 := this.2.2
  split at h3 <;> first | (cases h3; done) | skip
  · rename_i e; exact .inl e
  · rename_i kk e; exact .inr (.inl ⟨kk, e⟩)
  · rename_i e; exact .inr (.inr e)
theorem checkKey_leaf {t : TypeId} {v : Value} {n : Nat} {b : Bool} (h : desc C t = some .bool ∨ (∃ kk, desc C t = some (.int kk)) ∨ desc C t = some .string) (w : World) : (Instr.checkKey b (n + 1) t v).run C.P w = .ok () w := by
  rcases h with e | ⟨kk, e⟩ | e <;> simp only [Instr.checkKey, Sem.run_bind, under e, Result.andThen_ok, Sem.run_pure]
theorem checkKey_struct {t : TypeId} {n : Nat} {b : Bool} {fs : Array Field} {vs : List Value} (hd : desc C t = some (.struct fs)) (hp : plainS C t fs.toList = true) (hvl : vs.length = fs.toList.length) (w : World) :
    (Instr.checkKey b (n + 1 + 1) t (.agg ⟨vs⟩)).run C.P w = .ok () w := by
  have hgood := plainS_ok hp
  have hgoodname : ∀ f ∈ fs.toList, f.name ≠ "_" := by
    intro f hm
    obtain ⟨i, hi, e⟩ := List.mem_iff_getElem.1 hm
    exact (hgood (f, i) (by rw [List.mem_zipIdx_iff_getElem?]; simp [← e])).1
  have step : ∀ f ∈ fs.toList, ∀ w, (do if f.name ≠ "_" then Instr.checkKey b (n + 1) f.type (← Go.part f.type ⟨vs⟩ f.offset) : Sem Unit).run C.P w = .ok () w := by
    intro f hm w
    obtain ⟨i, hi, e⟩ := List.mem_iff_getElem.1 hm
    obtain ⟨q1, q2, q3⟩ := hgood (f, i) (by rw [List.mem_zipIdx_iff_getElem?]; simp [← e])
    simp only at q1 q2 q3
    have hi : i < vs.length := by omega
    have hag : (isAgg f.type).run C.P w = .ok false w := by rcases q3 with e | ⟨kk, e⟩ | e <;> rw [isAgg_ok e] <;> rfl
    have hpart : (Go.part f.type ⟨vs⟩ f.offset).run C.P w = .ok vs[i] w := by
      simp only [Go.part, Sem.run_bind, hag, Result.andThen_ok, q2]
      simp [hi]
    rw [if_pos q1]
    simp only [Sem.run_bind, hpart, Result.andThen_ok]
    exact checkKey_leaf q3 w
  rw [Instr.checkKey]
  simp only [Sem.run_bind, under hd, Result.andThen_ok]
  rw [← Array.forIn_toList]
  have loop : ∀ (l : List Field), (∀ f ∈ l, f ∈ fs.toList) → ∀ w, (forIn l PUnit.unit (fun f _ =>
      if f.name ≠ "_" then do
        let v ← Go.part f.type ⟨vs⟩ f.offset
        Instr.checkKey b (n + 1) f.type v
        pure (.yield PUnit.unit)
      else pure (.yield PUnit.unit)) : Sem PUnit).run C.P w = .ok .unit w := by
    intro l
    induction l with
    | nil => intro _ w; rfl
    | cons f l ih =>
      intro hl w
      have hs := step f (hl f (List.mem_cons_self ..)) w
      obtain ⟨i, hi, e⟩ := List.mem_iff_getElem.1 (hl f (List.mem_cons_self ..))
      rw [List.forIn_cons, Sem.run_bind, if_pos (hgoodname f (hl f (List.mem_cons_self ..)))]
      rw [if_pos (hgoodname f (hl f (List.mem_cons_self ..)))] at hs
      simp only [Sem.run_bind] at hs ⊢
      cases hp1 : (Go.part f.type ⟨vs⟩ f.offset).run C.P w with
      | ok v w1 =>
        rw [hp1] at hs
        simp only [Result.andThen_ok] at hs ⊢
        rw [hs]
        exact ih (fun g hg => hl g (List.mem_cons_of_mem _ hg)) w
      | _ => rw [hp1] at hs; cases hs
  rw [loop _ (fun _ h => h) w]
  rfl
/-- a key that is looked for may be asked about -/
theorem keyOk_ok {t : TypeId} {x : AV} {vx : Value} (hx : VR ν ρ x vx) (h : keyOk C t x = true) : (desc C t = some .string ∨ ∃ fs, desc C t = some (.struct fs)) ∧ ∀ b w, (Instr.checkKey b 10000 t vx).run C.P w = .ok () w := by
  unfold keyOk at h
  split at h <;> first | (cases h; done) | skip
  · rename_i hd
    exact ⟨.inl hd, fun b w => checkKey_leaf (n := 9999) (.inr (.inr hd)) w⟩
  · rename_i fs l hd
    refine ⟨.inr ⟨fs, hd⟩, ?_⟩
    cases hp : plainS C t fs.toList with
    | false => rw [hp] at h; cases h
    | true =>
    rw [hp] at h
    have hlen := Nat.eq_of_beq_eq_true h
    obtain ⟨vs, h1, h2, rfl⟩ := hx
    exact fun b w => checkKey_struct (n := 9998) hd hp (by rw [h1.length, hlen]) w

theorem eqk_ok (ok : ν.Ok C.bd) {t : TypeId} {x y : AV} {vx vy : Value} (hx : VR ν ρ x vx) (hy : VR ν ρ y vy) (h : eqk C t x y = some true) : vx = vy := by
  unfold eqk at h
  split at h
  · exact eqc_same ok hx hy h
  · exact eqst_same ok hx hy h
/-- what is found -/
def FR (ν : Vl) (ρ : Nm) (vk : Value) (l : List MapEntry) (i0 : Nat) : Option (Nat × AV) → Option (Nat × Value) → Prop
  | none, o => o = none
  | some (i, x), o => ∃ v e, o = some (i, v) ∧ VR ν ρ x v ∧ i0 ≤ i ∧ l[i - i0]? = some e ∧ e.key = vk
theorem sameNow_ok (ok : ν.Ok C.bd) {x y : AV} {vx vy : Value} {b : Bool} (hx : VR ν ρ x vx) (hy : VR ν ρ y vy) (h : eqc C (some .string) x y = some b) : Instr.sameNow .string vx vy = some b := by
  cases x <;> try (cases h; done)
  case str s =>
  cases y <;> try (cases h; done)
  case str u =>
  have hx : vx = _ := hx
  have hy : vy = _ := hy
  subst hx; subst hy
  rw [seq_den ok h]
  show some _ = some _
  congr 1
  rw [Bool.eq_iff_iff, MapKept.bytes_beq]
  simp
theorem findNow_ok (ok : ν.Ok C.bd) {t : TypeId} (hd : desc C t = some .string) {x : AV} {vx : Value} (hx : VR ν ρ x vx) : ∀ {es : List (AV × AV)} {l : List MapEntry} {i : Nat} {r : Option (Nat × AV)}, MR ν ρ es l → findKey C t x es i = some r →
    ∃ o, Instr.findNow .string vx l i = some o ∧ FR ν ρ vx l i r o := by
  intro es
  induction es with
  | nil =>
    intro l i r hm h
    have hm : l = [] := hm
    subst hm
    cases h
    exact ⟨none, rfl, rfl⟩
  | cons p es ih =>
    intro l i r hm h
    obtain ⟨k', v'⟩ := p
    obtain ⟨e, l', rfl, hk, hv, hm'⟩ := hm
    obtain ⟨b, hb, h⟩ := ob_some (show ob (eqk C t x k') (fun r => bc r (some (some (i, v'))) (findKey C t x es (i + 1))) = some r from h)
    have hb2 : eqc C (some .string) x k' = some b := by unfold eqk at hb; rw [hd] at hb; exact hb
    have hsn : Instr.sameNow .string vx e.key = some b := sameNow_ok ok hx hk hb2
    rw [Instr.findNow, hsn]
    cases b with
    | true =>
      cases h
      exact ⟨_, rfl, e.val, e, rfl, hv, Nat.le_refl _, by simp, (eqk_ok ok hx hk hb).symm⟩
    | false =>
      obtain ⟨o, h1, h2⟩ := ih hm' h
      refine ⟨o, h1, ?_⟩
      cases r with
      | none => exact h2
      | some p =>
        obtain ⟨v, e', q1, q2, q3, q4, q5⟩ := h2
        refine ⟨v, e', q1, q2, by omega, ?_, q5⟩
        rw [show p.1 - i = (p.1 - (i + 1)) + 1 by omega]
        simpa using q4
theorem findAsking_ok (ok : ν.Ok C.bd) (hpl : PlainOk C) {t : TypeId} {fs : Array Field} (hd : desc C t = some (.struct fs)) {x : AV} {vx : Value} (hx : VR ν ρ x vx) : ∀ {es : List (AV × AV)} {l : List MapEntry} {i : Nat} {r : Option (Nat × AV)}, MR ν ρ es l → findKey C t x es i = some r →
    ∃ o, (∀ w, (Instr.findAsking t vx l i).run C.P w = .ok o w) ∧ FR ν ρ vx l i r o := by
  intro es
  induction es with
  | nil =>
    intro l i r hm h
    have hm : l = [] := hm
    subst hm
    cases h
    exact ⟨none, fun w => rfl, rfl⟩
  | cons p es ih =>
    intro l i r hm h
    obtain ⟨k', v'⟩ := p
    obtain ⟨e, l', rfl, hk, hv, hm'⟩ := hm
    obtain ⟨b, hb, h⟩ := ob_some (show ob (eqk C t x k') (fun r => bc r (some (some (i, v'))) (findKey C t x es (i + 1))) = some r from h)
    have hb2 : eqst C t x k' = some b := by unfold eqk at hb; rw [hd] at hb; exact hb
    have heq : ∀ w, (Op.equal t vx e.key).run C.P w = .ok b w := by
      intro w
      obtain ⟨xs, ys, e1, e2, h1, _⟩ := eqst_ok (w := w) (d := 9998) ok hpl hx hk hb2
      exact h1
    cases b with
    | true =>
      cases h
      exact ⟨_, fun w => by simp [Instr.findAsking, heq], e.val, e, rfl, hv, Nat.le_refl _, by simp, (eqk_ok ok hx hk hb).symm⟩
    | false =>
      obtain ⟨o, h1, h2⟩ := ih hm' h
      refine ⟨o, fun w => by simp [Instr.findAsking, heq, h1], ?_⟩
      cases r with
      | none => exact h2
      | some p =>
        obtain ⟨v, e', q1, q2, q3, q4, q5⟩ := h2
        refine ⟨v, e', q1, q2, by omega, ?_, q5⟩
        rw [show p.1 - i = (p.1 - (i + 1)) + 1 by omega]
        simpa using q4
theorem findKey_ok (ok : ν.Ok C.bd) (hpl : PlainOk C) {t : TypeId} (hd : desc C t = some .string ∨ ∃ fs, desc C t = some (.struct fs)) {x : AV} {vx : Value} (hx : VR ν ρ x vx) {es : List (AV × AV)} {l : List MapEntry} {r : Option (Nat × AV)} (hm : MR ν ρ es l) (h : findKey C t x es 0 = some r) :
    ∃ o, (∀ w, (Instr.findKey t vx l).run C.P w = .ok o w) ∧ FR ν ρ vx l 0 r o := by
  rcases hd with hd | ⟨fs, hd⟩
  · obtain ⟨o, h1, h2⟩ := findNow_ok ok hd hx hm h
    exact ⟨o, fun w => by simp [Instr.findKey, under hd, h1], h2⟩
  · obtain ⟨o, h1, h2⟩ := findAsking_ok ok hpl hd hx hm h
    refine ⟨o, fun w => ?_, h2⟩
    cases l with
    | nil =>
      have : o = none := by
        have := h1 w
        simp [Instr.findAsking] at this
        exact this.symm
      subst this
      simp [Instr.findKey, under hd, Instr.findNow]
    | cons e l =>
      have : Instr.findNow (.struct fs) vx (e :: l) 0 = none := by
        rw [Instr.findNow]
        rfl
      simp [Instr.findKey, under hd, this, h1]

theorem MR.length {es : List (AV × AV)} {l : List MapEntry} (h : MR ν ρ es l) : l.length = es.length := by
  induction es generalizing l with
  | nil => have h : l = [] := h; subst h; rfl
  | cons p es ih => obtain ⟨e, l', rfl, _, _, k⟩ := h; simp [ih k]
theorem MR.append {es fs : List (AV × AV)} {l m : List MapEntry} (h : MR ν ρ es l) (k : MR ν ρ fs m) : MR ν ρ (es ++ fs) (l ++ m) := by
  induction es generalizing l with
  | nil => have h : l = [] := h; subst h; exact k
  | cons p es ih => obtain ⟨e, l', rfl, a, b, c⟩ := h; exact ⟨e, l' ++ m, rfl, a, b, ih c⟩
theorem MR.modify {es fs : List (AV × AV)} {l : List MapEntry} {i : Nat} {x y : AV} {vk vx : Value} (h : MR ν ρ es l) (hk : VR ν ρ x vk) (hv : VR ν ρ y vx) (hp : lput i es [(x, y)] = some fs) :
    MR ν ρ fs (l.modify i fun e => { e with key := vk, val := vx }) := by
  induction es generalizing l i fs with
  | nil => cases i <;> cases hp
  | cons p es ih =>
    obtain ⟨e, l', rfl, a, b, c⟩ := h
    cases i with
    | zero =>
      have : fs = (x, y) :: es := by have := (lput_some hp).1; simpa using this
      subst this
      exact ⟨_, l', rfl, hk, hv, c⟩
    | succ i =>
      simp only [lput_0n, lput_00, lput_0c, lput_n, lput_c] at hp
      cases hq : lput i es [(x, y)] with
      | none => rw [hq] at hp; cases hp
      | some q =>
        rw [hq] at hp; cases hp
        exact ⟨e, _, rfl, a, b, ih c hq⟩
theorem lookup_ok (ok : ν.Ok C.bd) (hpl : PlainOk C) (hr : HR ν ρ nx H w) (hz : Yes z) {t : TypeId} {x y : AV} {vx vy : Value} {cok : Bool} (hx : VR ν ρ x vx) (hy : VR ν ρ y vy) (h : lookup C t x y cok k nx H L = z) :
    Out C.P ν ρ nx L w k z (Instr.lookup t vx vy cok) := by
  unfold lookup at h
  cases hd : desc C t with
  | none => rw [hd] at h; exact (hz _ h.symm).elim
  | some d =>
    rw [hd] at h
    cases d <;> try (exact (hz _ h.symm).elim)
    case map kt et =>
    cases x <;> try (exact (hz _ h.symm).elim)
    case map b =>
    obtain ⟨A, hA, hq⟩ := rd_ok hz h
    obtain ⟨u, hu, hk⟩ := lift_ok hz hq
    clear h hq
    obtain ⟨es, hes, hu⟩ := ob_some hu
    obtain ⟨fr, hfr, hu⟩ := ob_some hu
    obtain ⟨hko, hfr⟩ := bc_some hfr
    obtain ⟨r, sz, h1, rfl⟩ := hx
    obtain ⟨r', sz', obj, hp, hob, hB⟩ := hr.blk b _ hA
    rw [h1] at hp; cases hp
    cases A <;> try (cases hes; done)
    case map esx =>
    have : esx = es := by cases hes; rfl
    subst this
    obtain ⟨l, clock, rfl, hm⟩ := hB
    obtain ⟨hkd, hck⟩ := keyOk_ok hy hko
    obtain ⟨o, hf, hF⟩ := findKey_ok ok hpl hkd hy hm hfr
    cases fr with
    | none =>
      have hF : o = none := hF
      subst hF
      obtain ⟨zv, hzv, hu⟩ := ob_some (show ob (tzero C et) (fun z => some (bc cok (.tup [z, .bool false]) z)) = some u from hu)
      cases hu
      obtain ⟨v, z1, z2⟩ := tzero_ok (ν := ν) (ρ := ρ) hzv
      refine Out.seen hr (D := [(b, false)]) hk (v := if cok then .tuple #[v, .bool false] else v) ?_ ?_
      · simp only [Instr.lookup, Sem.run_bind, under hd, Result.andThen_ok, MapKept.run_getObj_map hob, Sem.run_pure, hck, hf, z1]
      · cases cok
        · exact z2
        · exact ⟨_, VRs.mk z2 (VRs.mk (v := .bool false) rfl VRs.mk0), rfl⟩
    | some p =>
      obtain ⟨v, e, rfl, hv, _, _, _⟩ := hF
      cases hu
      refine Out.seen hr (D := [(b, false)]) hk (v := if cok then .tuple #[v, .bool true] else v) ?_ ?_
      · simp only [Instr.lookup, Sem.run_bind, under hd, Result.andThen_ok, MapKept.run_getObj_map hob, Sem.run_pure, hck, hf]
      · cases cok
        · exact hv
        · exact ⟨_, VRs.mk hv (VRs.mk (v := .bool true) rfl VRs.mk0), rfl⟩
theorem keyStays {P : Program} (v : Value) : ∃ w1, (Instr.keyThatStays v v).run P w = .ok v w1 ∧ w1.heap = w.heap ∧ w1.os = w.os ∧ w1.tape = w.tape ∧ w1.output = w.output := by
  unfold Instr.keyThatStays
  split
  · exact ⟨w, rfl, rfl, rfl, rfl, rfl⟩
  · simp only [Sem.run_bind, run_choose, Question.forced, Bool.false_eq_true, if_false, Result.andThen_ok, Sem.run_pure, ite_self]
    exact ⟨_, rfl, rfl, rfl, rfl, rfl⟩
theorem mapUpdate_ok (ok : ν.Ok C.bd) (hpl : PlainOk C) (hr : HR ν ρ nx H w) (hz : Yes z) {t : TypeId} {x y u : AV} {vx vy vu : Value} (hx : VR ν ρ x vx) (hy : VR ν ρ y vy) (hu : VR ν ρ u vu) (h : mapUpdate C t x y u k nx H L = z) :
    Out C.P ν ρ nx L w k z (do Instr.mapUpdate t vx vy vu; pure undef) := by
  unfold mapUpdate at h
  cases hd : desc C t with
  | none => rw [hd] at h; exact (hz _ h.symm).elim
  | some d =>
    rw [hd] at h
    cases d <;> try (exact (hz _ h.symm).elim)
    case map kt et =>
    cases x <;> try (exact (hz _ h.symm).elim)
    case map b =>
    obtain ⟨A, hA, hq⟩ := rd_ok hz h
    obtain ⟨A', hA', hq2⟩ := lift_ok hz hq
    obtain ⟨_, hk⟩ := wr_ok hz hq2
    clear h hq hq2
    obtain ⟨es, hes, hA'⟩ := ob_some hA'
    obtain ⟨fr, hfr, hA'⟩ := ob_some hA'
    obtain ⟨hko, hfr⟩ := bc_some hfr
    obtain ⟨r, sz, h1, rfl⟩ := hx
    obtain ⟨r', sz', obj, hp, hob, hB⟩ := hr.blk b _ hA
    rw [h1] at hp; cases hp
    cases A <;> try (cases hes; done)
    case map esx =>
    have : esx = es := by cases hes; rfl
    subst this
    obtain ⟨l, clock, rfl, hm⟩ := hB
    obtain ⟨hkd, hck⟩ := keyOk_ok hy hko
    obtain ⟨o, hf, hF⟩ := findKey_ok ok hpl hkd hy hm hfr
    cases fr with
    | none =>
      have hF : o = none := hF
      subst hF
      cases hA'
      refine Out.wrote hr (D := [(b, true), (b, false)]) hA h1 (A := .map (esx ++ [(y, u)])) (obj := .map (l.push { key := vy, val := vu, born := clock }) (clock + 1)) (w' := { w with heap := w.heap.setIfInBounds r _ }) rfl rfl rfl rfl
        ⟨_, _, rfl, ?_⟩ (by simp) hk (v := undef) ?_ VR_undef
      · rw [Array.toList_push]
        exact hm.append ⟨_, [], rfl, hy, hu, rfl⟩
      · simp only [Instr.mapUpdate, Sem.run_bind, under hd, Result.andThen_ok, MapKept.run_getObj_map hob, hck, hf]
        simp only [MapKept.run_setObj_map _ hob, Result.andThen_ok, Sem.run_pure]
    | some p =>
      obtain ⟨v, e, rfl, hv, _, hget, hkey⟩ := hF
      obtain ⟨fs, hfs, hA'⟩ := ob_some (show ob (lput p.1 esx [(y, u)]) (fun es => some (.map es)) = some A' from hA')
      cases hA'
      obtain ⟨w1, k1, k2, k3, k4, k5⟩ := keyStays (w := w) (P := C.P) vy
      refine Out.wrote hr (D := [(b, true), (b, false)]) hA h1 (A := .map fs) (obj := .map (l.modify p.1 fun e => { e with key := vy, val := vu }) clock) (w' := { w1 with heap := w1.heap.setIfInBounds r _ }) (by rw [k2]) k3 k4 k5
        ⟨_, _, rfl, ?_⟩ (by simp) hk (v := undef) ?_ VR_undef
      · rw [Array.toList_modify]
        exact hm.modify hy hu hfs
      · have hold : (((l[p.1]?).map (·.key)).getD vy) = vy := by
          have : l[p.1]? = some e := by simpa using hget
          rw [this]; exact hkey
        simp only [Instr.mapUpdate, Sem.run_bind, under hd, Result.andThen_ok, MapKept.run_getObj_map hob, hck, hf, hold, k1]
        simp only [MapKept.run_setObj_map (w := w1) _ (by rw [k2]; exact hob), Result.andThen_ok, Sem.run_pure]
theorem makeMap_ok (hr : HR ν ρ nx H w) (hz : Yes z) {t : TypeId} (h : opMap none k nx H L = z) : Out C.P ν ρ nx L w k z (Instr.makeMap t none) := by
  refine Out.new hr (D := [(nx, true)]) (w' := { w with heap := w.heap.push (.map #[] 0) }) (A := .map []) (sz := 0) (obj := .map #[] 0) rfl rfl rfl rfl ⟨_, _, rfl, rfl⟩ h (v := .map (some w.heap.size)) ?_ ⟨_, 0, upd_same .., rfl⟩
  simp only [Instr.makeMap, pure_bind, Sem.run_bind, run_newObj, Result.andThen_ok, Sem.run_pure]
end
end Go.AM
namespace Go.AM
/-! # Soundness, part 21: slots, operands, one operation -/
/-- the variables of packages are where they are -/
def Glob (ρ : Nm) : Prop := ∀ g, g < nGlob → ∃ sz, ρ g = some (g, sz)
theorem Glob.ext {ρ ρ' : Nm} (h : Glob ρ) (k : Ext ρ ρ') : Glob ρ' := fun g hg => let ⟨sz, e⟩ := h g hg; ⟨sz, k g _ e⟩
/-- the slots of a frame -/
structure ER (ν : Vl) (ρ : Nm) (n : Nat) (e : T AV) (a : Act) : Prop where
  defers : a.defers = []
  size : n ≤ a.tmps.size
  slot : ∀ t x, e.get t = some x → VR ν ρ x (a.tmps.getD t undef)
theorem ER.ext {ν : Vl} {ρ ρ' : Nm} {n : Nat} {e : T AV} {a : Act} (h : ER ν ρ n e a) (k : Ext ρ ρ') : ER ν ρ' n e a := ⟨h.defers, h.size, fun t x hx => (h.slot t x hx).ext k⟩
theorem ER.put {ν : Vl} {ρ : Nm} {n : Nat} {e : T AV} {a : Act} (h : ER ν ρ n e a) {d : Option Nat} (hd : ∀ i, d = some i → i < n) {x : AV} {v : Value} (hx : VR ν ρ x v) : ER ν ρ n (putDst e d x) (a.put d v) := by
  cases d with
  | none => exact h
  | some d =>
    have hd := hd d rfl
    refine ⟨h.defers, by simpa [Act.put] using h.size, fun t y hy => ?_⟩
    have hy : (e.put d (some x)).get t = some y := hy
    rw [T.get_put] at hy
    simp only [Act.put]
    by_cases e1 : t = d
    · subst e1
      rw [if_pos rfl] at hy; cases hy
      simp only [Array.getD_eq_getD_getElem?, Array.getElem?_setIfInBounds_self]
      rw [if_pos (Nat.lt_of_lt_of_le hd h.size)]
      exact hx
    · rw [if_neg e1] at hy
      simp only [Array.getD_eq_getD_getElem?]
      rw [Array.getElem?_setIfInBounds_ne (Ne.symm e1)]
      simpa [Array.getD_eq_getD_getElem?] using h.slot t y hy
section
variable {C : Cx} {ν : Vl} {ρ : Nm} {nx n : Nat} {H : T AB} {L : Log} {w : World} {k : AV → Nat → T AB → Log → Ans} {z : Ans} {e : T AV} {a : Act}
theorem opnd_ok (hg : Glob ρ) (he : ER ν ρ n e a) {o : Operand} {x : AV} (h : opnd e o = some x) : VR ν ρ x (a.eval o) := by
  cases o with
  | tmp t => exact he.slot t x h
  | const v => exact ofV_VR ν ρ v h
  | global g =>
    obtain ⟨h1, h⟩ := bc_some (show bc (Nat.ble (Nat.succ g) nGlob) (some (AV.ptr g (.k 0))) none = some x from h)
    cases h
    obtain ⟨sz, hp⟩ := hg g (Nat.le_of_ble_eq_true h1)
    exact ⟨g, sz, 0, hp, rfl, rfl⟩
  | func f => cases h; exact ⟨[], [], rfl, rfl, rfl⟩
theorem opnds_ok (hg : Glob ρ) (he : ER ν ρ n e a) : ∀ {l : List Operand} {xs : List AV}, opnds e l = some xs → VRs ν ρ xs (l.map a.eval) := by
  intro l
  induction l with
  | nil => intro xs h; cases h; exact VRs.mk0
  | cons o l ih =>
    intro xs h
    obtain ⟨x, hx, h⟩ := ob_some (show ob (opnd e o) (fun a => ob (opnds e l) fun l => some (a :: l)) = some xs from h)
    obtain ⟨ys, hy, h⟩ := ob_some h
    cases h
    exact VRs.mk (opnd_ok hg he hx) (ih hy)
theorem parts_ok (hg : Glob ρ) (he : ER ν ρ n e a) : ∀ {l : List (Nat × Operand)} {xs : List (Nat × AV)}, parts e l = some xs → PR ν ρ xs (l.map fun p => (p.1, a.eval p.2)) := by
  intro l
  induction l with
  | nil => intro xs h; cases h; rfl
  | cons o l ih =>
    intro xs h
    obtain ⟨x, hx, h⟩ := ob_some (show ob (opnd e o.2) (fun a => ob (parts e l) fun l => some ((o.1, a) :: l)) = some xs from h)
    obtain ⟨ys, hy, h⟩ := ob_some h
    cases h
    exact ⟨_, _, rfl, opnd_ok hg he hx, ih hy⟩
theorem opndo_ok (hg : Glob ρ) (he : ER ν ρ n e a) {o : Option Operand} {r : Option SI} (h : ob (opndo e o) idx = some r) : IR ν r (o.map a.eval) := by
  obtain ⟨x, hx, h⟩ := ob_some h
  cases o with
  | none => cases hx; exact idx_ok (ρ := ρ) h trivial
  | some o =>
    obtain ⟨y, hy, hx⟩ := ob_some (show ob (opnd e o) (fun a => some (some a)) = some x from hx)
    cases hx
    exact idx_ok h (opnd_ok hg he hy)
theorem arg_ok (hz : Yes z) {x : Operand} {k' : AV → Nat → T AB → Log → Ans} (h : arg e x k' nx H L = z) : ∃ y, opnd e x = some y ∧ k' y nx H L = z := lift_ok hz h
/-- what an operation does to the slots, told by what comes behind -/
def OpOk (C : Cx) (ν : Vl) (ρ : Nm) (nx : Nat) (L : Log) (w : World) (k : AV → Nat → T AB → Log → Ans) (z : Ans) (o : Oper) (a : Act) (r : Result Next) : Prop :=
  ∀ (next : Act → World → Prop) (Q : Exit → Act → World → Prop),
    (∀ x nx' H' D ρ' v w', k x nx' H' (D ++ L) = z → Low nx ρ nx' ρ' → VR ν ρ' x v → HR ν ρ' nx' H' w' → Stp ρ w ρ' w' D → next (a.put o.dst v) w') → o.upon C.P a next Q r
theorem OpOk.value {o : Oper} {s : Sem Value} (h : Out C.P ν ρ nx L w k z s) : OpOk C ν ρ nx L w k z o a ((do pure (Next.value (← s)) : Sem Next).run C.P w) := by
  obtain ⟨x, nx', H', D, ρ', v, w', h1, h2, h3, h4, h5, h6⟩ := h
  intro next Q hn
  simp only [Sem.run_bind, h3, Result.andThen_ok, Sem.run_pure]
  exact hn _ _ _ _ _ _ _ h1 h2 h4 h5 h6
theorem OpOk.skip {o : Oper} {s : Sem Unit} (h : Out C.P ν ρ nx L w k z (do s; pure undef)) : OpOk C ν ρ nx L w k z o a ((do s; pure Next.skip : Sem Next).run C.P w) := by
  obtain ⟨x, nx', H', D, ρ', v, w', h1, h2, h3, h4, h5, h6⟩ := h
  intro next Q hn
  simp only [Sem.run_bind] at h3 ⊢
  cases hs : s.run C.P w with
  | ok u w1 =>
    rw [hs] at h3
    simp only [Result.andThen_ok, Sem.run_pure] at h3 ⊢
    cases h3
    exact hn _ _ _ _ _ _ _ h1 h2 h4 h5 h6
  | _ => rw [hs] at h3; cases h3
theorem OpOk.now {o : Oper} (hr : HR ν ρ nx H w) {x : AV} {v : Value} (hx : VR ν ρ x v) (h : k x nx H L = z) : OpOk C ν ρ nx L w k z o a (.ok (.value v) w) :=
  fun _ _ hn => hn x nx H [] ρ v w h .refl hx hr (.refl _ _ _)
/-- functions that are entered, or answered -/
def CallOk (C : Cx) (ν : Vl) (call : Nat → List AV → M AV) : Prop :=
  ∀ {ρ : Nm} {nx : Nat} {H : T AB} {L : Log} {w : World} {k : AV → Nat → T AB → Log → Ans} {z : Ans} {f : Nat} {args : List AV} {vs : List Value} {o : Oper} {a : Act},
    HR ν ρ nx H w → Glob ρ → Yes z → VRs ν ρ args vs → call f args k nx H L = z → OpOk C ν ρ nx L w k z o a ((callFunc f ⟨vs⟩).run C.P w)
end
end Go.AM
namespace Go.AM
/-! # Soundness, part 22: every operation -/
section
variable {C : Cx} {ν : Vl} {ρ : Nm} {nx n : Nat} {H : T AB} {L : Log} {w : World} {k : AV → Nat → T AB → Log → Ans} {z : Ans} {e : T AV} {a : Act}
theorem builtin_ok (ok : ν.Ok C.bd) (hpl : PlainOk C) (hr : HR ν ρ nx H w) (hz : Yes z) {b : Builtin} {ts : List TypeId} {args : List AV} {vs : List Value} {ty : TypeId} {cs : Array Bool} {o : Oper} (ha : VRs ν ρ args vs)
    (h : builtin C b ts args k nx H L = z) : OpOk C ν ρ nx L w k z o a ((Go.builtin b ⟨ts⟩ ty cs ⟨vs⟩).run C.P w) := by
  unfold builtin at h
  split at h <;> try (exact (hz _ h.symm).elim)
  · obtain ⟨y, hy, hk⟩ := lift_ok hz h
    obtain ⟨v, l, rfl, hv, hl⟩ := ha.cons
    cases hl.nil
    obtain ⟨u, hu, hyu⟩ := len_ok (w := w) (ty := ty) hv hy
    exact OpOk.value (Out.pure hr hk hu hyu)
  · rcases bcM_ok h with ⟨hl, hk⟩ | ⟨_, hk⟩
    case inr => exact (hz _ hk.symm).elim
    obtain ⟨v, l, rfl, hv, hl1⟩ := ha.cons
    obtain ⟨u, l, rfl, hu, hl2⟩ := hl1.cons
    cases hl2.nil
    exact OpOk.value (append_ok ok hr hz hl hv hu hk)
  · obtain ⟨v, l, rfl, hv, hl⟩ := ha.cons
    cases hl.nil
    exact OpOk.value (clear_ok ok hr hz hv h)
  · obtain ⟨y, hy, hk⟩ := lift_ok hz h
    obtain ⟨v, l, rfl, hv, hl⟩ := ha.cons
    obtain ⟨u, hu, hyu⟩ := minAll_ok (w := w) ok (mx := false) hv hl hy
    refine OpOk.value (Out.pure hr hk (v := u) ?_ hyu)
    exact hu
  · obtain ⟨y, hy, hk⟩ := lift_ok hz h
    obtain ⟨v, l, rfl, hv, hl⟩ := ha.cons
    obtain ⟨u, hu, hyu⟩ := minAll_ok (w := w) ok (mx := true) hv hl hy
    refine OpOk.value (Out.pure hr hk (v := u) ?_ hyu)
    exact hu
theorem opCall_ok (ok : ν.Ok C.bd) (hpl : PlainOk C) {call : Nat → List AV → M AV} (hc : CallOk C ν call) (hr : HR ν ρ nx H w) (hg : Glob ρ) (he : ER ν ρ n e a) (hz : Yes z) {c : Call} {o : Oper} (h : opCall C call e c k nx H L = z) :
    OpOk C ν ρ nx L w k z o a ((do let d ← resolve a.eval c o.type; invoke d.target d.args : Sem Next).run C.P w) := by
  obtain ⟨args, hargs, hq⟩ := lift_ok hz h
  have hvs := opnds_ok hg he hargs
  obtain ⟨callee, ⟨args'⟩, ⟨ts⟩⟩ := c
  cases callee with
  | builtin b =>
    have e1 : (⟨args'⟩ : Array Operand).map a.eval = ⟨args'.map a.eval⟩ := by simp
    simp only [resolve, Sem.run_bind, Sem.run_pure, Result.andThen_ok, invoke, e1]
    exact builtin_ok ok hpl hr hz hvs hq
  | value f =>
    obtain ⟨y, hy, hq2⟩ := arg_ok hz hq
    have hf := opnd_ok hg he hy
    cases y <;> try (exact (hz _ hq2.symm).elim)
    case fn g first cap =>
    obtain ⟨as, bs, h1, h2, hv⟩ := hf
    have := hc (o := o) (a := a) hr hg hz (h1.append (hvs.append h2)) hq2
    simp only [resolve, hv, Deferred.ofValue, Sem.run_bind, Sem.run_pure, Result.andThen_ok, invoke]
    simpa using this
  | invoke r m => exact (hz _ hq.symm).elim
set_option maxHeartbeats 4000000 in
theorem execOp_ok (ok : ν.Ok C.bd) (hpl : PlainOk C) {call : Nat → List AV → M AV} (hc : CallOk C ν call) (hr : HR ν ρ nx H w) (hg : Glob ρ) (he : ER ν ρ n e a) (hz : Yes z) {o : Oper} (h : execOp C call e o.op k nx H L = z) :
    OpOk C ν ρ nx L w k z o a ((Go.execOp a.eval o).run C.P w) := by
  cases hop : o.op <;> rw [hop] at h <;> simp only [Go.execOp, hop]
  case move x =>
    obtain ⟨y, hy, hk⟩ := arg_ok hz h
    exact OpOk.now hr (opnd_ok hg he hy) hk
  case assign x =>
    obtain ⟨y, hy, hk⟩ := arg_ok hz h
    exact OpOk.now hr (opnd_ok hg he hy) hk
  case pick c x y =>
    obtain ⟨q, hq, hk⟩ := arg_ok hz h
    have hv := opnd_ok hg he hq
    cases q <;> try (exact (hz _ hk.symm).elim)
    case bool b =>
    have hv : a.eval c = .bool b := hv
    cases b with
    | true =>
      obtain ⟨u, hu, hk2⟩ := arg_ok hz hk
      simp only [hv, asBool, Sem.run_bind, Sem.run_pure, Result.andThen_ok, if_true]
      exact OpOk.now hr (opnd_ok hg he hu) hk2
    | false =>
      obtain ⟨u, hu, hk2⟩ := arg_ok hz hk
      simp only [hv, asBool, Sem.run_bind, Sem.run_pure, Result.andThen_ok, Bool.false_eq_true, if_false]
      exact OpOk.now hr (opnd_ok hg he hu) hk2
  case alloc t => exact OpOk.value (alloc_ok hr hz h)
  case box t x =>
    obtain ⟨l, hl, hk⟩ := lift_ok hz h
    obtain ⟨y, hy, hl⟩ := ob_some hl
    exact OpOk.value (box_ok hr (opnd_ok hg he hy) hl hk)
  case build t ps =>
    obtain ⟨y, hy, hk⟩ := lift_ok hz h
    obtain ⟨as, has, hy⟩ := ob_some hy
    obtain ⟨v, h1, h2⟩ := build_ok (w := w) (ps := ps.map fun p => (p.1, a.eval p.2)) (by rw [Array.toList_map]; exact parts_ok hg he has) hy
    exact OpOk.value (Out.pure hr hk h1 h2)
  case buildSlice t len ps =>
    have h : opBuildSlice C e t len ps.toList k nx H L = z := h
    cases hp : parts e ps.toList with
    | none =>
      exfalso
      unfold opBuildSlice at h
      rw [hp] at h
      cases hd : desc C t with
      | none => rw [hd] at h; exact hz _ h.symm
      | some d => rw [hd] at h; cases d <;> exact hz _ h.symm
    | some as => exact OpOk.value (buildSlice_ok (ps := ps.map fun p => (p.1, a.eval p.2)) hr hz hp (by rw [Array.toList_map]; exact parts_ok hg he hp) h)
  case load t x =>
    obtain ⟨q, hq, hk⟩ := arg_ok hz h
    cases q <;> try (exact (hz _ hk.symm).elim)
    case ptr b off => exact OpOk.value (load_ok ok hr hz (opnd_ok hg he hq) hk)
  case store t x y =>
    obtain ⟨u, hu, hk⟩ := arg_ok hz h
    obtain ⟨q, hq, hk2⟩ := arg_ok hz hk
    cases q <;> try (exact (hz _ hk2.symm).elim)
    case ptr b off => exact OpOk.skip (store_ok ok hr hz (opnd_ok hg he hq) (opnd_ok hg he hu) hk2)
  case nilCheck x =>
    obtain ⟨q, hq, hk⟩ := arg_ok hz h
    have hv := opnd_ok hg he hq
    cases q <;> try (exact (hz _ hk.symm).elim)
    case ptr b off =>
      have hv2 := hv
      obtain ⟨r, sz, o', _, _, hv⟩ := hv
      rw [hv] at hv2 ⊢
      exact OpOk.now hr hv2 hk
    case fn f as bs =>
      have hv2 := hv
      obtain ⟨_, _, _, _, hv⟩ := hv
      rw [hv] at hv2 ⊢
      exact OpOk.now hr hv2 hk
  case binOp op t x y r =>
    obtain ⟨u, hu, hk⟩ := arg_ok hz h
    obtain ⟨q, hq, hk2⟩ := arg_ok hz hk
    exact OpOk.value (s := binSem op t x y (a.eval x) (a.eval y)) (binOp_ok ok hpl hr hz (opnd_ok hg he hu) (opnd_ok hg he hq) hk2)
  case unOp op t x =>
    obtain ⟨u, hu, hk⟩ := arg_ok hz h
    exact OpOk.value (un_ok ok hr hz (opnd_ok hg he hu) hk)
  case convert s d x =>
    obtain ⟨u, hu, hk⟩ := arg_ok hz h
    exact OpOk.value (conv_ok ok hr hz (opnd_ok hg he hu) hk)
  case makeFunc fn first cap =>
    have h : opFunc e fn first.toList cap.toList k nx H L = z := h
    unfold opFunc at h
    cases fn with
    | func f =>
    have h : (M.lift "makeFunc" (ob (opnds e first.toList) fun a => ob (opnds e cap.toList) fun b => some (.fn f a b)) : M AV) k nx H L = z := h
    obtain ⟨y, hy, hk⟩ := lift_ok hz h
    obtain ⟨as, has, hy⟩ := ob_some hy
    obtain ⟨bs, hbs, hy⟩ := ob_some hy
    cases hy
    refine OpOk.value (Out.pure hr hk (v := .func (.func f) (first.map a.eval) (cap.map a.eval)) rfl ⟨_, _, opnds_ok hg he has, opnds_ok hg he hbs, ?_⟩)
    congr 1 <;> (apply Array.toList_inj.1; simp)
    | _ => exact (hz _ h.symm).elim
  case makeMap t r =>
    cases r with
    | none => exact OpOk.value (makeMap_ok hr hz h)
    | some r => exact (hz _ (show M.no _ k nx H L = z from h).symm).elim
  case makeSlice t x y =>
    obtain ⟨u, hu, hk⟩ := arg_ok hz h
    obtain ⟨q, hq, hk2⟩ := arg_ok hz hk
    exact OpOk.value (makeSlice_ok ok hr hz (opnd_ok hg he hu) (opnd_ok hg he hq) hk2)
  case slice t x lo hi mx =>
    obtain ⟨u, hu, hk⟩ := arg_ok hz h
    obtain ⟨l1, hl1, hk2⟩ := lift_ok hz hk
    obtain ⟨l2, hl2, hk3⟩ := lift_ok hz hk2
    obtain ⟨l3, hl3, hk4⟩ := lift_ok hz hk3
    rcases bcM_ok hk4 with ⟨h3, hk5⟩ | ⟨_, hk5⟩
    case inr => exact (hz _ hk5.symm).elim
    exact OpOk.value (slice_ok ok hr hz (opnd_ok hg he hu) (opndo_ok hg he hl1) (opndo_ok hg he hl2) (opndo_ok hg he hl3) h3 hk5)
  case fieldAddr s x f =>
    obtain ⟨u, hu, hk⟩ := arg_ok hz h
    obtain ⟨y, hy, hk2⟩ := lift_ok hz hk
    obtain ⟨v, h1, h2⟩ := fieldAddr_ok (w := w) (opnd_ok hg he hu) hy
    exact OpOk.value (Out.pure hr hk2 h1 h2)
  case field s x f =>
    obtain ⟨u, hu, hk⟩ := arg_ok hz h
    obtain ⟨y, hy, hk2⟩ := lift_ok hz hk
    obtain ⟨v, h1, h2⟩ := field_ok (w := w) (opnd_ok hg he hu) hy
    exact OpOk.value (Out.pure hr hk2 h1 h2)
  case indexAddr t x y =>
    obtain ⟨u, hu, hk⟩ := arg_ok hz h
    obtain ⟨q, hq, hk2⟩ := arg_ok hz hk
    obtain ⟨r, hr1, hk3⟩ := lift_ok hz hk2
    obtain ⟨v, h1, h2⟩ := indexAddr_ok (w := w) ok (opnd_ok hg he hu) (opnd_ok hg he hq) hr1
    exact OpOk.value (Out.pure hr hk3 h1 h2)
  case index t x y =>
    obtain ⟨u, hu, hk⟩ := arg_ok hz h
    obtain ⟨q, hq, hk2⟩ := arg_ok hz hk
    obtain ⟨r, hr1, hk3⟩ := lift_ok hz hk2
    obtain ⟨v, h1, h2⟩ := index_ok (w := w) ok (opnd_ok hg he hu) (opnd_ok hg he hq) hr1
    exact OpOk.value (Out.pure hr hk3 h1 h2)
  case lookup t x y c =>
    obtain ⟨u, hu, hk⟩ := arg_ok hz h
    obtain ⟨q, hq, hk2⟩ := arg_ok hz hk
    exact OpOk.value (lookup_ok ok hpl hr hz (opnd_ok hg he hu) (opnd_ok hg he hq) hk2)
  case mapUpdate t m x y =>
    obtain ⟨u, hu, hk⟩ := arg_ok hz h
    obtain ⟨q, hq, hk2⟩ := arg_ok hz hk
    obtain ⟨r, hr1, hk3⟩ := arg_ok hz hk2
    exact OpOk.skip (mapUpdate_ok ok hpl hr hz (opnd_ok hg he hu) (opnd_ok hg he hq) (opnd_ok hg he hr1) hk3)
  case extract t i =>
    obtain ⟨u, hu, hk⟩ := arg_ok hz h
    have hv := opnd_ok hg he hu
    cases u <;> try (exact (hz _ hk.symm).elim)
    case tup l =>
    obtain ⟨y, hy, hk2⟩ := lift_ok hz hk
    obtain ⟨vs, h1, hv⟩ := hv
    rw [lget_eq] at hy
    obtain ⟨v, h2, h3⟩ := h1.get hy
    refine OpOk.value (Out.pure hr hk2 (v := v) ?_ h3)
    simp [hv, Instr.extract, h2]
  case call c => exact opCall_ok ok hpl hc hr hg he hz h
  all_goals exact (hz _ h.symm).elim
end
end Go.AM
