import Derived.Test.YtpgfdoakehpnlaaGreatDoorAxF
import Derived.Laws.Runes
import Derived.Lib.Bytealg
set_option linter.unusedVariables false
set_option linter.unusedSimpArgs false
namespace Go.AM
/-! # Soundness, part 36: drawn regions, whole -/
theorem regFit_rising {all : List Oper} (h : regFit all = true) : Rising all := by
  unfold regFit at h
  rw [Bool.and_eq_true] at h
  intro i o ho e he hb
  have h1 := List.all_eq_true.1 h.1 (o, i) (by rw [List.mem_zipIdx_iff_getElem?]; exact ho)
  have h2 := List.all_eq_true.1 h1 e he
  rw [hb] at h2
  exact Nat.le_of_ble_eq_true h2
theorem regFit_slots {all : List Oper} (h : regFit all = true) : SlotsApart all (before all []) := by
  unfold regFit at h
  rw [Bool.and_eq_true] at h
  intro i j o p hlt hi hj
  have h1 := List.all_eq_true.1 h.2 (o, i) (by rw [List.mem_zipIdx_iff_getElem?]; exact hi)
  have h2 := List.all_eq_true.1 h1 (p, j) (by rw [List.mem_zipIdx_iff_getElem?]; exact hj)
  simp only [show Nat.ble (j + 1) i = true from Nat.ble_eq_true_of_le hlt, bc_true, Bool.or_eq_true] at h2
  refine h2.imp id fun h3 => ?_
  unfold slotsOffB at h3
  rw [Bool.and_eq_true] at h3
  refine ⟨fun d hd => ?_, fun d hd => ?_⟩
  · have h4 := h3.1
    rw [hd] at h4
    simp only [Bool.and_eq_true] at h4
    exact ⟨by simpa using h4.1, by simpa using h4.2⟩
  · have h4 := h3.2
    rw [hd] at h4
    simpa using h4
section
variable {C : Cx} {ν : Vl} {call : Nat → List AV → M AV}
theorem HR.cl {ρ : Nm} {nx : Nat} {H : T AB} {w : World} (h : HR ν ρ nx H w) : Cl nx H := by
  intro b hb
  cases hA : H.get b with
  | none => rfl
  | some A =>
    obtain ⟨r, sz, obj, hp, _⟩ := h.blk b A hA
    rw [h.new b hb] at hp; cases hp
theorem sval_all {all : List Oper} {E0 : T AV} {X : Nat → AV} {S : Nat → Bool} {t : Nat} : ∀ m, (∀ j, j < m → S j = true) → sval all E0 X S m t = sval all E0 X (fun _ => true) m t := by
  intro m
  induction m with
  | zero => intro _; rfl
  | succ m ih => intro h; simp only [sval, h m (Nat.lt_succ_self m), ih fun j hj => h j (by omega)]
theorem hval_all {H0 : T AB} {HH : Nat → T AB} {DD : Nat → Log} {S : Nat → Bool} {b : Nat} : ∀ m, (∀ j, j < m → S j = true) → hval H0 HH DD S m b = hval H0 HH DD (fun _ => true) m b := by
  intro m
  induction m with
  | zero => intro _; rfl
  | succ m ih => intro h; simp only [hval, h m (Nat.lt_succ_self m), ih fun j hj => h j (by omega)]
theorem sval_none {all : List Oper} {E0 : T AV} {X : Nat → AV} {S : Nat → Bool} {t : Nat} : ∀ m, (∀ j, j < m → S j = false) → sval all E0 X S m t = E0.get t := by
  intro m
  induction m with
  | zero => intro _; rfl
  | succ m ih => intro h; simp only [sval]; rw [h m (Nat.lt_succ_self m), if_neg (by simp), ih fun j hj => h j (by omega)]
theorem hval_none {H0 : T AB} {HH : Nat → T AB} {DD : Nat → Log} {S : Nat → Bool} {b : Nat} : ∀ m, (∀ j, j < m → S j = false) → hval H0 HH DD S m b = H0.get b := by
  intro m
  induction m with
  | zero => intro _; rfl
  | succ m ih => intro h; simp only [hval]; rw [h m (Nat.lt_succ_self m), if_neg (by simp), ih fun j hj => h j (by omega)]
theorem draw_ok (ok : ν.Ok C.bd) (hpl : PlainOk C) (hmix : C.P.follows .mixedOrders = true) (hc : CallOk C ν call) (hlc : LocC call) : DrawOk C ν call := by
  intro n id ops ρ nx H L w e a k z Q hz hfit hreg hr hg he h hQ
  have h : (execOpsL C call ops.toList ops.toList e []) (fun r => (bc (apartAll (before ops.toList []) r.2 r.2.length) (M.ret (.nrm, r.1)) (M.no "a region whose operations meet") : M (X × T AV)) k) nx H L = z := h
  obtain ⟨E, NX, HH, X, DD, D, a1, a2, a3, a4, a5, a6, a7⟩ := unroll hlc hz hr.cl h
  rcases bcM_ok a6 with ⟨hap, hk⟩ | ⟨_, hk⟩
  case inr => exact (hz _ hk.symm).elim
  subst a1; subst a2; subst a3
  have hlen : (((List.range ops.toList.length).map DD).reverse ++ []).length = ops.toList.length := by simp
  have hbl : (before ops.toList []).length = ops.toList.length := by rw [before_length]; simp
  have hrise := regFit_rising hreg
  have hget : ∀ m, m < ops.toList.length → (((List.range ops.toList.length).map DD).reverse ++ [])[ops.toList.length - 1 - m]? = some (DD m) := by
    intro m hm
    rw [List.append_nil, List.getElem?_reverse (by rw [List.length_map, List.length_range]; omega)]
    simp only [List.length_map, List.length_range]
    rw [List.getElem?_map, List.getElem?_range (by omega)]
    simp only [Option.map_some]
    congr 2
    omega
  have hrun : RunR C call ops.toList (before ops.toList []) E NX HH X DD := by
    refine ⟨a4, a5, ?_, regFit_slots hreg⟩
    have key : ∀ i j, i < ops.toList.length → j < i → Nat.testBit (Bits (before ops.toList []) i) j = true ∨ meets (DD i) (DD j) = false := by
      intro i j hi hj
      rw [hlen] at hap
      have hb : (before ops.toList [])[ops.toList.length - 1 - i]? = some (Bits (before ops.toList []) i) := by
        unfold Bits
        rw [hbl, List.getElem?_eq_getElem (by rw [hbl]; omega)]
        rfl
      exact apartAll_spec hbl hlen hap i j hi hj _ _ _ hb (hget i hi) (hget j (by omega))
    intro i j hi hj hf
    rcases Nat.lt_trichotomy i j with hlt | he | hgt
    · rcases key j i hj hlt with h1 | h1
      · rw [hf.2.2 hlt] at h1; cases h1
      · cases hm : meets (DD i) (DD j) with
        | false => rfl
        | true =>
          unfold meets at hm
          obtain ⟨⟨x, u⟩, hx, hm⟩ := List.any_eq_true.1 hm
          obtain ⟨⟨y, v⟩, hy, hm⟩ := List.any_eq_true.1 hm
          simp only [Bool.and_eq_true, Bool.or_eq_true] at hm
          have := Nat.eq_of_beq_eq_true hm.1
          subst this
          have := meets_false h1 hy hx
          rw [this.1, this.2] at hm
          simp at hm
    · exact (hf.1 he).elim
    · rcases key i j hi hgt with h1 | h1
      · rw [hf.2.1 hgt] at h1; cases h1
      · exact h1
  have hr1 : HR ν ρ (NX 0) (HH 0) { w with drawn := w.drawn + 1 } := hr.same rfl
  have hg0 : ∀ g, g < nGlob → g < NX 0 := by
    intro g hgl
    obtain ⟨sz, hsz⟩ := hg g hgl
    rcases Nat.lt_or_ge g (NX 0) with h1 | h1
    · exact h1
    · rw [hr.new g h1] at hsz; cases hsz
  refine wp_region_any hmix ?_
  refine any_ok (ρ0 := ρ) (w0 := w) (D := D) ok hpl hc hrun hrise (before_just hrise (by simp) (fun i o hi => by simp at hi)) hbl hfit (virt ok hpl hc hrun hfit hr1 hg he) hg0 (fun i y hi hy => a7 i y hi hy) ?_ ops.size (Array.replicate ops.size false) (List.range ops.size) ρ (E 0) (HH 0) a _ (by simp) List.nodup_range (by simp) ?_ ?_ ?_
  · intro S ρ' eS HS a' w' hS hm
    refine hQ .nrm (E ops.toList.length) (NX ops.toList.length) (HH ops.toList.length) D a' w' hk ?_
    have hmono := hrun.mono (Nat.zero_le ops.toList.length) (Nat.le_refl _)
    refine ⟨ρ', ⟨hmono, hm.low⟩, ⟨hm.er.defers, hm.er.size, fun t x hx => hm.er.slot t x ?_⟩, ⟨fun b A hb => hm.blk b A ?_, fun b c A B r s t hb hc' h1 h2 => hm.inj b c A B r s t ?_ ?_ h1 h2, fun b hb => ?_, hm.old⟩, hm.stp, hm.glob⟩
    · rw [hm.slots, sval_all _ hS, ← hrun.E_val t _ (Nat.le_refl _)]; exact hx
    · rw [hm.heap, hval_all _ hS, ← hrun.H_val b _ (Nat.le_refl _)]; exact hb
    · rw [hm.heap, hval_all _ hS, ← hrun.H_val b _ (Nat.le_refl _)]; exact hb
    · rw [hm.heap, hval_all _ hS, ← hrun.H_val c _ (Nat.le_refl _)]; exact hc'
    · cases hp : ρ' b with
      | none => rfl
      | some p =>
        rcases hm.supp b p hp with h3 | ⟨j, h3, h4, h5, h6⟩
        · omega
        · have := hrun.mono (show j + 1 ≤ ops.toList.length by omega) (Nat.le_refl _); omega
  · intro m
    rw [List.mem_range]
    constructor
    · intro hm; exact ⟨hm, by simp [Array.getD_eq_getD_getElem?, hm]⟩
    · intro hm; exact hm.1
  · intro i j hi h1
    simp [Array.getD_eq_getD_getElem?, hi] at h1
  · have hS : ∀ j, j < ops.toList.length → (fun m => (Array.replicate ops.size false).getD m true) j = false := by
      intro j hj
      have : j < ops.size := by simpa using hj
      simp [Array.getD_eq_getD_getElem?, this]
    exact ⟨fun t => (sval_none _ hS).symm, fun b => (hval_none _ hS).symm, he, hr1.blk, hr1.inj, hr1.old, fun b p hb => .inl (by
      rcases Nat.lt_or_ge b (NX 0) with h1 | h1
      · exact h1
      · rw [hr.new b h1] at hb; cases hb), Stp.same (w := w) (w' := { w with drawn := w.drawn + 1 }) rfl rfl rfl rfl D, fun _ _ => rfl, hg⟩
end
end Go.AM
namespace Go.AM
/-! # Soundness, part 37: functions, with nothing left but what stands in the place of texts -/
section
variable {C : Cx} {ν : Vl}
theorem callN_all (ok : ν.Ok C.bd) (hpl : PlainOk C) (hfit : FitP C.P) (hmix : C.P.follows .mixedOrders = true) (hx : ExtOk C ν) (hlx : LocX C) : ∀ m, CallOk C ν (callN C m) := by
  intro m
  induction m with
  | zero => intro ρ nx H L w k z f args vs o a hr hg hz hv h; exact (hz _ h.symm).elim
  | succ m ih =>
    intro ρ nx H L w k z f args vs o a hr hg hz hv h
    have h : callStep C (callN C m) f args k nx H L = z := h
    unfold callStep at h
    cases he : C.ext C.bd (callN C m) f args with
    | none => rw [he] at h; exact callText_ok ok hpl hfit ih (draw_ok ok hpl hmix ih (loc_callN hlx m)) hr hg hz hv h
    | some q => rw [he] at h; exact hx ih he hr hg hz hv h
end
end Go.AM
namespace Go.AM
/-! # Soundness, part 38: what stands in the place of texts is local -/
theorem loc_insB {K b : Nat} {cs : List AV} {s : AV} : Loc (insB K b cs s) := by
  unfold insB
  repeat' first
    | with_reducible exact Loc.no
    | with_reducible exact Loc.ret
    | with_reducible exact Loc.lift
    | with_reducible exact Loc.rd
    | with_reducible exact Loc.wr
    | with_reducible exact loc_appNew
    | with_reducible apply Loc.bind
    | intro _
    | split
theorem loc_insA {K : Nat} {s x : AV} : Loc (insA K s x) := by
  unfold insA
  repeat' first
    | with_reducible exact Loc.no
    | with_reducible exact Loc.ret
    | with_reducible exact Loc.lift
    | with_reducible exact Loc.rd
    | with_reducible exact Loc.wr
    | with_reducible exact loc_appNew
    | with_reducible exact loc_insB
    | with_reducible apply Loc.bind
    | intro _
    | split
theorem loc_extK {P : Program} {bd : Bd} {call : Nat → List AV → M AV} {f : Nat} {args : List AV} {m : M AV} (hc : LocC call) (h : extK P bd call f args = some m) : Loc m := by
  unfold extK at h
  split at h <;> first
    | (cases h; done)
    | (obtain ⟨_, h⟩ := bc_some h; cases h; exact Loc.ret)
    | (cases h; exact Loc.ret)
    | (obtain ⟨_, h⟩ := bc_some h; cases h; exact Loc.bind (hc _ _) fun _ => Loc.lift)
    | (cases h; exact loc_insA)
theorem loc_extA {P : Program} {bd : Bd} {call : Nat → List AV → M AV} {f : Nat} {args : List AV} {m : M AV} (hc : LocC call) (h : extA P bd call f args = some m) : Loc m := by
  unfold extA at h
  split at h
  · cases h; exact loc_appNew
  · cases h; exact Loc.bind Loc.nw fun _ => Loc.ret
  · obtain ⟨_, _, h⟩ := ob_some h; cases h; exact Loc.ret
  · exact loc_extK hc h
theorem loc_extB {P : Program} {bd : Bd} {call : Nat → List AV → M AV} {f : Nat} {args : List AV} {m : M AV} (hc : LocC call) (h : extB P bd call f args = some m) : Loc m := by
  unfold extB at h
  split at h
  · cases h; exact Loc.bind Loc.rd fun _ => Loc.lift
  · exact loc_extA hc h
end Go.AM
namespace Go.AM
/-! # Soundness, part 39: the first place of a byte, the number of a byte -/
theorem idxB_eq : ∀ (l n c i : Nat), c ≤ 255 → idxB l n c i = (match (litB l n).findIdx? (fun b => b == UInt8.ofNat c) with
    | some k => ((i + k : Nat) : Int)
    | none => -1) := by
  intro l
  induction l with
  | zero => intro n c i _; rfl
  | succ l ih =>
    intro n c i hc
    have hb : Nat.beq (Nat.mod n 256) c = (UInt8.ofNat (n % 256) == UInt8.ofNat c) := by
      rw [Bool.eq_iff_iff, beq_iff_eq]
      constructor
      · intro h; have := Nat.eq_of_beq_eq_true h; rw [← this]; rfl
      · intro h
        have := congrArg UInt8.toNat h
        simp at this
        have h2 : n % 256 = c := by omega
        rw [← h2]; exact Nat.beq_refl _
    simp only [idxB, litB, List.findIdx?_cons]
    rw [hb]
    cases (UInt8.ofNat (n % 256) == UInt8.ofNat c) with
    | true => simp
    | false =>
      simp only [bc_false, Bool.false_eq_true, if_false]
      rw [show n.div 256 = n / 256 from rfl, ih (n / 256) c (Nat.succ i) hc]
      cases (litB l (n / 256)).findIdx? (fun b => b == UInt8.ofNat c) with
      | none => rfl
      | some k => simp only [Option.map_some]; congr 1; omega
theorem range_find (c : UInt8) : ∀ l : List UInt8, (List.range l.length).find? (fun i => (l[i]?).getD default == c) = l.findIdx? (fun b => b == c) := by
  intro l
  induction l with
  | nil => rfl
  | cons b l ih =>
    rw [List.length_cons, List.range_succ_eq_map, List.find?_cons, List.findIdx?_cons]
    simp only [List.getElem?_cons_zero, Option.getD_some]
    cases hb : (b == c) with
    | true => simp
    | false =>
      simp only [Bool.false_eq_true, if_false]
      rw [List.find?_map, ← ih]
      congr 1
theorem firstIdx_eq (l : List UInt8) (c : UInt8) : firstIdx ⟨⟨l⟩⟩ c = (match l.findIdx? (fun b => b == c) with
    | some k => (k : Int)
    | none => -1) := by
  unfold firstIdx
  have e : (fun (i : Nat) => (⟨⟨l⟩⟩ : ByteArray)[i]! == c) = fun (i : Nat) => (l[i]?).getD default == c := by
    funext i
    rw [getElem!_def, bytes_get]
    cases l[i]? <;> rfl
  rw [e]
  rw [show (⟨⟨l⟩⟩ : ByteArray).size = l.length from rfl, range_find]
  cases l.findIdx? (fun b => b == c) <;> rfl
end Go.AM
namespace Go.AM
/-! # Soundness, part 40: functions without a text -/
theorem cntB_eq : ∀ (l n c a : Nat), c ≤ 255 → cntB l n c a = (litB l n).foldl (fun m x => if x == UInt8.ofNat c then m + 1 else m) a := by
  intro l
  induction l with
  | zero => intro n c a _; rfl
  | succ l ih =>
    intro n c a hc
    have hb : Nat.beq (Nat.mod n 256) c = (UInt8.ofNat (n % 256) == UInt8.ofNat c) := by
      rw [Bool.eq_iff_iff, beq_iff_eq]
      constructor
      · intro h; have := Nat.eq_of_beq_eq_true h; rw [← this]; rfl
      · intro h
        have := congrArg UInt8.toNat h
        simp at this
        have h2 : n % 256 = c := by omega
        rw [← h2]; exact Nat.beq_refl _
    simp only [cntB, litB, List.foldl_cons]
    rw [hb, show n.div 256 = n / 256 from rfl, ih _ _ _ hc]
    cases (UInt8.ofNat (n % 256) == UInt8.ofNat c) <;> rfl
/-- a function without a text, answered by the model's own entry -/
structure Entry (P : Program) (f : Nat) (e : Array Value → Sem Value) : Prop where
  has : ∃ fn, P.funcs[f]? = some fn ∧ (fn.name == "runtime.NumGoroutine") = false ∧ fn.body.isNone = true ∧ Extern.findNext fn = none ∧ Extern.find fn = some e
theorem Entry.run {P : Program} {f : Nat} {e : Array Value → Sem Value} (h : Entry P f e) {vs : List Value} {w : World} {v : Value} (hv : (e ⟨vs⟩).run P w = .ok v w) : (callFunc f ⟨vs⟩).run P w = .ok (.value v) w := by
  obtain ⟨fn, h1, h2, h3, h4, h5⟩ := h.has
  rw [run_callFunc_extern h1 h2 h3 h4 h5, hv]
  rfl
theorem run_index {P : Program} {w : World} (l : List UInt8) (k : Int) : (Extern.BytealgIndexByte.indexByte ⟨[strV l, .int .u8 k]⟩).run P w = .ok (.int .i64 (firstIdx ⟨⟨l⟩⟩ k.toNat.toUInt8)) w := run_indexByte_string _ _ _
theorem cntB_count (l n c : Nat) (hc : c ≤ 255) : cntB l n c 0 = Lib.countByte (litB l n) (UInt8.ofNat c) := by
  rw [cntB_eq _ _ _ _ hc]
  have key : ∀ (l : List UInt8) (a : Nat), l.foldl (fun m x => if x == UInt8.ofNat c then m + 1 else m) a = a + Lib.countByte l (UInt8.ofNat c) := by
    intro l
    induction l with
    | nil => intro a; simp [Lib.countByte]
    | cons b l ih =>
      intro a
      rw [List.foldl_cons, ih]
      unfold Lib.countByte
      rw [List.count_cons]
      split <;> simp_all <;> omega
  rw [key, Nat.zero_add]
theorem run_count {P : Program} {w : World} (l : List UInt8) (k : Int) : (Extern.BytealgCount.count ⟨[strV l, .int .u8 k]⟩).run P w = .ok (.int .i64 (Lib.countByte l k.toNat.toUInt8 : Nat)) w := Lib.run_countString _ _ _
end Go.AM
namespace Go.AM
/-! # Soundness, part 41: the two functions of bytes -/
section
variable {C : Cx} {ν : Vl} {ρ : Nm} {nx : Nat} {H : T AB} {L : Log} {w : World} {k : AV → Nat → T AB → Log → Ans} {z : Ans} {a : Act} {o : Oper}
theorem toU8 (c : Nat) (h : c ≤ 255) : ((Int.ofNat c).toNat.toUInt8) = UInt8.ofNat c := rfl
theorem ext_index {f l n c : Nat} {vs : List Value} (hE : Entry C.P f Extern.BytealgIndexByte.indexByte) (hr : HR ν ρ nx H w) (hc : c ≤ 255) (hv : VRs ν ρ [.str [.lit l n], .int .u8 (.k (.ofNat c))] vs)
    (h : (M.ret (.int .i64 (.k (idxB l n c 0))) : M AV) k nx H L = z) : OpOk C ν ρ nx L w k z o a ((callFunc f ⟨vs⟩).run C.P w) := by
  obtain ⟨v1, l1, rfl, h1, h2⟩ := hv.cons
  obtain ⟨v2, l2, rfl, h3, h4⟩ := h2.cons
  cases h4.nil
  have h1 : v1 = strV (litB l n ++ []) := h1
  have h3 : v2 = .int .u8 (Int.ofNat c) := h3
  rw [List.append_nil] at h1
  subst h1; subst h3
  rw [hE.run (run_index _ _)]
  refine OpOk.now hr (?_ : VR ν ρ (.int .i64 (.k (idxB l n c 0))) _) h
  show Value.int .i64 _ = .int .i64 (idxB l n c 0)
  rw [idxB_eq _ _ _ _ hc, firstIdx_eq, toU8 c hc]
  cases (litB l n).findIdx? (fun b => b == UInt8.ofNat c) with
  | none => rfl
  | some j => simp
theorem ext_index0 {f : Nat} {e : SI} {vs : List Value} (hE : Entry C.P f Extern.BytealgIndexByte.indexByte) (hr : HR ν ρ nx H w) (hv : VRs ν ρ [.str [], .int .u8 e] vs)
    (h : (M.ret (.int .i64 (.k (-1))) : M AV) k nx H L = z) : OpOk C ν ρ nx L w k z o a ((callFunc f ⟨vs⟩).run C.P w) := by
  obtain ⟨v1, l1, rfl, h1, h2⟩ := hv.cons
  obtain ⟨v2, l2, rfl, h3, h4⟩ := h2.cons
  cases h4.nil
  have h1 : v1 = strV [] := h1
  have h3 : v2 = .int .u8 (e.den ν) := h3
  subst h1; subst h3
  rw [hE.run (run_index _ _)]
  refine OpOk.now hr (?_ : VR ν ρ (.int .i64 (.k (-1))) _) h
  show Value.int .i64 _ = .int .i64 (-1)
  rw [firstIdx_eq]
  rfl
theorem ext_count {f l n c : Nat} {vs : List Value} (hE : Entry C.P f Extern.BytealgCount.count) (hr : HR ν ρ nx H w) (hc : c ≤ 255) (hv : VRs ν ρ [.str [.lit l n], .int .u8 (.k (.ofNat c))] vs)
    (h : (M.ret (.int .i64 (.k (.ofNat (cntB l n c 0)))) : M AV) k nx H L = z) : OpOk C ν ρ nx L w k z o a ((callFunc f ⟨vs⟩).run C.P w) := by
  obtain ⟨v1, l1, rfl, h1, h2⟩ := hv.cons
  obtain ⟨v2, l2, rfl, h3, h4⟩ := h2.cons
  cases h4.nil
  have h1 : v1 = strV (litB l n ++ []) := h1
  have h3 : v2 = .int .u8 (Int.ofNat c) := h3
  rw [List.append_nil] at h1
  subst h1; subst h3
  rw [hE.run (run_count _ _)]
  refine OpOk.now hr (?_ : VR ν ρ (.int .i64 (.k (.ofNat (cntB l n c 0)))) _) h
  show Value.int .i64 _ = .int .i64 (Int.ofNat (cntB l n c 0))
  rw [cntB_count _ _ _ hc, toU8 c hc]
  rfl
theorem ext_count0 {f : Nat} {e : SI} {vs : List Value} (hE : Entry C.P f Extern.BytealgCount.count) (hr : HR ν ρ nx H w) (hv : VRs ν ρ [.str [], .int .u8 e] vs)
    (h : (M.ret (.int .i64 (.k 0)) : M AV) k nx H L = z) : OpOk C ν ρ nx L w k z o a ((callFunc f ⟨vs⟩).run C.P w) := by
  obtain ⟨v1, l1, rfl, h1, h2⟩ := hv.cons
  obtain ⟨v2, l2, rfl, h3, h4⟩ := h2.cons
  cases h4.nil
  have h1 : v1 = strV [] := h1
  have h3 : v2 = .int .u8 (e.den ν) := h3
  subst h1; subst h3
  rw [hE.run (run_count _ _)]
  refine OpOk.now hr (?_ : VR ν ρ (.int .i64 (.k 0)) _) h
  show Value.int .i64 _ = .int .i64 0
  simp [Lib.countByte]
end
end Go.AM
