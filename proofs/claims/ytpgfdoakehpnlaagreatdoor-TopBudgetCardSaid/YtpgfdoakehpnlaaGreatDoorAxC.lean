import Derived.Test.YtpgfdoakehpnlaaGreatDoorAxB
import Derived.Laws.Strings
set_option linter.unusedVariables false
set_option linter.unusedSimpArgs false
namespace Go.AM
/-! # Soundness, part 6: stores, new blocks, places -/
section
variable {ν : Vl} {ρ : Nm} {w : World} {r sz : Nat} {obj : Obj}
theorem cellsR.put {P : Program} {vs : List Value} (hb : w.heap[r]? = some obj) (h : cellsR vs sz obj) {o : Nat} {l : List Value} (hl : ∀ x ∈ l, cellV x = true) (hsz : o + l.length ≤ sz) :
    ∃ w' obj', (storeCells ⟨r, o, none⟩ l).run P w = .ok () w' ∧ w'.heap = w.heap.setIfInBounds r obj' ∧ w'.os = w.os ∧ w'.tape = w.tape ∧ w'.output = w.output ∧
      (o ≤ vs.length → cellsR (vs.take o ++ l ++ vs.drop (o + l.length)) sz obj') ∧ (l = [] → cellsR vs sz obj') ∧ (unfr obj → unfr obj') := by
  obtain ⟨c, e, fr, rest, rfl, h1, h2, h3⟩ := h
  obtain ⟨c', hrun, hs, hc⟩ := run_storeCells (P := P) l w r o 0 c e fr hb hl (by omega) (by rw [h2]; exact h3)
  refine ⟨_, .cells c' e fr, hrun, rfl, rfl, rfl, rfl, fun ho => ⟨c', e, fr, rest.drop (o + l.length - vs.length), rfl, ?_, by rw [hs, h2], h3⟩, fun he => ⟨c', e, fr, rest, rfl, ?_, by rw [hs, h2], h3⟩, fun h => h⟩
  · rw [hc, h1, Nat.add_zero, List.take_append_of_le_length ho, List.drop_append]
    simp
  · subst he
    rw [hc]
    simp [h1]
theorem cellsR.mk {c : Array Value} {e : TypeId} : cellsR c.toList c.size (.cells c e) := ⟨c, e, (0, 0), [], rfl, by simp, rfl, .inl rfl⟩
theorem byteV_cell (x : UInt8) : cellV (byteV x) = true := rfl
end
section
variable {C : Cx} {ν : Vl} {ρ : Nm} {nx : Nat} {H : T AB} {L : Log} {w : World} {k : AV → Nat → T AB → Log → Ans} {z : Ans}
theorem byteV_ofNat {n : Nat} (h : n ≤ 255) : byteV (UInt8.ofNat (n % 256)) = .int .u8 (n : Int) := by
  unfold byteV
  congr 1
  rw [UInt8.toNat_ofNat', Nat.mod_mod, Nat.mod_eq_of_lt (by omega)]
theorem ofByte_ok {e : SI} {p : Pc} (h : Pc.ofByte e = some p) : ∃ c, p.den ν = [c] ∧ byteV c = .int .u8 (e.den ν) := by
  cases e with
  | lin n v => cases h
  | k x => cases x with
    | negSucc n => cases h
    | ofNat n =>
      obtain ⟨hn, h⟩ := bc_some (show bc (Nat.ble n 255) (some (Pc.lit 1 n)) none = some p from h)
      cases h
      exact ⟨_, rfl, byteV_ofNat (Nat.le_of_ble_eq_true hn)⟩
  | bt n v i s => cases s with
    | succ s => cases h
    | zero =>
      cases h
      have hr := SI.bt_range (ν := ν) n v i 0
      refine ⟨_, rfl, ?_⟩
      unfold byteV
      congr 1
      rw [UInt8.toNat_ofNat']
      omega
theorem bytesOf_ok {l : List AV} {s : SS} {vs : List Value} (h : bytesOf l = some s) (hv : VRs ν ρ l vs) : vs = (sden ν s).map byteV := by
  induction l generalizing s vs with
  | nil => simp [bytesOf] at h; subst h; rw [hv.nil]; rfl
  | cons a l ih =>
    obtain ⟨v, vs', rfl, h1, h2⟩ := hv.cons
    unfold bytesOf at h
    split at h
    · rename_i heq; cases heq
    · rename_i e l' heq
      cases heq
      obtain ⟨s', hs, h⟩ := ob_some h
      obtain ⟨p, hp, h⟩ := ob_some h
      cases h
      obtain ⟨c, hc, hb⟩ := ofByte_ok (ν := ν) hp
      have h1 : v = .int .u8 (e.den ν) := h1
      rw [scat_den, List.map_append, ← ih hs h2, h1]
      simp [sden, hc, hb]
    · cases h
/-- bytes are put into bytes -/
theorem putB_ok (ok : ν.Ok C.bd) {s t : SS} {off : SI} {o : Nat} {A : AB} (ho : off.den ν = (o : Nat)) (h : putB C s off t = some A) :
    o ≤ (sden ν s).length ∧ ∃ u, A = .byt u ∧ sden ν u = (sden ν s).take o ++ sden ν t ++ (sden ν s).drop (o + (sden ν t).length) := by
  obtain ⟨a, ha, h⟩ := ob_some h
  obtain ⟨n, hn, h⟩ := ob_some h
  obtain ⟨e, he, h⟩ := ob_some h
  obtain ⟨m, hm, h⟩ := ob_some h
  obtain ⟨h1, h2, h3⟩ := stake_den ok ha
  have hn := slen_den (ν := ν) hn
  have hm := slen_den (ν := ν) hm
  have he := SI.add_den (ν := ν) he
  rw [ho] at h1 h2 h3 he
  simp only [Int.toNat_natCast] at h3
  refine ⟨by omega, ?_⟩
  split at h
  · rename_i hle
    cases h
    have := SI.le_den ok hle
    refine ⟨_, rfl, ?_⟩
    rw [scat_den, h3]
    have hle' : (sden ν s).length ≤ o + (sden ν t).length := by
      have h' : m.den ν ≤ e.den ν := by simpa using this.symm
      omega
    rw [List.drop_eq_nil_of_le hle', List.append_nil]
  · obtain ⟨q, hq, h⟩ := ob_some h
    cases h
    obtain ⟨h4, h5, h6⟩ := sdrop_den ok hq
    refine ⟨_, rfl, ?_⟩
    rw [scat_den, scat_den, h3, h6]
    congr 2
    omega
theorem lput_of_lput1 {α : Type} {o : Nat} {cs r : List α} {x : α} (h : lput1 o cs x = some r) : lput o cs [x] = some r := by
  induction o generalizing cs r with
  | zero => cases cs with
    | nil => simp [lput1_n, lput1_z, lput1_c] at h
    | cons a cs => simp [lput1_n, lput1_z, lput1_c] at h; subst h; cases cs <;> rfl
  | succ o ih => cases cs with
    | nil => simp [lput1_n, lput1_z, lput1_c] at h
    | cons a cs =>
      simp only [lput1_n, lput1_z, lput1_c] at h
      cases ht : lput1 o cs x with
      | none => simp [ht] at h
      | some r' => simp [ht] at h; subst h; simp [lput_0n, lput_00, lput_0c, lput_n, lput_c, ih ht]
theorem storeA_cases {n : Nat} {A A' : AB} {off : SI} {x : AV} (h : storeA C n A off x = some A') :
    (∃ cs l o r, A = .row cs ∧ off.isNat = some o ∧ cellsC x = some l ∧ l.length = n ∧ lput o cs l = some r ∧ A' = .row r) ∨
    (∃ s e p m, A = .byt s ∧ x = .int .u8 e ∧ n = 1 ∧ Pc.ofByte e = some p ∧ putB C s off [p] = some A' ∧ slen s = some m ∧ SI.lt C.bd off m = some true) := by
  cases A with
  | row cs =>
    left
    obtain ⟨o, ho, h⟩ := ob_some (show ob off.isNat (fun o => (match x with
      | .agg l => bc (Nat.beq l.length n) (ob (lput o cs l) fun l => some (AB.row l)) none
      | v => bc (Nat.beq n 1) (bc (atomA v) (ob (lput1 o cs v) fun l => some (AB.row l)) none) none)) = some A' from h)
    have one : ∀ x, cellsC x = some [x] → bc (Nat.beq n 1) (bc (atomA x) (ob (lput1 o cs x) fun l => some (AB.row l)) none) none = some A' →
        ∃ cs' l o r, AB.row cs = .row cs' ∧ off.isNat = some o ∧ cellsC x = some l ∧ l.length = n ∧ lput o cs' l = some r ∧ A' = .row r := by
      intro x hc h
      obtain ⟨h1, h⟩ := bc_some h
      obtain ⟨h2, h⟩ := bc_some h
      obtain ⟨r, hr, h⟩ := ob_some h
      cases h
      exact ⟨cs, [x], o, r, rfl, ho, hc, (Nat.eq_of_beq_eq_true h1).symm, lput_of_lput1 hr, rfl⟩
    cases x <;> first | exact one _ rfl h | skip
    case agg l _ =>
      obtain ⟨h1, h⟩ := bc_some h
      obtain ⟨r, hr, h⟩ := ob_some h
      cases h
      exact ⟨cs, l, o, r, rfl, ho, rfl, Nat.eq_of_beq_eq_true h1, hr, rfl⟩
    case tup l _ =>
      obtain ⟨_, h⟩ := bc_some h
      cases h
  | byt s =>
    right
    cases x <;> first | (cases h; done) | skip
    case int kk e =>
      cases kk <;> first | (cases h; done) | skip
      obtain ⟨h1, h⟩ := bc_some (show bc (Nat.beq n 1) (ob (slen s) fun m => bc (isT (SI.lt C.bd off m)) (ob (Pc.ofByte e) fun p => putB C s off [p]) none) none = some A' from h)
      obtain ⟨m, hm, h⟩ := ob_some h
      obtain ⟨hlt, h⟩ := bc_some h
      obtain ⟨p, hp, h⟩ := ob_some h
      exact ⟨s, e, p, m, rfl, rfl, Nat.eq_of_beq_eq_true h1, hp, h, hm, isT_some hlt⟩
  | map es => cases h
  | lt j l => cases h
theorem VR_undef : VR ν ρ (.tup []) undef := ⟨[], rfl, rfl⟩
theorem storeAt_run {P : Program} {t : TypeId} {r o n : Nat} {v : Value} (hs : (sizeOf t).run P w = .ok n w) (hn : v.cells.size = n) :
    (Instr.storeAt t (.pointer (some ⟨r, o, none⟩)) v).run P w = (storeCells ⟨r, o, none⟩ v.cells.toList).run P w := by
  simp only [Instr.storeAt, Instr.sureAddr, pure_bind, storeVar, Sem.run_bind, hs, Result.andThen_ok]
  rw [if_neg (by simpa using hn)]
theorem store_ok (ok : ν.Ok C.bd) (hr : HR ν ρ nx H w) (hz : Yes z) {t : TypeId} {b : Nat} {off : SI} {va vx : Value} {x : AV} (ha : VR ν ρ (.ptr b off) va) (hx : VR ν ρ x vx) (h : store C t b off x k nx H L = z) :
    Out C.P ν ρ nx L w k z (do Instr.storeAt t va vx; pure undef) := by
  obtain ⟨r, sz, o, h1, h2, rfl⟩ := ha
  obtain ⟨n, hn, h⟩ := lift_ok hz h
  obtain ⟨A, hA, h⟩ := rd_ok hz h
  obtain ⟨A', hA', h⟩ := lift_ok hz h
  obtain ⟨_, hk⟩ := wr_ok hz h
  obtain ⟨r', sz', obj, hp, hb, hB⟩ := hr.blk b A hA
  rw [h1] at hp; cases hp
  rcases storeA_cases hA' with ⟨cs, l, o', q, rfl, ho, hl, hln, hq, rfl⟩ | ⟨s, e, p, m, rfl, rfl, rfl, hp, hq, hm, hlt⟩
  · have := ptr_off h2 ho; subst this
    obtain ⟨h3, h4⟩ := lput_some hq
    obtain ⟨vs, h5, h6, h7, h7'⟩ := hB
    obtain ⟨h8, h9⟩ := hx.cells hl
    have hlen : vx.cells.toList.length = l.length := h8.length
    have hvl : vs.length = cs.length := h5.length
    obtain ⟨w', obj', hrun, hw, e1, e2, e3, hput, _, hu⟩ := h7.put (P := C.P) hb (o := o) h9 (by have := h7.len; omega)
    refine Out.wrote hr (D := [(b, true), (b, false)]) hA h1 hw e1 e2 e3 (A := .row q) (sz := sz) ⟨_, ?_, ?_, hput (by omega), hu h7'⟩ (by simp) hk ?_ VR_undef
    · subst h3
      rw [hlen]
      exact ((h5.take o).append h8).append (h5.drop _)
    · intro y hy
      rcases List.mem_append.1 hy with hy | hy
      · rcases List.mem_append.1 hy with hy | hy
        · exact h6 y (List.mem_of_mem_take hy)
        · exact h9 y hy
      · exact h6 y (List.mem_of_mem_drop hy)
    · rw [Sem.run_bind, storeAt_run (tsize_ok hn) (by simp at hlen; omega), hrun]; rfl
  · obtain ⟨h3, u, rfl, h4⟩ := putB_ok ok h2 hq
    have hx : vx = .int .u8 (e.den ν) := hx
    subst hx
    obtain ⟨c, hc, hcb⟩ := ofByte_ok (ν := ν) hp
    have hB : cellsR ((sden ν s).map byteV) sz obj := hB
    have hlt' := SI.lt_den ok hlt
    rw [slen_den hm, h2] at hlt'
    have hlt' : o < (sden ν s).length := by have : ((o : Nat) : Int) < ((sden ν s).length : Nat) := by simpa using hlt'.symm
                                            omega
    obtain ⟨w', obj', hrun, hw, e1, e2, e3, hput, _⟩ := hB.put (P := C.P) hb (o := o) (l := [.int .u8 (e.den ν)]) (by simp [cellV]) (by have := hB.len; simp at this ⊢; omega)
    refine Out.wrote hr (D := [(b, true), (b, false)]) hA h1 hw e1 e2 e3 (A := .byt u) (sz := sz) ?_ (by simp) hk ?_ VR_undef
    · have := hput (by simp; omega)
      show cellsR _ _ _
      rw [h4]
      simp only [sden, hc, List.append_nil, List.length_singleton, List.map_append, List.map_take, List.map_drop, List.map_cons, List.map_nil, hcb]
      simpa using this
    · rw [Sem.run_bind, storeAt_run (tsize_ok hn) rfl]
      show ((storeCells _ [Value.int .u8 (e.den ν)]).run C.P w).andThen _ = _
      rw [hrun]; rfl
end
end Go.AM
namespace Go.AM
/-! # Soundness, part 7: new blocks, places, parts -/
section
variable {C : Cx} {ν : Vl} {ρ : Nm} {nx : Nat} {H : T AB} {L : Log} {w : World} {k : AV → Nat → T AB → Log → Ans} {z : Ans}
theorem BR.row {l : List AV} {c : Array Value} {e : TypeId} {ρ : Nm} (h : VRs ν ρ l c.toList) (h2 : ∀ x ∈ c.toList, cellV x = true) : BR ν ρ (.row l) c.size (.cells c e) := ⟨_, h, h2, cellsR.mk, rfl⟩
theorem VR.ptr0 {b r sz : Nat} {ρ : Nm} (h : ρ b = some (r, sz)) : VR ν ρ (.ptr b (.k 0)) (.pointer (some ⟨r, 0, none⟩)) := ⟨r, sz, 0, h, rfl, rfl⟩
/-- a new row, and a pointer to it -/
theorem Out.row (hr : HR ν ρ nx H w) {l : List AV} {c : Array Value} {e : TypeId} (h1 : VRs ν ρ l c.toList) (h2 : ∀ x ∈ c.toList, cellV x = true) {s : Sem Value}
    (hs : s.run C.P w = .ok (.pointer (some ⟨w.heap.size, 0, none⟩)) { w with heap := w.heap.push (.cells c e) })
    (h : k (.ptr nx (.k 0)) (nx + 1) (H.put nx (some (.row l))) ((nx, true) :: L) = z) : Out C.P ν ρ nx L w k z s :=
  Out.new hr (D := [(nx, true)]) (w' := { w with heap := w.heap.push (.cells c e) }) rfl rfl rfl rfl (BR.row h1 h2) h hs (VR.ptr0 (upd_same ..))
theorem alloc_ok (hr : HR ν ρ nx H w) (hz : Yes z) {t : TypeId} (h : opAlloc C t k nx H L = z) : Out C.P ν ρ nx L w k z (Instr.alloc t true (.tuple #[])) := by
  obtain ⟨l, hl, h⟩ := lift_ok hz h
  obtain ⟨v, n, h1, h2, h3, _, _⟩ := tzeroC_ok (ν := ν) (ρ := ρ) hl
  refine Out.row hr (c := v.cells) (e := t) h2 h3 ?_ h
  simp [Instr.alloc, h1, newVar, newRow]
theorem box_ok (hr : HR ν ρ nx H w) {t : TypeId} {x : AV} {l : List AV} {v : Value} (hx : VR ν ρ x v) (hl : cellsC x = some l)
    (h : k (.ptr nx (.k 0)) (nx + 1) (H.put nx (some (.row l))) ((nx, true) :: L) = z) : Out C.P ν ρ nx L w k z (Instr.box t v) := by
  obtain ⟨h2, h3⟩ := hx.cells hl
  refine Out.row hr (c := v.cells) (e := t) h2 h3 ?_ h
  simp [Instr.box, newVar, newRow]
theorem lsplit_some {α : Type} {n : Nat} {l a b : List α} (h : lsplit n l = some (a, b)) : a = l.take n ∧ b = l.drop n ∧ n ≤ l.length := by
  induction n generalizing l a b with
  | zero => simp [lsplit_z, lsplit_n, lsplit_c] at h; obtain ⟨rfl, rfl⟩ := h; simp
  | succ n ih => cases l with
    | nil => simp [lsplit_z, lsplit_n, lsplit_c] at h
    | cons x l =>
      simp only [lsplit_z, lsplit_n, lsplit_c] at h
      obtain ⟨⟨a', b'⟩, hab, h⟩ := ob_some h
      simp at h
      obtain ⟨rfl, rfl⟩ := h
      obtain ⟨h1, h2, h3⟩ := ih hab
      subst h1; subst h2
      exact ⟨rfl, rfl, by simp; omega⟩
theorem foldl_set (l : List Value) : ∀ (off j : Nat) (c : Array Value), off + j + l.length ≤ c.size →
    ((l.zipIdx j).foldl (fun cs (p : Value × Nat) => cs.setIfInBounds (off + p.2) p.1) c).toList = c.toList.take (off + j) ++ l ++ c.toList.drop (off + j + l.length) := by
  induction l with
  | nil => intro off j c _; simp
  | cons v l ih =>
    intro off j c h
    simp only [List.length_cons] at h
    rw [List.zipIdx_cons, List.foldl_cons, ih off (j + 1) _ (by simp; omega)]
    simp only [Array.toList_setIfInBounds, List.length_cons]
    have hlt : off + j < c.toList.length := by simp; omega
    have hs : c.toList.set (off + j) v = c.toList.take (off + j) ++ v :: c.toList.drop (off + j + 1) := by
      rw [List.set_eq_take_append_cons_drop, if_pos hlt]
    have ht : (c.toList.take (off + j)).length = off + j := by simp; omega
    rw [hs, show off + (j + 1) = (off + j) + 1 by omega, List.take_append, ht, List.drop_append, ht]
    rw [List.take_of_length_le (by omega), List.drop_eq_nil_of_le (as := c.toList.take (off + j)) (by omega)]
    simp only [Nat.add_sub_cancel_left, show off + j + 1 + l.length - (off + j) = l.length + 1 by omega, List.take_succ_cons, List.take_zero, List.drop_succ_cons, List.nil_append, List.drop_drop, List.append_assoc, List.cons_append]
    rw [show off + j + 1 + l.length = off + j + (l.length + 1) by omega]
def PR (ν : Vl) (ρ : Nm) : List (Nat × AV) → List (Nat × Value) → Prop
  | [], l => l = []
  | (i, a) :: as, l => ∃ v vs, l = (i, v) :: vs ∧ VR ν ρ a v ∧ PR ν ρ as vs
/-- parts are laid into cells: the model lays them one behind the other -/
theorem fill_ok {place : Nat → Option (Nat × Nat)} {ps : List (Nat × AV)} : ∀ {at_ : Nat} {cs r : List AV} {vs : List (Nat × Value)} {c : Array Value} {pre cv : List Value},
    fill place at_ cs ps = some r → PR ν ρ ps vs → c.toList = pre ++ cv → pre.length = at_ → VRs ν ρ cs cv → (∀ x ∈ cv, cellV x = true) →
    ∃ c' rv, Instr.fill place c vs = some c' ∧ c'.toList = pre ++ rv ∧ VRs ν ρ r rv ∧ (∀ x ∈ rv, cellV x = true) ∧ rv.length = cv.length := by
  induction ps with
  | nil =>
    intro at_ cs r vs c pre cv h hp hc _ hv ha
    have hp : vs = [] := hp
    subst hp
    simp [fill] at h; subst h
    exact ⟨c, cv, rfl, hc, hv, ha, rfl⟩
  | cons p ps ih =>
    intro at_ cs r vs c pre cv h hp hc hl hv ha
    obtain ⟨i, x⟩ := p
    obtain ⟨v, vs', rfl, hx, hp'⟩ := hp
    simp only [fill] at h
    obtain ⟨⟨off, size⟩, hplace, h⟩ := ob_some h
    obtain ⟨xs, hxs, h⟩ := ob_some h
    obtain ⟨hle, h⟩ := bc_some h
    obtain ⟨hsz, h⟩ := bc_some h
    obtain ⟨⟨a, b⟩, hab, h⟩ := ob_some h
    obtain ⟨⟨a2, b2⟩, hab2, h⟩ := ob_some h
    obtain ⟨r', hr', h⟩ := ob_some h
    simp only [Option.some.injEq] at h
    subst h
    have hle := Nat.le_of_ble_eq_true hle
    have hsz := Nat.eq_of_beq_eq_true hsz
    have es : Nat.sub off at_ = off - at_ := rfl
    simp only [es] at hab
    obtain ⟨rfl, rfl, h1⟩ := lsplit_some hab
    obtain ⟨rfl, rfl, h2⟩ := lsplit_some hab2
    simp only at hr' hle hsz h1 h2
    obtain ⟨hxv, hxa⟩ := hx.cells hxs
    have hxl : v.cells.toList.length = size := by rw [hxv.length, hsz]
    have hcvl : cv.length = cs.length := hv.length
    rw [List.length_drop] at h2
    have hcl : c.size = pre.length + cv.length := by have := congrArg List.length hc; simpa using this
    have hfold := foldl_set v.cells.toList off 0 c (by simp at hxl ⊢; omega)
    rw [Nat.add_zero] at hfold
    have htake : c.toList.take off = pre ++ cv.take (off - at_) := by
      rw [hc, List.take_append, List.take_of_length_le (by omega), hl]
    have hdrop : c.toList.drop (off + v.cells.toList.length) = cv.drop (off - at_ + size) := by
      rw [hc, List.drop_append, List.drop_eq_nil_of_le (by omega), hxl, hl, List.nil_append]
      congr 1
      omega
    obtain ⟨c', rv, hf, hc', hrv, hra, hrl⟩ := ih (pre := pre ++ cv.take (off - at_) ++ v.cells.toList) (cv := cv.drop (off - at_ + size)) hr' hp'
      (by rw [hfold, htake, hdrop]) (by simp only [List.length_append, List.length_take, hxl]; show _ = off + size; omega)
      (by have := hv.drop (off - at_ + size); rw [List.drop_drop]; exact this) (fun y hy => ha y (List.mem_of_mem_drop hy))
    refine ⟨c', cv.take (off - at_) ++ (v.cells.toList ++ rv), ?_, by rw [hc']; simp [List.append_assoc], (hv.take _).append (hxv.append hrv), ?_, ?_⟩
    · simp only [Instr.fill, hplace]
      have e1 : v.cells.size = size := by simpa using hxl
      have hno : ¬ ((decide (v.cells.size ≠ size) || decide (off + v.cells.size > c.size)) = true) := by
        simp only [Bool.or_eq_true, decide_eq_true_eq, e1]
        omega
      rw [if_neg hno]
      have hfl : Array.foldl (fun cs (x : Value × Nat) => match x with | (c, j) => cs.setIfInBounds (off + j) c) c v.cells.zipIdx =
          (v.cells.toList.zipIdx 0).foldl (fun cs (p : Value × Nat) => cs.setIfInBounds (off + p.2) p.1) c := by
        rw [← Array.foldl_toList, Array.toList_zipIdx]
      rw [hfl]
      exact hf
    · intro y hy
      rcases List.mem_append.1 hy with hy | hy
      · exact ha y (List.mem_of_mem_take hy)
      · rcases List.mem_append.1 hy with hy | hy
        · exact hxa y hy
        · exact hra y hy
    · simp only [List.length_append, List.length_take, hxl, hrl, List.length_drop]; omega
end
end Go.AM
namespace Go.AM
/-! # Soundness, part 8: structs and slices written out; fields, indexes -/
section
variable {C : Cx} {ν : Vl} {ρ : Nm} {nx : Nat} {H : T AB} {L : Log} {w : World} {k : AV → Nat → T AB → Log → Ans} {z : Ans}
theorem arr_eq {α : Type} {c : Array α} {l : List α} (h : c.toList = l) : c = ⟨l⟩ := by cases c; cases h; rfl
theorem rep_mem {α : Type} {n : Nat} {l : List α} {x : α} (h : x ∈ rep n l) : x ∈ l := by
  induction n with
  | zero => cases h
  | succ n ih => rcases List.mem_append.1 h with h | h
                 · exact h
                 · exact ih h
theorem places_ok {fs : List Field} {ps : List (Nat × Nat)} (h : places C fs = some ps) : (fs.mapM (m := Sem) fun f => do pure (f.offset, ← sizeOf f.type)).run C.P w = .ok ps w := by
  induction fs generalizing ps with
  | nil => cases h; rfl
  | cons f fs ih =>
    obtain ⟨s, hs, h⟩ := ob_some (show ob (tsize C f.type) (fun s => ob (places C fs) fun l => some ((f.offset, s) :: l)) = some ps from h)
    obtain ⟨l, hl, h⟩ := ob_some h
    cases h
    rw [List.mapM_cons]
    simp only [Sem.run_bind, tsize_ok hs, Result.andThen_ok, Sem.run_pure, ih hl]
theorem build_ok {t : TypeId} {ps : Array (Nat × Value)} {as : List (Nat × AV)} {x : AV} (hp : PR ν ρ as ps.toList) (h : build C t as = some x) :
    ∃ v, (Instr.build t ps).run C.P w = .ok v w ∧ VR ν ρ x v := by
  unfold build at h
  cases hz : tzeroC C t with
  | none => simp [hz] at h
  | some l =>
    obtain ⟨v, n, h1, h2, h3, _, _⟩ := tzeroC_ok (ν := ν) (ρ := ρ) hz
    cases hd : desc C t with
    | none => simp [hz, hd] at h
    | some d =>
      cases d <;> simp only [hz, hd] at h <;> try (cases h; done)
      case struct fields =>
        obtain ⟨pl, hpl, h⟩ := ob_some h
        obtain ⟨r, hr, h⟩ := ob_some h
        cases h
        obtain ⟨c', rv, hf, hc, hrv, hra, _⟩ := fill_ok (pre := []) (c := v.cells) (cv := v.cells.toList) hr hp (by simp) rfl h2 h3
        refine ⟨.agg c', ?_, rv, hrv, hra, by rw [arr_eq hc]; rfl⟩
        simp only [Instr.build, Sem.run_bind, h1, Result.andThen_ok, under hd]
        rw [Array.mapM_eq_mapM_toList, Sem.run_map, places_ok hpl, Result.andThen_ok, Result.andThen_ok]
        have e : (fun i => (pl.toArray)[i]?) = fun i => lget pl i := by funext i; rw [lget_eq]; simp
        rw [e, hf]
        rfl
      case array n e =>
        obtain ⟨s, hs, h⟩ := ob_some h
        obtain ⟨r, hr, h⟩ := ob_some h
        cases h
        obtain ⟨c', rv, hf, hc, hrv, hra, _⟩ := fill_ok (pre := []) (c := v.cells) (cv := v.cells.toList) hr hp (by simp) rfl h2 h3
        refine ⟨.agg c', ?_, rv, hrv, hra, by rw [arr_eq hc]; rfl⟩
        simp only [Instr.build, Sem.run_bind, h1, Result.andThen_ok, under hd, tsize_ok hs]
        have hf' : Instr.fill (fun i => some (i * s, s)) v.cells ps.toList = some c' := hf
        rw [hf']
        rfl
theorem rep_length {α : Type} (n : Nat) (z : List α) : (rep n z).length = n * z.length := by
  induction n with
  | zero => simp [rep]
  | succ n ih => simp [rep, ih, Nat.add_mul]; omega
theorem rep_get {α : Type} (z : List α) : ∀ (n i : Nat), i < n * z.length → (rep n z)[i]? = z[i % z.length]? := by
  intro n
  induction n with
  | zero => intro i h; simp at h
  | succ n ih =>
    intro i h
    rw [rep]
    rw [Nat.add_mul] at h
    by_cases hi : i < z.length
    · rw [List.getElem?_append_left hi, Nat.mod_eq_of_lt hi]
    · rw [List.getElem?_append_right (by omega), ih _ (by omega)]
      congr 1
      rw [← Nat.mod_eq_sub_mod (by omega)]
theorem zeros_eq (z : Array Value) (n : Nat) : ((Array.range (n * z.size)).map (z[· % z.size]!)).toList = rep n z.toList := by
  apply List.ext_getElem?
  intro i
  by_cases h : i < n * z.size
  · rw [rep_get _ _ _ (by simpa using h)]
    have hz : 0 < z.size := by
      rcases Nat.eq_zero_or_pos z.size with e | e
      · rw [e] at h; simp at h
      · exact e
    have hm := Nat.mod_lt i hz
    simp [h, hm]
  · rw [List.getElem?_eq_none (by simp; omega), List.getElem?_eq_none (by rw [rep_length]; simp; omega)]
theorem VR.sl0 {b r sz n z : Nat} {ρ : Nm} (h : ρ b = some (r, sz)) (hs : n * z ≤ sz) : VR ν ρ (.sl b (.k 0) (.k n) (.eq (.k n)) z) (.slice (some ⟨r, 0, none⟩) n n) :=
  ⟨r, sz, 0, n, n, h, .inr rfl, rfl, rfl, Nat.le_refl _, by omega, rfl⟩
theorem buildSlice_ok (hr : HR ν ρ nx H w) (hz : Yes z) {e : T AV} {t : TypeId} {len : Nat} {os : List (Nat × Operand)} {ps : Array (Nat × Value)} {as : List (Nat × AV)}
    (hos : parts e os = some as) (hp : PR ν ρ as ps.toList) (h : opBuildSlice C e t len os k nx H L = z) : Out C.P ν ρ nx L w k z (Instr.buildSlice t len ps) := by
  unfold opBuildSlice at h
  cases hd : desc C t with
  | none => rw [hd] at h; exact (no_ok hz h).elim
  | some d =>
    rw [hd] at h
    cases d <;> try (exact (no_ok hz h).elim)
    case slice et =>
    obtain ⟨⟨A, s'⟩, hA, h⟩ := lift_ok hz h
    obtain ⟨as', has, hA⟩ := ob_some hA
    rw [hos] at has; cases has
    obtain ⟨s, hs, hA⟩ := ob_some hA
    obtain ⟨zl, hzl, hA⟩ := ob_some hA
    obtain ⟨cs, hcs, hA⟩ := ob_some hA
    obtain ⟨hle, hcs⟩ := bc_some hcs
    have hle : len * s ≤ 16777216 := Nat.le_of_ble_eq_true hle
    obtain ⟨v, n, h1, h2, h3, h4, h5⟩ := tzeroC_ok (ν := ν) (ρ := ρ) hzl
    rw [hs] at h4; cases h4
    have hvs : v.cells.size = s := by have := h2.length; simp at this; omega
    have hvr : VRs ν ρ (rep len zl) (rep len v.cells.toList) := h2.rep len
    have hcell : ∀ x ∈ rep len v.cells.toList, cellV x = true := fun x hx => h3 x (rep_mem hx)
    -- the zero cells, as the model makes them
    obtain ⟨c0, hc0e, hc0⟩ : ∃ c0 : Array Value, c0 = (Array.range (len * s)).map (v.cells[· % v.cells.size]!) ∧ c0.toList = rep len v.cells.toList :=
      ⟨_, rfl, by rw [← hvs, zeros_eq]⟩
    obtain ⟨c', rv, hf, hc, hrv, hra, hrl⟩ := fill_ok (pre := []) (c := c0) (cv := rep len v.cells.toList) hcs hp (by simp [hc0]) rfl hvr hcell
    have hf' : Instr.fill (fun i => some (i * s, s)) c0 ps.toList = some c' := hf
    have hrun : (Instr.buildSlice t len ps).run C.P w = .ok (.slice (some ⟨w.heap.size, 0, none⟩) len len) { w with heap := w.heap.push (.cells c' et) } := by
      simp only [Instr.buildSlice, Sem.run_bind, under hd, Result.andThen_ok, tsize_ok hs]
      rw [if_neg (by omega)]
      by_cases e0 : len * s = 0
      · have er : ∀ f : Nat → Value, (Array.range (len * s)).map f = c0 := by intro f; rw [hc0e, e0]; simp
        rw [if_pos e0]
        simp only [pure_bind, er, hf']
        simp [newRow]
      · rw [if_neg e0]
        simp only [Sem.run_bind, h1, Result.andThen_ok, Sem.run_pure, ← hc0e, hf']
        simp [newRow]
    have hsz : c'.size = len * s := by
      have := congrArg List.length hc
      simp only [List.nil_append, Array.length_toList] at this
      rw [this, hrl, rep_length]; simp [hvs]
    have hc : c'.toList = rv := by simpa using hc
    cases hb : isByte C et with
    | true =>
      rw [hb] at hA
      obtain ⟨u, hu, hA⟩ := ob_some hA
      cases hA
      have hb2 := bytesOf_ok hu hrv
      refine Out.new hr (D := [(nx, true)]) (w' := { w with heap := w.heap.push (.cells c' et) }) (A := .byt u) (sz := c'.size) rfl rfl rfl rfl ?_ h hrun (VR.sl0 (upd_same ..) (Nat.le_of_eq hsz.symm))
      show cellsR _ _ _
      rw [← hb2, ← hc]
      exact cellsR.mk
    | false =>
      rw [hb] at hA
      cases hA
      refine Out.new hr (D := [(nx, true)]) (w' := { w with heap := w.heap.push (.cells c' et) }) (A := .row cs) (sz := c'.size) rfl rfl rfl rfl ?_ h hrun (VR.sl0 (upd_same ..) (Nat.le_of_eq hsz.symm))
      exact BR.row (by rw [hc]; exact hrv) (by rw [hc]; exact hra)
end
end Go.AM
namespace Go.AM
/-! # Soundness, part 9: places of fields and elements -/
section
variable {C : Cx} {ν : Vl} {ρ : Nm} {nx : Nat} {H : T AB} {L : Log} {w : World} {k : AV → Nat → T AB → Log → Ans} {z : Ans}
theorem addr_add (r o n : Nat) : (⟨r, o, none⟩ : Addr).add n = ⟨r, o + n, none⟩ := by
  unfold Addr.add
  split
  · subst_vars; rfl
  · rfl
theorem fieldAddr_ok {s : TypeId} {f : Nat} {x y : AV} {v : Value} (hx : VR ν ρ x v) (h : fieldAddr C s x f = some y) :
    ∃ u, (Instr.fieldAt s v f).run C.P w = .ok u w ∧ VR ν ρ y u := by
  cases x <;> try (cases h; done)
  case ptr b off =>
  obtain ⟨r, sz, o, h1, h2, rfl⟩ := hx
  obtain ⟨d, hd, h⟩ := ob_some (show ob (fieldOff C s f) (fun d => ob (off.add (.k d)) fun o => some (AV.ptr b o)) = some y from h)
  obtain ⟨o', ho, h⟩ := ob_some h
  cases h
  unfold fieldOff at hd
  cases hs : desc C s with
  | none => simp [hs] at hd
  | some dd =>
    cases dd <;> simp only [hs] at hd <;> try (cases hd; done)
    case struct fs =>
    cases hf : lget fs.toList f with
    | none => simp [hf] at hd
    | some fi =>
      simp only [hf] at hd
      cases ht : tsize C fi.type with
      | none => simp [ht] at hd
      | some m =>
        cases m with
        | zero => simp [ht] at hd
        | succ m =>
          simp only [ht, Option.some.injEq] at hd
          subst hd
          rw [lget_eq] at hf
          have hf' : fs[f]? = some fi := by simpa using hf
          refine ⟨.pointer (some ⟨r, o + fi.offset, none⟩), ?_, r, sz, o + fi.offset, h1, ?_, rfl⟩
          · simp [Instr.fieldAt, under hs, hf', Instr.sureAddr, fieldPlace, tsize_ok ht, addr_add]
          · rw [SI.add_den ho, h2]; rfl
theorem part_ok {t : TypeId} {cs : List AV} {off : Nat} {x : AV} {vs : List Value} (hv : VRs ν ρ cs vs) (ha : ∀ y ∈ vs, cellV y = true) (h : part C t cs off = some x) :
    ∃ v, (Go.part t ⟨vs⟩ off).run C.P w = .ok v w ∧ VR ν ρ x v := by
  unfold part at h
  cases hg : aggN C t with
  | none => simp [hg] at h
  | some g => cases g with
    | none =>
      simp only [hg] at h
      rw [lget_eq] at h
      obtain ⟨v, h1, h2⟩ := hv.get h
      refine ⟨v, ?_, h2⟩
      simp only [Go.part, Sem.run_bind, aggN_none hg, Result.andThen_ok]
      simp [h1]
    | some n =>
      simp only [hg] at h
      obtain ⟨l, hl, h⟩ := ob_some h
      cases h
      obtain ⟨rfl, h2⟩ := ltake_some hl
      obtain ⟨h3, h4⟩ := aggN_some (w := w) hg
      refine ⟨.agg ⟨(vs.drop off).take n⟩, ?_, _, by rw [ldrop_eq]; exact (hv.drop off).take n, fun y hy => ha y (List.mem_of_mem_drop (List.mem_of_mem_take hy)), rfl⟩
      simp only [Go.part, Sem.run_bind, h3, Result.andThen_ok]
      simp only [if_true, Sem.run_bind, tsize_ok h4, Result.andThen_ok, Sem.run_pure]
      congr 2
      apply arr_eq
      simp [List.drop_take]
theorem field_ok {t : TypeId} {f : Nat} {x y : AV} {v : Value} (hx : VR ν ρ x v) (h : field C t x f = some y) :
    ∃ u, (Instr.field t v f).run C.P w = .ok u w ∧ VR ν ρ y u := by
  unfold field at h
  cases hs : desc C t with
  | none => simp [hs] at h
  | some dd =>
    cases dd <;> simp only [hs] at h <;> try (cases h; done)
    case struct fs =>
    cases x <;> try (cases h; done)
    case agg cs =>
    obtain ⟨vs, h1, h2, rfl⟩ := hx
    obtain ⟨fi, hf, h⟩ := ob_some h
    rw [lget_eq] at hf
    have hf' : fs[f]? = some fi := by simpa using hf
    obtain ⟨u, h3, h4⟩ := part_ok (w := w) h1 h2 h
    exact ⟨u, by simp [Instr.field, under hs, hf', asAgg, h3], h4⟩
theorem sliceCell_den {off i d : SI} {esz : Nat} (h : sliceCell off i esz = some d) : d.den ν = off.den ν + i.den ν * esz := by
  obtain ⟨m, hm, h⟩ := ob_some h
  rw [SI.add_den h, SI.mul_den hm]; rfl
theorem inRange_den (ok : ν.Ok C.bd) {i n : SI} (h : inRange C i n = true) : 0 ≤ i.den ν ∧ i.den ν < n.den ν := by
  unfold inRange at h
  cases h1 : isT (SI.le C.bd (.k 0) i) with
  | false => rw [h1] at h; cases h
  | true =>
    rw [h1] at h
    have h2 := SI.le_den ok (isT_some h1)
    have h3 := SI.lt_den ok (isT_some h)
    rw [den_k] at h2
    exact ⟨by simpa using h2.symm, by simpa using h3.symm⟩
theorem indexAddr_ok (ok : ν.Ok C.bd) {t : TypeId} {x i y : AV} {vx vi : Value} (hx : VR ν ρ x vx) (hi : VR ν ρ i vi) (h : indexAddr C t x i = some y) :
    ∃ u, (Instr.indexAt t vx vi).run C.P w = .ok u w ∧ VR ν ρ y u := by
  unfold indexAddr at h
  cases hd : desc C t with
  | none => simp [hd] at h
  | some d =>
    rw [hd] at h
    cases d <;> try (cases h; done)
    case slice e =>
      cases x <;> try (cases h; done)
      case sl b off len cap zz =>
      cases i <;> try (cases h; done)
      case int kk i =>
      obtain ⟨hin, h⟩ := bc_some h
      obtain ⟨esz, hes, h⟩ := ob_some h
      obtain ⟨o', ho, h⟩ := ob_some h
      cases h
      obtain ⟨r, sz, o, n, c, h1, h2, h3, h4, h5, h6, rfl⟩ := hx
      have hi : vi = .int kk (i.den ν) := hi
      subst hi
      obtain ⟨h7, h8⟩ := inRange_den ok hin
      rw [h3] at h8
      have h2' : off.den ν = (o : Nat) := by rcases h2 with h2 | h2
                                             · omega
                                             · exact h2
      refine ⟨.pointer (some ⟨r, o + (i.den ν).toNat * esz, none⟩), ?_, r, sz, _, h1, ?_, rfl⟩
      · simp only [Instr.indexAt, asIntOf, pure_bind, Sem.run_bind, under hd, Result.andThen_ok, Sem.run_pure]
        rw [if_pos ⟨h7, h8⟩]
        simp [tsize_ok hes, addr_add]
      · rw [sliceCell_den ho, h2']
        have : i.den ν = ((i.den ν).toNat : Int) := by omega
        rw [this]; simp
    case array len e =>
      cases x <;> try (cases h; done)
      case ptr b off =>
      cases i <;> try (cases h; done)
      case int kk i =>
      obtain ⟨hin, h⟩ := bc_some h
      obtain ⟨esz, hes, h⟩ := ob_some h
      obtain ⟨o', ho, h⟩ := ob_some h
      cases h
      obtain ⟨r, sz, o, h1, h2, rfl⟩ := hx
      have hi : vi = .int kk (i.den ν) := hi
      subst hi
      obtain ⟨h7, h8⟩ := inRange_den ok hin
      rw [den_k] at h8
      refine ⟨.pointer (some ⟨r, o + (i.den ν).toNat * esz, none⟩), ?_, r, sz, _, h1, ?_, rfl⟩
      · simp only [Instr.indexAt, asIntOf, pure_bind, Sem.run_bind, under hd, Result.andThen_ok, Sem.run_pure, Instr.sureAddr]
        rw [if_pos ⟨h7, h8⟩]
        simp [tsize_ok hes, addr_add]
      · rw [sliceCell_den ho, h2]
        have : i.den ν = ((i.den ν).toNat : Int) := by omega
        rw [this]; simp
theorem bytes_get (l : List UInt8) (n : Nat) : (⟨⟨l⟩⟩ : ByteArray)[n]? = l[n]? := by
  by_cases h : n < l.length
  · have h' : n < (⟨⟨l⟩⟩ : ByteArray).size := h
    rw [ByteArray.getElem?_lt' _ _ h', List.getElem?_eq_getElem h]
    rfl
  · have h' : ¬ n < (⟨⟨l⟩⟩ : ByteArray).size := h
    rw [ByteArray.getElem?_ge' _ _ h', List.getElem?_eq_none (by omega)]
theorem index_ok (ok : ν.Ok C.bd) {t : TypeId} {x i y : AV} {vx vi : Value} (hx : VR ν ρ x vx) (hi : VR ν ρ i vi) (h : index C t x i = some y) :
    ∃ u, (Instr.index t vx vi).run C.P w = .ok u w ∧ VR ν ρ y u := by
  unfold index at h
  cases hd : desc C t with
  | none => simp [hd] at h
  | some d =>
    rw [hd] at h
    cases d <;> try (cases h; done)
    case string =>
      cases x <;> try (cases h; done)
      case str s =>
      cases i <;> try (cases h; done)
      case int kk i =>
      obtain ⟨n, hn, h⟩ := ob_some h
      obtain ⟨hin, h⟩ := bc_some h
      obtain ⟨e, he, h⟩ := ob_some h
      cases h
      have hi : vi = .int kk (i.den ν) := hi
      have hx : vx = strV (sden ν s) := hx
      subst hi; subst hx
      obtain ⟨h7, h8⟩ := inRange_den ok hin
      obtain ⟨h1, c, h2, h3⟩ := sget_den ok he
      refine ⟨.int .u8 c.toNat, ?_, by show _ = _; rw [h3]⟩
      simp only [Instr.index, asIntOf, pure_bind, Sem.run_bind, under hd, Result.andThen_ok, strV]
      rw [if_pos h7, bytes_get, h2]
      rfl
    case array len e =>
      cases x <;> try (cases h; done)
      case agg cs =>
      cases i <;> try (cases h; done)
      case int kk i =>
      cases i <;> try (cases h; done)
      case k i =>
      cases i <;> try (cases h; done)
      case ofNat i =>
      obtain ⟨hin, h⟩ := bc_some (show bc (Nat.ble (Nat.succ i) len) (ob (tsize C e) fun s => part C e cs (Nat.mul i s)) none = some y from h)
      obtain ⟨s, hs, h⟩ := ob_some h
      obtain ⟨vs, h1, h2, rfl⟩ := hx
      have hi : vi = .int kk (i : Int) := hi
      subst hi
      have hlt := Nat.le_of_ble_eq_true hin
      obtain ⟨u, h3, h4⟩ := part_ok (w := w) h1 h2 h
      refine ⟨u, ?_, h4⟩
      simp only [Instr.index, asIntOf, pure_bind, Sem.run_bind, under hd, Result.andThen_ok]
      rw [if_pos (by omega)]
      simp only [Sem.run_bind, tsize_ok hs, Result.andThen_ok]
      exact h3
/-! ## slices of slices -/
theorem bounds_den (ok : ν.Ok C.bd) {l h n : SI} (hb : bounds C l h n = true) : 0 ≤ l.den ν ∧ l.den ν ≤ h.den ν ∧ h.den ν ≤ n.den ν := by
  unfold bounds at hb
  cases h1 : isT (SI.le C.bd (.k 0) l) with
  | false => rw [h1] at hb; cases hb
  | true =>
    rw [h1] at hb
    cases h2 : isT (SI.le C.bd l h) with
    | false => rw [h2] at hb; cases hb
    | true =>
      rw [h2] at hb
      have e1 := SI.le_den ok (isT_some h1)
      have e2 := SI.le_den ok (isT_some h2)
      have e3 := SI.le_den ok (isT_some hb)
      rw [den_k] at e1
      exact ⟨by simpa using e1.symm, by simpa using e2.symm, by simpa using e3.symm⟩
/-- an index that may be left out, and what stands for it -/
def IR (ν : Vl) : Option SI → Option Value → Prop
  | none, v => v = none
  | some e, v => ∃ k, v = some (.int k (e.den ν))
theorem idx_ok {o : Option AV} {v : Option Value} {r : Option SI} (h : idx o = some r) (hv : match o, v with | none, none => True | some a, some b => VR ν ρ a b | _, _ => False) : IR ν r v := by
  cases o with
  | none => cases v with
    | none => cases h; rfl
    | some v => exact hv.elim
  | some a => cases v with
    | none => exact hv.elim
    | some v =>
      cases a <;> try (cases h; done)
      case int k e => cases h; exact ⟨k, by rw [show v = .int k (e.den ν) from hv]⟩
def MxR (ν : Vl) (mx : Option SI) (m cap : Nat) : Prop := match mx with
  | none => m = cap
  | some e => e.den ν = (m : Nat) ∧ m ≤ cap
theorem sliceBound_run {e : SI} {k : IntKind} {y : Nat} {code : BoundsCode} (h0 : 0 ≤ e.den ν) (h1 : e.den ν ≤ y) :
    (Instr.sliceBound (.int k (e.den ν)) y code).run C.P w = .ok (e.den ν).toNat w := by
  simp only [Instr.sliceBound, asIntOf, pure_bind]
  rw [if_pos ⟨h0, h1⟩]; rfl
/-- the bounds of a slice expression, as the model reckons them -/
theorem sliceBounds_run {isS : Bool} {len cap : Nat} {lo hi mx : Option SI} {vlo vhi vmx : Option Value} {m lN hN : Nat} (hlo : IR ν lo vlo) (hhi : IR ν hi vhi) (hmx : IR ν mx vmx)
    (hm : MxR ν mx m cap) (hh : mx.isSome = true → hi.isSome = true)
    (el : (lo.getD (.k 0)).den ν = (lN : Nat)) (eh : (hi.getD (.k (len : Nat))).den ν = (hN : Nat)) (h1 : lN ≤ hN) (h2 : hN ≤ m) :
    (Instr.sliceBounds isS len cap vlo vhi vmx).run C.P w = .ok (lN, hN, m) w := by
  have bnd : ∀ {e : SI} {n y : Nat} (k : IntKind) (code : BoundsCode), e.den ν = (n : Nat) → n ≤ y → (Instr.sliceBound (.int k (e.den ν)) y code).run C.P w = .ok n w := by
    intro e n y k code e1 e2
    rw [sliceBound_run (by omega) (by omega), e1]; rfl
  cases mx with
  | none =>
    have : vmx = none := hmx
    subst this
    have hm : m = cap := hm
    subst hm
    cases hi with
    | none =>
      have : vhi = none := hhi
      subst this
      have eh : ((len : Nat) : Int) = (hN : Nat) := eh
      have eh : len = hN := by omega
      subst eh
      cases lo with
      | none =>
        have : vlo = none := hlo
        subst this
        have el : (0 : Int) = (lN : Nat) := el
        have el : lN = 0 := by omega
        subst el
        simp only [Instr.sliceBounds, Sem.run_bind, Sem.run_pure, Result.andThen_ok]
      | some e =>
        obtain ⟨kl, rfl⟩ := hlo
        have b1 := fun code => bnd kl code el h1
        simp only [Instr.sliceBounds, Sem.run_bind, Sem.run_pure, Result.andThen_ok]
        rw [show (Option.some e).getD (SI.k 0) = e from rfl] at b1
        simp only [b1, Result.andThen_ok]
    | some eh' =>
      obtain ⟨kh, rfl⟩ := hhi
      have b2 := fun code => bnd kh code eh h2
      rw [show (Option.some eh').getD (SI.k (len : Nat)) = eh' from rfl] at b2
      cases lo with
      | none =>
        have : vlo = none := hlo
        subst this
        have el : (0 : Int) = (lN : Nat) := el
        have el : lN = 0 := by omega
        subst el
        simp only [Instr.sliceBounds, Sem.run_bind, Sem.run_pure, Result.andThen_ok, b2]
      | some e =>
        obtain ⟨kl, rfl⟩ := hlo
        have b1 := fun code => bnd kl code el h1
        rw [show (Option.some e).getD (SI.k 0) = e from rfl] at b1
        simp only [Instr.sliceBounds, Sem.run_bind, Sem.run_pure, Result.andThen_ok, b2, b1]
  | some em =>
    obtain ⟨km, rfl⟩ := hmx
    obtain ⟨hm1, hm2⟩ := hm
    have b3 := fun code => bnd km code hm1 hm2
    cases hi with
    | none => exact absurd (hh rfl) (by simp)
    | some eh' =>
      obtain ⟨kh, rfl⟩ := hhi
      have b2 := fun code => bnd kh code eh h2
      rw [show (Option.some eh').getD (SI.k (len : Nat)) = eh' from rfl] at b2
      cases lo with
      | none =>
        have : vlo = none := hlo
        subst this
        have el : (0 : Int) = (lN : Nat) := el
        have el : lN = 0 := by omega
        subst el
        simp only [Instr.sliceBounds, Sem.run_bind, Sem.run_pure, Result.andThen_ok, b3, b2]
      | some e =>
        obtain ⟨kl, rfl⟩ := hlo
        have b1 := fun code => bnd kl code el h1
        rw [show (Option.some e).getD (SI.k 0) = e from rfl] at b1
        simp only [Instr.sliceBounds, Sem.run_bind, Sem.run_pure, Result.andThen_ok, b3, b2, b1]
end
end Go.AM
namespace Go.AM
/-! # Soundness, part 10: slice expressions, lengths, numbers -/
section
variable {C : Cx} {ν : Vl} {ρ : Nm} {nx : Nat} {H : T AB} {L : Log} {w : World} {k : AV → Nat → T AB → Log → Ans} {z : Ans}
theorem extract_eq (l : List UInt8) (a b : Nat) : (⟨⟨l⟩⟩ : ByteArray).extract a b = ⟨⟨(l.drop a).take (b - a)⟩⟩ := by
  apply ByteArray.ext
  rw [ByteArray.data_extract]
  apply arr_eq
  simp [List.drop_take]
theorem nat_of {x : Int} (h : 0 ≤ x) : ∃ n : Nat, x = (n : Nat) := ⟨x.toNat, by omega⟩
theorem low_capR {cap : Cp} {c : Nat} (h : capR ν cap c) : cap.low.den ν ≤ (c : Nat) := by
  cases cap with
  | eq e => have : e.den ν = (c : Nat) := h; show e.den ν ≤ _; omega
  | ge e => exact h
theorem sub_capR {cap cap' : Cp} {c n : Nat} {l : SI} (h : capR ν cap c) (hs : cap.sub l = some cap') (hl : l.den ν = (n : Nat)) (hn : n ≤ c) : capR ν cap' (c - n) := by
  cases cap with
  | eq e =>
    obtain ⟨d, hd, hs⟩ := ob_some hs
    cases hs
    have := SI.sub_den (ν := ν) hd
    have h : e.den ν = (c : Nat) := h
    show d.den ν = _
    omega
  | ge e =>
    obtain ⟨d, hd, hs⟩ := ob_some hs
    cases hs
    have := SI.sub_den (ν := ν) hd
    have h : e.den ν ≤ (c : Nat) := h
    show d.den ν ≤ _
    omega
theorem sliceV_ok (ok : ν.Ok C.bd) {t : TypeId} {x y : AV} {vx : Value} {lo hi mx : Option SI} {vlo vhi vmx : Option Value} (hx : VR ν ρ x vx) (hlo : IR ν lo vlo) (hhi : IR ν hi vhi) (hmx : IR ν mx vmx)
    (hh : mx.isSome = true → hi.isSome = true) (h : sliceV C t x (lo.getD (.k 0)) hi mx = some y) : ∃ u, (Instr.sliceAt t vx vlo vhi vmx).run C.P w = .ok u w ∧ VR ν ρ y u := by
  unfold sliceV at h
  cases hd : desc C t with
  | none => simp [hd] at h
  | some d =>
    rw [hd] at h
    cases d <;> try (cases h; done)
    case string =>
      cases x <;> try (cases h; done)
      case str s =>
      cases mx with
      | some _ => cases h
      | none =>
        have : vmx = none := hmx
        subst this
        obtain ⟨n, hn, h⟩ := ob_some (show sliceStr C s (lo.getD (.k 0)) hi = some y from h)
        obtain ⟨hb, h⟩ := bc_some h
        obtain ⟨dd, hdd, h⟩ := ob_some h
        obtain ⟨r, hr, h⟩ := ob_some h
        obtain ⟨u, hu, h⟩ := ob_some h
        cases h
        have hx : vx = strV (sden ν s) := hx
        subst hx
        have hn := slen_den (ν := ν) hn
        obtain ⟨b1, b2, b3⟩ := bounds_den ok hb
        obtain ⟨lN, hlN⟩ := nat_of b1
        obtain ⟨hN, hhN⟩ := nat_of (Int.le_trans b1 b2)
        have hdd := SI.sub_den (ν := ν) hdd
        obtain ⟨_, _, hr⟩ := sdrop_den ok hr
        obtain ⟨_, _, hu⟩ := stake_den ok hu
        have eh : (hi.getD (.k ((sden ν s).length : Nat))).den ν = (hN : Nat) := by
          cases hi with
          | none => rw [← hhN]; show ((sden ν s).length : Int) = n.den ν; rw [hn]
          | some _ => exact hhN
        have hle : hN ≤ (sden ν s).length := by rw [hhN] at b3; omega
        refine ⟨strV (((sden ν s).drop lN).take (hN - lN)), ?_, ?_⟩
        · have hrun := sliceBounds_run (C := C) (w := w) (isS := false) (len := (sden ν s).length) (cap := (sden ν s).length) (lo := lo) (hi := hi) (mx := none) (m := (sden ν s).length) hlo hhi rfl rfl (by simp) hlN eh (by omega) hle
          simp only [Instr.sliceAt, Sem.run_bind, under hd, Result.andThen_ok, Instr.slice, strV]
          simp only [Option.isSome_none, Bool.false_eq_true, if_false, pure_bind, Sem.run_bind]
          have hsz : (⟨⟨sden ν s⟩⟩ : ByteArray).size = (sden ν s).length := rfl
          rw [hsz, hrun]
          simp only [Result.andThen_ok, Sem.run_pure, extract_eq]
        · show _ = strV (sden ν u)
          have e1 : (dd.den ν).toNat = hN - lN := by omega
          rw [hu, hr, hlN, e1]; rfl
    case slice e =>
      cases x <;> try (cases h; done)
      case nils =>
        have hx : vx = .slice none 0 0 := hx
        subst hx
        obtain ⟨esz, hes', h⟩ := ob_some (show ob (tsize C e) (fun _ => sliceNil (lo.getD (.k 0)) hi mx) = some y from h)
        have hes := tsize_ok (w := w) hes'
        have key : lo.getD (.k 0) = .k 0 ∧ hi.getD (.k 0) = .k 0 ∧ (mx = none ∨ mx = some (.k 0)) ∧ y = .nils := by
          unfold sliceNil at h
          split at h <;> first | (cases h; done) | skip
          · rename_i h1 h2 h3; cases h; exact ⟨by assumption, by assumption, .inl rfl, rfl⟩
          · cases h; exact ⟨by assumption, by assumption, .inr rfl, rfl⟩
        obtain ⟨k1, k2, k3, rfl⟩ := key
        clear h
        have hm : MxR ν mx 0 0 := by
          rcases k3 with rfl | rfl
          · rfl
          · exact ⟨rfl, Nat.le_refl _⟩
        have hrun := sliceBounds_run (C := C) (w := w) (isS := true) (len := 0) (cap := 0) (m := 0) (lN := 0) (hN := 0) hlo hhi hmx hm hh (by rw [k1]; rfl) (by rw [show (SI.k ((0 : Nat) : Int)) = SI.k 0 from rfl, k2]; rfl) (Nat.le_refl _) (Nat.le_refl _)
        refine ⟨.slice none 0 0, ?_, rfl⟩
        simp only [Instr.sliceAt, Sem.run_bind, under hd, Result.andThen_ok, Instr.slice, hrun]
        simp [hes]
      case sl b off len cap zz =>
        obtain ⟨esz, hes, h⟩ := ob_some (show sliceSl C e b off len cap zz (lo.getD (.k 0)) hi mx = some y from h)
        obtain ⟨hz, h⟩ := bc_some h
        have hz := Nat.eq_of_beq_eq_true hz
        subst hz
        obtain ⟨cap', hcap, h⟩ := ob_some h
        obtain ⟨hb, h⟩ := bc_some h
        obtain ⟨d, hdd, h⟩ := ob_some h
        obtain ⟨c', hc', h⟩ := ob_some h
        obtain ⟨o', ho', h⟩ := ob_some h
        cases h
        obtain ⟨r, sz, o, n, c, h1, h2, h3, h4, h5, h6, rfl⟩ := hx
        obtain ⟨b1, b2, b3⟩ := bounds_den ok hb
        obtain ⟨lN, hlN⟩ := nat_of b1
        obtain ⟨hN, hhN⟩ := nat_of (Int.le_trans b1 b2)
        have hdd := SI.sub_den (ν := ν) hdd
        -- the capacity that is taken
        obtain ⟨m, hm, hcr, hmc⟩ : ∃ m : Nat, MxR ν mx m c ∧ capR ν cap' m ∧ m ≤ c := by
          cases mx with
          | none => cases hcap; exact ⟨c, rfl, h4, Nat.le_refl _⟩
          | some em =>
            obtain ⟨hle, hcap⟩ := bc_some (show bc (isT (SI.le C.bd em cap.low)) (some (Cp.eq em)) none = some cap' from hcap)
            cases hcap
            have e1 := SI.le_den ok (isT_some hle)
            have e2 := low_capR h4
            have e3 : hN ≤ em.den ν := by rw [← hhN]; exact b3
            obtain ⟨m, hm⟩ := nat_of (x := em.den ν) (by omega)
            have e4 : em.den ν ≤ cap.low.den ν := by simpa using e1.symm
            exact ⟨m, ⟨hm, by omega⟩, hm, by omega⟩
        have hlow := low_capR hcr
        have eh : (hi.getD (.k (n : Nat))).den ν = (hN : Nat) := by
          cases hi with
          | none => rw [← hhN]; show (n : Int) = len.den ν; rw [h3]
          | some _ => exact hhN
        have hhm : hN ≤ m := by rw [hhN] at b3; omega
        have hlh : lN ≤ hN := by rw [hlN, hhN] at b2; omega
        have hrun := sliceBounds_run (C := C) (w := w) (isS := true) (len := n) (cap := c) hlo hhi hmx hm hh hlN eh hlh hhm
        refine ⟨.slice (if m = lN then some ⟨r, o, none⟩ else (some (⟨r, o, none⟩ : Addr)).map (·.add (lN * zz))) (hN - lN) (m - lN), ?_, ?_⟩
        · simp only [Instr.sliceAt, Sem.run_bind, under hd, Result.andThen_ok, Instr.slice, hrun, tsize_ok hes, Sem.run_pure]
        · have e1 : d.den ν = ((hN - lN : Nat) : Int) := by omega
          have hcap := sub_capR hcr hc' hlN (by omega)
          have ho := sliceCell_den (ν := ν) ho'
          by_cases em : m = lN
          · rw [if_pos em]
            refine ⟨r, sz, o, hN - lN, m - lN, h1, .inl (by omega), e1, hcap, by omega, ?_, rfl⟩
            rw [show m - lN = 0 by omega]; have : 0 ≤ c * zz := Nat.zero_le _; omega
          · rw [if_neg em]
            refine ⟨r, sz, o + lN * zz, hN - lN, m - lN, h1, .inr ?_, e1, hcap, by omega, ?_, by simp [addr_add]⟩
            · rcases h2 with h2 | h2
              · omega
              · rw [ho, h2, hlN]; simp
            · have e2 : (m - lN) * zz = m * zz - lN * zz := Nat.sub_mul ..
              have e3 : lN * zz ≤ m * zz := Nat.mul_le_mul_right _ (by omega)
              have e4 : m * zz ≤ c * zz := Nat.mul_le_mul_right _ hmc
              omega
theorem rowLen_some {A : AB} {n : Nat} (h : rowLen A = some n) : ∃ cs, A = .row cs ∧ cs.length = n := by
  cases A <;> cases h
  exact ⟨_, rfl, rfl⟩
theorem sliceArr_ok (ok : ν.Ok C.bd) (hr : HR ν ρ nx H w) {t : TypeId} {A : AB} {b : Nat} {off : SI} {y : AV} {vx : Value} {lo hi : Option SI} {vlo vhi : Option Value} (hb : H.get b = some A)
    (hx : VR ν ρ (.ptr b off) vx) (hlo : IR ν lo vlo) (hhi : IR ν hi vhi)
    (h : sliceArr C t A b off (lo.getD (.k 0)) hi = some y) : ∃ u, (Instr.sliceAt t vx vlo vhi none).run C.P w = .ok u w ∧ VR ν ρ y u := by
  unfold sliceArr at h
  cases hd : desc C t with
  | none => simp [hd] at h
  | some d =>
    rw [hd] at h
    cases d <;> try (cases h; done)
    case array n e =>
    obtain ⟨esz, hes, h⟩ := ob_some h
    obtain ⟨oN, hoN, h⟩ := ob_some h
    obtain ⟨m, hm, h⟩ := ob_some h
    obtain ⟨hfit, h⟩ := bc_some h
    obtain ⟨hb2, h⟩ := bc_some h
    obtain ⟨d, hdd, h⟩ := ob_some h
    obtain ⟨c', hc', h⟩ := ob_some h
    obtain ⟨o', ho', h⟩ := ob_some h
    cases h
    have hfit : oN + n * esz ≤ m := Nat.le_of_ble_eq_true hfit
    obtain ⟨cs, rfl, hcs⟩ := rowLen_some hm
    obtain ⟨r, sz, o, h1, h2, rfl⟩ := hx
    have := ptr_off h2 hoN; subst this
    obtain ⟨r', sz', obj, hp, hob, hB⟩ := hr.blk b _ hb
    rw [h1] at hp; cases hp
    obtain ⟨vs, q1, q2, q3, _⟩ := hB
    have hsz : m ≤ sz := by have := q3.len; have := q1.length; omega
    obtain ⟨b1, b2, b3⟩ := bounds_den ok hb2
    obtain ⟨lN, hlN⟩ := nat_of b1
    obtain ⟨hN, hhN⟩ := nat_of (Int.le_trans b1 b2)
    have hdd := SI.sub_den (ν := ν) hdd
    have hc' := SI.sub_den (ν := ν) hc'
    rw [den_k] at b3 hc'
    have en : (Int.ofNat n) = (n : Int) := rfl
    rw [en] at b3 hc'
    have eh : (hi.getD (.k (n : Nat))).den ν = (hN : Nat) := hhN
    have hrun := sliceBounds_run (C := C) (w := w) (isS := false) (len := n) (cap := n) (lo := lo) (hi := hi) (mx := none) (m := n) hlo hhi rfl rfl (by simp) hlN eh (by omega) (by omega)
    refine ⟨.slice (some (if n = lN then (⟨r, o, none⟩ : Addr) else (⟨r, o, none⟩ : Addr).add (lN * esz))) (hN - lN) (n - lN), ?_, ?_⟩
    · simp only [Instr.sliceAt, Sem.run_bind, under hd, Result.andThen_ok, Instr.sureAddr, Sem.run_pure, hrun, tsize_ok hes]
    · have e1 : d.den ν = ((hN - lN : Nat) : Int) := by omega
      have ec : c'.den ν = ((n - lN : Nat) : Int) := by omega
      have ho := sliceCell_den (ν := ν) ho'
      by_cases em : n = lN
      · rw [if_pos em]
        refine ⟨r, sz, o, hN - lN, n - lN, h1, .inl (by omega), e1, ec, by omega, ?_, rfl⟩
        rw [show n - lN = 0 by omega]; have : 0 ≤ n * esz := Nat.zero_le _; omega
      · rw [if_neg em]
        refine ⟨r, sz, o + lN * esz, hN - lN, n - lN, h1, .inr ?_, e1, ec, by omega, ?_, by simp [addr_add]⟩
        · rw [ho, h2, hlN]; simp
        · have e2 : (n - lN) * esz = n * esz - lN * esz := Nat.sub_mul ..
          have e3 : lN * esz ≤ n * esz := Nat.mul_le_mul_right _ (by omega)
          omega
theorem slice_ok (ok : ν.Ok C.bd) (hr : HR ν ρ nx H w) (hz : Yes z) {t : TypeId} {x : AV} {vx : Value} {lo hi mx : Option SI} {vlo vhi vmx : Option Value} (hx : VR ν ρ x vx) (hlo : IR ν lo vlo) (hhi : IR ν hi vhi) (hmx : IR ν mx vmx)
    (hh : slice3 hi mx = true) (h : sliceM C t x lo hi mx k nx H L = z) : Out C.P ν ρ nx L w k z (Instr.sliceAt t vx vlo vhi vmx) := by
  have hh' : mx.isSome = true → hi.isSome = true := by
    intro e
    cases mx with
    | none => cases e
    | some _ => cases hi with
      | none => cases hh
      | some _ => rfl
  have slow : M.lift "slice" (sliceV C t x (lo.getD (.k 0)) hi mx) k nx H L = z → Out C.P ν ρ nx L w k z (Instr.sliceAt t vx vlo vhi vmx) := by
    intro h
    obtain ⟨y, hy, hk⟩ := lift_ok hz h
    obtain ⟨u, h1, h2⟩ := sliceV_ok (w := w) ok hx hlo hhi hmx hh' hy
    exact Out.pure hr hk h1 h2
  cases x <;> try (exact slow h)
  case ptr b off =>
  cases mx with
  | some _ => exact absurd (show z = .no "slice: an array to a capacity" from h.symm) (hz _)
  | none =>
    have : vmx = none := hmx
    subst this
    obtain ⟨A, hA, h⟩ := rd_ok hz h
    obtain ⟨y, hy, hk⟩ := lift_ok hz h
    obtain ⟨u, h1, h2⟩ := sliceArr_ok (w := w) ok hr hA hx hlo hhi hy
    exact Out.seen hr (D := [(b, false)]) hk h1 h2
end
end Go.AM
namespace Go.AM
/-! # Soundness, part 11: numbers and texts -/
section
variable {C : Cx} {ν : Vl} {ρ : Nm} {nx : Nat} {H : T AB} {L : Log} {w : World} {k : AV → Nat → T AB → Log → Ans} {z : Ans}
theorem within_ok (ok : ν.Ok C.bd) {lo hi : Int} {e : SI} (h : within C lo hi e = true) : lo ≤ e.den ν ∧ e.den ν ≤ hi := by
  unfold within at h
  cases hl : SI.lo C.bd e with
  | none => simp [hl] at h
  | some l => cases hh : SI.hi C.bd e with
    | none => simp [hl, hh] at h
    | some u =>
      simp only [hl, hh, Bool.and_eq_true, decide_eq_true_eq] at h
      have := SI.lo_den ok hl
      have := SI.hi_den ok hh
      omega
theorem fitsS_ok (ok : ν.Ok C.bd) {k : IntKind} {e : SI} (h : fitsS C k e = true) : fitsP k (e.den ν) := by
  unfold fitsS at h
  cases hl : SI.lo C.bd e with
  | none => simp [hl] at h
  | some l => cases hh : SI.hi C.bd e with
    | none => simp [hl, hh] at h
    | some u =>
      simp only [hl, hh, Bool.and_eq_true] at h
      exact fitsP_mid (fits_of h.1) (fits_of h.2) (SI.lo_den ok hl) (SI.hi_den ok hh)
/-- what fits a kind and is not negative lies below a power of two -/
theorem fitsP_pow {k : IntKind} {n : Nat} (h : fitsP k (n : Int)) : ∃ b, n < 2 ^ b ∧ b ≤ k.bits ∧ (∀ m : Nat, m < 2 ^ b → fitsP k (m : Int)) := by
  cases k <;> first | exact h.elim | skip
  case i32 => have h : _ ∧ _ := h; exact ⟨31, by omega, by decide, fun m hm => by show _ ∧ _; constructor <;> omega⟩
  case i64 => have h : _ ∧ _ := h; exact ⟨63, by omega, by decide, fun m hm => by show _ ∧ _; constructor <;> omega⟩
  case u8 => have h : _ ∧ _ := h; exact ⟨8, by omega, by decide, fun m hm => by show _ ∧ _; constructor <;> omega⟩
  case u32 => have h : _ ∧ _ := h; exact ⟨32, by omega, by decide, fun m hm => by show _ ∧ _; constructor <;> omega⟩
  case u64 => have h : _ ∧ _ := h; exact ⟨64, by omega, by decide, fun m hm => by show _ ∧ _; constructor <;> omega⟩
def bitN (op : BinOp) (x y : Nat) : Nat := match op with
  | .and => x &&& y
  | .or => x ||| y
  | _ => x ^^^ (x &&& y)
theorem intBits_run {op : BinOp} {k : IntKind} {x y : Nat} (hop : op = .and ∨ op = .or ∨ op = .andNot) (hx : fitsP k (x : Int)) (hy : fitsP k (y : Int)) :
    Op.intBits op k (x : Int) (y : Int) = pure (.int k (bitN op x y : Nat)) := by
  obtain ⟨b, h1, h2, h3⟩ := fitsP_pow hx
  obtain ⟨c, h4, h5, h6⟩ := fitsP_pow hy
  have hxb : x < 2 ^ k.bits := Nat.lt_of_lt_of_le h1 (Nat.pow_le_pow_right (by decide) h2)
  have hyb : y < 2 ^ k.bits := Nat.lt_of_lt_of_le h4 (Nat.pow_le_pow_right (by decide) h5)
  have e1 : (BitVec.ofInt k.bits (x : Int)).toNat = x := by rw [BitVec.ofInt_natCast, BitVec.toNat_ofNat, Nat.mod_eq_of_lt hxb]
  have e2 : (BitVec.ofInt k.bits (y : Int)).toNat = y := by rw [BitVec.ofInt_natCast, BitVec.toNat_ofNat, Nat.mod_eq_of_lt hyb]
  have big : ∃ d, x < 2 ^ d ∧ y < 2 ^ d ∧ (∀ m : Nat, m < 2 ^ d → fitsP k (m : Int)) := by
    rcases Nat.le_total b c with h | h
    · exact ⟨c, Nat.lt_of_lt_of_le h1 (Nat.pow_le_pow_right (by decide) h), h4, h6⟩
    · exact ⟨b, h1, Nat.lt_of_lt_of_le h4 (Nat.pow_le_pow_right (by decide) h), h3⟩
  obtain ⟨d, d1, d2, d3⟩ := big
  rcases hop with rfl | rfl | rfl
  · simp only [Op.intBits, BitVec.toNat_and, e1, e2, bitN]
    rw [wrap_of_fits (d3 _ (Nat.lt_of_le_of_lt Nat.and_le_left d1))]
  · simp only [Op.intBits, BitVec.toNat_or, e1, e2, bitN]
    rw [wrap_of_fits (d3 _ (Nat.or_lt_two_pow d1 d2))]
  · have e3 : (BitVec.ofInt k.bits (x : Int) &&& ~~~ BitVec.ofInt k.bits (y : Int)).toNat = x ^^^ (x &&& y) := by
      rw [BitVec.toNat_and, BitVec.toNat_not, e1, e2]
      apply Nat.eq_of_testBit_eq
      intro i
      rw [Nat.testBit_and, Nat.testBit_xor, Nat.testBit_and, show 2 ^ k.bits - 1 - y = 2 ^ k.bits - (y + 1) by omega, Nat.testBit_two_pow_sub_succ hyb]
      by_cases hi : i < k.bits
      · cases x.testBit i <;> cases y.testBit i <;> simp [hi]
      · have : x.testBit i = false := Nat.testBit_lt_two_pow (Nat.lt_of_lt_of_le hxb (Nat.pow_le_pow_right (by decide) (by omega)))
        simp [this]
    simp only [Op.intBits, e3, bitN]
    rw [wrap_of_fits (d3 _ (Nat.xor_lt_two_pow d1 (Nat.lt_of_le_of_lt Nat.and_le_left d1)))]
theorem fitsP_small {k : IntKind} {n b : Nat} (hb : b ≤ 32) (h : b < k.bits) (hn : n < 2 ^ b) : (k = .i32 ∨ k = .i64 ∨ k = .u8 ∨ k = .u32 ∨ k = .u64) → fitsP k (n : Int) := by
  have hp : 2 ^ b ≤ 2 ^ 32 := Nat.pow_le_pow_right (by decide) hb
  rintro (rfl | rfl | rfl | rfl | rfl) <;> simp only [IntKind.bits] at h <;> show _ ∧ _
  · have : 2 ^ b ≤ 2 ^ 31 := Nat.pow_le_pow_right (by decide) (by omega)
    constructor <;> omega
  · constructor <;> omega
  · have : 2 ^ b ≤ 2 ^ 7 := Nat.pow_le_pow_right (by decide) (by omega)
    constructor <;> omega
  · constructor <;> omega
  · constructor <;> omega
theorem kinds_of {k : IntKind} {b : Nat} (h : b < k.bits) (hb : 16 ≤ b) : k = .i32 ∨ k = .i64 ∨ k = .u8 ∨ k = .u32 ∨ k = .u64 := by
  cases k <;> simp [IntKind.bits] at h ⊢ <;> omega
theorem bitOp_ok (ok : ν.Ok C.bd) {op : BinOp} {k : IntKind} {a b r : SI} (h : bitOp C op k a b = some r) :
    (op = .and ∨ op = .or ∨ op = .andNot) ∧ Op.intBits op k (a.den ν) (b.den ν) = pure (.int k (r.den ν)) := by
  have hor : ∀ {a b : SI}, bitOr C k a b = some r → Op.intBits .or k (a.den ν) (b.den ν) = pure (.int k (r.den ν)) := by
    intro a b h
    have zero : ∀ {e : SI}, (fitsS C k e && within C 0 4611686018427387904 e) = true → ∃ x : Nat, e.den ν = (x : Int) ∧ fitsP k (x : Int) ∧ fitsP k ((0 : Nat) : Int) := by
      intro e he
      rw [Bool.and_eq_true] at he
      have h1 := fitsS_ok ok he.1
      obtain ⟨x, hx⟩ := nat_of (within_ok ok he.2).1
      rw [hx] at h1
      obtain ⟨b, hb, _, hf⟩ := fitsP_pow h1
      exact ⟨x, hx, h1, hf 0 (Nat.pow_pos (by decide))⟩
    unfold bitOr at h
    split at h
    · rename_i e
      obtain ⟨hf, h⟩ := bc_some h
      cases h
      obtain ⟨x, hx, h1, h0⟩ := zero hf
      rw [hx]
      have := intBits_run (op := .or) (.inr (.inl rfl)) h0 h1
      rw [den_k]
      simpa [bitN] using this
    · rename_i e _
      obtain ⟨hf, h⟩ := bc_some h
      cases h
      obtain ⟨x, hx, h1, h0⟩ := zero hf
      rw [hx]
      have := intBits_run (op := .or) (.inr (.inl rfl)) h1 h0
      rw [den_k]
      simpa [bitN] using this
    · rename_i n v
      obtain ⟨hf, h⟩ := bc_some h
      cases h
      simp only [Bool.and_eq_true] at hf
      obtain ⟨hw, hk⟩ := hf
      have hw := within_ok ok hw
      have hk : fitsP k ((255 : Nat) : Int) := fits_of hk
      obtain ⟨bb, hb1, _, hb3⟩ := fitsP_pow hk
      obtain ⟨X, hX⟩ := nat_of hw.1
      have hX2 : X ≤ 127 := by omega
      have hX' : n + linD ν v = (X : Int) := hX
      have e1 : (SI.bt n v 0 0).den ν = (X : Int) := by simp only [SI.den, hX']; omega
      have e2 : (SI.bt (n + 128) v 0 0).den ν = ((128 + X : Nat) : Int) := by simp only [SI.den, show n + 128 + linD ν v = ((128 + X : Nat) : Int) by omega]; omega
      rw [e1, e2, show (SI.k 128).den ν = ((128 : Nat) : Int) from rfl]
      rw [intBits_run (op := .or) (.inr (.inl rfl)) (hb3 128 (by omega)) (hb3 X (by omega))]
      simp only [bitN]
      rw [show (128 : Nat) = 2 ^ 7 * 1 by rfl, Nat.two_pow_add_eq_or_of_lt (by omega : X < 2 ^ 7)]
    · rename_i n v m w'
      obtain ⟨hf, h⟩ := bc_some h
      cases h
      simp only [Bool.and_eq_true, decide_eq_true_eq] at hf
      obtain ⟨⟨rfl, rfl⟩, hw, hk⟩ := hf
      have hk := Nat.le_of_ble_eq_true hk
      have hw := within_ok ok hw
      obtain ⟨X, hX⟩ := nat_of hw.1
      have hX2 : X ≤ 65535 := by omega
      have hX' : n + linD ν v = (X : Int) := hX
      have e1 : (SI.bt n v 1 8).den ν = ((2 ^ 8 * (X / 256) : Nat) : Int) := by simp only [SI.den, hX']; omega
      have e2 : (SI.bt n v 0 0).den ν = ((X % 256 : Nat) : Int) := by simp only [SI.den, hX']; omega
      have hkk := kinds_of (k := k) (b := 16) (by omega) (by omega)
      rw [e1, e2, hX]
      rw [intBits_run (op := .or) (.inr (.inl rfl)) (fitsP_small (n := 2 ^ 8 * (X / 256)) (b := 16) (by omega) (by omega) (by omega) hkk) (fitsP_small (n := X % 256) (b := 16) (by omega) (by omega) (by omega) hkk)]
      simp only [bitN]
      rw [← Nat.two_pow_add_eq_or_of_lt (by omega : X % 256 < 2 ^ 8)]
      congr 2
      omega
    · cases h
  have hand : ∀ {a b : SI}, bitAnd C k a b = some r → Op.intBits .and k (a.den ν) (b.den ν) = pure (.int k (r.den ν)) := by
    intro a b h
    unfold bitAnd at h
    split at h
    · rename_i n v
      obtain ⟨hf, h⟩ := bc_some h
      cases h
      simp only [Bool.and_eq_true] at hf
      obtain ⟨hw, hk⟩ := hf
      have hw := within_ok ok hw
      have hk : fitsP k ((255 : Nat) : Int) := fits_of hk
      obtain ⟨bb, hb1, _, hb3⟩ := fitsP_pow hk
      obtain ⟨X, hX⟩ := nat_of (show 0 ≤ (SI.lin n v).den ν by omega)
      have hX2 : X ≤ 255 := by omega
      have hX3 : 128 ≤ X := by omega
      have hX' : n + linD ν v = (X : Int) := hX
      have e2 : (SI.lin (n - 128) v).den ν = ((X - 128 : Nat) : Int) := by show n - 128 + linD ν v = _; omega
      rw [hX, e2, show (SI.k 127).den ν = ((127 : Nat) : Int) from rfl]
      rw [intBits_run (op := .and) (.inl rfl) (hb3 X (by omega)) (hb3 127 (by omega))]
      simp only [bitN]
      have e : X &&& 127 = X - 128 := by
        rw [show (127 : Nat) = 2 ^ 7 - 1 by rfl, Nat.and_two_pow_sub_one_eq_mod]
        omega
      rw [e]
    · rename_i n v
      obtain ⟨hf, h⟩ := bc_some h
      cases h
      simp only [Bool.and_eq_true] at hf
      have hk := Nat.le_of_ble_eq_true hf.2
      have hw := within_ok ok hf.1
      obtain ⟨X, hX⟩ := nat_of hw.1
      have hX2 : X ≤ 2147483647 := by omega
      have hkk := kinds_of (k := k) (b := 32) (by omega) (by omega)
      rw [hX]
      have := intBits_run (k := k) (op := .and) (.inl rfl) (fitsP_small (n := X) (b := 32) (by omega) (by omega) (by omega) hkk) (fitsP_small (n := 2147483647) (b := 32) (by omega) (by omega) (by omega) hkk)
      rw [show ((SI.k 2147483647).den ν) = ((2147483647 : Nat) : Int) from rfl, this]
      simp only [bitN]
      have e : X &&& 2147483647 = X := by
        rw [show 2147483647 = 2 ^ 31 - 1 by rfl, Nat.and_two_pow_sub_one_eq_mod, Nat.mod_eq_of_lt (by omega)]
      rw [e]
    · cases h
  unfold bitOp at h
  split at h
  · rename_i x y
    obtain ⟨hf, h⟩ := bc_some h
    obtain ⟨q, hq, h⟩ := ob_some h
    cases h
    simp only [Bool.and_eq_true] at hf
    have f1 : fitsP k (x : Int) := fits_of hf.1
    have f2 : fitsP k (y : Int) := fits_of hf.2
    cases op <;> first | (cases hq; done) | skip
    case and => cases hq; exact ⟨.inl rfl, intBits_run (.inl rfl) f1 f2⟩
    case or => cases hq; exact ⟨.inr (.inl rfl), intBits_run (.inr (.inl rfl)) f1 f2⟩
    case andNot => cases hq; exact ⟨.inr (.inr rfl), intBits_run (.inr (.inr rfl)) f1 f2⟩
  · split at h
    · exact ⟨.inr (.inl rfl), hor h⟩
    · exact ⟨.inl rfl, hand h⟩
    · cases h
theorem shl_ok {k kb : IntKind} {a b r : SI} (h : shlOp k a b = some r) : Op.shift .shl k (a.den ν) kb (b.den ν) = pure (.int k (r.den ν)) := by
  unfold shlOp at h
  split at h
  · rename_i x n
    cases h
    rw [den_k, den_k, den_k]
    simp only [Op.shift]
    rw [if_neg (by simp)]
    rfl
  · rename_i n v i s m
    obtain ⟨hf, h⟩ := bc_some h
    cases h
    simp only [Bool.and_eq_true] at hf
    have hm := Nat.le_of_ble_eq_true hf.2
    have hf := fits_of hf.1
    have hr := SI.bt_range (ν := ν) n v i (s + m)
    have e : (SI.bt n v i s).den ν * 2 ^ m = (SI.bt n v i (s + m)).den ν := by
      simp only [SI.den]
      rw [Int.mul_assoc, ← Int.pow_add]
    have em : (SI.k (.ofNat m)).den ν = (m : Int) := rfl
    rw [em]
    simp only [Op.shift]
    rw [if_neg (by omega)]
    simp only [Int.toNat_natCast, Nat.min_eq_left hm, e]
    congr 2
    refine wrap_of_fits (fitsP_mid (l := 0) ?_ hf hr.1 hr.2)
    cases k <;> first | exact hf.elim | (show _ ∧ _; constructor <;> omega)
  · cases h
theorem shr_ok (ok : ν.Ok C.bd) {k kb : IntKind} {a b r : SI} (h : shrOp C k a b = some r) : Op.shift .shr k (a.den ν) kb (b.den ν) = pure (.int k (r.den ν)) := by
  unfold shrOp at h
  split at h
  · rename_i x n
    cases h
    rw [den_k, den_k, den_k]
    simp only [Op.shift]
    rw [if_neg (by simp)]
    rfl
  · rename_i n v m
    have em : (SI.k (.ofNat m)).den ν = (m : Int) := rfl
    rw [em]
    simp only [Op.shift]
    rw [if_neg (by omega)]
    simp only [Int.toNat_natCast]
    cases hw : within C 0 (2 ^ (min m k.bits) - 1) (.lin n v) with
    | true =>
      rw [hw] at h
      cases h
      have := within_ok ok hw
      congr 2
      rw [Int.fdiv_eq_ediv_of_nonneg _ (Int.le_of_lt (Int.pow_pos (by decide)))]
      exact Int.ediv_eq_zero_of_lt this.1 (by omega)
    | false =>
      rw [hw] at h
      obtain ⟨hf, h⟩ := bc_some (show bc (Nat.beq m 8 && (within C 0 65535 (.lin n v) && Nat.ble 8 k.bits)) (some (SI.bt n v 1 0)) none = some r from h)
      cases h
      simp only [Bool.and_eq_true] at hf
      obtain ⟨h8, hw2, hk⟩ := hf
      have h8 := Nat.eq_of_beq_eq_true h8
      have hk := Nat.le_of_ble_eq_true hk
      have hw3 := within_ok ok hw2
      subst h8
      rw [Nat.min_eq_left hk]
      congr 2
      rw [Int.fdiv_eq_ediv_of_nonneg _ (by decide)]
      have hw' : 0 ≤ n + linD ν v ∧ n + linD ν v ≤ 65535 := hw3
      simp only [SI.den]
      rw [show (256 : Int) ^ 1 = 256 from rfl, show (2 : Int) ^ 0 = 1 from rfl, show (2 : Int) ^ 8 = 256 from rfl]
      omega
  · cases h
theorem linD_dvd {d : Int} : ∀ {v : List (Nat × Int)}, (v.all fun p => decide (p.2 % d = 0)) = true → d ∣ linD ν v := by
  intro v
  induction v with
  | nil => intro _; exact Int.dvd_zero d
  | cons p v ih =>
    obtain ⟨i, c⟩ := p
    intro h
    simp only [List.all_cons, Bool.and_eq_true, decide_eq_true_eq] at h
    exact Int.dvd_add (Int.dvd_mul_of_dvd_left (Int.dvd_of_emod_eq_zero h.1)) (ih h.2)
theorem rem_lin (ok : ν.Ok C.bd) {n d : Int} {v : List (Nat × Int)} (hd : 0 < d) (hv : (v.all fun p => decide (p.2 % d = 0)) = true) (hs : oneSign C n (.lin n v) = true) : ((SI.lin n v).den ν).tmod d = n.tmod d := by
  obtain ⟨q, hq⟩ := linD_dvd (ν := ν) hv
  have hx : (SI.lin n v).den ν = n + d * q := by show n + linD ν v = _; rw [hq]
  unfold oneSign at hs
  by_cases h0 : 0 ≤ n
  · rw [decide_eq_true h0, bc_true] at hs
    cases hl : SI.lo C.bd (.lin n v) with
    | none => rw [hl] at hs; cases hs
    | some l =>
      rw [hl] at hs
      have hl0 : 0 ≤ l := of_decide_eq_true hs
      have := SI.lo_den ok hl
      rw [hx] at this ⊢
      rw [Int.tmod_eq_emod_of_nonneg (by omega), Int.tmod_eq_emod_of_nonneg h0, Int.add_mul_emod_self_left]
  · rw [decide_eq_false h0, bc_false] at hs
    cases hl : SI.hi C.bd (.lin n v) with
    | none => rw [hl] at hs; cases hs
    | some l =>
      rw [hl] at hs
      have hl0 : l ≤ 0 := of_decide_eq_true hs
      have := SI.hi_den ok hl
      rw [hx] at this ⊢
      have e1 : (n + d * q).tmod d = -((-(n + d * q)).tmod d) := by rw [Int.neg_tmod, Int.neg_neg]
      have e2 : n.tmod d = -((-n).tmod d) := by rw [Int.neg_tmod, Int.neg_neg]
      rw [e1, e2, Int.tmod_eq_emod_of_nonneg (by omega), Int.tmod_eq_emod_of_nonneg (by omega)]
      have : -(n + d * q) = -n + d * (-q) := by rw [Int.mul_neg]; omega
      rw [this, Int.add_mul_emod_self_left]
theorem intOp_ok (ok : ν.Ok C.bd) {op : BinOp} {t : TypeId} {k j : IntKind} {a b : SI} {y : AV} (hk : k = j ∨ op = .shl ∨ op = .shr) (h : intOp C op k a b = some y) :
    ∃ u, (Go.binOp op t (.int k (a.den ν)) (.int j (b.den ν))).run C.P w = .ok u w ∧ VR ν ρ y u := by
  have mI : ∀ {o : Option SI} {y : AV}, mkI k o = some y → ∃ e, o = some e ∧ y = .int k e := by
    intro o y h
    obtain ⟨e, he, h⟩ := ob_some h
    cases h; exact ⟨e, he, rfl⟩
  have mB : ∀ {o : Option Bool} {y : AV}, mkB o = some y → ∃ e, o = some e ∧ y = .bool e := by
    intro o y h
    obtain ⟨e, he, h⟩ := ob_some h
    cases h; exact ⟨e, he, rfl⟩
  have arith : ∀ {f : Int → Int → Int} {o : Option SI}, (∀ e, o = some e → e.den ν = f (a.den ν) (b.den ν)) → mkI k (ob o fun e => wrap C.bd k e) = some y →
      VR ν ρ y (.int k (k.wrap (f (a.den ν) (b.den ν)))) := by
    intro f o hf h
    obtain ⟨e, he, rfl⟩ := mI h
    obtain ⟨d, hd, he⟩ := ob_some he
    show _ = _
    rw [wrap_den ok he, hf d hd]
  have cmp : ∀ {o : Option Bool} {p : Prop} [Decidable p], (∀ e, o = some e → e = decide p) → mkB o = some y → VR ν ρ y (.bool (decide p)) := by
    intro o p _ hf h
    obtain ⟨e, he, rfl⟩ := mB h
    show _ = _
    rw [hf e he]
  cases op with
  | add =>
    rcases hk with rfl | hk | hk <;> try cases hk
    exact ⟨_, by rw [binOp_add]; rfl, arith (f := (· + ·)) (fun e he => SI.add_den he) h⟩
  | sub =>
    rcases hk with rfl | hk | hk <;> try cases hk
    exact ⟨_, by rw [binOp_sub]; rfl, arith (f := (· - ·)) (fun e he => SI.sub_den he) h⟩
  | mul =>
    rcases hk with rfl | hk | hk <;> try cases hk
    exact ⟨_, by rw [binOp_mul]; rfl, arith (f := (· * ·)) (fun e he => SI.mul_den he) h⟩
  | lss =>
    rcases hk with rfl | hk | hk <;> try cases hk
    exact ⟨_, by rw [binOp_lss]; rfl, cmp (fun e he => SI.lt_den ok he) h⟩
  | leq =>
    rcases hk with rfl | hk | hk <;> try cases hk
    exact ⟨_, by rw [binOp_leq]; rfl, cmp (fun e he => SI.le_den ok he) h⟩
  | gtr =>
    rcases hk with rfl | hk | hk <;> try cases hk
    exact ⟨_, by rw [binOp_gtr]; rfl, cmp (fun e he => SI.lt_den ok he) h⟩
  | geq =>
    rcases hk with rfl | hk | hk <;> try cases hk
    exact ⟨_, by rw [binOp_geq]; rfl, cmp (fun e he => SI.le_den ok he) h⟩
  | eql =>
    rcases hk with rfl | hk | hk <;> try cases hk
    refine ⟨_, by rw [binOp_eql]; rfl, ?_⟩
    obtain ⟨e, he, rfl⟩ := mB h
    show _ = _
    rw [SI.eq_den ok he]; congr 1
  | neq =>
    rcases hk with rfl | hk | hk <;> try cases hk
    refine ⟨_, by rw [binOp_neq]; rfl, ?_⟩
    obtain ⟨e, he, h⟩ := ob_some h
    cases h
    show _ = _
    rw [SI.eq_den ok he]; congr 1; rw [bc_ite, Bool.eq_iff_iff]; simp
  | quo =>
    rcases hk with rfl | hk | hk <;> try cases hk
    obtain ⟨e, he, rfl⟩ := mI h
    unfold quoOp at he
    split at he
    · rename_i x y'
      split at he
      · cases he
      · rename_i hy
        cases he
        refine ⟨.int k (k.wrap (x.tdiv y')), ?_, rfl⟩
        rw [binOp_quo, den_k, den_k]
        simp only [Op.intDiv]
        rw [if_neg hy]; rfl
    · cases he
  | rem =>
    rcases hk with rfl | hk | hk <;> try cases hk
    obtain ⟨e, he, rfl⟩ := mI h
    unfold remOp at he
    split at he
    · rename_i x y'
      split at he
      · cases he
      · rename_i hy
        cases he
        refine ⟨.int k (x.tmod y'), ?_, rfl⟩
        rw [binOp_rem, den_k, den_k]
        simp only [Op.intDiv]
        rw [if_neg hy]; rfl
    · rename_i n v y'
      obtain ⟨h1, he⟩ := bc_some he
      obtain ⟨h2, he⟩ := bc_some he
      obtain ⟨h3, he⟩ := bc_some he
      cases he
      have h1 : 0 < y' := of_decide_eq_true h1
      refine ⟨.int k (n.tmod y'), ?_, rfl⟩
      rw [binOp_rem, den_k]
      simp only [Op.intDiv]
      rw [if_neg (by omega), rem_lin ok h1 h2 h3]; rfl
    · cases he
  | shl =>
    obtain ⟨e, he, rfl⟩ := mI h
    exact ⟨.int k (e.den ν), by rw [binOp_shl, shl_ok he]; rfl, rfl⟩
  | shr =>
    obtain ⟨e, he, rfl⟩ := mI h
    exact ⟨.int k (e.den ν), by rw [binOp_shr, shr_ok ok he]; rfl, rfl⟩
  | and =>
    rcases hk with rfl | hk | hk <;> try cases hk
    obtain ⟨e, he, rfl⟩ := mI h
    exact ⟨.int k (e.den ν), by rw [binOp_and, (bitOp_ok ok he).2]; rfl, rfl⟩
  | or =>
    rcases hk with rfl | hk | hk <;> try cases hk
    obtain ⟨e, he, rfl⟩ := mI h
    exact ⟨.int k (e.den ν), by rw [binOp_or, (bitOp_ok ok he).2]; rfl, rfl⟩
  | xor =>
    obtain ⟨e, he, rfl⟩ := mI h
    have := (bitOp_ok ok he).1
    simp at this
  | andNot =>
    rcases hk with rfl | hk | hk <;> try cases hk
    obtain ⟨e, he, rfl⟩ := mI h
    exact ⟨.int k (e.den ν), by rw [binOp_andNot, (bitOp_ok ok he).2]; rfl, rfl⟩
end
end Go.AM
