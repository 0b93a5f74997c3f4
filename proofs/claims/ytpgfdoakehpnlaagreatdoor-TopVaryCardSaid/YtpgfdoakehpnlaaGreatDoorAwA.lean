import Derived.Test.YtpgfdoakehpnlaaGreatDoorAvS
import Derived.Test.YtpgfdoakehpnlaaGreatDoorAvZ
set_option linter.unusedVariables false
set_option linter.unusedSimpArgs false
namespace Go.AM
open Go Go.Proofs Go.ChangeShapes Go.WideShapes Go.ChangeAt Go.RowKit Go.AM.Pi
set_option linter.unusedVariables false
set_option linter.unusedSimpArgs false
/-! # Soundness, part 46: texts that are not known, written and read -/
/-- does a letter's text stand at the reader's place? -/
noncomputable def rtVar2 (bd : Bd) (A : AB) (off len at_ : SI) : Option (Nat × SI) := match A with
  | .byt s => ob (sdrop bd s off) fun r0 => ob (stake bd r0 len) fun t => ob (sdrop bd t at_) fun r => rtHead bd len at_ r
  | _ => none
noncomputable def rtLook2 (bd : Bd) (call : Nat → List AV → M AV) (R : Nat) (X : AB) (b : Nat) (off len at_ : SI) : M AV := bc (Nat.beq b R) (M.no "reader: itself") ((M.rd b).bind fun A => match rtVar2 bd A off len at_ with
  | none => call 361 [.ptr R (.k 0), .tup []]
  | some v => rtSome R X v)
noncomputable def rtM2 (bd : Bd) (call : Nat → List AV → M AV) (R : Nat) : M AV := (M.rd R).bind fun X => match rtRow X with
  | none => call 361 [.ptr R (.k 0), .tup []]
  | some (b, off, len, at_) => rtLook2 bd call R X b off len at_
/-- what is answered in the place of a text -/
noncomputable def extW (P : Program) (bd : Bd) (call : Nat → List AV → M AV) (f : Nat) (args : List AV) : Option (M AV) :=
  match f, args with
  | 70, [.str [.var i]] => ob (valA bd i) fun v => some (M.ret v)
  | 253, [.str [.var i]] => ob (trimA bd i) fun v => some (M.ret v)
  | 209, [b, .str s] => ob (encP bd s) fun T => some (textM bd b T)
  | 361, [.ptr R (.k 0)] => some (rtM2 bd call R)
  | f, args => extB P bd call f args
theorem loc_textM {bd : Bd} {b : AV} {T : SS} : Loc (textM bd b T) := by
  unfold textM
  repeat' first
    | with_reducible exact Loc.no
    | with_reducible exact Loc.ret
    | with_reducible exact Loc.lift
    | with_reducible exact Loc.rd
    | with_reducible exact Loc.wr
    | with_reducible exact loc_appNew
    | with_reducible apply Loc.bind
    | with_reducible apply Loc.bc
    | intro _
    | split
theorem loc_rtM2 {bd : Bd} {call : Nat → List AV → M AV} (hc : LocC call) {R : Nat} : Loc (rtM2 bd call R) := by
  unfold rtM2
  refine Loc.bind Loc.rd fun X => ?_
  split
  · exact hc _ _
  · unfold rtLook2
    refine Loc.bc Loc.no (Loc.bind Loc.rd fun A => ?_)
    split
    · exact hc _ _
    · unfold rtSome
      exact Loc.bind Loc.lift fun _ => Loc.bind Loc.wr fun _ => Loc.ret
theorem loc_extW {P : Program} {bd : Bd} {call : Nat → List AV → M AV} {f : Nat} {args : List AV} {m : M AV} (hc : LocC call) (h : extW P bd call f args = some m) : Loc m := by
  unfold extW at h
  split at h
  · obtain ⟨_, _, h⟩ := ob_some h; cases h; exact Loc.ret
  · obtain ⟨_, _, h⟩ := ob_some h; cases h; exact Loc.ret
  · obtain ⟨_, _, h⟩ := ob_some h; cases h; exact loc_textM
  · cases h; exact loc_rtM2 hc
  · exact loc_extB hc h
section
variable {C : Cx} {ν : Vl} {ρ : Nm} {nx : Nat} {H : T AB} {L : Log} {w w' : World} {k : AV → Nat → T AB → Log → Ans} {z : Ans} {vs : List Value} {o : Oper} {a : Act}
/-- a block that a call made goes on under a new name -/
theorem HR.fresh (hr : HR ν ρ nx H w) {A : AB} {sz g : Nat} {obj : Obj} (hb : Below w.heap.size w w') (hg : w.heap.size ≤ g) (hc : w'.heap[g]? = some obj) (hA : BR ν ρ A sz obj) :
    HR ν (upd ρ nx (g, sz)) (nx + 1) (H.put nx (some A)) w' := by
  have hn := hr.new nx (Nat.le_refl _)
  have hx := upd_ext hn (g, sz)
  have lt : ∀ b r s, ρ b = some (r, s) → r < w.heap.size := hr.old
  have hgl : g < w'.heap.size := (Array.getElem?_eq_some_iff.1 hc).1
  refine ⟨fun b B hB => ?_, fun b c B E r s t hB hE h1 h2 => ?_, fun b hb' => ?_, fun b r s hb' => ?_⟩
  · rw [T.get_put] at hB
    by_cases e : b = nx
    · subst e
      rw [if_pos rfl] at hB; cases hB
      exact ⟨_, sz, obj, upd_same _ _ _, hc, hA.ext hx⟩
    · rw [if_neg e] at hB
      obtain ⟨r, s, ob, h1, h2, h3⟩ := hr.blk b B hB
      exact ⟨r, s, ob, hx _ _ h1, by rw [hb.block r (lt _ _ _ h1)]; exact h2, h3.ext hx⟩
  · rw [T.get_put] at hB hE
    by_cases e : b = nx
    · by_cases e2 : c = nx
      · rw [e, e2]
      · rw [if_neg e2] at hE
        rw [e, upd_same] at h1
        simp only [upd, if_neg e2] at h2
        cases h1
        have := lt _ _ _ h2
        omega
    · rw [if_neg e] at hB
      simp only [upd, if_neg e] at h1
      by_cases e2 : c = nx
      · rw [e2, upd_same] at h2
        cases h2
        have := lt _ _ _ h1
        omega
      · rw [if_neg e2] at hE
        simp only [upd, if_neg e2] at h2
        exact hr.inj b c B E r s t hB hE h1 h2
  · simp only [upd]; rw [if_neg (by omega)]; exact hr.new b (by omega)
  · by_cases e : b = nx
    · rw [e, upd_same] at hb'; cases hb'; exact hgl
    · simp only [upd, if_neg e] at hb'
      exact Nat.lt_of_lt_of_le (lt _ _ _ hb') hb.size
theorem Stp.fresh (hr : HR ν ρ nx H w) {sz g : Nat} (hb : Below w.heap.size w w') (hg : w.heap.size ≤ g) (D : Log) : Stp ρ w (upd ρ nx (g, sz)) w' D := by
  have hn := hr.new nx (Nat.le_refl _)
  refine ⟨upd_ext hn _, hb.os, hb.tape, hb.output, hb.size, fun r hr _ => hb.block r hr, fun b r s h1 h2 => ?_⟩
  by_cases e : b = nx
  · subst e; rw [upd_same] at h2; cases h2; exact .inl hg
  · simp only [upd, if_neg e] at h2; rw [h1] at h2; cases h2
/-- one block was written, others may have come -/
theorem HR.touch (hr : HR ν ρ nx H w) {b r sz : Nat} {A0 A : AB} {obj : Obj} (hb : H.get b = some A0) (hp : ρ b = some (r, sz)) (hg : w.grownBy w' (some r)) (hc : w'.heap[r]? = some obj) (hA : BR ν ρ A sz obj) :
    HR ν ρ nx (H.put b (some A)) w' := by
  refine ⟨fun c B hB => ?_, fun c d B E r' s t hB hE h1 h2 => ?_, hr.new, fun c r' s hq => Nat.lt_of_lt_of_le (hr.old c r' s hq) hg.size⟩
  · rw [T.get_put] at hB
    by_cases e : c = b
    · subst e
      rw [if_pos rfl] at hB; cases hB
      exact ⟨r, sz, obj, hp, hc, hA⟩
    · rw [if_neg e] at hB
      obtain ⟨r', s, ob, h1, h2, h3⟩ := hr.blk c B hB
      have hne : r ≠ r' := fun er => by
        subst er
        exact e (hr.inj c b B A0 r s sz hB hb h1 hp)
      exact ⟨r', s, ob, h1, by rw [hg.block r' (hr.old _ _ _ h1) (by simp; exact fun e => hne e.symm)]; exact h2, h3⟩
  · have get : ∀ {x X}, (H.put b (some A)).get x = some X → ∃ Y, H.get x = some Y := by
      intro x X hx
      rw [T.get_put] at hx
      by_cases e : x = b
      · subst e; exact ⟨_, hb⟩
      · rw [if_neg e] at hx; exact ⟨_, hx⟩
    obtain ⟨_, hc'⟩ := get hB
    obtain ⟨_, hd'⟩ := get hE
    exact hr.inj c d _ _ r' s t hc' hd' h1 h2
theorem Stp.touch {b r sz : Nat} {D : Log} (hp : ρ b = some (r, sz)) (hg : w.grownBy w' (some r)) (hD : (b, true) ∈ D) : Stp ρ w ρ w' D := by
  refine ⟨.refl ρ, hg.os, hg.tape, hg.output, hg.size, fun r' hr' hn => hg.block r' hr' (fun e => ?_), fun c s t k k' => by rw [k] at k'; cases k'⟩
  have e : r' = r := Option.some.inj e
  exact hn b sz hD (by rw [hp, e])
theorem atMost_den {bd : Bd} (ok : ν.Ok bd) {i : Nat} {m : Int} (h : atMost bd i m = true) : ν.n i ≤ m := by
  unfold atMost at h
  split at h
  · rename_i lo hi e
    rw [ile_eq] at h
    exact Int.le_trans (ok i lo hi e).2 (of_decide_eq_true h)
  · cases h
theorem n_text {i : Nat} (h : i ≤ 7) : ν.n i = ((ν.x i).length : Int) := by unfold Vl.n; rw [if_pos h]
theorem sden_var {i : Nat} (h : i ≤ 7) : sden ν [.var i] = ν.x i := by simp [sden, Pc.den, Vl.t, h]
theorem six (hg : Glob ρ) (hr : HR ν ρ nx H w) : 6 ≤ w.heap.size := by
  obtain ⟨sz, e⟩ := hg 5 (by decide)
  exact hr.old _ _ _ e
theorem few_den {bd : Bd} (ok : ν.Ok bd) {n : SI} (h : few bd n = true) : n.den ν ≤ 1000000000 := by
  unfold few isT at h
  cases hq : n.hi bd with
  | none => rw [hq] at h; cases h
  | some m =>
    rw [hq] at h
    have h : ile m 1000000000 = true := h
    rw [ile_eq] at h
    exact Int.le_trans (SI.hi_den ok hq) (of_decide_eq_true h)
theorem ext_val {bd : Bd} (ok : ν.Ok bd) (hP : C.P = Tryz.prog) (hr : HR ν ρ nx H w) {i : Nat} {x : AV} (hv : VRs ν ρ [.str [.var i]] vs) (hx : valA bd i = some x) (h : (M.ret x : M AV) k nx H L = z) : OpOk C ν ρ nx L w k z o a ((callFunc 70 ⟨vs⟩).run C.P w) := by
  obtain ⟨v, l, rfl, e1, hl⟩ := hv.cons
  cases hl.nil
  unfold valA at hx
  obtain ⟨hi, hx⟩ := bc_some hx
  obtain ⟨hm, hx⟩ := bc_some hx
  have hi := Nat.le_of_ble_eq_true hi
  have hm := atMost_den ok hm
  rw [n_text (by omega)] at hm
  have e1 : v = strV (sden ν [.var i]) := e1
  rw [sden_var (by omega)] at e1
  subst e1
  have hvl := ν.vl i (by omega)
  have hres : x = .bool (valueU (ν.x i)) := by
    cases hf : flag bd (Nat.add 10 i) with
    | true =>
      rw [hf] at hx
      have h1 := flag_den ok (show 7 < Nat.add 10 i by show 7 < 10 + i; omega) hf
      rw [show Nat.add 10 i = 10 + i from rfl, hvl] at h1
      cases hb : valueU (ν.x i) with
      | true => exact (Option.some.inj hx).symm
      | false => rw [hb] at h1; simp at h1
    | false =>
      rw [hf] at hx
      obtain ⟨h0, hx⟩ := bc_some (show bc (flag0 bd (Nat.add 10 i)) _ none = some x from hx)
      have h1 := flag0_den ok (show 7 < Nat.add 10 i by show 7 < 10 + i; omega) h0
      rw [show Nat.add 10 i = 10 + i from rfl, hvl] at h1
      cases hb : valueU (ν.x i) with
      | true => rw [hb] at h1; simp at h1
      | false => exact (Option.some.inj hx).symm
  subst hres
  rw [hP, hasBody_run fitP (by kernel_rfl)]
  intro next Q hn
  rw [Oper.upon_enter, hP]
  have hsz : (⟨⟨ν.x i⟩⟩ : ByteArray).size ≤ 9223372036854775807 := by
    show (ν.x i).length ≤ _
    omega
  refine (value_any ⟨⟨ν.x i⟩⟩ hsz w).mono ?_
  rintro e w' ⟨rfl, rfl⟩
  exact hn _ nx H [] ρ _ w' h .refl rfl hr (.refl _ _ _)
theorem ext_trim {bd : Bd} (ok : ν.Ok bd) (hP : C.P = Tryz.prog) (hr : HR ν ρ nx H w) {i : Nat} {x : AV} (hv : VRs ν ρ [.str [.var i]] vs) (hx : trimA bd i = some x) (h : (M.ret x : M AV) k nx H L = z) : OpOk C ν ρ nx L w k z o a ((callFunc 253 ⟨vs⟩).run C.P w) := by
  obtain ⟨v, l, rfl, e1, hl⟩ := hv.cons
  cases hl.nil
  unfold trimA at hx
  obtain ⟨hi, hx⟩ := bc_some hx
  obtain ⟨hm, hx⟩ := bc_some hx
  obtain ⟨hf, hx⟩ := bc_some hx
  cases hx
  have hi := Nat.le_of_ble_eq_true hi
  have hm := atMost_den ok hm
  rw [n_text (by omega)] at hm
  have e1' : v = strV (sden ν [.var i]) := e1
  rw [sden_var (by omega)] at e1'
  have hvl := ν.vl i (by omega)
  have h1 := flag_den ok (show 7 < Nat.add 10 i by show 7 < 10 + i; omega) hf
  rw [show Nat.add 10 i = 10 + i from rfl, hvl] at h1
  have hval : valueU (ν.x i) = true := by cases hb : valueU (ν.x i) with | true => rfl | false => rw [hb] at h1; simp at h1
  rw [hP, hasBody_run fitP (by kernel_rfl)]
  intro next Q hn
  rw [Oper.upon_enter, hP]
  have hsz : (⟨⟨ν.x i⟩⟩ : ByteArray).size ≤ 9223372036854775807 := by
    show (ν.x i).length ≤ _
    omega
  rw [e1']
  refine (trim_any ⟨⟨ν.x i⟩⟩ hsz hval w).mono ?_
  rintro e w' ⟨rfl, rfl⟩
  exact hn _ nx H [] ρ _ w' h .refl (show strV (ν.x i) = strV (sden ν [.var i]) by rw [sden_var (by omega)]) hr (.refl _ _ _)
end
end Go.AM
namespace Go.AM
open Go Go.Proofs Go.ChangeShapes Go.WideShapes Go.ChangeAt Go.RowKit Go.AM.Pi
set_option linter.unusedVariables false
set_option linter.unusedSimpArgs false
/-! # Soundness, part 47: pack.text of a letter's text -/
def intsU (l : List UInt8) : List Int := l.map fun b => (b.toNat : Int)
theorem bvU (l : List UInt8) : bv (intsU l) = l.map byteV := by
  unfold bv intsU; rw [List.map_map]; rfl
theorem intsU_len (l : List UInt8) : (intsU l).length = l.length := by simp [intsU]
theorem intsU_app (l m : List UInt8) : intsU (l ++ m) = intsU l ++ intsU m := by simp [intsU]
theorem intsU_byt (l : List UInt8) : Byt (intsU l) := by
  intro x hx
  obtain ⟨b, _, rfl⟩ := List.mem_map.1 hx
  have := b.toNat_lt
  omega
theorem intsU_getD (l : List UInt8) (i : Nat) (h : i < l.length) : (intsU l).getD i 0 = ((l[i]).toNat : Int) := by
  simp [intsU, List.getD_eq_getElem?_getD, h]
theorem ints_byt (l : List Nat) (h : ∀ c ∈ l, c < 256) : Byt (ints l) := by
  intro x hx
  obtain ⟨n, hn, rfl⟩ := List.mem_map.1 hx
  have := h n hn
  show 0 ≤ Int.ofNat n ∧ Int.ofNat n ≤ 255
  have e : (Int.ofNat n : Int) = (n : Int) := rfl
  omega
theorem tI_byt (s : ByteArray) (hs : s.size ≤ 65536) : Byt (tI s) := by
  unfold tI
  split
  · rename_i h
    exact byt_app (put_byt (by omega) (by omega) (by omega) (by omega) (by omega) (by omega)) (ints_byt _ (Hu.enc_lt _))
  · exact byt_app (put_byt (by omega) (by omega) (by omega) (by omega) (by omega) (by omega)) (ints_byt _ (nb_lt s))
theorem tI_pos (s : ByteArray) (hs : s.size ≤ 65536) : 0 < (tI s).length := by
  unfold tI
  split
  · rename_i h
    obtain ⟨d, M, e, _⟩ := put_head (k := 7) (t := 128) (x := (Hu.size (nb s) : Nat)) (by omega) (by omega) (by omega) (by omega)
    rw [e]; simp
  · obtain ⟨d, M, e, _⟩ := put_head (k := 7) (t := 0) (x := (s.size : Nat)) (by omega) (by omega) (by omega) (by omega)
    rw [e]; simp
theorem tI_U (l : List UInt8) (h : l.length ≤ 65536) : tI ⟨⟨l⟩⟩ = intsU (encU l) := by
  have hb := tI_byt ⟨⟨l⟩⟩ h
  unfold encU intsU
  rw [List.map_map]
  have : ∀ x ∈ tI ⟨⟨l⟩⟩, ((fun b : UInt8 => (b.toNat : Int)) ∘ fun z : Int => UInt8.ofNat z.toNat) x = x := fun x hx => by
    have := hb x hx
    simp only [Function.comp]
    rw [UInt8.toNat_ofNat']
    omega
  exact ((List.map_congr_left this).trans (List.map_id _)).symm
section
variable {C : Cx} {ν : Vl} {ρ : Nm} {nx : Nat} {H : T AB} {L : Log} {w w' : World} {k : AV → Nat → T AB → Log → Ans} {z : Ans} {vs : List Value} {o : Oper} {a : Act}
theorem text_end (hr : HR ν ρ nx H w) {r : Value} {n : Nat} {all : List UInt8} (hown : w'.ownsRow w.heap.size 5 1 r n (bv (intsU all))) (hn : n = all.length) (hpos : 0 < all.length) (hB : Below w.heap.size w w') {need : SI} {tt : SS}
    (hneed : need.den ν = (all.length : Nat)) (htt : sden ν tt = all) {D : Log} (h : appNew need (.bytes tt) 1 k nx H (D ++ L) = z) :
    ∃ x nx' H' D' ρ', k x nx' H' (D' ++ L) = z ∧ Low nx ρ nx' ρ' ∧ VR ν ρ' x r ∧ HR ν ρ' nx' H' w' ∧ Stp ρ w ρ' w' D' := by
  subst hn
  rcases hown.2 with ⟨rfl, h0⟩ | ⟨g, cap, cur, rfl, hg, hc, hnc, _, hcs, ht⟩
  · omega
  have h : k (.sl nx (.k 0) need (.ge need) 1) (nx + 1) (H.put nx (some (.byt tt))) (((nx, true) :: D) ++ L) = z := h
  refine ⟨_, nx + 1, _, _, upd ρ nx (g, cur.size), h, .upd, ?_, hr.fresh hB hg hc ?_, Stp.fresh hr hB hg _⟩
  · exact ⟨g, cur.size, 0, all.length, cap, upd_same _ _ _, .inr rfl, hneed, by show need.den ν ≤ _; rw [hneed]; omega, hnc, by omega, rfl⟩
  · refine ⟨cur, 5, (0, 0), cur.toList.drop all.length, rfl, ?_, rfl, .inl rfl⟩
    rw [htt, ← bvU, ← ht, Nat.mul_one, List.take_append_drop]
theorem ext_text (ok : ν.Ok C.bd) (hP : C.P = Tryz.prog) (hr : HR ν ρ nx H w) (hg : Glob ρ) (hz : Yes z) {b : AV} {s T : SS} (hv : VRs ν ρ [b, .str s] vs) (hT : encP C.bd s = some T) (h : textM C.bd b T k nx H L = z) :
    OpOk C ν ρ nx L w k z o a ((callFunc 209 ⟨vs⟩).run C.P w) := by
  obtain ⟨bv', l, rfl, hb, hl⟩ := hv.cons
  obtain ⟨sv, l2, rfl, hs, hl2⟩ := hl.cons
  cases hl2.nil
  unfold encP at hT
  split at hT
  case h_2 => cases hT
  rename_i i
  obtain ⟨hi, hT⟩ := bc_some hT
  obtain ⟨hm, hT⟩ := bc_some hT
  cases hT
  have hi := Nat.le_of_ble_eq_true hi
  have hm := atMost_den ok hm
  rw [n_text (by omega)] at hm
  have hs : sv = strV (sden ν [.var i]) := hs
  rw [sden_var (by omega)] at hs
  subst hs
  have hm2 : (ν.x i).length ≤ 65536 := by omega
  have htx : ν.x (Nat.add 4 i) = encU (ν.x i) := ν.tx i (by omega)
  have hTd : sden ν [.var (Nat.add 4 i)] = encU (ν.x i) := by rw [sden_var (show Nat.add 4 i ≤ 7 by show 4 + i ≤ 7; omega), htx]
  have hpos : 0 < (encU (ν.x i)).length := by
    have := tI_pos ⟨⟨ν.x i⟩⟩ hm2
    rw [tI_U _ hm2, intsU_len] at this
    exact this
  have h6 := six hg hr
  -- the call, of a slice of known bytes
  have key : ∀ (old : List UInt8), BS w bv' (intsU old) → old.length ≤ 1000000000 →
      (∀ r w', w'.ownsRow w.heap.size 5 1 r (old ++ encU (ν.x i)).length (bv (intsU (old ++ encU (ν.x i)))) → Below w.heap.size w w' →
        ∃ x nx' H' D' ρ', k x nx' H' (D' ++ L) = z ∧ Low nx ρ nx' ρ' ∧ VR ν ρ' x r ∧ HR ν ρ' nx' H' w' ∧ Stp ρ w ρ' w' D') →
      OpOk C ν ρ nx L w k z o a ((callFunc 209 ⟨[bv', strV (ν.x i)]⟩).run C.P w) := by
    intro old hbs hlen hend
    rw [hP, hasBody_run fitP (by kernel_rfl)]
    intro next Q hn
    rw [Oper.upon_enter, hP]
    refine (text_any bv' (intsU old) ⟨⟨ν.x i⟩⟩ hm2 w h6 hbs (by rw [intsU_len]; exact hlen)).mono ?_
    rintro e w' ⟨r, rfl, hown, hB⟩
    rw [tI_U _ hm2, ← intsU_app, intsU_len] at hown
    obtain ⟨x, nx', H', D', ρ', e1, e2, e3, e4, e5⟩ := hend r w' hown hB
    exact hn x nx' H' D' ρ' r w' e1 e2 e3 e4 e5
  unfold textM at h
  split at h
  · -- nothing stands there
    obtain ⟨n, hn, h'⟩ := lift_ok hz h
    have hb : bv' = .slice none 0 0 := hb
    subst hb
    have hnd := slen_den (ν := ν) hn
    rw [hTd] at hnd
    refine key [] ⟨none, 0, rfl, Nat.le_refl _, trivial, fun h => absurd h (by simp [intsU])⟩ (by simp) fun r w' hown hB => ?_
    exact text_end hr hown rfl (by simpa using hpos) hB (by rw [hnd]; simp) (by rw [hTd]; simp) (D := []) h'
  · rename_i bb off len cap zz
    cases hq : Nat.beq zz 1 with
    | false => rw [hq] at h; exact (hz _ h.symm).elim
    | true =>
    rw [hq] at h
    have hq := Nat.eq_of_beq_eq_true hq
    subst hq
    obtain ⟨A, hA, h'⟩ := rd_ok hz (show ((M.rd bb).bind fun A => (M.lift "text: old" (textOld C.bd A off len [.var (Nat.add 4 i)])).bind fun r => appNew r.1 (.bytes r.2) 1 : M AV) k nx H L = z from h)
    obtain ⟨⟨need, tt⟩, hold, h''⟩ := lift_ok hz h'
    obtain ⟨r, sz, of, n, c, hp, ho, hlen, hcap, hnc, hsz, rfl⟩ := hb
    unfold textOld at hold
    split at hold
    case h_2 => cases hold
    rename_i sb
    obtain ⟨r1, hr1, hold⟩ := ob_some hold
    obtain ⟨t, ht, hold⟩ := ob_some hold
    obtain ⟨nT, hnT, hold⟩ := ob_some hold
    obtain ⟨nd, hnd, hold⟩ := ob_some hold
    obtain ⟨hfew, hold⟩ := bc_some hold
    cases hold
    have hfw := few_den ok hfew
    obtain ⟨l, hl1, hl2, hl3, hl4⟩ := content_loads (C := C) ok hr hA hp ho hlen hnc (esz := 1) (ct := .bytes t) (by
      show bc (Nat.beq 1 1) (ob (sdrop C.bd sb off) fun r => ob (stake C.bd r len) fun t => some (Ct.bytes t)) none = _
      rw [hr1]; show ob (stake C.bd r1 len) (fun t => some (Ct.bytes t)) = _; rw [ht]; rfl)
    have hl4 : l = (sden ν t).map byteV := hl4
    have hnt : n = (sden ν t).length := by rw [hl4, List.length_map, Nat.mul_one] at hl1; exact hl1.symm
    have hTn := slen_den (ν := ν) hnT
    rw [hTd] at hTn
    have hneed := SI.add_den (ν := ν) hnd
    refine key (sden ν t) ⟨some ⟨r, of, none⟩, c, by rw [intsU_len, hnt], by rw [intsU_len]; omega, trivial, fun h0 => ⟨r, of, rfl, hr.old _ _ _ hp, fun i j hi hj => ?_⟩⟩ (by omega) fun r' w' hown hB => ?_
    · rw [intsU_len] at hi
      have hj0 : j = 0 := by omega
      subst hj0
      have := hl3 w rfl i (byteV ((sden ν t)[i])) (by rw [hl4, List.getElem?_map, List.getElem?_eq_getElem hi]; rfl)
      rw [Addr.add_lit] at this
      rw [show of + (i * 1 + 0) = of + i by omega, this]
      show some (byteV ((sden ν t)[i])) = some (Value.int .u8 ((intsU (sden ν t)).getD i 0))
      rw [intsU_getD _ _ hi]
      rfl
    · exact text_end hr hown rfl (by rw [List.length_append]; omega) hB (by rw [hneed, hlen, hTn, List.length_append, hnt]; omega) (by rw [scat_den, hTd]) (D := [(bb, false)]) h''
  · exact (hz _ h.symm).elim
end
end Go.AM
