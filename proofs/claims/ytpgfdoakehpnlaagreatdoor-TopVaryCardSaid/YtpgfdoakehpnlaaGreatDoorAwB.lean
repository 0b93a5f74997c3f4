import Derived.Test.YtpgfdoakehpnlaaGreatDoorAwA
set_option linter.unusedVariables false
set_option linter.unusedSimpArgs false
namespace Go.AM
open Go Go.Proofs
/-! # TopVary: the context of the runs -/
noncomputable def CW (bd : Bd) : Cx := { P := Tryz.prog, bd := bd, plain := (CX bd).plain, ext := extW Tryz.prog }
noncomputable def extIsW (f : Nat) : Bool := bc (Nat.beq f 70) true (bc (Nat.beq f 253) true (bc (Nat.beq f 209) true (bc (Nat.beq f 361) true (extIsB f))))
def wLen : Int := 9223372036854775807
/-- letters: 0, 1, 2 the texts, 4, 5, 6 as they stand in a block; 10, 11, 12: may they be values; 13: are 0 and 1 unlike -/
def bdW (a b o f0 f1 f2 d : Int × Int) : Bd := [a, b, o, (0, 0), (1, 201), (1, 201), (1, 201), (0, 0), (-wLen, wLen), (-wLen, wLen), f0, f1, f2, d]
noncomputable def varyRun (bd : Bd) (a b o : SS) : Bool := chkT (callG (CW bd) extIsW 1000 5 [.str a, .str b, .str o] fin 6 H0 [])
end Go.AM
namespace Go.AM
open Go Go.Proofs Go.ChangeShapes Go.WideShapes Go.ChangeAt Go.RowKit Go.AM.Pi
set_option linter.unusedVariables false
set_option linter.unusedSimpArgs false
/-! # Soundness, part 48: the reader's text; the context of TopVary -/
theorem enter_pad (v : Value) : Frame.enter Tryz.prog 361 ⟨[v, undef]⟩ .normal = Frame.enter Tryz.prog 361 ⟨[v]⟩ .normal := by
  have hn : ((Tryz.prog.funcs[361]?).map (·.ntmps)).getD 0 = 94 := by rw [Tryz.func361]; kernel_rfl
  have hsz1 : (⟨[v, undef]⟩ : Array Value).size = 2 := rfl
  have hsz2 : (⟨[v]⟩ : Array Value).size = 1 := rfl
  have e : (⟨[v, undef]⟩ : Array Value) ++ Array.replicate (94 - 2) undef = (⟨[v]⟩ : Array Value) ++ Array.replicate (94 - 1) undef := by
    apply Array.ext'
    simp [List.replicate_succ]
  unfold Frame.enter
  simp only [hsz1, hsz2]
  rw [hn, e]
theorem calls_pad {v : Value} {w : World} {R : Ending → World → Prop} (h : Calls Tryz.prog 361 ⟨[v, undef]⟩ w R) : Calls Tryz.prog 361 ⟨[v]⟩ w R := by
  intro cs
  have := h cs
  rw [enter_pad] at this
  exact this
section
variable {C : Cx} {ν : Vl} {ρ : Nm} {nx : Nat} {H : T AB} {L : Log} {w w' : World} {k : AV → Nat → T AB → Log → Ans} {z : Ans} {vs : List Value} {o : Oper} {a : Act}
theorem rt_fall (hP : C.P = Tryz.prog) {call : Cll} (hc : CallOk C ν call) (hr : HR ν ρ nx H w) (hg : Glob ρ) (hz : Yes z) {R : Nat} {v : Value} (hv : VR ν ρ (.ptr R (.k 0)) v) {D : Log}
    (h : call 361 [.ptr R (.k 0), .tup []] k nx H (D ++ L) = z) : OpOk C ν ρ nx L w k z o a ((callFunc 361 ⟨[v]⟩).run C.P w) := by
  have hop := hc (o := o) (a := a) hr hg hz (VRs.mk hv (VRs.mk VR_undef VRs.mk0)) h
  rw [hP, hasBody_run fitP (by kernel_rfl)] at hop ⊢
  intro next Q hn
  have := hop next Q (fun x nx' H' D' ρ' v' w' hk low hvr hr' hst => hn x nx' H' (D' ++ D) ρ' v' w' (by rw [List.append_assoc]; exact hk) low hvr hr' (hst.more fun x hx => List.mem_append_left _ hx))
  rw [Oper.upon_enter, hP] at this ⊢
  exact calls_pad this
theorem ext_rt (ok : ν.Ok C.bd) (hP : C.P = Tryz.prog) {call : Cll} (hc : CallOk C ν call) (hr : HR ν ρ nx H w) (hg : Glob ρ) (hz : Yes z) {R : Nat} (hv : VRs ν ρ [.ptr R (.k 0)] vs) (h : rtM2 C.bd call R k nx H L = z) :
    OpOk C ν ρ nx L w k z o a ((callFunc 361 ⟨vs⟩).run C.P w) := by
  obtain ⟨v, l, rfl, hv1, hl⟩ := hv.cons
  cases hl.nil
  unfold rtM2 at h
  obtain ⟨X, hX, h'⟩ := rd_ok hz h
  clear h
  replace h' : (match rtRow X with
    | none => call 361 [.ptr R (.k 0), .tup []]
    | some (b, off, len, at_) => rtLook2 C.bd call R X b off len at_ : M AV) k nx H ((R, false) :: L) = z := h'
  rcases hrow : rtRow X with _ | ⟨b, off, len, at_⟩
  · rw [hrow] at h'
    exact rt_fall hP hc hr hg hz hv1 (D := [(R, false)]) h'
  · rw [hrow] at h'
    replace h' : rtLook2 C.bd call R X b off len at_ k nx H ((R, false) :: L) = z := h'
    unfold rtLook2 at h'
    cases hbR : Nat.beq b R with
    | true => rw [hbR] at h'; exact (hz _ h'.symm).elim
    | false =>
    rw [hbR] at h'
    obtain ⟨A, hA, h2⟩ := rd_ok hz (show ((M.rd b).bind fun A => match rtVar2 C.bd A off len at_ with
      | none => call 361 [.ptr R (.k 0), .tup []]
      | some v => rtSome R X v : M AV) k nx H ((R, false) :: L) = z from h')
    clear h'
    replace h2 : (match rtVar2 C.bd A off len at_ with
      | none => call 361 [.ptr R (.k 0), .tup []]
      | some v => rtSome R X v : M AV) k nx H ((b, false) :: (R, false) :: L) = z := h2
    rcases hvar : rtVar2 C.bd A off len at_ with _ | ⟨j, e⟩
    · rw [hvar] at h2
      exact rt_fall hP hc hr hg hz hv1 (D := [(b, false), (R, false)]) h2
    · rw [hvar] at h2
      replace h2 : rtSome R X (j, e) k nx H ((b, false) :: (R, false) :: L) = z := h2
      -- what stands there
      unfold rtRow at hrow
      split at hrow
      case h_2 => cases hrow
      rename_i cs
      obtain ⟨xb, hxb, hrow⟩ := ob_some hrow
      obtain ⟨xa, hxa, hrow⟩ := ob_some hrow
      split at hrow
      case h_2 => cases hrow
      rename_i b' off' len' cap' z' at'
      obtain ⟨hz1, hrow⟩ := bc_some hrow
      have hz1 := Nat.eq_of_beq_eq_true hz1
      subst hz1
      cases hrow
      rw [lget_eq] at hxb hxa
      unfold rtVar2 at hvar
      split at hvar
      case h_2 => cases hvar
      rename_i sb
      obtain ⟨r0, hr0, hvar⟩ := ob_some hvar
      obtain ⟨t, ht, hvar⟩ := ob_some hvar
      obtain ⟨rr, hrr, hvar⟩ := ob_some hvar
      unfold rtHead at hvar
      split at hvar
      case h_2 => cases hvar
      rename_i j' rest
      obtain ⟨hj4, hvar⟩ := bc_some hvar
      obtain ⟨hj6, hvar⟩ := bc_some hvar
      obtain ⟨hat, hvar⟩ := bc_some hvar
      obtain ⟨e', he', hvar⟩ := ob_some hvar
      obtain ⟨hel, hvar⟩ := bc_some hvar
      obtain ⟨ha0, hvar⟩ := bc_some hvar
      obtain ⟨hfew, hvar⟩ := bc_some hvar
      cases hvar
      have hj4 := Nat.le_of_ble_eq_true hj4
      have hj6 := Nat.le_of_ble_eq_true hj6
      obtain ⟨i, hi, rfl⟩ : ∃ i, i ≤ 2 ∧ j = Nat.add 4 i := ⟨j - 4, by omega, by show j = 4 + (j - 4); omega⟩
      have hsub : Nat.sub (Nat.add 4 i) 4 = i := by show 4 + i - 4 = i; omega
      rw [hsub] at hat
      have hm := atMost_den ok hat
      rw [n_text (by omega)] at hm
      have hm2 : (ν.x i).length ≤ 65536 := by omega
      have htx : ν.x (Nat.add 4 i) = encU (ν.x i) := ν.tx i (by omega)
      have h47 : Nat.add 4 i ≤ 7 := by show 4 + i ≤ 7; omega
      have hfw := few_den ok hfew
      obtain ⟨d1, d2, d3⟩ := sdrop_den ok hrr
      have hrd : sden ν (.var (Nat.add 4 i) :: rest) = encU (ν.x i) ++ sden ν rest := by
        simp only [sden, Pc.den, Vl.t]
        rw [if_pos h47, htx]
      rw [hrd] at d3
      obtain ⟨a0, hat0⟩ : ∃ a0 : Nat, at_.den ν = (a0 : Nat) := ⟨(at_.den ν).toNat, by omega⟩
      rw [hat0] at d2 d3
      rw [Int.toNat_natCast] at d3
      have hed := SI.add_den (ν := ν) he'
      have hed2 : e.den ν = ((a0 + (encU (ν.x i)).length : Nat) : Int) := by
        rw [hed, hat0]
        have : (SI.lin 0 [(Nat.add 4 i, 1)]).den ν = 0 + (1 * ν.n (Nat.add 4 i) + 0) := rfl
        rw [this, n_text h47, htx]
        omega
      have hpos : 0 < (encU (ν.x i)).length := by
        have := tI_pos ⟨⟨ν.x i⟩⟩ hm2
        rw [tI_U _ hm2, intsU_len] at this
        exact this
      -- the reader's block
      obtain ⟨r, sz, obj, hp, hob, vsR, hvR, hcR, ⟨Cc, e2, fr, restR, rfl, hCc, hsz, _⟩, hun⟩ := hr.blk R _ hX
      have hun : fr = (0, 0) := hun
      subst hun
      obtain ⟨rp, szp, op, hpp, hop, rfl⟩ := hv1
      rw [hp] at hpp
      cases hpp
      have hop0 : op = 0 := by have : (0 : Int) = (op : Nat) := hop; omega
      subst hop0
      obtain ⟨vb, hvb, hvb2⟩ := hvR.get hxb
      obtain ⟨va, hva, hva2⟩ := hvR.get hxa
      obtain ⟨rb, szb, ofb, n, c, hpb, hofb, hlen, hcap, hnc, hszb, rfl⟩ := hvb2
      have hva2 : va = .int .i64 (at_.den ν) := hva2
      subst hva2
      have hne : rb ≠ r := by
        intro e
        subst e
        have := hr.inj b R _ _ rb szb sz hA hX hpb hp
        rw [this] at hbR
        simp at hbR
      obtain ⟨l, hl1, hl2, hl3, hl4⟩ := content_loads (C := C) ok hr hA hpb hofb hlen hnc (esz := 1) (ct := .bytes t) (by
        show bc (Nat.beq 1 1) (ob (sdrop C.bd sb off) fun r => ob (stake C.bd r len) fun t => some (Ct.bytes t)) none = _
        rw [hr0]; show ob (stake C.bd r0 len) (fun t => some (Ct.bytes t)) = _; rw [ht]; rfl)
      have hl4 : l = (sden ν t).map byteV := hl4
      have hnt : n = (sden ν t).length := by rw [hl4, List.length_map, Nat.mul_one] at hl1; exact hl1.symm
      have hbs : BS w (.slice (some ⟨rb, ofb, none⟩) n c) (intsU (sden ν t)) :=
        ⟨some ⟨rb, ofb, none⟩, c, by rw [intsU_len, hnt], by rw [intsU_len]; omega, trivial, fun h0 => ⟨rb, ofb, rfl, hr.old _ _ _ hpb, fun i j hi hj => by
          rw [intsU_len] at hi
          have hj0 : j = 0 := by omega
          subst hj0
          have := hl3 w rfl i (byteV ((sden ν t)[i])) (by rw [hl4, List.getElem?_map, List.getElem?_eq_getElem hi]; rfl)
          rw [Addr.add_lit] at this
          rw [show ofb + (i * 1 + 0) = ofb + i by omega, this]
          show some (byteV ((sden ν t)[i])) = some (Value.int .u8 ((intsU (sden ν t)).getD i 0))
          rw [intsU_getD _ _ hi]
          rfl⟩⟩
      have hC1 : Cc[1]? = some (.slice (some ⟨rb, ofb, none⟩) n c) := by
        rw [← Array.getElem?_toList, hCc, List.getElem?_append_left (List.getElem?_eq_some_iff.1 hvb).1]; exact hvb
      have hC2 : Cc[2]? = some (.int .i64 (a0 : Nat)) := by
        rw [← Array.getElem?_toList, hCc, List.getElem?_append_left (List.getElem?_eq_some_iff.1 hva).1, hva, hat0]
      have hC3 : 2 < Cc.size := (Array.getElem?_eq_some_iff.1 hC2).1
      have hal : a0 ≤ (sden ν t).length := by omega
      have hpre : ((intsU ((sden ν t).take a0)).length) = a0 := by rw [intsU_len, List.length_take]; omega
      have hrdr : Rdr w r e2 Cc (some ⟨rb, ofb, none⟩) n c (intsU (sden ν t)) (intsU ((sden ν t).take a0)).length := ⟨hob, hC3, hC1, by rw [hpre]; exact hC2, hbs, intsU_byt _⟩
      have hsplit : intsU (sden ν t) = intsU ((sden ν t).take a0) ++ tI ⟨⟨ν.x i⟩⟩ ++ intsU (sden ν rest) := by
        rw [tI_U _ hm2, ← intsU_app, ← intsU_app, List.append_assoc, d3, List.take_append_drop]
      have hcall := rtext_any (six hg hr) hrdr hne ⟨⟨ν.x i⟩⟩ hm2 hsplit (by rw [intsU_len]; omega)
      rw [hpre, tI_U _ hm2, intsU_len] at hcall
      -- the answer
      unfold rtSome at h2
      obtain ⟨X', hX', h3⟩ := lift_ok hz h2
      obtain ⟨_, h4⟩ := wr_ok hz h3
      unfold rtPut at hX'
      obtain ⟨cs', hcs', hX'⟩ := ob_some (show ob (lput 2 cs [.int .i64 e]) (fun l => some (AB.row l)) = some X' from hX')
      cases hX'
      obtain ⟨hcs1, hcs2⟩ := lput_some hcs'
      rw [hP, hasBody_run fitP (by kernel_rfl)]
      intro next Q hn
      rw [Oper.upon_enter, hP]
      refine hcall.mono ?_
      rintro en w' ⟨rfl, hM⟩
      have h4 : k (.str [.var (Nat.sub (Nat.add 4 i) 4)]) nx (H.put R (some (.row cs'))) ([(R, true), (b, false), (R, false)] ++ L) = z := h4
      rw [hsub] at h4
      refine hn _ nx _ _ ρ _ w' h4 .refl ?_ (hr.touch hX hp hM.grown hM.blk ?_) (Stp.touch hp hM.grown (by simp))
      · show strV (ν.x i) = strV (sden ν [.var i])
        rw [sden_var (by omega)]
      · have hlR : vsR.length = cs.length := hvR.length
        have hcl : 2 < vsR.length := (List.getElem?_eq_some_iff.1 hva).1
        refine ⟨vsR.take 2 ++ [.int .i64 ((a0 + (encU (ν.x i)).length : Nat) : Int)] ++ vsR.drop 3, ?_, fun x hx => ?_, ⟨_, e2, (0, 0), restR, rfl, ?_, ?_, .inl rfl⟩, rfl⟩
        · rw [hcs1]
          refine ((hvR.take 2).append (VRs.mk ?_ VRs.mk0)).append (hvR.drop 3)
          show Value.int .i64 _ = .int .i64 (e.den ν)
          rw [hed2]
        · rcases List.mem_append.1 hx with hx | hx
          · rcases List.mem_append.1 hx with hx | hx
            · exact hcR x (List.mem_of_mem_take hx)
            · rw [List.mem_singleton.1 hx]; rfl
          · exact hcR x (List.mem_of_mem_drop hx)
        · rw [Array.toList_setIfInBounds, hCc]
          rw [List.set_append_left _ _ hcl, List.set_eq_take_append_cons_drop, if_pos hcl]
          simp
        · rw [Array.size_setIfInBounds, hsz]
end
end Go.AM
namespace Go.AM
open Go Go.Proofs Go.ChangeShapes Go.WideShapes Go.ChangeAt Go.RowKit
set_option linter.unusedVariables false
/-! # Soundness, part 49: the context of TopVary -/
section
variable {ν : Vl} {C : Cx}
theorem extOkW (h : IsC C extW) (ok : ν.Ok C.bd) : ExtOk C ν := by
  intro call f args m ρ nx H L w k z vs o a hc he hr hg hz hv hm
  have he := (h.ext _ _ _).symm.trans he
  unfold extW at he
  split at he
  · obtain ⟨x, hx, he⟩ := ob_some he
    cases he
    exact ext_val ok h.P hr hv hx hm
  · obtain ⟨x, hx, he⟩ := ob_some he
    cases he
    exact ext_trim ok h.P hr hv hx hm
  · obtain ⟨x, hx, he⟩ := ob_some he
    cases he
    exact ext_text ok h.P hr hg hz hv hx hm
  · cases he
    exact ext_rt ok h.P hc hr hg hz hv hm
  · unfold extB at he
    split at he
    · cases he
      cases hv.nil
      exact ext_awake h.P hr hg hz hm
    · exact extA_case h.P hc he hr hg hz hv hm
theorem locXW (h : IsC C extW) : LocX C := fun hc he => loc_extW hc ((h.ext _ _ _).symm.trans he)
set_option maxRecDepth 100000 in
theorem plainW (bd : Bd) : PlainOk (CW bd) := plainX bd
set_option maxRecDepth 100000 in
theorem isW (bd : Bd) : IsC (CW bd) extW := ⟨rfl, fun _ _ _ => rfl, plainW bd⟩
set_option maxRecDepth 100000 in
theorem inW (bd : Bd) : ExtIn (CW bd) extIsW := by
  intro f hf call args
  have h1 : ∀ {b : Bool} {x : Bool}, bc b true x = false → b = false ∧ x = false := fun {b x} h => by cases b <;> first | exact ⟨rfl, h⟩ | cases h
  obtain ⟨a1, hf⟩ := h1 hf
  obtain ⟨a2, hf⟩ := h1 hf
  obtain ⟨a3, hf⟩ := h1 hf
  obtain ⟨a4, hf⟩ := h1 hf
  have hB : extB Tryz.prog bd call f args = none := inB bd f hf call args
  show extW Tryz.prog bd call f args = none
  unfold extW
  split
  · cases a1
  · cases a2
  · cases a3
  · cases a4
  · exact hB
set_option maxRecDepth 100000 in
theorem callW (bd : Bd) (ok : ν.Ok bd) (m : Nat) : CallOk (CW bd) ν (callG (CW bd) extIsW m) := by
  rw [callG_eq (CW bd) (inW bd) m]
  exact callN_all ok (plainW bd) fitP mixed (extOkW (isW bd) ok) (locXW (isW bd)) m
end
end Go.AM
