import Derived.Test.YtpgfdoakehpnlaaGreatDoorAwE
import Derived.Test.YtpgfdoakehpnlaaGreatDoorAwF
import Derived.Test.YtpgfdoakehpnlaaGreatDoorAwG
import Derived.Test.YtpgfdoakehpnlaaGreatDoorAwH
import Derived.Test.YtpgfdoakehpnlaaGreatDoorAwI
import Derived.Test.YtpgfdoakehpnlaaGreatDoorAwJ
import Derived.Test.YtpgfdoakehpnlaaGreatDoorAwK
import Derived.Test.YtpgfdoakehpnlaaGreatDoorAwL
set_option linter.unusedVariables false
set_option linter.unusedSimpArgs false
namespace Go.AM
open Go Go.Proofs Go.ChangeShapes Go.WideShapes Go.ChangeAt Go.RowKit
set_option linter.unusedVariables false
set_option linter.unusedSimpArgs false
/-! # TopVary: at any three texts -/
theorem encU_len (l : List UInt8) : (encU l).length ≤ l.length + 7 := by
  unfold encU
  rw [List.length_map]
  unfold tI
  split
  · rename_i h
    have h1 := putL_len 7 128 (Hu.size (nb ⟨⟨l⟩⟩) : Nat)
    rw [List.length_append, ints_len, Hu.enc_len]
    have : (⟨⟨l⟩⟩ : ByteArray).size = l.length := rfl
    omega
  · have h1 := putL_len 7 0 ((⟨⟨l⟩⟩ : ByteArray).size : Nat)
    rw [List.length_append, ints_len, nb_len]
    have : (⟨⟨l⟩⟩ : ByteArray).size = l.length := rfl
    omega
theorem encU_pos (l : List UInt8) (h : l.length ≤ 65536) : 1 ≤ (encU l).length := by
  have := tI_pos ⟨⟨l⟩⟩ h
  rw [tI_U _ h, intsU_len] at this
  exact this
/-- the letters lie within their bounds -/
theorem mkV_ok {a b c : List UInt8} {d : Int} {hne : d = 1 → a ≠ b} {la ha lb hb lo ho lt ht l0 h0 l1 h1 l2 h2 ld hd : Int} (a1 : la ≤ a.length) (a2 : (a.length : Int) ≤ ha) (b1 : lb ≤ b.length) (b2 : (b.length : Int) ≤ hb) (c1 : lo ≤ c.length) (c2 : (c.length : Int) ≤ ho)
    (t1 : lt ≤ (encU a).length ∧ ((encU a).length : Int) ≤ ht) (t2 : lt ≤ (encU b).length ∧ ((encU b).length : Int) ≤ ht) (t3 : lt ≤ (encU c).length ∧ ((encU c).length : Int) ≤ ht)
    (f0 : l0 ≤ (if valueU a = true then (1 : Int) else 0) ∧ (if valueU a = true then (1 : Int) else 0) ≤ h0) (f1 : l1 ≤ (if valueU b = true then (1 : Int) else 0) ∧ (if valueU b = true then (1 : Int) else 0) ≤ h1)
    (f2 : l2 ≤ (if valueU c = true then (1 : Int) else 0) ∧ (if valueU c = true then (1 : Int) else 0) ≤ h2) (d1 : ld ≤ d) (d2 : d ≤ hd) :
    (mkV a b c d (fun _ => 0) hne).Ok (wBd (la, ha) (lb, hb) (lo, ho) (lt, ht) (l0, h0) (l1, h1) (l2, h2) (ld, hd)) := by
  intro i l h hg
  unfold wBd at hg
  rw [lget_eq] at hg
  match i, hg with
  | 0, hg => simp at hg; obtain ⟨rfl, rfl⟩ := hg; exact ⟨a1, a2⟩
  | 1, hg => simp at hg; obtain ⟨rfl, rfl⟩ := hg; exact ⟨b1, b2⟩
  | 2, hg => simp at hg; obtain ⟨rfl, rfl⟩ := hg; exact ⟨c1, c2⟩
  | 3, hg => simp at hg; obtain ⟨rfl, rfl⟩ := hg; exact ⟨Int.le_refl _, Int.le_refl _⟩
  | 4, hg => simp at hg; obtain ⟨rfl, rfl⟩ := hg; exact t1
  | 5, hg => simp at hg; obtain ⟨rfl, rfl⟩ := hg; exact t2
  | 6, hg => simp at hg; obtain ⟨rfl, rfl⟩ := hg; exact t3
  | 7, hg => simp at hg; obtain ⟨rfl, rfl⟩ := hg; exact ⟨Int.le_refl _, Int.le_refl _⟩
  | 8, hg => simp at hg; obtain ⟨rfl, rfl⟩ := hg; exact ⟨Int.le_refl _, Int.le_refl _⟩
  | 9, hg => simp at hg; obtain ⟨rfl, rfl⟩ := hg; exact ⟨Int.le_refl _, Int.le_refl _⟩
  | 10, hg => simp at hg; obtain ⟨rfl, rfl⟩ := hg; exact f0
  | 11, hg => simp at hg; obtain ⟨rfl, rfl⟩ := hg; exact f1
  | 12, hg => simp at hg; obtain ⟨rfl, rfl⟩ := hg; exact f2
  | 13, hg => simp at hg; obtain ⟨rfl, rfl⟩ := hg; exact ⟨d1, d2⟩
  | j + 14, hg => simp at hg
theorem body5has : hasBody Tryz.prog 5 = true := by kernel_rfl
theorem res5 : Tryz.f5.results = #[.tmp 6] := by kernel_rfl
theorem results5 {a : Act} {w : World} {ν : Vl} {ρ : Nm} {n : Nat} (he : ER ν ρ n (mkT sEnd.e) a) : (results Tryz.f5 a.tmps).run Tryz.prog w = .ok (.bool true) w := by
  have hv : a.tmps.getD 6 undef = .bool true := he.slot 6 (.bool true) (by rfl)
  have h4 : ((#[ResultVar.tmp 6] : Array ResultVar).toList.mapM (resF a.tmps)).run Tryz.prog w = .ok [.bool true] w := by
    show ((([ResultVar.tmp 6] : List ResultVar).mapM (resF a.tmps)).run Tryz.prog w) = _
    rw [List.mapM_cons]
    simp only [Sem.run_bind, resF, Sem.run_pure, Result.andThen_ok, hv]
    rfl
  have hm : ((#[ResultVar.tmp 6] : Array ResultVar).mapM (resF a.tmps)).run Tryz.prog w = .ok ⟨[.bool true]⟩ w := by
    rw [Array.mapM_eq_mapM_toList, map_eq_pure_bind]
    simp only [Sem.run_bind, h4, Result.andThen_ok, Sem.run_pure]
  rw [results_eq, res5]
  simp only [Sem.run_bind, hm, Result.andThen_ok, Sem.run_pure]
  rfl
abbrev TrueAt (W : World) (e : Ending) (W' : World) : Prop := e = .returned (.bool true) ∧ Below W.heap.size W W'
/-- the whole way, in two parts -/
theorem vary_way {ν : Vl} {d : Int × Int} (ok : ν.Ok (bdM d)) {W : World} (hL : laidMetH Tryz.prog laidTop W) {a b : SS} {s : Sta} {vs : List Value} (hv : VRs ν (rho0 W) [.str a, .str b, .str [.var 2]] vs) (hA : partA d a b s = true) (hB : partB d s = true) :
    Calls Tryz.prog 5 ⟨vs⟩ W (TrueAt W) := by
  have hin : SAt ν (rho0 W) W Tryz.f5.ntmps (sV a b).e (sV a b).nx (sV a b).H { tmps := (⟨vs⟩ : Array Value) ++ Array.replicate (Tryz.f5.ntmps - (⟨vs⟩ : Array Value).size) undef, defers := [] } W :=
    ⟨rho0 W, [], slots_ER hv, HR0 hL _, Stp.refl _ _ _, glob0 W, rfl⟩
  refine calls_of_wp (fn := Tryz.f5) Tryz.func5 body5_eq ?_
  refine chain ok fit5a hA hin fun a1 w1 h1 => ?_
  refine wp_mono (piece ok fit5b hB h1) ?_
  rintro ex a5 w5 ⟨rfl, ρ, D, he, hr', hs, hg, hD⟩
  refine ⟨he.defers, _, results5 he, rfl, ⟨hs.os, hs.tape, hs.output, hs.size, fun r hr => hs.frame r hr fun c s hc e => ?_⟩⟩
  have h6 := List.all_eq_true.1 hD (c, true) hc
  simp at h6
  have : ¬ c < 6 := by omega
  simp [rho0, this] at e
set_option maxRecDepth 100000 in
/-- the early ends -/
theorem vary_early {ν : Vl} {bd : Bd} (ok : ν.Ok bd) {W : World} (hL : laidMetH Tryz.prog laidTop W) {vs : List Value} (hv : VRs ν (rho0 W) [.str [.var 0], .str [.var 1], .str [.var 2]] vs) (hrun : early bd = true) : Calls Tryz.prog 5 ⟨vs⟩ W (TrueAt W) := by
  obtain ⟨nx, H, D, hA, hD⟩ := chkT_spec hrun
  let o' : Oper := { dst := some 0, op := .ready 0, type := 0, pos := "", after := #[], guard := none }
  let a' : Act := { tmps := #[undef], defers := [] }
  have hop := callW bd ok 1000 (o := o') (a := a') (HR0 hL ν) (glob0 W) (fun _ e => by rw [hA] at e; cases e) hv rfl
  have hP : (CW bd).P = Tryz.prog := (isW bd).P
  rw [hasBody_run (by rw [hP]; exact fitP) (by rw [hP]; exact body5has)] at hop
  have hin := hop (fun a1 w1 => a1.tmps[0]? = some (.bool true) ∧ Below W.heap.size W w1) (fun _ _ _ => False) ?_
  · rw [Oper.upon_enter, hP] at hin
    refine hin.mono ?_
    rintro e w1 he
    cases e with
    | returned v =>
      obtain ⟨e1, e2⟩ := he
      have e1 : (a'.put (some 0) v).tmps[0]? = some (.bool true) := e1
      simp [a', Act.put] at e1
      exact ⟨by rw [e1], e2⟩
    | panicked c => exact he.elim
    | outgrown => obtain ⟨_, _, hf⟩ := he; exact hf.elim
  · intro x nx' H' D' ρ' v w' hk hlow hvr hr' hst
    have hk : Ans.ok x nx' H' (D' ++ []) = .ok (.bool true) nx H D := hk.trans hA
    injection hk with e1 e2 e3 e4
    rw [List.append_nil] at e4
    subst e1; subst e4
    have hvr : v = .bool true := hvr
    refine ⟨by simp [a', o', Act.put, hvr], ⟨hst.os, hst.tape, hst.output, hst.size, fun r hr => hst.frame r hr fun c s hc e => ?_⟩⟩
    have h6 := List.all_eq_true.1 hD (c, true) hc
    simp at h6
    have : ¬ c < 6 := by omega
    simp [rho0, this] at e
theorem vary_any (a b c : List UInt8) (W : World) (hL : laidMetH Tryz.prog laidTop W) (ha : a.length ≤ 9223372036854775807) (hb : b.length ≤ 9223372036854775807) (hc : c.length ≤ 9223372036854775807) :
    Calls Tryz.prog 5 ⟨[strV a, strV b, strV c]⟩ W (TrueAt W) := by
  have app : ∀ l : List UInt8, strV l = strV (l ++ []) := fun l => by rw [List.append_nil]
  have ta := encU_len a
  have tb := encU_len b
  have tc := encU_len c
  have fl : ∀ l : List UInt8, 0 ≤ (if valueU l = true then (1 : Int) else 0) ∧ (if valueU l = true then (1 : Int) else 0) ≤ 1 := fun l => by split <;> omega
  have hvE : VRs (mkV a b c 0 (fun _ => 0) (fun h => by cases h)) (rho0 W) [.str [.var 0], .str [.var 1], .str [.var 2]] [strV a, strV b, strV c] := VRs.mk (app a) (VRs.mk (app b) (VRs.mk (app c) VRs.mk0))
  by_cases va : valueU a = true
  case neg =>
    exact vary_early (mkV_ok (by omega) (by omega) (by omega) (by omega) (by omega) (by omega) ⟨by omega, by omega⟩ ⟨by omega, by omega⟩ ⟨by omega, by omega⟩ (by rw [if_neg va]; omega) (fl b) (fl c) (by omega) (by omega)) hL hvE run_bad0
  by_cases la : a.length < 200
  case neg =>
    exact vary_early (mkV_ok (by omega) (by omega) (by omega) (by omega) (by omega) (by omega) ⟨by omega, by omega⟩ ⟨by omega, by omega⟩ ⟨by omega, by omega⟩ (by rw [if_pos va]; omega) (fl b) (fl c) (by omega) (by omega)) hL hvE run_long0
  by_cases vb : valueU b = true
  case neg =>
    exact vary_early (mkV_ok (by omega) (by omega) (by omega) (by omega) (by omega) (by omega) ⟨by omega, by omega⟩ ⟨by omega, by omega⟩ ⟨by omega, by omega⟩ (by rw [if_pos va]; omega) (by rw [if_neg vb]; omega) (fl c) (by omega) (by omega)) hL hvE run_bad1
  by_cases lb : b.length < 200
  case neg =>
    exact vary_early (mkV_ok (by omega) (by omega) (by omega) (by omega) (by omega) (by omega) ⟨by omega, by omega⟩ ⟨by omega, by omega⟩ ⟨by omega, by omega⟩ (by rw [if_pos va]; omega) (by rw [if_pos vb]; omega) (fl c) (by omega) (by omega)) hL hvE run_long1
  by_cases vc : valueU c = true
  case neg =>
    exact vary_early (mkV_ok (by omega) (by omega) (by omega) (by omega) (by omega) (by omega) ⟨by omega, by omega⟩ ⟨by omega, by omega⟩ ⟨by omega, by omega⟩ (by rw [if_pos va]; omega) (by rw [if_pos vb]; omega) (by rw [if_neg vc]; omega) (by omega) (by omega)) hL hvE run_bad2
  by_cases lc : c.length < 200
  case neg =>
    exact vary_early (mkV_ok (by omega) (by omega) (by omega) (by omega) (by omega) (by omega) ⟨by omega, by omega⟩ ⟨by omega, by omega⟩ ⟨by omega, by omega⟩ (by rw [if_pos va]; omega) (by rw [if_pos vb]; omega) (by rw [if_pos vc]; omega) (by omega) (by omega)) hL hvE run_long2
  -- all three are fit
  have pa := encU_pos a (by omega)
  have pb := encU_pos b (by omega)
  have pc := encU_pos c (by omega)
  have x0 : valueU [120] = true := by decide +kernel
  have xl := encU_len [120]
  have xp := encU_pos [120] (by simp)
  have x1 : (([120] : List UInt8).length : Nat) = 1 := rfl
  have okM : ∀ (p q : List UInt8) (d : Int) (hne : d = 1 → p ≠ q) (ld hd : Int), 1 ≤ p.length → p.length < 200 → valueU p = true → 1 ≤ q.length → q.length < 200 → valueU q = true → ld ≤ d → d ≤ hd → (mkV p q c d (fun _ => 0) hne).Ok (bdM (ld, hd)) := by
    intro p q d hne ld hd p1 p2 p3 q1 q2 q3 d1 d2
    have tp := encU_len p
    have tq := encU_len q
    have pp := encU_pos p (by omega)
    have pq := encU_pos q (by omega)
    exact mkV_ok (by omega) (by omega) (by omega) (by omega) (by omega) (by omega) ⟨by omega, by omega⟩ ⟨by omega, by omega⟩ ⟨by omega, by omega⟩ (by rw [if_pos p3]; omega) (by rw [if_pos q3]; omega) (by rw [if_pos vc]; omega) d1 d2
  by_cases e0 : a = []
  · by_cases e1 : b = []
    · subst e0; subst e1
      have hvX : VRs (mkV [120] [120] c 0 (fun _ => 0) (fun h => by cases h)) (rho0 W) [.str [], .str [], .str [.var 2]] [strV [], strV [], strV c] := VRs.mk (show strV [] = strV [] from rfl) (VRs.mk (show strV [] = strV [] from rfl) (VRs.mk (app c) VRs.mk0))
      exact vary_way (okM [120] [120] 0 _ 0 0 (by simp) (by simp) x0 (by simp) (by simp) x0 (by omega) (by omega)) hL hvX runA_z runB_z
    · subst e0
      have hb1 : 1 ≤ b.length := by cases b with | nil => exact (e1 rfl).elim | cons _ _ => simp
      have hvX : VRs (mkV [120] b c 0 (fun _ => 0) (fun h => by cases h)) (rho0 W) [.str [], .str [.var 1], .str [.var 2]] [strV [], strV b, strV c] := VRs.mk (show strV [] = strV [] from rfl) (VRs.mk (app b) (VRs.mk (app c) VRs.mk0))
      exact vary_way (okM [120] b 0 _ 0 0 (by simp) (by simp) x0 hb1 lb vb (by omega) (by omega)) hL hvX runA_a runB_a
  · have ha1 : 1 ≤ a.length := by cases a with | nil => exact (e0 rfl).elim | cons _ _ => simp
    by_cases e1 : b = []
    · subst e1
      have hvX : VRs (mkV a [120] c 0 (fun _ => 0) (fun h => by cases h)) (rho0 W) [.str [.var 0], .str [], .str [.var 2]] [strV a, strV [], strV c] := VRs.mk (app a) (VRs.mk (show strV [] = strV [] from rfl) (VRs.mk (app c) VRs.mk0))
      exact vary_way (okM a [120] 0 _ 0 0 ha1 la va (by simp) (by simp) x0 (by omega) (by omega)) hL hvX runA_b runB_b
    · have hb1 : 1 ≤ b.length := by cases b with | nil => exact (e1 rfl).elim | cons _ _ => simp
      by_cases e2 : a = b
      · subst e2
        have hvX : VRs (mkV a a c 0 (fun _ => 0) (fun h => by cases h)) (rho0 W) [.str [.var 0], .str [.var 0], .str [.var 2]] [strV a, strV a, strV c] := VRs.mk (app a) (VRs.mk (app a) (VRs.mk (app c) VRs.mk0))
        exact vary_way (okM a a 0 _ 0 0 ha1 la va ha1 la va (by omega) (by omega)) hL hvX runA_e runB_e
      · have hvX : VRs (mkV a b c 1 (fun _ => 0) (fun _ => e2)) (rho0 W) [.str [.var 0], .str [.var 1], .str [.var 2]] [strV a, strV b, strV c] := VRs.mk (app a) (VRs.mk (app b) (VRs.mk (app c) VRs.mk0))
        exact vary_way (okM a b 1 _ 1 1 ha1 la va hb1 lb vb (by omega) (by omega)) hL hvX runA_u runB_u
end Go.AM
