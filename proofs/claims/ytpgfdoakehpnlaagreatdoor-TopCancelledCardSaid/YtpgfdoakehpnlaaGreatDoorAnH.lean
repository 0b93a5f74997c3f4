import Derived.Test.YtpgfdoakehpnlaaGreatDoorAnE
import Derived.Test.YtpgfdoakehpnlaaGreatDoorAnFa
import Derived.Test.YtpgfdoakehpnlaaGreatDoorAnFb
import Derived.Test.YtpgfdoakehpnlaaGreatDoorAnFc
import Derived.Test.YtpgfdoakehpnlaaGreatDoorAnFd
import Derived.Test.YtpgfdoakehpnlaaGreatDoorAnGa
import Derived.Test.YtpgfdoakehpnlaaGreatDoorAnGb
import Derived.Test.YtpgfdoakehpnlaaGreatDoorAnGc
import Derived.Test.YtpgfdoakehpnlaaGreatDoorAnGd
import Derived.Test.YtpgfdoakehpnlaaGreatDoorAnGe
import Derived.Test.YtpgfdoakehpnlaaGreatDoorAnGf
import Derived.Test.YtpgfdoakehpnlaaGreatDoorAnGg
import Derived.Test.YtpgfdoakehpnlaaGreatDoorAnGh
import Derived.Test.YtpgfdoakehpnlaaGreatDoorAnA
set_option linter.unusedVariables false
set_option linter.unusedSimpArgs false
namespace Go.AM
open Go Go.Proofs
set_option maxRecDepth 100000
/-! # TopCancelled: the chain -/
theorem link40 : Link 40 Cn.s40 := .last exit40 ending40
theorem link39 : Link 39 Cn.s39 := .more (.inr ⟨exit39, ending39⟩) round39 link40
theorem link38 : Link 38 Cn.s38 := .more (.inr ⟨exit38, ending38⟩) round38 link39
theorem link37 : Link 37 Cn.s37 := .more (.inr ⟨exit37, ending37⟩) round37 link38
theorem link36 : Link 36 Cn.s36 := .more (.inr ⟨exit36, ending36⟩) round36 link37
theorem link35 : Link 35 Cn.s35 := .more (.inr ⟨exit35, ending35⟩) round35 link36
theorem link34 : Link 34 Cn.s34 := .more (.inr ⟨exit34, ending34⟩) round34 link35
theorem link33 : Link 33 Cn.s33 := .more (.inr ⟨exit33, ending33⟩) round33 link34
theorem link32 : Link 32 Cn.s32 := .more (.inr ⟨exit32, ending32⟩) round32 link33
theorem link31 : Link 31 Cn.s31 := .more (.inr ⟨exit31, ending31⟩) round31 link32
theorem link30 : Link 30 Cn.s30 := .more (.inr ⟨exit30, ending30⟩) round30 link31
theorem link29 : Link 29 Cn.s29 := .more (.inr ⟨exit29, ending29⟩) round29 link30
theorem link28 : Link 28 Cn.s28 := .more (.inr ⟨exit28, ending28⟩) round28 link29
theorem link27 : Link 27 Cn.s27 := .more (.inr ⟨exit27, ending27⟩) round27 link28
theorem link26 : Link 26 Cn.s26 := .more (.inr ⟨exit26, ending26⟩) round26 link27
theorem link25 : Link 25 Cn.s25 := .more (.inr ⟨exit25, ending25⟩) round25 link26
theorem link24 : Link 24 Cn.s24 := .more (.inr ⟨exit24, ending24⟩) round24 link25
theorem link23 : Link 23 Cn.s23 := .more (.inr ⟨exit23, ending23⟩) round23 link24
theorem link22 : Link 22 Cn.s22 := .more (.inr ⟨exit22, ending22⟩) round22 link23
theorem link21 : Link 21 Cn.s21 := .more (.inr ⟨exit21, ending21⟩) round21 link22
theorem link20 : Link 20 Cn.s20 := .more (.inr ⟨exit20, ending20⟩) round20 link21
theorem link19 : Link 19 Cn.s19 := .more (.inr ⟨exit19, ending19⟩) round19 link20
theorem link18 : Link 18 Cn.s18 := .more (.inr ⟨exit18, ending18⟩) round18 link19
theorem link17 : Link 17 Cn.s17 := .more (.inr ⟨exit17, ending17⟩) round17 link18
theorem link16 : Link 16 Cn.s16 := .more (.inr ⟨exit16, ending16⟩) round16 link17
theorem link15 : Link 15 Cn.s15 := .more (.inr ⟨exit15, ending15⟩) round15 link16
theorem link14 : Link 14 Cn.s14 := .more (.inr ⟨exit14, ending14⟩) round14 link15
theorem link13 : Link 13 Cn.s13 := .more (.inr ⟨exit13, ending13⟩) round13 link14
theorem link12 : Link 12 Cn.s12 := .more (.inr ⟨exit12, ending12⟩) round12 link13
theorem link11 : Link 11 Cn.s11 := .more (.inr ⟨exit11, ending11⟩) round11 link12
theorem link10 : Link 10 Cn.s10 := .more (.inr ⟨exit10, ending10⟩) round10 link11
theorem link9 : Link 9 Cn.s9 := .more (.inr ⟨exit9, ending9⟩) round9 link10
theorem link8 : Link 8 Cn.s8 := .more (.inr ⟨exit8, ending8⟩) round8 link9
theorem link7 : Link 7 Cn.s7 := .more (.inr ⟨exit7, ending7⟩) round7 link8
theorem link6 : Link 6 Cn.s6 := .more (.inr ⟨exit6, ending6⟩) round6 link7
theorem link5 : Link 5 Cn.s5 := .more (.inr ⟨exit5, ending5⟩) round5 link6
theorem link4 : Link 4 Cn.s4 := .more (.inr ⟨exit4, ending4⟩) round4 link5
theorem link3 : Link 3 Cn.s3 := .more (.inr ⟨exit3, ending3⟩) round3 link4
theorem link2 : Link 2 Cn.s2 := .more (.inr ⟨exit2, ending2⟩) round2 link3
theorem link1 : Link 1 Cn.s1 := .more (.inr ⟨exit1, ending1⟩) round1 link2
theorem chain : Link 0 s00 := .more (.inl rfl) round0 link1
end Go.AM
namespace Go.AM
open Go Go.Proofs Go.ChangeShapes Go.WideShapes Go.ChangeAt Go.RowKit
set_option linter.unusedVariables false
/-! # TopCancelled: at any number and text -/
/-- what the letters stand for -/
def nuC (i0 : Nat) (b : List UInt8) (q n : Int) : Vl := { x := fun i => if i = 1 then b else if i = 2 then List.replicate i0 0 else [], m := fun i => if i = 4 then q else n }
theorem nuC_all {i0 : Nat} {b : List UInt8} {q n l1 h1 lo hi : Int} (b1 : l1 ≤ b.length) (b2 : (b.length : Int) ≤ h1) (k1 : lo ≤ i0) (k2 : (i0 : Int) ≤ hi) (q1 : -cBig ≤ q) (q2 : q ≤ cBig) (n1 : -cMax ≤ n) (n2 : n ≤ cMax) :
    (nuC i0 b q n).Ok [(0, cLen), (l1, h1), (lo, hi), (0, 0), (-cBig, cBig), (-cMax, cMax)] := by
  intro i l h hg
  rw [lget_eq] at hg
  match i, hg with
  | 0, hg => simp at hg; obtain ⟨rfl, rfl⟩ := hg; exact ⟨Int.le_refl _, by show (0 : Int) ≤ cLen; unfold cLen; omega⟩
  | 1, hg => simp at hg; obtain ⟨rfl, rfl⟩ := hg; exact ⟨b1, b2⟩
  | 2, hg => simp at hg; obtain ⟨rfl, rfl⟩ := hg; exact ⟨by show _ ≤ ((List.replicate i0 (0 : UInt8)).length : Int); rw [List.length_replicate]; exact k1, by show ((List.replicate i0 (0 : UInt8)).length : Int) ≤ _; rw [List.length_replicate]; exact k2⟩
  | 3, hg => simp at hg; obtain ⟨rfl, rfl⟩ := hg; exact ⟨Int.le_refl _, Int.le_refl _⟩
  | 4, hg => simp at hg; obtain ⟨rfl, rfl⟩ := hg; exact ⟨q1, q2⟩
  | 5, hg => simp at hg; obtain ⟨rfl, rfl⟩ := hg; exact ⟨n1, n2⟩
  | j + 6, hg => simp at hg
theorem body4has : hasBody Tryz.prog 4 = true := by kernel_rfl
theorem res4 : Tryz.f4.results = #[.tmp 4] := by kernel_rfl
theorem results4 {a : Act} {w : World} {ν : Vl} {ρ : Nm} {n : Nat} (he : ER ν ρ n (mkT sEnd.e) a) : (results Tryz.f4 a.tmps).run Tryz.prog w = .ok (.bool true) w := by
  have hv : a.tmps.getD 4 undef = .bool true := he.slot 4 (.bool true) (by rfl)
  have h4 : ((#[ResultVar.tmp 4] : Array ResultVar).toList.mapM (resF a.tmps)).run Tryz.prog w = .ok [.bool true] w := by
    show ((([ResultVar.tmp 4] : List ResultVar).mapM (resF a.tmps)).run Tryz.prog w) = _
    rw [List.mapM_cons]
    simp only [Sem.run_bind, resF, Sem.run_pure, Result.andThen_ok, hv]
    rfl
  have hm : ((#[ResultVar.tmp 4] : Array ResultVar).mapM (resF a.tmps)).run Tryz.prog w = .ok ⟨[.bool true]⟩ w := by
    rw [Array.mapM_eq_mapM_toList, map_eq_pure_bind]
    simp only [Sem.run_bind, h4, Result.andThen_ok, Sem.run_pure]
  rw [results_eq, res4]
  simp only [Sem.run_bind, hm, Result.andThen_ok, Sem.run_pure]
  rfl
set_option maxRecDepth 100000 in
theorem cancel_mid (n : Int) (b : List UInt8) (W : World) (hL : laidMetH Tryz.prog laidTop W) (hn1 : -9223372036854775808 ≤ n) (hn2 : n ≤ 9223372036854775807) (hb1 : 1 ≤ b.length) (hb2 : b.length ≤ 3000) :
    Calls Tryz.prog 4 ⟨[.int .i64 n, strV b]⟩ W fun e W' => e = .returned (.bool true) ∧ Below W.heap.size W W' := by
  obtain ⟨r, hr⟩ : ∃ r : Nat, n % 40 = r := ⟨(n % 40).toNat, by omega⟩
  have hr40 : r < 40 := by omega
  generalize hqd : n / 40 = q
  have hnq : n = r + (40 * q + 0) := by omega
  have ok : ∀ lo hi : Int, lo ≤ (r + 1 : Nat) → ((r + 1 : Nat) : Int) ≤ hi → (nuC (r + 1) b q n).Ok (bdC lo hi) := fun lo hi h1 h2 =>
    nuC_all (by omega) (by omega) h1 h2 (by unfold cBig; omega) (by unfold cBig; omega) (by unfold cMax; omega) (by unfold cMax; omega)
  have okA := ok 1 40 (by omega) (by omega)
  have hv : VRs (nuC (r + 1) b q n) (rho0 W) [n5, .str [.var 1]] [.int .i64 n, strV b] := by
    refine VRs.mk (show Value.int .i64 n = .int .i64 (0 + (1 * n + 0)) from ?_) (VRs.mk (show strV b = strV (b ++ []) by rw [List.append_nil]) VRs.mk0)
    congr 1; omega
  have hin : SAs (nuC (r + 1) b q n) (rho0 W) W sa0 { tmps := (⟨[.int .i64 n, strV b]⟩ : Array Value) ++ Array.replicate (Tryz.f4.ntmps - (⟨[.int .i64 n, strV b]⟩ : Array Value).size) undef, defers := [] } W :=
    ⟨rho0 W, [], slots_ER hv, HR0 hL _, Stp.refl _ _ _, glob0 W, rfl⟩
  refine calls_of_wp (fn := Tryz.f4) Tryz.func4 body4_eq ?_
  refine wp_seq (wp_mono (pcB_ok okA fit4a pre_a hin) ?_)
  rintro ex a1 w1 ⟨rfl, h1⟩
  show Code.wp _ _ _ a1 w1
  refine wp_seq (wp_mono (pcB_ok okA fit4b pre_b h1) ?_)
  rintro ex a2 w2 ⟨rfl, h2⟩
  show Code.wp _ _ _ a2 w2
  refine wp_seq (wp_mono (pcB_ok okA fit4c pre_c h2) ?_)
  rintro ex a3 w3 ⟨rfl, h3⟩
  show Code.wp _ _ _ a3 w3
  have h4 : SAs (nuC (r + 1) b q n) (rho0 W) W (cns 0 (n4 r) sc) a3 w3 := SAs.retell (x := n5) (fun ρ v hv => by
    have hv : v = .int .i64 (0 + (1 * n + 0)) := hv
    show v = .int .i64 (((r : Nat) : Int) + (40 * q + 0))
    rw [hv]; congr 1; omega) h3
  refine wp_seq (wp_seq (wp_mono (pcB_ok okA fit4d (List.all_eq_true.1 firsts r (List.mem_range.2 hr40)) h4) ?_))
  rintro ex a4 w4 ⟨rfl, h5⟩
  show Code.wp _ _ _ a4 w4
  have h6 : SAs (nuC (r + 1) b q n) (rho0 W) W (cns 6 n2 sb) a4 w4 := SAs.retell (x := .int .i64 (.k (.ofNat (r + 1)))) (fun ρ v hv => by
    have hv : v = .int .i64 ((r + 1 : Nat) : Int) := hv
    show v = .int .i64 (0 + (1 * ((List.replicate (r + 1) (0 : UInt8)).length : Int) + 0))
    rw [hv, List.length_replicate]; congr 1; omega) h5
  refine loop_any (by omega) (by omega) ok chain h6 ?_
  rintro a5 w5 ⟨ρ, D, he, hr', hs, hg, hD⟩
  refine ⟨he.defers, _, results4 he, rfl, ⟨hs.os, hs.tape, hs.output, hs.size, fun r hr => hs.frame r hr fun c s hc e => ?_⟩⟩
  have h6 := List.all_eq_true.1 hD (c, true) hc
  simp at h6
  have : ¬ c < 6 := by omega
  simp [rho0, this] at e
theorem cancel_any (n : Int) (b : List UInt8) (W : World) (hL : laidMetH Tryz.prog laidTop W) (hn1 : -9223372036854775808 ≤ n) (hn2 : n ≤ 9223372036854775807) (hb : b.length ≤ 9223372036854775807) :
    Calls Tryz.prog 4 ⟨[.int .i64 n, strV b]⟩ W fun e W' => e = .returned (.bool true) ∧ Below W.heap.size W W' := by
  have hk : ∀ ν : Vl, ν.m 5 = n → VR ν (rho0 W) n5 (.int .i64 n) := fun ν h => by
    show Value.int .i64 n = .int .i64 (0 + (1 * ν.m 5 + 0))
    rw [h]; congr 1; omega
  by_cases h0 : b = []
  · subst h0
    have hvE : VRs (nuC 1 [0] 0 n) (rho0 W) [n5, .str []] [.int .i64 n, strV []] := VRs.mk (hk _ rfl) (VRs.mk (show strV [] = strV [] from rfl) VRs.mk0)
    exact calls_of_run (bd := bdC 1 40) (ν := nuC 1 [0] 0 n) (nuC_all (by simp) (by simp) (by omega) (by omega) (by unfold cBig; omega) (by unfold cBig; omega) (by unfold cMax; omega) (by unfold cMax; omega)) hL body4has hvE run_empty
  have h1 : 1 ≤ b.length := by cases b with | nil => exact (h0 rfl).elim | cons _ _ => simp
  by_cases h2 : b.length ≤ 3000
  · exact cancel_mid n b W hL hn1 hn2 h1 h2
  · have hvL : VRs (nuC 1 b 0 n) (rho0 W) [n5, .str [.var 1]] [.int .i64 n, strV b] := VRs.mk (hk _ rfl) (VRs.mk (show strV b = strV (b ++ []) by rw [List.append_nil]) VRs.mk0)
    exact calls_of_run (bd := bdL) (ν := nuC 1 b 0 n) (nuC_all (by omega) (by unfold cLen; omega) (by omega) (by omega) (by unfold cBig; omega) (by unfold cBig; omega) (by unfold cMax; omega) (by unfold cMax; omega)) hL body4has hvL run_long
end Go.AM
