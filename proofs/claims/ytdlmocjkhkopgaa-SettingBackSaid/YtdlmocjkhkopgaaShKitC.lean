/- The shapes, turned from w10: more small functions. -/
import Derived.Test.YtdlmocjkhkopgaaShKitB
namespace Go.Proofs.Ytdlmocjkhkopgaa.Sh
open Go.ChangeShapes Go.WideShapes Go.ChangeAt Go.RowKit
set_option linter.unusedVariables false
set_option linter.unusedSimpArgs false
/-- 'Within': n brought into lo to hi. -/
def wit (n lo hi : Int) : Int := lo + n % (hi - lo + 1)
theorem results_cc {P : Program} {w : World} {fn : Func} {p q : Tmp} {ty ty' : TypeId} (h : fn.results = #[.cell p ty, .cell q ty']) (tmps : Array Value) (g g' : Nat) (t t' : TypeId) (cs cs' : Array Value) (d d' : TypeDesc)
    (hp : tmps.getD p undef = .pointer (some ⟨g, 0, none⟩)) (hg : Blk w g t cs) (hu : P.underlying ty = some d) (hd : (match d with | .struct _ | .array _ _ => true | _ => false) = true) (hi : (P.info? ty).map (·.size) = some cs.size)
    (hp' : tmps.getD q undef = .pointer (some ⟨g', 0, none⟩)) (hg' : Blk w g' t' cs') (hu' : P.underlying ty' = some d') (hd' : (match d' with | .struct _ | .array _ _ => true | _ => false) = true) (hi' : (P.info? ty').map (·.size) = some cs'.size) :
    (results fn tmps).run P w = .ok (.tuple #[.agg cs, .agg cs']) w := by
  have e1 : tmps[p]?.getD undef = .pointer (some ⟨g, 0, none⟩) := by simpa using hp
  have e2 : tmps[q]?.getD undef = .pointer (some ⟨g', 0, none⟩) := by simpa using hp'
  simp [results, h, e1, e2, asAddr, run_loadVar_row w g t ty cs (0, 0) d hg hu hd hi, run_loadVar_row w g' t' ty' cs' (0, 0) d' hg' hu' hd' hi']
def misB (ty st : Int) : Bool := if ty = 4 ∨ ty = 6 ∨ ty = 7 then decide (st ≠ 0) else if ty = 8 then false else if ty = 5 then true else decide (st = 0)
set_option maxHeartbeats 2000000 in
set_option maxRecDepth 100000 in
theorem mis_any (ty fl st : Int) (v : Value) (w : World) :
    Calls Try.prog 23 #[.agg #[.int .i64 ty, .int .i64 fl, .int .i64 st, v]] w fun e w' => e = .returned (.bool (misB ty st)) ∧ Below w.heap.size w w' := by
  rcases (show ty = 4 ∨ ty = 6 ∨ ty = 7 ∨ ty = 8 ∨ ty = 5 ∨ (ty ≠ 4 ∧ ty ≠ 6 ∧ ty ≠ 7 ∧ ty ≠ 8 ∧ ty ≠ 5) by omega) with rfl | rfl | rfl | rfl | rfl | ⟨i4, i6, i7, i8, i5⟩
  iterate 3
    · have e : ∀ t, (t = 4 ∨ t = 6 ∨ t = 7) → misB t st = decide (st ≠ 0) := fun t h => by rw [misB, if_pos h]
      rw [e _ (by omega)]
      clear e
      go_enter Try.func23, Try.ntmps23
      go_wp2_with fail
      go_ret
      refine ⟨ret_bool ?_, by go_grown⟩
      by_cases h : st = 0 <;> simp [h]
  · go_enter Try.func23, Try.ntmps23
    go_wp2_with fail
    go_ret
    exact ⟨rfl, by go_grown⟩
  · go_enter Try.func23, Try.ntmps23
    go_wp2_with fail
    go_ret
    exact ⟨rfl, by go_grown⟩
  · have e : misB ty st = decide (st = 0) := by unfold misB; rw [if_neg (by omega), if_neg i8, if_neg i5]
    rw [e]
    have j4 : (ty == 4) = false := by simpa using i4
    have j5 : (ty == 5) = false := by simpa using i5
    have j6 : (ty == 6) = false := by simpa using i6
    have j7 : (ty == 7) = false := by simpa using i7
    have j8 : (ty == 8) = false := by simpa using i8
    clear e i4 i5 i6 i7 i8
    go_enter Try.func23, Try.ntmps23
    go_wp2_with fail
    go_ret
    refine ⟨ret_bool ?_, by go_grown⟩
    by_cases h : st = 0 <;> simp [h]
/-- Is a flag there? -/
def flag (fl m : Int) : Bool := !(bits .and .i64 fl m == 0)
def padF (fl : Int) (L : List Int) : Option (Int × List Int) := if flag fl 8 = false then some (0, L) else match L with | [] => none | x :: r => some (x, r)
/-- The cells of settings. -/
def SV (Z : Nat → Int × Int) : Nat → Nat → Value := fun i j => if j = 0 then .int .i64 (Z i).1 else .int .i64 (Z i).2
set_option maxHeartbeats 1000000 in
set_option maxRecDepth 100000 in
theorem sames_any (v1 v2 : Value) (n : Nat) (Z : Nat → Int × Int) (w : World) (h1 : Rowy w v1 n 2 (SV Z)) (h2 : Rowy w v2 n 2 (SV Z)) :
    Calls Try.prog 20 #[v1, v2] w fun e w' => e = .returned (.bool true) ∧ Below w.heap.size w w' := by
  obtain ⟨A1, c1, rfl, l1, m1, k1⟩ := h1
  obtain ⟨A2, c2, rfl, l2, m2, k2⟩ := h2
  have K1 := Lib.hid k1
  have K2 := Lib.hid k2
  clear k1 k2
  unfold maxLen at m1 m2
  go_enter Try.func20, Try.ntmps20
  go_wp2
  go_loopw [5] (fun i wr => ∃ k : Nat, k ≤ n ∧ i = .int .i64 k ∧ Below w.heap.size w wr) (fun i _ => n - (intOf i).toNat)
  case atStart => exact ⟨0, Nat.zero_le _, rfl, Below.refl _ _⟩
  case round =>
    obtain ⟨k, hk, rfl, hB⟩ := hrel
    by_cases hlt : k < n
    · obtain ⟨b1, o1, rfl, g1, q1⟩ := K1.out (by omega)
      obtain ⟨b2, o2, rfl, g2, q2⟩ := K2.out (by omega)
      have e1 : wr.cell? ⟨b1, o1 + k * 2, none⟩ = some (.int .i64 (Z k).1) := by rw [hB.cell (p := ⟨b1, _, none⟩) g1]; simpa [SV] using q1 k 0 hlt (by omega)
      have e1' : wr.cell? ⟨b1, o1 + k * 2 + 1, none⟩ = some (.int .i64 (Z k).2) := by rw [hB.cell (p := ⟨b1, _, none⟩) g1]; simpa [SV, Nat.add_assoc] using q1 k 1 hlt (by omega)
      have e2 : wr.cell? ⟨b2, o2 + k * 2, none⟩ = some (.int .i64 (Z k).1) := by rw [hB.cell (p := ⟨b2, _, none⟩) g2]; simpa [SV] using q2 k 0 hlt (by omega)
      have e2' : wr.cell? ⟨b2, o2 + k * 2 + 1, none⟩ = some (.int .i64 (Z k).2) := by rw [hB.cell (p := ⟨b2, _, none⟩) g2]; simpa [SV, Nat.add_assoc] using q2 k 1 hlt (by omega)
      have hki : (k : Int) < (n : Int) := by omega
      have hk0 : 0 ≤ (k : Int) := by omega
      clear q1 q2
      generalize (Z k).1 = z1 at *
      generalize (Z k).2 = z2 at *
      go_wp2_with fail
      go_quiet (fail)
      go_wp2_with fail
      go_roundw
      case rel => exact ⟨k + 1, by omega, by go_num, below_drewN hB _⟩
      case measure => simp [intOf]; omega
    · obtain rfl : k = n := by omega
      go_wp2_with fail
      go_ret
      exact ⟨rfl, hB⟩

end Go.Proofs.Ytdlmocjkhkopgaa.Sh
