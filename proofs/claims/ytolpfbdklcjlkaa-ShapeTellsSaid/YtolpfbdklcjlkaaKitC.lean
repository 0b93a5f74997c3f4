/- Package shape: padded, misplaced; light; Parts. -/
import Derived.Test.YtolpfbdklcjlkaaKitB
namespace Go.Proofs.Ytolpfbdklcjlkaa
open Go.ChangeShapes Go.WideShapes Go.ChangeAt Go.RowKit
set_option linter.unusedVariables false
set_option linter.unusedSimpArgs false
/-- 'Within': n brought into lo to hi. -/
def wit (n lo hi : Int) : Int := lo + n % (hi - lo + 1)
theorem wit_lo (n lo hi : Int) (h : lo ≤ hi) : lo ≤ wit n lo hi := by
  unfold wit; have := Int.emod_nonneg n (show hi - lo + 1 ≠ 0 by omega); omega
theorem wit_hi (n lo hi : Int) (h : lo ≤ hi) : wit n lo hi ≤ hi := by
  unfold wit; have := Int.emod_lt_of_pos n (show 0 < hi - lo + 1 by omega); omega
theorem tmod_neg (n d : Int) (h : n < 0) (hd : 0 < d) : (n.tmod d = 0 ∧ n % d = 0) ∨ (n.tmod d < 0 ∧ n.tmod d + d = n % d ∧ 0 ≤ n.tmod d + d) := by
  have h1 := Int.emod_nonneg n (show d ≠ 0 by omega)
  have h2 := Int.emod_lt_of_pos n hd
  rw [Int.tmod_eq_emod]
  split
  · rename_i h3; rcases h3 with h3 | h3
    · omega
    · left; have := Int.emod_eq_zero_of_dvd h3; omega
  · rename_i h3
    right
    have : n % d ≠ 0 := fun e => h3 (.inr (Int.dvd_of_emod_eq_zero e))
    omega
set_option maxHeartbeats 400000 in
theorem wit_any (n lo hi : Int) (w : World) (h0 : 0 ≤ lo) (h1 : lo ≤ hi) (h2 : hi ≤ 4294967296) (h3 : -9223372036854775808 ≤ n) (h4 : n ≤ 9223372036854775807) :
    Calls Try.prog 17 #[.int .i64 n, .int .i64 lo, .int .i64 hi] w fun e w' => e = .returned (.int .i64 (wit n lo hi)) ∧ w = w' := by
  have a1 := wit_lo n lo hi h1
  have a2 := wit_hi n lo hi h1
  unfold wit at *
  by_cases h : 0 ≤ n
  · have a3 := Int.emod_nonneg n (show hi - lo + 1 ≠ 0 by omega)
    have a4 := Int.emod_lt_of_pos n (show 0 < hi - lo + 1 by omega)
    have h5 : ¬ (hi - lo + 1 = 0) := by omega
    go_enter Try.func17, Try.ntmps17
    go_wp2
    go_ret
    exact ⟨rfl, rfl⟩
  · have h5 : ¬ (hi - lo + 1 = 0) := by omega
    have h6 : n < 0 := by omega
    rcases tmod_neg n (hi - lo + 1) h6 (by omega) with ⟨b1, b2⟩ | ⟨b1, b2, b3⟩
    · have B2 := Lib.hid b2
      have B1 := Lib.hid b1
      have b3 : 0 ≤ n.tmod (hi - lo + 1) := by omega
      have b4 : n.tmod (hi - lo + 1) ≤ 0 := by omega
      clear b1 b2
      go_enter Try.func17, Try.ntmps17
      go_wp2
      go_ret
      refine ⟨ret_int ?_, rfl⟩
      rw [B2.out, B1.out]
    · have B2 := Lib.hid b2
      have b4 : n.tmod (hi - lo + 1) + (hi - lo + 1) ≤ hi - lo := by omega
      clear b2
      go_enter Try.func17, Try.ntmps17
      go_wp2
      go_ret
      refine ⟨ret_int ?_, rfl⟩
      rw [← B2.out]
      try omega
theorem wit_ex (n lo hi : Int) (w : World) (h0 : 0 ≤ lo) (h1 : lo ≤ hi) (h2 : hi ≤ 4294967296) (h3 : -9223372036854775808 ≤ n) (h4 : n ≤ 9223372036854775807) :
    Calls Try.prog 17 #[.int .i64 n, .int .i64 lo, .int .i64 hi] w fun e w' => ∃ x : Int, lo ≤ x ∧ x ≤ hi ∧ e = .returned (.int .i64 x) ∧ w = w' :=
  (wit_any n lo hi w h0 h1 h2 h3 h4).mono fun _ _ ⟨a, b⟩ => ⟨_, wit_lo n lo hi h1, wit_hi n lo hi h1, a, b⟩


theorem results_cc {P : Program} {w : World} {fn : Func} {p q : Tmp} {ty ty' : TypeId} (h : fn.results = #[.cell p ty, .cell q ty']) (tmps : Array Value) (g g' : Nat) (t t' : TypeId) (cs cs' : Array Value) (d d' : TypeDesc)
    (hp : tmps.getD p undef = .pointer (some ⟨g, 0, none⟩)) (hg : Blk w g t cs) (hu : P.underlying ty = some d) (hd : (match d with | .struct _ | .array _ _ => true | _ => false) = true) (hi : (P.info? ty).map (·.size) = some cs.size)
    (hp' : tmps.getD q undef = .pointer (some ⟨g', 0, none⟩)) (hg' : Blk w g' t' cs') (hu' : P.underlying ty' = some d') (hd' : (match d' with | .struct _ | .array _ _ => true | _ => false) = true) (hi' : (P.info? ty').map (·.size) = some cs'.size) :
    (results fn tmps).run P w = .ok (.tuple #[.agg cs, .agg cs']) w := by
  have e1 : tmps[p]?.getD undef = .pointer (some ⟨g, 0, none⟩) := by simpa using hp
  have e2 : tmps[q]?.getD undef = .pointer (some ⟨g', 0, none⟩) := by simpa using hp'
  simp [results, h, e1, e2, asAddr, run_loadVar_row w g t ty cs (0, 0) d hg hu hd hi, run_loadVar_row w g' t' ty' cs' (0, 0) d' hg' hu' hd' hi']
def misB (ty st : Int) : Bool := if ty = 4 ∨ ty = 6 ∨ ty = 7 then decide (st ≠ 0) else if ty = 8 then false else if ty = 5 then true else decide (st = 0)
set_option maxHeartbeats 2000000 in
set_option maxRecDepth 100000 in
theorem mis_any (ty fl st : Int) (v : Value) (w : World) :
    Calls Try.prog 20 #[.agg #[.int .i64 ty, .int .i64 fl, .int .i64 st, v]] w fun e w' => e = .returned (.bool (misB ty st)) ∧ Below w.heap.size w w' := by
  rcases (show ty = 4 ∨ ty = 6 ∨ ty = 7 ∨ ty = 8 ∨ ty = 5 ∨ (ty ≠ 4 ∧ ty ≠ 6 ∧ ty ≠ 7 ∧ ty ≠ 8 ∧ ty ≠ 5) by omega) with rfl | rfl | rfl | rfl | rfl | ⟨i4, i6, i7, i8, i5⟩
  iterate 3
    · have e : ∀ t, (t = 4 ∨ t = 6 ∨ t = 7) → misB t st = decide (st ≠ 0) := fun t h => by rw [misB, if_pos h]
      rw [e _ (by omega)]
      clear e
      go_enter Try.func20, Try.ntmps20
      go_wp2_with fail
      go_ret
      refine ⟨ret_bool ?_, by go_grown⟩
      by_cases h : st = 0 <;> simp [h]
  · go_enter Try.func20, Try.ntmps20
    go_wp2_with fail
    go_ret
    exact ⟨rfl, by go_grown⟩
  · go_enter Try.func20, Try.ntmps20
    go_wp2_with fail
    go_ret
    exact ⟨rfl, by go_grown⟩
  · have e : misB ty st = decide (st = 0) := by unfold misB; rw [if_neg (by omega), if_neg i8, if_neg i5]
    rw [e]
    have j4 : (ty == 4) = false := by simpa using i4
    have j5 : (ty == 5) = false := by simpa using i5
    have j6 : (ty == 6) = false := by simpa using i6
    have j7 : (ty == 7) = false := by simpa using i7
    have j8 : (ty == 8) = false := by simpa using i8
    clear e i4 i5 i6 i7 i8
    go_enter Try.func20, Try.ntmps20
    go_wp2_with fail
    go_ret
    refine ⟨ret_bool ?_, by go_grown⟩
    by_cases h : st = 0 <;> simp [h]
/-- Is a flag there? -/
def flag (fl m : Int) : Bool := !(bits .and .i64 fl m == 0)
def padF (fl : Int) (L : List Int) : Option (Int × List Int) := if flag fl 8 = false then some (0, L) else match L with | [] => none | x :: r => some (x, r)
set_option maxHeartbeats 1000000 in
set_option maxRecDepth 100000 in
theorem padded_any (ty fl st : Int) (v : Value) (L : List Int) (w : World) (hR : BS w v L) (hb : Byt L) (p : Int) (b : List Int) (h : padF fl L = some (p, b)) :
    Calls Try.prog 38 #[.agg #[.int .i64 ty, .int .i64 fl, .int .i64 st, v]] w fun e w' => (∃ vb, e = .returned (.tuple #[.int .i64 p, vb, .bool true]) ∧ BS w' vb b) ∧ Below w.heap.size w w' := by
  have HR := Lib.hid hR
  obtain ⟨A, cap, rfl, hk, hm, hc⟩ := hR
  unfold padF flag at h
  cases hf : (bits .and .i64 fl 8 == 0) with
  | true =>
    rw [hf] at h
    simp at h
    obtain ⟨rfl, rfl⟩ := h
    clear hc
    go_enter Try.func38, Try.ntmps38
    go_wp2_with fail
    go_quiet (fail)
    go_wp2_with fail
    refine bodyPost_ret (v := .tuple #[.int .i64 0, .slice A L.length cap, .bool true]) (by simp [results, Try.results38, go_sem]) rfl ⟨⟨_, rfl, HR.out.below (below_drewN (below_self _ _) _) (Nat.le_refl _)⟩, below_drewN (below_self _ _) _⟩
  | false =>
    rw [hf] at h
    match L, h with
    | x :: r, h =>
      simp at h
      obtain ⟨rfl, rfl⟩ := h
      have hl : (x :: r).length = r.length + 1 := rfl
      obtain ⟨b0, off, rfl, gb, q⟩ := hc (by omega)
      have e0 : w.cell? ⟨b0, off, none⟩ = some (.int .u8 x) := by simpa using q 0 0 (by omega) (by omega)
      obtain ⟨A', n', c', hrun, hB'⟩ := run_fromI HR.out 1 (by omega) (by rw [hl]; omega)
      have hx := hb.at 0
      have hx0 : 0 ≤ x := hx.1
      have hx1 : x ≤ 255 := hx.2
      have HB : Hid (BS w (.slice A' n' c') r) := Lib.hid hB'
      rw [hl] at hrun ⊢
      have hn1 : ¬ ((r.length + 1 : Nat) : Int) = 0 := by omega
      have hn2 : (0 : Int) < ((r.length + 1 : Nat) : Int) := by omega
      clear hc q hB' hx hb hk HR
      generalize r.length + 1 = n at *
      go_enter Try.func38, Try.ntmps38
      go_wp2_with fail
      go_quiet (fail)
      go_wp2_with fail
      refine bodyPost_ret (v := .tuple #[.int .i64 x, .slice A' n' c', .bool true]) (by simp [results, Try.results38, go_sem]) rfl ⟨⟨_, rfl, HB.out.below (below_drewN (below_self _ _) _) (Nat.le_refl _)⟩, below_drewN (below_self _ _) _⟩
set_option maxHeartbeats 1000000 in
theorem padded_none (ty fl st : Int) (v : Value) (L : List Int) (w : World) (hR : BS w v L) (h : padF fl L = none) :
    Calls Try.prog 38 #[.agg #[.int .i64 ty, .int .i64 fl, .int .i64 st, v]] w fun e w' => e = .returned (.tuple #[.int .i64 0, .slice none 0 0, .bool false]) ∧ Below w.heap.size w w' := by
  obtain ⟨A, cap, rfl, hk, hm, hc⟩ := hR
  unfold padF flag at h
  cases hf : (bits .and .i64 fl 8 == 0) with
  | true => rw [hf] at h; simp at h
  | false =>
    rw [hf] at h
    match L, h with
    | [], _ =>
      clear hc hk h
      go_enter Try.func38, Try.ntmps38
      go_wp2_with fail
      refine bodyPost_ret (v := .tuple #[.int .i64 0, .slice none 0 0, .bool false]) (by simp [results, Try.results38, go_sem]) rfl ⟨rfl, by go_grown⟩
set_option maxHeartbeats 1000000 in
theorem light_any (ty fl st : Int) (v : Value) (L : List Int) (w : World) (hR : BS w v L) :
    Calls Try.prog 13 #[.agg #[.int .i64 ty, .int .i64 fl, .int .i64 st, v]] w fun e w' => (∃ v', e = .returned (.agg #[.int .i64 ty, .int .i64 fl, .int .i64 st, v']) ∧ BS w' v' (L.take 300)) ∧ Below w.heap.size w w' := by
  have HR := Lib.hid hR
  obtain ⟨A, cap, rfl, hk, hm, -⟩ := hR
  by_cases h : 300 < L.length
  · obtain ⟨A', n', c', hrun, hB'⟩ := run_to HR.out 300 (by omega) (by omega)
    have HB := Lib.hid hB'
    have hi : (300 : Int) < (L.length : Int) := by omega
    clear hB' h
    go_enter Try.func13, Try.ntmps13
    go_wp2_with fail
    refine bodyPost_ret (v := .agg #[.int .i64 ty, .int .i64 fl, .int .i64 st, .slice A' n' c']) (by simp [results, Try.results13, go_sem]) rfl ⟨⟨_, rfl, HB.out.below (by go_grown) (Nat.le_refl _)⟩, by go_grown⟩
  · rw [List.take_of_length_le (by omega)]
    have hi : ¬ (300 : Int) < (L.length : Int) := by omega
    clear h
    go_enter Try.func13, Try.ntmps13
    go_wp2_with fail
    refine bodyPost_ret (v := .agg #[.int .i64 ty, .int .i64 fl, .int .i64 st, .slice A L.length cap]) (by simp [results, Try.results13, go_sem]) rfl ⟨⟨_, rfl, HR.out.below (by go_grown) (Nat.le_refl _)⟩, by go_grown⟩
/-- The cells of settings. -/
def SV (Z : Nat → Int × Int) : Nat → Nat → Value := fun i j => if j = 0 then .int .i64 (Z i).1 else .int .i64 (Z i).2
set_option maxHeartbeats 1000000 in
set_option maxRecDepth 100000 in
theorem sames_any (v1 v2 : Value) (n : Nat) (Z : Nat → Int × Int) (w : World) (h1 : Rowy w v1 n 2 (SV Z)) (h2 : Rowy w v2 n 2 (SV Z)) :
    Calls Try.prog 31 #[v1, v2] w fun e w' => e = .returned (.bool true) ∧ Below w.heap.size w w' := by
  obtain ⟨A1, c1, rfl, l1, m1, k1⟩ := h1
  obtain ⟨A2, c2, rfl, l2, m2, k2⟩ := h2
  have K1 := Lib.hid k1
  have K2 := Lib.hid k2
  clear k1 k2
  unfold maxLen at m1 m2
  go_enter Try.func31, Try.ntmps31
  go_wp2
  go_loopw [5] (fun i wr => ∃ k : Nat, k ≤ n ∧ i = .int .i64 k ∧ Below w.heap.size w wr) (fun i _ => n - (intOf i).toNat)
  case atStart => exact ⟨0, Nat.zero_le _, rfl, Below.refl _ _⟩
  case round =>
    obtain ⟨k, hk, rfl, hB⟩ := hrel
    by_cases hlt : k < n
    · obtain ⟨b1, o1, rfl, g1, q1⟩ := K1.out (by omega)
      obtain ⟨b2, o2, rfl, g2, q2⟩ := K2.out (by omega)
      have e1 : wr.cell? ⟨b1, o1 + k * 2, none⟩ = some (.int .i64 (Z k).1) := by rw [hB.cell (p := ⟨b1, _, none⟩) g1]; simpa [SV] using q1 k 0 hlt (by omega)
      have e1' : wr.cell? ⟨b1, o1 + k * 2 + 1, none⟩ = some (.int .i64 (Z k).2) := by rw [hB.cell (p := ⟨b1, _, none⟩) g1]; simpa [SV, Nat.add_assoc] using q1 k 1 hlt (by omega)
      have e2 : wr.cell? ⟨b2, o2 + k * 2, none⟩ = some (.int .i64 (Z k).1) := by rw [hB.cell (p := ⟨b2, _, none⟩) g2]; simpa [SV] using q2 k 0 hlt (by omega)
      have e2' : wr.cell? ⟨b2, o2 + k * 2 + 1, none⟩ = some (.int .i64 (Z k).2) := by rw [hB.cell (p := ⟨b2, _, none⟩) g2]; simpa [SV, Nat.add_assoc] using q2 k 1 hlt (by omega)
      have hki : (k : Int) < (n : Int) := by omega
      have hk0 : 0 ≤ (k : Int) := by omega
      clear q1 q2
      generalize (Z k).1 = z1 at *
      generalize (Z k).2 = z2 at *
      go_wp2_with fail
      go_quiet (fail)
      go_wp2_with fail
      go_roundw
      case rel => exact ⟨k + 1, by omega, by go_num, below_drewN hB _⟩
      case measure => simp [intOf]; omega
    · obtain rfl : k = n := by omega
      go_wp2_with fail
      go_ret
      exact ⟨rfl, hB⟩
set_option maxHeartbeats 2000000 in
set_option maxRecDepth 100000 in
theorem parts_any (ty st co la mo cs : Int) (e f k : Bool) (vb1 vb2 vs1 vs2 : Value) (L : List Int) (n : Nat) (Z : Nat → Int × Int) (w : World) (h1 : BS w vb1 L) (h2 : BS w vb2 L) (g1 : Rowy w vs1 n 2 (SV Z)) (g2 : Rowy w vs2 n 2 (SV Z)) :
    Calls Try.prog 12 #[.agg #[.int .i64 ty, .int .i64 st, .bool e, .bool f, .bool k, vb1, .int .i64 co, .int .i64 la, .int .i64 mo, .int .i64 cs, vs1], .agg #[.int .i64 ty, .int .i64 st, .bool e, .bool f, .bool k, vb2, .int .i64 co, .int .i64 la, .int .i64 mo, .int .i64 cs, vs2]] w fun e w' => e = .returned (.bool true) ∧ Below w.heap.size w w' := by
  have H1 := Lib.hid h1
  have H2 := Lib.hid h2
  have G1 := Lib.hid g1
  have G2 := Lib.hid g2
  have ob1 : vb1.oneCell' = true := by obtain ⟨A, c, rfl, _⟩ := h1; rfl
  have ob2 : vb2.oneCell' = true := by obtain ⟨A, c, rfl, _⟩ := h2; rfl
  have os1 : vs1.oneCell' = true := by obtain ⟨A, c, rfl, _⟩ := g1; rfl
  have os2 : vs2.oneCell' = true := by obtain ⟨A, c, rfl, _⟩ := g2; rfl
  obtain ⟨A1, c1, rfl, _⟩ := h1
  obtain ⟨A2, c2, rfl, _⟩ := h2
  obtain ⟨A3, c3, rfl, _⟩ := g1
  obtain ⟨A4, c4, rfl, _⟩ := g2
  clear ob1 ob2 os1 os2
  go_enter Try.func12, Try.ntmps12
  go_wp2_with (first
    | (go_at_call 30; refine (same_any _ _ L L _ (H1.out.below (by go_grown) (Nat.le_refl _)) (H2.out.below (by go_grown) (Nat.le_refl _))).mono ?_; rintro e w1 ⟨rfl, hB1⟩; rw [decide_eq_true (rfl : L = L)]; obtain ⟨d1, f1⟩ := bcell hB1; have hA1 : Below w.heap.size w w1 := Below.trans (by go_grown) (hB1.mono (by go_size)); have hs1 := hA1.size)
    | (go_at_call 31; refine (sames_any _ _ n Z _ (G1.out.below hA1 (Nat.le_refl _)) (G2.out.below hA1 (Nat.le_refl _))).mono ?_; rintro e w2 ⟨rfl, hB2⟩))
  go_ret
  exact ⟨rfl, hA1.trans (hB2.mono hs1)⟩
end Go.Proofs.Ytolpfbdklcjlkaa
