/- The document's value, Status, Own. -/
import Derived.Test.YtdfaaihoklefmaaOwn
namespace Go.Proofs.Ytdfaaihoklefmaa
open Go.ChangeShapes Go.WideShapes Go.ChangeAt Go.RowKit
set_option linter.unusedVariables false
set_option linter.unusedSimpArgs false

set_option maxHeartbeats 1000000 in
set_option maxRecDepth 100000 in
theorem rvalue_any (t : Talk) (F : Nat → ByteArray × ByteArray) (name : ByteArray) (w : World) (hR : Rowy w (.slice t.A t.n t.cap) t.n 2 (FV F)) :
    Calls Try.prog 17 #[t.val, .string name] w fun e w' => e = .returned (.string (fst (fv F name t.n 0))) ∧ Below w.heap.size w w' := by
  obtain ⟨p, l, s, A, n, cap, body, te, tr, c, a⟩ := t
  obtain ⟨A', cap', he, hlc, hcm, hcell⟩ := hR
  cases he
  have HC := Lib.hid hcell
  clear hcell
  unfold maxLen at hcm
  generalize hres : fv F name n 0 = res
  go_enter Try.func17, Try.ntmps17
  go_wp2_with fail
  go_loopw [5] (fun s11 wr => ∃ i : Nat, s11 = .int .i64 i ∧ i ≤ n ∧ fv F name (n - i) i = res ∧ wr.cell? ⟨w.heap.size, 3, none⟩ = some (.slice A n cap) ∧ w.heap.size < wr.heap.size ∧ Below w.heap.size w wr) (fun s11 _ => n - (intOf s11).toNat)
  case atStart => exact ⟨0, rfl, Nat.zero_le _, hres, by go_simp, by go_simp, by go_grown⟩
  case round =>
    obtain ⟨i, rfl, hi, hg, hc3, hlw, hB⟩ := hrel
    have hwr := hB.size
    by_cases hlt : i < n
    · obtain ⟨b, off, rfl, gb, q⟩ := HC.out (by omega)
      have e1 : wr.cell? ⟨b, off + i * 2, none⟩ = some (.string (F i).1) := by rw [hB.cell (p := ⟨b, _, none⟩) gb]; simpa [FV] using q i 0 hlt (by omega)
      have e2 : wr.cell? ⟨b, off + i * 2 + 1, none⟩ = some (.string (F i).2) := by rw [hB.cell (p := ⟨b, _, none⟩) gb]; simpa [FV, Nat.add_assoc] using q i 1 hlt (by omega)
      have hki : (i : Int) < (n : Int) := by omega
      have hk0 : 0 ≤ (i : Int) := by omega
      have hb1 : b < wr.heap.size := by omega
      obtain ⟨f, hf⟩ : ∃ f, n - i = f + 1 := ⟨n - i - 1, by omega⟩
      rw [hf, fv] at hg
      clear q
      generalize (F i).1 = x at *
      generalize (F i).2 = y at *
      by_cases hx : x = name
      · rw [if_pos hx] at hg
        subst hg
        have hx' : (x.toList == name.toList) = true := by subst hx; simp
        go_wp2_with fail
        go_ret
        exact ⟨rfl, by go_grown⟩
      · rw [if_neg hx] at hg
        have hx' : (x.toList == name.toList) = false := by
          rw [ByteArray.toList_eq, ByteArray.toList_eq]
          simp
          rintro h
          apply hx
          obtain ⟨dx⟩ := x
          obtain ⟨dn⟩ := name
          simp at h
          rw [h]
        go_wp2_with fail
        go_roundw
        case rel => exact ⟨i + 1, by go_num, by omega, by rw [show n - (i + 1) = f by omega]; exact hg, hc3, hlw, by go_grown⟩
        case measure => simp [intOf]; omega
    · obtain rfl : i = n := by omega
      rw [Nat.sub_self, fv] at hg
      subst hg
      go_wp2_with fail
      go_ret
      exact ⟨rfl, hB⟩

set_option maxHeartbeats 2000000 in
set_option maxRecDepth 100000 in
theorem rstatus_any (t : Talk) (F : Nat → ByteArray × ByteArray) (w : World) (hR : Rowy w (.slice t.A t.n t.cap) t.n 2 (FV F)) :
    Calls Try.prog 13 #[t.val] w fun e w' => e = .returned (.int .i64 (stF (fst (fv F nStatus t.n 0)))) ∧ Below w.heap.size w w' := by
  have HR := Lib.hid hR
  obtain ⟨p, l, s, A, n, cap, body, te, tr, c, a⟩ := t
  clear hR
  obtain ⟨x, hx⟩ : ∃ x, fst (fv F nStatus n 0) = x := ⟨_, rfl⟩
  generalize hres : stF (fst (fv F nStatus n 0)) = res
  rw [hx] at hres
  have e0 : (fun i => bt x i) = bt x := rfl
  by_cases hs : x.size = 3
  · have hs' : (x.size : Int) = 3 := by omega
    have f0 : ((x[0]'(by omega)).toNat : Int) = bt x 0 := (bt_get x 0 (by omega)).symm
    have f1 : ((x[1]'(by omega)).toNat : Int) = bt x 1 := (bt_get x 1 (by omega)).symm
    have f2 : ((x[2]'(by omega)).toNat : Int) = bt x 2 := (bt_get x 2 (by omega)).symm
    have l0 := bt_lo x 0
    have u0 := bt_hi x 0
    have l1 := bt_lo x 1
    have u1 := bt_hi x 1
    have l2 := bt_lo x 2
    have u2 := bt_hi x 2
    go_enter Try.func13, Try.ntmps13
    go_wp2_with (go_at_call 17; refine (rvalue_any ⟨p, l, s, A, n, cap, body, te, tr, c, a⟩ F nStatus _ (HR.out.below (by go_grown) (Nat.le_refl _))).mono ?_; rintro e w1 ⟨rfl, hB1⟩; rw [hx])
    have hw1 := hB1.size
    have hA1 : Below w.heap.size w w1 := Below.trans (by go_grown) (hB1.mono (by go_size))
    clear hB1
    go_loopw [4, 5] (fun s5 s17 wr => ∃ (i : Nat) (v : Int), s17 = .int .i64 i ∧ i ≤ 3 ∧ s5 = .int .i64 v ∧ v = sn (bt x) i ∧ 0 ≤ v ∧ v < 10 ^ i ∧ Hid (∀ q, q < i → dgt (bt x q)) ∧ Below w.heap.size w wr) (fun _ s17 _ => 3 - (intOf s17).toNat)
    case atStart => exact ⟨0, 0, rfl, by omega, rfl, rfl, by omega, by omega, Lib.hid fun q hq => absurd hq (Nat.not_lt_zero _), hA1⟩
    case round =>
      obtain ⟨i, v, rfl, hi, rfl, hv, v0, v1, hd, hB⟩ := hrel
      by_cases hlt : i < 3
      · have hlti : (i : Int) < 3 := by omega
        rcases (show i = 0 ∨ i = 1 ∨ i = 2 by omega) with rfl | rfl | rfl
        · have hbad : ¬ dgt (bt x 0) → res = 0 := fun h => by rw [← hres, stF, if_neg (fun h' => h h'.2.1)]
          have hsn : sn (bt x) 1 = 10 * v + (bt x 0 - 48) := by rw [hv]; rfl
          have hdd : dgt (bt x 0) → ∀ q, q < 1 → dgt (bt x q) := fun h q hq => by
            rcases Nat.lt_or_ge q 0 with h' | h'
            · exact hd.out q h'
            · obtain rfl : q = 0 := by omega
              exact h
          have HDD := Lib.hid hdd
          clear hv hdd
          simp at v1
          generalize hb : bt x 0 = d at *
          by_cases hdg : dgt d
          · have hd1 : ¬ d < 48 := by unfold dgt at hdg; omega
            have hd2 : ¬ 57 < d := by unfold dgt at hdg; omega
            have hw : IntKind.u8.wrap (d - 48) = d - 48 := by simp [IntKind.wrap, IntKind.bits, IntKind.signed]; omega
            have hdn := Lib.hid (HDD.out hdg)
            clear hbad
            go_wp2_with fail
            go_roundw
            case rel => exact ⟨1, v * 10 + (d - 48), by go_num, by omega, by go_num, (by omega), by omega, by omega, hdn, hB⟩
            case measure => simp [intOf]
          · obtain rfl := hbad hdg
            rcases (show d < 48 ∨ (¬ d < 48 ∧ 57 < d) by unfold dgt at hdg; omega) with h | ⟨h, h'⟩ <;>
            · go_wp2_with fail
              go_ret
              exact ⟨rfl, hB⟩
        · have hbad : ¬ dgt (bt x 1) → res = 0 := fun h => by rw [← hres, stF, if_neg (fun h' => h h'.2.2.1)]
          have hsn : sn (bt x) 2 = 10 * v + (bt x 1 - 48) := by rw [hv]; rfl
          have hdd : dgt (bt x 1) → ∀ q, q < 2 → dgt (bt x q) := fun h q hq => by
            rcases Nat.lt_or_ge q 1 with h' | h'
            · exact hd.out q h'
            · obtain rfl : q = 1 := by omega
              exact h
          have HDD := Lib.hid hdd
          clear hv hdd
          simp at v1
          generalize hb : bt x 1 = d at *
          by_cases hdg : dgt d
          · have hd1 : ¬ d < 48 := by unfold dgt at hdg; omega
            have hd2 : ¬ 57 < d := by unfold dgt at hdg; omega
            have hw : IntKind.u8.wrap (d - 48) = d - 48 := by simp [IntKind.wrap, IntKind.bits, IntKind.signed]; omega
            have hdn := Lib.hid (HDD.out hdg)
            clear hbad
            go_wp2_with fail
            go_roundw
            case rel => exact ⟨2, v * 10 + (d - 48), by go_num, by omega, by go_num, (by omega), by omega, by omega, hdn, hB⟩
            case measure => simp [intOf]
          · obtain rfl := hbad hdg
            rcases (show d < 48 ∨ (¬ d < 48 ∧ 57 < d) by unfold dgt at hdg; omega) with h | ⟨h, h'⟩ <;>
            · go_wp2_with fail
              go_ret
              exact ⟨rfl, hB⟩
        · have hbad : ¬ dgt (bt x 2) → res = 0 := fun h => by rw [← hres, stF, if_neg (fun h' => h h'.2.2.2)]
          have hsn : sn (bt x) 3 = 10 * v + (bt x 2 - 48) := by rw [hv]; rfl
          have hdd : dgt (bt x 2) → ∀ q, q < 3 → dgt (bt x q) := fun h q hq => by
            rcases Nat.lt_or_ge q 2 with h' | h'
            · exact hd.out q h'
            · obtain rfl : q = 2 := by omega
              exact h
          have HDD := Lib.hid hdd
          clear hv hdd
          simp at v1
          generalize hb : bt x 2 = d at *
          by_cases hdg : dgt d
          · have hd1 : ¬ d < 48 := by unfold dgt at hdg; omega
            have hd2 : ¬ 57 < d := by unfold dgt at hdg; omega
            have hw : IntKind.u8.wrap (d - 48) = d - 48 := by simp [IntKind.wrap, IntKind.bits, IntKind.signed]; omega
            have hdn := Lib.hid (HDD.out hdg)
            clear hbad
            go_wp2_with fail
            go_roundw
            case rel => exact ⟨3, v * 10 + (d - 48), by go_num, by omega, by go_num, (by omega), by omega, by omega, hdn, hB⟩
            case measure => simp [intOf]
          · obtain rfl := hbad hdg
            rcases (show d < 48 ∨ (¬ d < 48 ∧ 57 < d) by unfold dgt at hdg; omega) with h | ⟨h, h'⟩ <;>
            · go_wp2_with fail
              go_ret
              exact ⟨rfl, hB⟩
      · obtain rfl : i = 3 := by omega
        have hr : res = v := by
          rw [← hres, stF, if_pos ⟨hs, hd.out 0 (by omega), hd.out 1 (by omega), hd.out 2 (by omega)⟩, hv]
          simp only [sn]
          omega
        subst hr
        clear hv
        have hlti : ¬ (3 : Int) < 3 := by omega
        go_wp2_with fail
        go_ret
        exact ⟨rfl, hB⟩
  · have hs' : ¬ (x.size : Int) = 3 := by omega
    rw [stF, if_neg (fun h => hs h.1)] at hres
    subst hres
    go_enter Try.func13, Try.ntmps13
    go_wp2_with (go_at_call 17; refine (rvalue_any ⟨p, l, s, A, n, cap, body, te, tr, c, a⟩ F nStatus _ (HR.out.below (by go_grown) (Nat.le_refl _))).mono ?_; rintro e w1 ⟨rfl, hB1⟩; rw [hx])
    go_ret
    exact ⟨rfl, Below.trans (by go_grown) (hB1.mono (by go_size))⟩

set_option maxHeartbeats 2000000 in
set_option maxRecDepth 100000 in
theorem rown_any (t : Talk) (F : Nat → ByteArray × ByteArray) (w : World) (hR : Rowy w (.slice t.A t.n t.cap) t.n 2 (FV F)) :
    Calls Try.prog 12 #[t.val] w fun e w' => e = .returned (.bool (ownF t F)) ∧ Below w.heap.size w w' := by
  have HR := Lib.hid hR
  obtain ⟨p, l, s, A, n, cap, body, te, tr, c, a⟩ := t
  clear hR
  obtain ⟨x, hx⟩ : ∃ x, stF (fst (fv F nStatus n 0)) = x := ⟨_, rfl⟩
  obtain ⟨y, hy⟩ : ∃ y, fst (fv F nLength n 0) = y := ⟨_, rfl⟩
  unfold ownF
  simp only [hx, hy]
  rcases (show x = 502 ∨ x = 503 ∨ x = 504 ∨ (x ≠ 502 ∧ x ≠ 503 ∧ x ≠ 504) by omega) with h | h | h | h
  all_goals
    go_enter Try.func12, Try.ntmps12
    go_wp2_with (first
      | (go_at_call 13; refine (rstatus_any ⟨p, l, s, A, n, cap, body, te, tr, c, a⟩ F _ (HR.out.below (by go_grown) (Nat.le_refl _))).mono ?_; rintro e w1 ⟨rfl, hB1⟩; rw [hx]; have hA1 : Below w.heap.size w w1 := Below.trans (by go_grown) (hB1.mono (by go_size)); have hs1 := hA1.size; obtain ⟨d1, f1⟩ := bcell hB1; have k1 : w.heap.size < w1.heap.size := Nat.lt_of_lt_of_le (by go_simp) hB1.size)
      | (go_at_call 17; refine (rvalue_any ⟨p, l, s, A, n, cap, body, te, tr, c, a⟩ F nLength _ (HR.out.below hA1 (Nat.le_refl _))).mono ?_; rintro e w2 ⟨rfl, hB2⟩; rw [hy]; have hA2 : Below w.heap.size w w2 := Below.trans hA1 (hB2.mono hs1); obtain ⟨d2, f2⟩ := bcell hB2; have k2 : w.heap.size < w2.heap.size := Nat.lt_of_lt_of_le k1 hB2.size))
  all_goals
    go_ret
    refine ⟨?_, by assumption⟩
    simp_all
    try omega
end Go.Proofs.Ytdfaaihoklefmaa
