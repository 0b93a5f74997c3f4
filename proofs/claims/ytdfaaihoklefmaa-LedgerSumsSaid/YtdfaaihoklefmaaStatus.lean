/- Package ledger: Status. -/
import Derived.Test.YtdfaaihoklefmaaKit
namespace Go.Proofs.Ytdfaaihoklefmaa
open Go.ChangeShapes Go.WideShapes Go.ChangeAt Go.RowKit
set_option linter.unusedVariables false
set_option linter.unusedSimpArgs false

/-- Byte i of a text. -/
def bt (s : ByteArray) (i : Nat) : Int := if h : i < s.size then ((s[i]'h).toNat : Int) else 0
theorem bt_get (s : ByteArray) (i : Nat) (h : i < s.size) : bt s i = ((s[i]'h).toNat : Int) := by unfold bt; rw [dif_pos h]
theorem bt_lo (s : ByteArray) (i : Nat) : 0 ≤ bt s i := by unfold bt; split <;> omega
theorem bt_hi (s : ByteArray) (i : Nat) : bt s i ≤ 255 := by
  unfold bt
  split
  · have := (s[i]).toNat_lt; omega
  · omega
abbrev nStatus : ByteArray := ⟨#[58, 115, 116, 97, 116, 117, 115]⟩
def dgt (x : Int) : Prop := 48 ≤ x ∧ x ≤ 57
instance (x : Int) : Decidable (dgt x) := by unfold dgt; infer_instance
def sn (b : Nat → Int) : Nat → Int
  | 0 => 0
  | i + 1 => 10 * sn b i + (b i - 48)
/-- The status that a text tells. -/
def stF (s : ByteArray) : Int := if s.size = 3 ∧ dgt (bt s 0) ∧ dgt (bt s 1) ∧ dgt (bt s 2) then 100 * (bt s 0 - 48) + 10 * (bt s 1 - 48) + (bt s 2 - 48) else 0

set_option maxHeartbeats 2000000 in
set_option maxRecDepth 100000 in
theorem status_any (t : Talk) (F : Nat → ByteArray × ByteArray) (w : World) (hR : Rowy w (.slice t.A t.n t.cap) t.n 2 (FV F)) :
    Calls Try.prog 9 #[t.val] w fun e w' => e = .returned (.int .i64 (stF (fst (fv F nStatus t.n 0)))) ∧ Below w.heap.size w w' := by
  have HR := Lib.hid hR
  obtain ⟨p, l, s, A, n, cap, body, te, tr, c, a⟩ := t
  clear hR
  obtain ⟨x, hx⟩ : ∃ x, fst (fv F nStatus n 0) = x := ⟨_, rfl⟩
  generalize hres : stF (fst (fv F nStatus n 0)) = res
  rw [hx] at hres
  have e0 : (fun i => bt x i) = bt x := rfl
  by_cases hs : x.size = 3
  · have hs' : (x.size : Int) = 3 := by omega
    have f0 : ((x[0]'(by omega)).toNat : Int) = bt x 0 := (bt_get x 0 (by omega)).symm
    have f1 : ((x[1]'(by omega)).toNat : Int) = bt x 1 := (bt_get x 1 (by omega)).symm
    have f2 : ((x[2]'(by omega)).toNat : Int) = bt x 2 := (bt_get x 2 (by omega)).symm
    have l0 := bt_lo x 0
    have u0 := bt_hi x 0
    have l1 := bt_lo x 1
    have u1 := bt_hi x 1
    have l2 := bt_lo x 2
    have u2 := bt_hi x 2
    go_enter Try.func9, Try.ntmps9
    go_wp2_with (go_at_call 11; refine (value_any ⟨p, l, s, A, n, cap, body, te, tr, c, a⟩ F nStatus _ (HR.out.below (by go_grown) (Nat.le_refl _))).mono ?_; rintro e w1 ⟨rfl, hB1⟩; rw [hx])
    have hw1 := hB1.size
    have hA1 : Below w.heap.size w w1 := Below.trans (by go_grown) (hB1.mono (by go_size))
    clear hB1
    go_loopw [5, 17] (fun s5 s17 wr => ∃ (i : Nat) (v : Int), s17 = .int .i64 i ∧ i ≤ 3 ∧ s5 = .int .i64 v ∧ v = sn (bt x) i ∧ 0 ≤ v ∧ v < 10 ^ i ∧ Hid (∀ q, q < i → dgt (bt x q)) ∧ Below w.heap.size w wr) (fun _ s17 _ => 3 - (intOf s17).toNat)
    case atStart => exact ⟨0, 0, rfl, by omega, rfl, rfl, by omega, by omega, Lib.hid fun q hq => absurd hq (Nat.not_lt_zero _), hA1⟩
    case round =>
      obtain ⟨i, v, rfl, hi, rfl, hv, v0, v1, hd, hB⟩ := hrel
      by_cases hlt : i < 3
      · have hlti : (i : Int) < 3 := by omega
        rcases (show i = 0 ∨ i = 1 ∨ i = 2 by omega) with rfl | rfl | rfl
        · have hbad : ¬ dgt (bt x 0) → res = 0 := fun h => by rw [← hres, stF, if_neg (fun h' => h h'.2.1)]
          have hsn : sn (bt x) 1 = 10 * v + (bt x 0 - 48) := by rw [hv]; rfl
          have hdd : dgt (bt x 0) → ∀ q, q < 1 → dgt (bt x q) := fun h q hq => by
            rcases Nat.lt_or_ge q 0 with h' | h'
            · exact hd.out q h'
            · obtain rfl : q = 0 := by omega
              exact h
          have HDD := Lib.hid hdd
          clear hv hdd
          simp at v1
          generalize hb : bt x 0 = d at *
          by_cases hdg : dgt d
          · have hd1 : ¬ d < 48 := by unfold dgt at hdg; omega
            have hd2 : ¬ 57 < d := by unfold dgt at hdg; omega
            have hw : IntKind.u8.wrap (d - 48) = d - 48 := by simp [IntKind.wrap, IntKind.bits, IntKind.signed]; omega
            have hdn := Lib.hid (HDD.out hdg)
            clear hbad
            go_wp2_with fail
            go_roundw
            case rel => exact ⟨1, 10 * v + (d - 48), by go_num, by omega, by go_num, hsn.symm, by omega, by omega, hdn, hB⟩
            case measure => simp [intOf]
          · obtain rfl := hbad hdg
            rcases (show d < 48 ∨ (¬ d < 48 ∧ 57 < d) by unfold dgt at hdg; omega) with h | ⟨h, h'⟩ <;>
            · go_wp2_with fail
              go_ret
              exact ⟨rfl, hB⟩
        · have hbad : ¬ dgt (bt x 1) → res = 0 := fun h => by rw [← hres, stF, if_neg (fun h' => h h'.2.2.1)]
          have hsn : sn (bt x) 2 = 10 * v + (bt x 1 - 48) := by rw [hv]; rfl
          have hdd : dgt (bt x 1) → ∀ q, q < 2 → dgt (bt x q) := fun h q hq => by
            rcases Nat.lt_or_ge q 1 with h' | h'
            · exact hd.out q h'
            · obtain rfl : q = 1 := by omega
              exact h
          have HDD := Lib.hid hdd
          clear hv hdd
          simp at v1
          generalize hb : bt x 1 = d at *
          by_cases hdg : dgt d
          · have hd1 : ¬ d < 48 := by unfold dgt at hdg; omega
            have hd2 : ¬ 57 < d := by unfold dgt at hdg; omega
            have hw : IntKind.u8.wrap (d - 48) = d - 48 := by simp [IntKind.wrap, IntKind.bits, IntKind.signed]; omega
            have hdn := Lib.hid (HDD.out hdg)
            clear hbad
            go_wp2_with fail
            go_roundw
            case rel => exact ⟨2, 10 * v + (d - 48), by go_num, by omega, by go_num, hsn.symm, by omega, by omega, hdn, hB⟩
            case measure => simp [intOf]
          · obtain rfl := hbad hdg
            rcases (show d < 48 ∨ (¬ d < 48 ∧ 57 < d) by unfold dgt at hdg; omega) with h | ⟨h, h'⟩ <;>
            · go_wp2_with fail
              go_ret
              exact ⟨rfl, hB⟩
        · have hbad : ¬ dgt (bt x 2) → res = 0 := fun h => by rw [← hres, stF, if_neg (fun h' => h h'.2.2.2)]
          have hsn : sn (bt x) 3 = 10 * v + (bt x 2 - 48) := by rw [hv]; rfl
          have hdd : dgt (bt x 2) → ∀ q, q < 3 → dgt (bt x q) := fun h q hq => by
            rcases Nat.lt_or_ge q 2 with h' | h'
            · exact hd.out q h'
            · obtain rfl : q = 2 := by omega
              exact h
          have HDD := Lib.hid hdd
          clear hv hdd
          simp at v1
          generalize hb : bt x 2 = d at *
          by_cases hdg : dgt d
          · have hd1 : ¬ d < 48 := by unfold dgt at hdg; omega
            have hd2 : ¬ 57 < d := by unfold dgt at hdg; omega
            have hw : IntKind.u8.wrap (d - 48) = d - 48 := by simp [IntKind.wrap, IntKind.bits, IntKind.signed]; omega
            have hdn := Lib.hid (HDD.out hdg)
            clear hbad
            go_wp2_with fail
            go_roundw
            case rel => exact ⟨3, 10 * v + (d - 48), by go_num, by omega, by go_num, hsn.symm, by omega, by omega, hdn, hB⟩
            case measure => simp [intOf]
          · obtain rfl := hbad hdg
            rcases (show d < 48 ∨ (¬ d < 48 ∧ 57 < d) by unfold dgt at hdg; omega) with h | ⟨h, h'⟩ <;>
            · go_wp2_with fail
              go_ret
              exact ⟨rfl, hB⟩
      · obtain rfl : i = 3 := by omega
        have hr : res = v := by
          rw [← hres, stF, if_pos ⟨hs, hd.out 0 (by omega), hd.out 1 (by omega), hd.out 2 (by omega)⟩, hv]
          simp only [sn]
          omega
        subst hr
        clear hv
        have hlti : ¬ (3 : Int) < 3 := by omega
        go_wp2_with fail
        go_ret
        exact ⟨rfl, hB⟩
  · have hs' : ¬ (x.size : Int) = 3 := by omega
    rw [stF, if_neg (fun h => hs h.1)] at hres
    subst hres
    go_enter Try.func9, Try.ntmps9
    go_wp2_with (go_at_call 11; refine (value_any ⟨p, l, s, A, n, cap, body, te, tr, c, a⟩ F nStatus _ (HR.out.below (by go_grown) (Nat.le_refl _))).mono ?_; rintro e w1 ⟨rfl, hB1⟩; rw [hx])
    go_ret
    exact ⟨rfl, Below.trans (by go_grown) (hB1.mono (by go_size))⟩
end Go.Proofs.Ytdfaaihoklefmaa
