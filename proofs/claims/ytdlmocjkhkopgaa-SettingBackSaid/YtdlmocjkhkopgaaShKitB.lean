/- The shapes, turned from w10: small functions. -/
import Derived.Test.YtdlmocjkhkopgaaShMem
namespace Go.Proofs.Ytdlmocjkhkopgaa.Sh
open Go.ChangeShapes Go.WideShapes Go.ChangeAt Go.RowKit
set_option linter.unusedVariables false
set_option linter.unusedSimpArgs false

theorem below_self (w : World) (o : Obj) : Below w.heap.size w (w.alloc o) := (Below.refl _ _).alloc (Nat.le_refl _) o
theorem el22 : Try.prog.elem 33 = 5 := by kernel_rfl
theorem und22 : Try.prog.underlying 33 = some (.slice (Try.prog.elem 33)) := by rw [el22]; exact Try.underlying33
theorem run_from {w : World} {A : Option Addr} {n cap : Nat} {L : List Int} (h : BS w (.slice A n cap) L) (k : Nat) (hk : k ≤ L.length) :
    ∃ A' n' c', (∀ w2, (Instr.sliceAt 33 (.slice A n cap) (some (.int .i64 (k : Int))) none none).run Try.prog w2 = .ok (.slice A' n' c') w2) ∧ BS w (.slice A' n' c') (L.drop k) := by
  obtain ⟨A', cap', he, h2, h3, hc⟩ := h
  cases he
  refine ⟨if cap = k then A else A.map (·.add (k * 1)), L.length - k, cap - k, fun w2 => ?_, ?_⟩
  · have := run_slice_l (P := Try.prog) (w := w2) 33 A L.length cap und22 .i64 (k : Int) (by omega) (by omega)
    rw [run_sliceAt_slice (P := Try.prog) (w := w2) 33 _ _ _ _ und22, this]
    have e : (sizeOf (Try.prog.elem 33)).run Try.prog w2 = .ok 1 w2 := by
      rw [el22]
      cases hq : Try.prog.info? 5 with
      | none => have := info5; simp [hq] at this
      | some i => have h5 := info5; simp [hq] at h5; simp [sizeOf, typeInfo, hq, h5.2.1]
    rw [e]
    simp [Result.andThen, sliced]
  · have e : (L.drop k).length = L.length - k := by simp
    refine ⟨_, _, by rw [e], by omega, by omega, fun hn => ?_⟩
    rw [e] at hn
    obtain ⟨b, off, hb, hlt, hq⟩ := hc (by omega)
    subst hb
    rw [if_neg (by omega)]
    refine ⟨b, off + k, by simp [Addr.add], hlt, fun i j hi hj => ?_⟩
    obtain rfl : j = 0 := by omega
    have := hq (i + k) 0 (by omega) (by omega)
    rw [show off + k + (i * 1 + 0) = off + ((i + k) * 1 + 0) by omega, this]
    show some (Value.int .u8 (L.getD (i + k) 0)) = some (Value.int .u8 ((L.drop k).getD i 0))
    rw [List.getD_eq_getElem?_getD, List.getD_eq_getElem?_getD, List.getElem?_drop, Nat.add_comm]
theorem run_fromI {w : World} {A : Option Addr} {n cap : Nat} {L : List Int} (h : BS w (.slice A n cap) L) (k : Int) (h0 : 0 ≤ k) (hk : k ≤ L.length) :
    ∃ A' n' c', (∀ w2, (Instr.sliceAt 33 (.slice A n cap) (some (.int .i64 k)) none none).run Try.prog w2 = .ok (.slice A' n' c') w2) ∧ BS w (.slice A' n' c') (L.drop k.toNat) := by
  obtain ⟨j, rfl⟩ := Int.eq_ofNat_of_zero_le h0
  exact run_from h j (by omega)
theorem run_to {w : World} {A : Option Addr} {n cap : Nat} {L : List Int} (h : BS w (.slice A n cap) L) (m : Int) (h0 : 0 ≤ m) (hm : m ≤ L.length) :
    ∃ A' n' c', (∀ w2, (Instr.sliceAt 33 (.slice A n cap) none (some (.int .i64 m)) none).run Try.prog w2 = .ok (.slice A' n' c') w2) ∧ BS w (.slice A' n' c') (L.take m.toNat) := by
  obtain ⟨k, rfl⟩ := Int.eq_ofNat_of_zero_le h0
  have hB := bs_take h (m := k) (by omega)
  obtain ⟨A', cap', he, h2, h3, hc⟩ := h
  cases he
  refine ⟨A, k, cap, fun w2 => ?_, hB⟩
  have := run_slice_h (P := Try.prog) (w := w2) 33 A L.length cap und22 .i64 (k : Int) (by omega) (by omega)
  rw [run_sliceAt_slice (P := Try.prog) (w := w2) 33 _ _ _ _ und22, this]
  have e : (sizeOf (Try.prog.elem 33)).run Try.prog w2 = .ok 1 w2 := by
    rw [el22]
    cases hq : Try.prog.info? 5 with
    | none => have := info5; simp [hq] at this
    | some i => have h5 := info5; simp [hq] at h5; simp [sizeOf, typeInfo, hq, h5.2.1]
  rw [e]
  have e0 : A.map (·.add (0 * 1)) = A := by cases A <;> simp [Addr.add]
  simp [Result.andThen, sliced]
  intro _
  simpa using e0
/-- A bytes' copy of the call's own. -/
theorem copied_any (v : Value) (L : List Int) (w : World) (hR : BS w v L) (hn : L.length ≤ 1099511627776) :
    Calls Try.prog 30 #[v] w fun e w' => (∃ v', e = .returned v' ∧ w'.ownsRow w.heap.size 5 1 v' L.length (bv L)) ∧ Below w.heap.size w w' := by
  have HR := Lib.hid hR
  obtain ⟨A, cap, rfl, hk, hm, -⟩ := hR
  obtain ⟨i0, hi, hz0, hz1, hz2⟩ := info_parts info5
  have HS := Lib.hid (bs_src HR.out)
  go_enter Try.func30, Try.ntmps30
  go_wp2_with (at_builtin
               refine wpList_append_src rfl _ _ 33 rfl w.heap.size 5 i0 _ 1 1 Try.underlying33 hi hz0 hz1 hz2 rfl (by decide) (.slice none 0 0) 0 [] rfl (World.ownsRow_nil _ _ _ _) A L.length cap (bv L) rfl HS.out.2.1 (by rw [bv_len, Nat.mul_one]) HS.out.2.2 (bv_one _) ?a4 ?a5 (Nat.le_refl _) ?_
               (case a4 => unfold maxLen; omega)
               (case a5 => omega)
               intro va wa hown1 hg1
               simp only [Nat.zero_add, List.nil_append] at hown1
               have hBa : Below w.heap.size w wa := (Below.refl _ _).grown hg1 (Nat.le_refl _) (by intro g hg; simp [Value.ownBlock] at hg)
               clear hg1)
  go_ret
  exact ⟨⟨_, rfl, hown1⟩, hBa⟩
theorem conn_any (c : Int) (w : World) : Calls Try.prog 24 #[.int .i64 c] w fun e w' => e = .returned (.agg #[.int .i64 2, .int .i64 c, .int .i64 0]) ∧ Below w.heap.size w w' := by
  go_enter Try.func24, Try.ntmps24
  go_wp2
  exact bodyPost_ret (v := .agg #[.int .i64 2, .int .i64 c, .int .i64 0]) (by simp [results, Try.results24, go_sem]) rfl ⟨rfl, by go_grown⟩
theorem stream_any (c s : Int) (w : World) : Calls Try.prog 34 #[.int .i64 c, .int .i64 s] w fun e w' => e = .returned (.agg #[.int .i64 1, .int .i64 c, .int .i64 s]) ∧ Below w.heap.size w w' := by
  go_enter Try.func34, Try.ntmps34
  go_wp2
  exact bodyPost_ret (v := .agg #[.int .i64 1, .int .i64 c, .int .i64 s]) (by simp [results, Try.results34, go_sem]) rfl ⟨rfl, by go_grown⟩
abbrev zP : Array Value := #[.int .i64 0, .int .i64 0, .bool false, .bool false, .bool false, .slice none 0 0, .int .i64 0, .int .i64 0, .int .i64 0, .int .i64 0, .slice none 0 0]
/-- 'within'. -/
theorem within_yes (n lo hi : Int) (w : World) (h1 : lo ≤ n) (h2 : n ≤ hi) : Calls Try.prog 21 #[.int .i64 n, .int .i64 lo, .int .i64 hi] w fun e w' => e = .returned (.bool true) ∧ w = w' := by
  go_enter Try.func21, Try.ntmps21
  go_wp2
  go_ret
  exact ⟨rfl, rfl⟩
theorem within_lo (n lo hi : Int) (w : World) (h1 : n < lo) : Calls Try.prog 21 #[.int .i64 n, .int .i64 lo, .int .i64 hi] w fun e w' => e = .returned (.bool false) ∧ w = w' := by
  have h1' : ¬ lo ≤ n := by omega
  go_enter Try.func21, Try.ntmps21
  go_wp2
  go_ret
  exact ⟨rfl, rfl⟩
theorem within_hi (n lo hi : Int) (w : World) (h1 : lo ≤ n) (h2 : hi < n) : Calls Try.prog 21 #[.int .i64 n, .int .i64 lo, .int .i64 hi] w fun e w' => e = .returned (.bool false) ∧ w = w' := by
  have h2' : ¬ n ≤ hi := by omega
  go_enter Try.func21, Try.ntmps21
  go_wp2
  go_ret
  exact ⟨rfl, rfl⟩
/-- Why a setting can't be. -/
def svalue (id v : Int) : Int := if id = 2 ∧ ¬ (0 ≤ v ∧ v ≤ 1) then 1 else if id = 4 ∧ ¬ (0 ≤ v ∧ v ≤ 2147483647) then 3 else if id = 5 ∧ ¬ (16384 ≤ v ∧ v ≤ 16777215) then 1 else 0
theorem svalue_ways (id v : Int) : (id = 2 ∧ v < 0 ∧ svalue id v = 1) ∨ (id = 2 ∧ 0 ≤ v ∧ 1 < v ∧ svalue id v = 1) ∨ (id = 2 ∧ 0 ≤ v ∧ v ≤ 1 ∧ svalue id v = 0) ∨ (id = 4 ∧ v < 0 ∧ svalue id v = 3) ∨ (id = 4 ∧ 0 ≤ v ∧ 2147483647 < v ∧ svalue id v = 3) ∨ (id = 4 ∧ 0 ≤ v ∧ v ≤ 2147483647 ∧ svalue id v = 0) ∨ (id = 5 ∧ v < 16384 ∧ svalue id v = 1) ∨ (id = 5 ∧ 16384 ≤ v ∧ 16777215 < v ∧ svalue id v = 1) ∨ (id = 5 ∧ 16384 ≤ v ∧ v ≤ 16777215 ∧ svalue id v = 0) ∨ (id ≠ 2 ∧ id ≠ 4 ∧ id ≠ 5 ∧ svalue id v = 0) := by
  have a1 : ∀ v, ¬ (0 ≤ v ∧ v ≤ 1) → svalue 2 v = 1 := fun v h => by unfold svalue; rw [if_pos ⟨rfl, h⟩]
  have a2 : ∀ v, (0 ≤ v ∧ v ≤ 1) → svalue 2 v = 0 := fun v h => by unfold svalue; rw [if_neg (fun h' => h'.2 h), if_neg (fun h' => by have := h'.1; omega), if_neg (fun h' => by have := h'.1; omega)]
  have a3 : ∀ v, ¬ (0 ≤ v ∧ v ≤ 2147483647) → svalue 4 v = 3 := fun v h => by unfold svalue; rw [if_neg (fun h' => by have := h'.1; omega), if_pos ⟨rfl, h⟩]
  have a4 : ∀ v, (0 ≤ v ∧ v ≤ 2147483647) → svalue 4 v = 0 := fun v h => by unfold svalue; rw [if_neg (fun h' => by have := h'.1; omega), if_neg (fun h' => h'.2 h), if_neg (fun h' => by have := h'.1; omega)]
  have a5 : ∀ v, ¬ (16384 ≤ v ∧ v ≤ 16777215) → svalue 5 v = 1 := fun v h => by unfold svalue; rw [if_neg (fun h' => by have := h'.1; omega), if_neg (fun h' => by have := h'.1; omega), if_pos ⟨rfl, h⟩]
  have a6 : ∀ v, (16384 ≤ v ∧ v ≤ 16777215) → svalue 5 v = 0 := fun v h => by unfold svalue; rw [if_neg (fun h' => by have := h'.1; omega), if_neg (fun h' => by have := h'.1; omega), if_neg (fun h' => h'.2 h)]
  by_cases i2 : id = 2
  · subst i2
    rcases (show v < 0 ∨ (0 ≤ v ∧ 1 < v) ∨ (0 ≤ v ∧ v ≤ 1) by omega) with h | h | h
    · exact Or.inl ⟨rfl, h, a1 v (by omega)⟩
    · exact Or.inr (Or.inl ⟨rfl, h.1, h.2, a1 v (by omega)⟩)
    · exact Or.inr (Or.inr (Or.inl ⟨rfl, h.1, h.2, a2 v h⟩))
  · by_cases i4 : id = 4
    · subst i4
      rcases (show v < 0 ∨ (0 ≤ v ∧ 2147483647 < v) ∨ (0 ≤ v ∧ v ≤ 2147483647) by omega) with h | h | h
      · exact Or.inr (Or.inr (Or.inr (Or.inl ⟨rfl, h, a3 v (by omega)⟩)))
      · exact Or.inr (Or.inr (Or.inr (Or.inr (Or.inl ⟨rfl, h.1, h.2, a3 v (by omega)⟩))))
      · exact Or.inr (Or.inr (Or.inr (Or.inr (Or.inr (Or.inl ⟨rfl, h.1, h.2, a4 v h⟩)))))
    · by_cases i5 : id = 5
      · subst i5
        rcases (show v < 16384 ∨ (16384 ≤ v ∧ 16777215 < v) ∨ (16384 ≤ v ∧ v ≤ 16777215) by omega) with h | h | h
        · exact Or.inr (Or.inr (Or.inr (Or.inr (Or.inr (Or.inr (Or.inl ⟨rfl, h, a5 v (by omega)⟩))))))
        · exact Or.inr (Or.inr (Or.inr (Or.inr (Or.inr (Or.inr (Or.inr (Or.inl ⟨rfl, h.1, h.2, a5 v (by omega)⟩)))))))
        · exact Or.inr (Or.inr (Or.inr (Or.inr (Or.inr (Or.inr (Or.inr (Or.inr (Or.inl ⟨rfl, h.1, h.2, a6 v h⟩))))))))
      · refine Or.inr (Or.inr (Or.inr (Or.inr (Or.inr (Or.inr (Or.inr (Or.inr (Or.inr ⟨i2, i4, i5, ?_⟩))))))))
        unfold svalue
        rw [if_neg (fun h => i2 h.1), if_neg (fun h => i4 h.1), if_neg (fun h => i5 h.1)]
def rightB (ty fl st : Int) (n : Nat) : Bool := decide ((0 ≤ ty ∧ ty ≤ 255) ∧ (0 ≤ fl ∧ fl ≤ 255) ∧ (0 ≤ st ∧ st ≤ 2147483647) ∧ (n : Int) ≤ 16777215)
set_option maxHeartbeats 2000000 in
set_option maxRecDepth 100000 in
theorem value_any (id v : Int) (w : World) :
    Calls Try.prog 11 #[.agg #[.int .i64 id, .int .i64 v]] w fun e w' => e = .returned (.int .i64 (svalue id v)) ∧ Below w.heap.size w w' := by
  obtain ⟨r, hr⟩ : ∃ r, svalue id v = r := ⟨_, rfl⟩
  have HR := Lib.hid hr
  rw [hr]
  clear hr
  have hw := svalue_ways id v
  rw [HR.out] at hw
  clear HR
  rcases hw with ⟨rfl, g1, rfl⟩ | ⟨rfl, g1, g2, rfl⟩ | ⟨rfl, g1, g2, rfl⟩ | ⟨rfl, g1, rfl⟩ | ⟨rfl, g1, g2, rfl⟩ | ⟨rfl, g1, g2, rfl⟩ | ⟨rfl, g1, rfl⟩ | ⟨rfl, g1, g2, rfl⟩ | ⟨rfl, g1, g2, rfl⟩ | ⟨i2, i4, i5, rfl⟩
  all_goals
    first
    | (have j2 : (id == 2) = false := by simpa using i2
       have j4 : (id == 4) = false := by simpa using i4
       have j5 : (id == 5) = false := by simpa using i5
       clear i2 i4 i5)
    | skip
    go_enter Try.func11, Try.ntmps11
    go_wp2_with (first | (go_at_call 21; refine (within_yes _ _ _ _ (by omega) (by omega)).mono ?_; rintro e w1 ⟨rfl, rfl⟩) | (go_at_call 21; refine (within_lo _ _ _ _ (by omega)).mono ?_; rintro e w1 ⟨rfl, rfl⟩) | (go_at_call 21; refine (within_hi _ _ _ _ (by omega) (by omega)).mono ?_; rintro e w1 ⟨rfl, rfl⟩))
    go_ret
    exact ⟨rfl, by go_grown⟩
set_option maxHeartbeats 1000000 in
set_option maxRecDepth 100000 in
theorem right_any (ty fl st : Int) (A : Option Addr) (n cap : Nat) (w : World) :
    Calls Try.prog 22 #[.agg #[.int .i64 ty, .int .i64 fl, .int .i64 st, .slice A n cap]] w fun e w' => e = .returned (.bool (rightB ty fl st n)) ∧ Below w.heap.size w w' := by
  obtain ⟨r, hr⟩ : ∃ r, rightB ty fl st n = r := ⟨_, rfl⟩
  have HR := Lib.hid hr
  rw [hr]
  clear hr
  have hv : r = decide ((0 ≤ ty ∧ ty ≤ 255) ∧ (0 ≤ fl ∧ fl ≤ 255) ∧ (0 ≤ st ∧ st ≤ 2147483647) ∧ (n : Int) ≤ 16777215) := HR.out.symm
  clear HR
  rcases (show (¬ (0 ≤ ty)) ∨ ((0 ≤ ty) ∧ ¬ (ty ≤ 255)) ∨ ((0 ≤ ty) ∧ (ty ≤ 255) ∧ ¬ (0 ≤ fl)) ∨ ((0 ≤ ty) ∧ (ty ≤ 255) ∧ (0 ≤ fl) ∧ ¬ (fl ≤ 255)) ∨ ((0 ≤ ty) ∧ (ty ≤ 255) ∧ (0 ≤ fl) ∧ (fl ≤ 255) ∧ ¬ (0 ≤ st)) ∨ ((0 ≤ ty) ∧ (ty ≤ 255) ∧ (0 ≤ fl) ∧ (fl ≤ 255) ∧ (0 ≤ st) ∧ ¬ (st ≤ 2147483647)) ∨ ((0 ≤ ty) ∧ (ty ≤ 255) ∧ (0 ≤ fl) ∧ (fl ≤ 255) ∧ (0 ≤ st) ∧ (st ≤ 2147483647) ∧ ¬ ((n : Int) ≤ 16777215)) ∨ ((0 ≤ ty) ∧ (ty ≤ 255) ∧ (0 ≤ fl) ∧ (fl ≤ 255) ∧ (0 ≤ st) ∧ (st ≤ 2147483647) ∧ ((n : Int) ≤ 16777215)) by omega) with g0 | ⟨g0, g1⟩ | ⟨g0, g1, g2⟩ | ⟨g0, g1, g2, g3⟩ | ⟨g0, g1, g2, g3, g4⟩ | ⟨g0, g1, g2, g3, g4, g5⟩ | ⟨g0, g1, g2, g3, g4, g5, g6⟩ | ⟨g0, g1, g2, g3, g4, g5, g6⟩
  iterate 7
    · obtain rfl : r = false := hv.trans (decide_eq_false (by omega))
      clear hv
      go_enter Try.func22, Try.ntmps22
      go_wp2_with fail
      go_ret
      exact ⟨rfl, by go_grown⟩
  · obtain rfl : r = true := hv.trans (decide_eq_true (by omega))
    clear hv
    go_enter Try.func22, Try.ntmps22
    go_wp2_with fail
    go_ret
    exact ⟨rfl, by go_grown⟩

end Go.Proofs.Ytdlmocjkhkopgaa.Sh
