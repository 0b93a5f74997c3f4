/- LedgerTells. -/
import Derived.Test.YtdfaaihoklefmaaRuns
import Derived.Lib.QuietBelow
import Derived.BigQuiet
namespace Go.Proofs.Ytdfaaihoklefmaa
open Go.ChangeShapes Go.WideShapes Go.ChangeAt Go.RowKit Go.Sort
set_option linter.unusedVariables false
set_option linter.unusedSimpArgs false
theorem status_q (t : Talk) (F : Nat → ByteArray × ByteArray) (v : Int) (h : Hid (stF (fst (fv F nStatus t.n 0)) = v)) (W : World) (hT : Hid (Tok W t F)) (d : Nat) (os : Array Obj) :
    Calls Try.prog 9 #[t.val] (grow (redrawn W d) os) fun e w'' => e = .returned (.int .i64 v) ∧ ∃ p : Regrown, w'' = grow (redrawn W p.d) p.os := by
  have h' := h.out
  subst h'
  exact Calls.regrown_of (status_any t F _ (hT.out.below (below_regrown W d os) (Nat.le_refl _)))
theorem rstatus_q (t : Talk) (F : Nat → ByteArray × ByteArray) (v : Int) (h : Hid (stF (fst (fv F nStatus t.n 0)) = v)) (W : World) (hT : Hid (Tok W t F)) (d : Nat) (os : Array Obj) :
    Calls Try.prog 13 #[t.val] (grow (redrawn W d) os) fun e w'' => e = .returned (.int .i64 v) ∧ ∃ p : Regrown, w'' = grow (redrawn W p.d) p.os := by
  have h' := h.out
  subst h'
  exact Calls.regrown_of (rstatus_any t F _ (hT.out.below (below_regrown W d os) (Nat.le_refl _)))
theorem own_q (t : Talk) (F : Nat → ByteArray × ByteArray) (v : Bool) (h : Hid (ownF t F = v)) (W : World) (hT : Hid (Tok W t F)) (d : Nat) (os : Array Obj) :
    Calls Try.prog 14 #[t.val] (grow (redrawn W d) os) fun e w'' => e = .returned (.bool v) ∧ ∃ p : Regrown, w'' = grow (redrawn W p.d) p.os := by
  have h' := h.out
  subst h'
  exact Calls.regrown_of (own_any t F _ (hT.out.below (below_regrown W d os) (Nat.le_refl _)))
theorem stored_q (t : Talk) (F : Nat → ByteArray × ByteArray) (v : Bool) (h : Hid (storedF t F = v)) (W : World) (hT : Hid (Tok W t F)) (d : Nat) (os : Array Obj) :
    Calls Try.prog 15 #[t.val] (grow (redrawn W d) os) fun e w'' => e = .returned (.bool v) ∧ ∃ p : Regrown, w'' = grow (redrawn W p.d) p.os := by
  have h' := h.out
  subst h'
  exact Calls.regrown_of (stored_any t F _ (hT.out.below (below_regrown W d os) (Nat.le_refl _)))
theorem runs_q (W : World) (d : Nat) (os : Array Obj) :
    Calls Try.prog 3 #[] (grow (redrawn W d) os) fun e w'' => e = .returned (.bool true) ∧ ∃ p : Regrown, w'' = grow (redrawn W p.d) p.os :=
  Calls.regrown_of (runs_any _)

theorem bb_ne {x y : ByteArray} (h : x ≠ y) : (x.toList == y.toList) = false := by
  rw [ByteArray.toList_eq, ByteArray.toList_eq]
  simp
  rintro h'
  apply h
  obtain ⟨dx⟩ := x
  obtain ⟨dn⟩ := y
  simp at h'
  rw [h']
theorem bb_eq {x y : ByteArray} (h : x = y) : (x.toList == y.toList) = true := by subst h; simp
theorem l_via : nVia.toList = [118, 105, 97] := by simp [ByteArray.toList_eq]
theorem l_age : nAge.toList = [97, 103, 101] := by simp [ByteArray.toList_eq]
theorem fv_step (F : Nat → ByteArray × ByteArray) (nm : ByteArray) (n k : Nat) (h : k < n) : fv F nm (n - k) k = if (F k).1 = nm then some (F k).2 else fv F nm (n - (k + 1)) (k + 1) := by
  obtain ⟨f, hf⟩ : ∃ f, n - k = f + 1 := ⟨n - k - 1, by omega⟩
  rw [hf, fv, show n - (k + 1) = f by omega]
/-- What the loop has found from field i on. -/
def Found (F : Nat → ByteArray × ByteArray) (nm : ByteArray) (n i : Nat) (o1 o2 o3 : Option ByteArray) : Prop := fv F nm (n - i) i = o1 ∧ fv F nVia (n - i) i = o2 ∧ fv F nAge (n - i) i = o3
theorem Found.step {F : Nat → ByteArray × ByteArray} {nm : ByteArray} {n k : Nat} {o1 o2 o3 : Option ByteArray} (h : Found F nm n (k + 1) o1 o2 o3) (hk : k < n) :
    Found F nm n k (if (F k).1 = nm then some (F k).2 else o1) (if (F k).1 = nVia then some (F k).2 else o2) (if (F k).1 = nAge then some (F k).2 else o3) := by
  obtain ⟨rfl, rfl, rfl⟩ := h
  exact ⟨fv_step F nm n k hk, fv_step F nVia n k hk, fv_step F nAge n k hk⟩
theorem stored_eq (t : Talk) (F : Nat → ByteArray × ByteArray) (o2 o3 : Option ByteArray) (o : Bool) (h2 : fv F nVia t.n 0 = o2) (h3 : fv F nAge t.n 0 = o3) (ho : ownF t F = o) : storedF t F = (o3.isSome && ((fst o2).toList == tVia.toList) && !o) := by
  unfold storedF
  rw [h2, h3, ho]
theorem fst_none_via : ((fst none).toList == tVia.toList) = false := by simp [fst, ByteArray.toList_eq]

set_option maxHeartbeats 8000000 in
set_option maxRecDepth 100000 in
theorem tells_any (t : Talk) (F : Nat → ByteArray × ByteArray) (name : ByteArray) (w : World) (hR : Rowy w (.slice t.A t.n t.cap) t.n 2 (FV F)) :
    Calls Try.prog 4 #[t.val, .string name] w fun e w' => e = .returned (.bool true) ∧ Below w.heap.size w w' := by
  have HR := Lib.hid hR
  obtain ⟨p, l, s, A, n, cap, body, te, tr, c, a⟩ := t
  obtain ⟨A', cap', he, hlc, hcm, hcell⟩ := hR
  cases he
  have HC := Lib.hid hcell
  clear hcell
  unfold maxLen at hcm
  go_enter Try.func4, Try.ntmps4
  go_wp2_with fail
  refine (light_any A n cap F _ (HR.out.below (by go_grown) (Nat.le_refl _))).mono ?_
  rintro e w1 ⟨⟨bb, rfl⟩, hB1⟩
  have HX1 := (Blk.new w 29 (Talk.cells ⟨p, l, s, A, n, cap, body, te, tr, c, a⟩)).below hB1 (by simp only [World.size_alloc]; omega)
  have hA1 : Below w.heap.size w w1 := Below.trans (by go_grown) (hB1.mono (by simp only [World.size_alloc]; omega))
  have hs1 := hA1.size
  have hl1 := HX1.lt
  cases bb
  · go_wp2_with (go_at_call 3; refine (runs_any _).mono ?_; rintro e w2 ⟨rfl, hB2⟩)
    go_ret
    exact ⟨rfl, hA1.trans (hB2.mono hs1)⟩
  · have x3 : w1.cell? ⟨w.heap.size, 3, none⟩ = some (.slice A n cap) := HX1.cell 3
    have HX := Lib.hid HX1
    clear HX1
    go_wp2_with fail
    go_loopw [5, 6, 7, 8, 9, 10] (fun s5 s6 s7 s8 s9 s10 wr => ∃ (i : Nat) (z : Int) (o1 o2 o3 : Option ByteArray), s10 = .int .i64 z ∧ z + 1 = i ∧ i ≤ n ∧ Hid (Found F name n i o1 o2 o3) ∧ s5 = .string (fst o1) ∧ s6 = .bool o1.isSome ∧ s7 = .string (fst o2) ∧ s8 = .bool o2.isSome ∧ s9 = .bool o3.isSome ∧ Below w1.heap.size w1 wr) (fun _ _ _ _ _ s10 _ => (intOf s10 + 1).toNat)
    case atStart => exact ⟨n, (n : Int) - 1, none, none, none, by go_num, by omega, Nat.le_refl _, Lib.hid (by unfold Found; rw [Nat.sub_self]; exact ⟨rfl, rfl, rfl⟩), rfl, rfl, rfl, rfl, rfl, by go_grown⟩
    case round =>
      obtain ⟨i, z, o1, o2, o3, rfl, hz, hi, hF, rfl, rfl, rfl, rfl, rfl, hB⟩ := hrel
      have hwr := hB.size
      have y3 : wr.cell? ⟨w.heap.size, 3, none⟩ = some (.slice A n cap) := by rw [hB.cell (p := ⟨w.heap.size, 3, none⟩) hl1]; exact x3
      have hl2 : w.heap.size < wr.heap.size := by omega
      by_cases hlt : 0 ≤ z
      · obtain ⟨k, rfl⟩ : ∃ k : Nat, z = k := ⟨z.toNat, by omega⟩
        obtain rfl : i = k + 1 := by omega
        have hkn : k < n := by omega
        have hF' := Lib.hid (hF.out.step hkn)
        clear hF hz
        obtain ⟨b, off, rfl, gb, q⟩ := HC.out (by omega)
        have hgb1 : b < w1.heap.size := by omega
        have e1 : wr.cell? ⟨b, off + k * 2, none⟩ = some (.string (F k).1) := by rw [hB.cell (p := ⟨b, _, none⟩) hgb1, hA1.cell (p := ⟨b, _, none⟩) gb]; simpa [FV] using q k 0 hkn (by omega)
        have e2 : wr.cell? ⟨b, off + k * 2 + 1, none⟩ = some (.string (F k).2) := by rw [hB.cell (p := ⟨b, _, none⟩) hgb1, hA1.cell (p := ⟨b, _, none⟩) gb]; simpa [FV, Nat.add_assoc] using q k 1 hkn (by omega)
        have hki : (k : Int) < (n : Int) := by omega
        have hb1 : b < wr.heap.size := by omega
        clear q
        generalize (F k).1 = x at *
        generalize (F k).2 = y at *
        by_cases h1 : x = name <;> by_cases h2 : x = nVia <;> by_cases h3 : x = nAge <;> cases o3
        all_goals
          first | rw [if_pos h1] at hF' | rw [if_neg h1] at hF'
          first | rw [if_pos h2] at hF' | rw [if_neg h2] at hF'
          first | rw [if_pos h3] at hF' | rw [if_neg h3] at hF'
          first | (have g1 := bb_eq h1) | (have g1 := bb_ne h1)
          first | (have g2 := bb_eq h2) | (have g2 := bb_ne h2)
          first | (have g3 := bb_eq h3) | (have g3 := bb_ne h3)
          rw [l_via] at g2
          rw [l_age] at g3
          clear h1 h2 h3
          first
          | (exfalso; simp_all; done)
          | (go_wp2_with fail
             go_roundw
             case rel => exact ⟨k, (k : Int) - 1, _, _, _, by go_num, by omega, by omega, hF', by simp [fst], by simp, by simp [fst], by simp, by simp, by go_grown⟩
             case measure => simp [intOf])
      · obtain rfl : i = 0 := by omega
        obtain rfl : z = -1 := by omega
        obtain ⟨f1, f2, f3⟩ := hF.out
        clear hF hz hi hlt
        rw [Nat.sub_zero] at f1 f2 f3
        have HXr := (HX.out.below hB hl1)
        have hAr : Below w.heap.size w wr := hA1.trans (hB.mono hs1)
        have hTr : Tok wr ⟨p, l, s, A, n, cap, body, te, tr, c, a⟩ F := HR.out.below hAr (Nat.le_refl _)
        have HTr := Lib.hid hTr
        clear y3 x3 hTr
        have x0 : wr.cell? ⟨w.heap.size, 0, none⟩ = some (.int .i64 p) := HXr.cell 0
        have x1 : wr.cell? ⟨w.heap.size, 1, none⟩ = some (.int .i64 l) := HXr.cell 1
        have x2 : wr.cell? ⟨w.heap.size, 2, none⟩ = some (.int .i64 s) := HXr.cell 2
        have x3 : wr.cell? ⟨w.heap.size, 3, none⟩ = some (.slice A n cap) := HXr.cell 3
        have x4 : wr.cell? ⟨w.heap.size, 4, none⟩ = some (.string body) := HXr.cell 4
        have x5 : wr.cell? ⟨w.heap.size, 5, none⟩ = some (.bool te) := HXr.cell 5
        have x6 : wr.cell? ⟨w.heap.size, 6, none⟩ = some (.bool tr) := HXr.cell 6
        have x7 : wr.cell? ⟨w.heap.size, 7, none⟩ = some (.int .i64 c) := HXr.cell 7
        have x8 : wr.cell? ⟨w.heap.size, 8, none⟩ = some (.int .i64 a) := HXr.cell 8
        obtain ⟨sv, hsv⟩ : ∃ v, stF (fst (fv F nStatus n 0)) = v := ⟨_, rfl⟩
        obtain ⟨o, ho⟩ : ∃ o, ownF ⟨p, l, s, A, n, cap, body, te, tr, c, a⟩ F = o := ⟨_, rfl⟩
        have hst := stored_eq ⟨p, l, s, A, n, cap, body, te, tr, c, a⟩ F o2 o3 o f2 f3 ho
        have HSV := Lib.hid hsv
        have HO := Lib.hid ho
        have F1 := Lib.hid f1
        clear hsv ho f1 f2 f3
        have key : (o3 = none ∧ storedF ⟨p, l, s, A, n, cap, body, te, tr, c, a⟩ F = false) ∨ ((∃ u, o3 = some u) ∧ o2 = none ∧ storedF ⟨p, l, s, A, n, cap, body, te, tr, c, a⟩ F = false) ∨ ((∃ u, o3 = some u) ∧ (∃ v, o2 = some v ∧ ((fst (some v)).toList == [50, 32, 114, 101, 115, 101, 114, 118, 111, 105, 114]) = false) ∧ storedF ⟨p, l, s, A, n, cap, body, te, tr, c, a⟩ F = false) ∨ ((∃ u, o3 = some u) ∧ (∃ v, o2 = some v ∧ ((fst (some v)).toList == [50, 32, 114, 101, 115, 101, 114, 118, 111, 105, 114]) = true) ∧ storedF ⟨p, l, s, A, n, cap, body, te, tr, c, a⟩ F = !o) := by
          rw [hst]
          have hv : tVia.toList = [50, 32, 114, 101, 115, 101, 114, 118, 111, 105, 114] := by simp [ByteArray.toList_eq]
          rw [hv]
          cases o3 with
          | none => exact Or.inl ⟨rfl, by simp⟩
          | some u =>
            cases o2 with
            | none => exact Or.inr (Or.inl ⟨⟨u, rfl⟩, rfl, by simp [fst, ByteArray.toList_eq]⟩)
            | some v =>
              cases hc : ((fst (some v)).toList == [50, 32, 114, 101, 115, 101, 114, 118, 111, 105, 114]) with
              | false => exact Or.inr (Or.inr (Or.inl ⟨⟨u, rfl⟩, ⟨v, rfl, hc⟩, by simp⟩))
              | true => exact Or.inr (Or.inr (Or.inr ⟨⟨u, rfl⟩, ⟨v, rfl, hc⟩, by simp⟩))
        clear hst
        rcases key with ⟨rfl, hst⟩ | ⟨⟨u, rfl⟩, rfl, hst⟩ | ⟨⟨u, rfl⟩, ⟨v, rfl, hc⟩, hst⟩ | ⟨⟨u, rfl⟩, ⟨v, rfl, hc⟩, hst⟩
        all_goals
          have HST := Lib.hid hst
          clear hst
          go_wp2_with (first
            | (go_at_call 11; refine (value_any ⟨p, l, s, A, n, cap, body, te, tr, c, a⟩ F name _ HTr.out).mono ?_; rintro e w2 ⟨rfl, hB2⟩; rw [F1.out]; have hs2 := hB2.size; obtain ⟨d2, g2⟩ := bcell hB2; have HT2 := Lib.hid (HTr.out.below hB2 (by omega)))
            | (go_at_call 12; refine (rown_any ⟨p, l, s, A, n, cap, body, te, tr, c, a⟩ F _ HT2.out).mono ?_; rintro e w3 ⟨rfl, hB3⟩; rw [HO.out]))
          have hA3 : Below w.heap.size w w3 := hAr.trans ((hB2.mono (by omega)).trans (hB3.mono (by omega)))
          have HX3 := (HXr.below hB2 hl2).below hB3 (by omega)
          have HT3 : Hid (Tok w3 ⟨p, l, s, A, n, cap, body, te, tr, c, a⟩ F) := Lib.hid (HT2.out.below hB3 (by omega))
          have y0 := cell_regrown (show w3.cell? ⟨w.heap.size, 0, none⟩ = some (.int .i64 p) from HX3.cell 0)
          have y1 := cell_regrown (show w3.cell? ⟨w.heap.size, 1, none⟩ = some (.int .i64 l) from HX3.cell 1)
          have y2 := cell_regrown (show w3.cell? ⟨w.heap.size, 2, none⟩ = some (.int .i64 s) from HX3.cell 2)
          have y3 := cell_regrown (show w3.cell? ⟨w.heap.size, 3, none⟩ = some (.slice A n cap) from HX3.cell 3)
          have y4 := cell_regrown (show w3.cell? ⟨w.heap.size, 4, none⟩ = some (.string body) from HX3.cell 4)
          have y5 := cell_regrown (show w3.cell? ⟨w.heap.size, 5, none⟩ = some (.bool te) from HX3.cell 5)
          have y6 := cell_regrown (show w3.cell? ⟨w.heap.size, 6, none⟩ = some (.bool tr) from HX3.cell 6)
          have y7 := cell_regrown (show w3.cell? ⟨w.heap.size, 7, none⟩ = some (.int .i64 c) from HX3.cell 7)
          have y8 := cell_regrown (show w3.cell? ⟨w.heap.size, 8, none⟩ = some (.int .i64 a) from HX3.cell 8)
          refine wp_region_quiet_below (by kernel_rfl) (by kernel_rfl) ?_
          repeat (first | go_big_quiet_step (first | exact status_q ⟨p, l, s, A, n, cap, body, te, tr, c, a⟩ F _ HSV _ HT3 _ _ | exact rstatus_q ⟨p, l, s, A, n, cap, body, te, tr, c, a⟩ F _ HSV _ HT3 _ _ | exact own_q ⟨p, l, s, A, n, cap, body, te, tr, c, a⟩ F _ HO _ HT3 _ _ | exact stored_q ⟨p, l, s, A, n, cap, body, te, tr, c, a⟩ F _ HST _ HT3 _ _ | exact runs_q _ _ _) | quiet_step (first | exact status_q ⟨p, l, s, A, n, cap, body, te, tr, c, a⟩ F _ HSV _ HT3 _ _ | exact rstatus_q ⟨p, l, s, A, n, cap, body, te, tr, c, a⟩ F _ HSV _ HT3 _ _ | exact own_q ⟨p, l, s, A, n, cap, body, te, tr, c, a⟩ F _ HO _ HT3 _ _ | exact stored_q ⟨p, l, s, A, n, cap, body, te, tr, c, a⟩ F _ HST _ HT3 _ _ | exact runs_q _ _ _))
          refine wpQuiet_nil ?_
          intro W2 hW2
          obtain ⟨⟨dq, osq⟩, rfl⟩ := hW2
          have hBq := below_regrown w3 dq osq
          have hBs := hA3.size
          go_wp2
          go_ret
          exact ⟨rfl, hA3.trans (hBq.mono hBs)⟩
end Go.Proofs.Ytdfaaihoklefmaa
