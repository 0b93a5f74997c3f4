/- WindowLeast: of any windows, and any number, the least. -/
import Derived.Test.YthkkdhjippnkfaaRuns
import Derived.Test.YthkkdhjippnkfaaOpen
import Derived.Deep.Cut
namespace Go.Proofs.Ythkkdhjippnkfaa
open Go.ChangeShapes Go.WideShapes Go.ChangeAt Go.RowKit
set_option linter.unusedVariables false

def wl (Z : Nat → Int) (i : Nat) : Int := if i % 3 = 2 then wit (Z i) 0 2147483647 + 0 - 2147483647 else wit (Z i) 0 2147483647
def wls (Z : Nat → Int) (k : Nat) : List Int := (List.range k).map (wl Z)
theorem wls_succ (Z : Nat → Int) (k : Nat) : wls Z (k + 1) = wls Z k ++ [wl Z k] := by simp [wls, List.range_succ]
theorem wls_len (Z : Nat → Int) (k : Nat) : (wls Z k).length = k := by simp [wls]
theorem least_snoc (n : Int) (l : List Int) (x : Int) : leastOfAll n (l ++ [x]) = min (leastOfAll n l) x := by simp [leastOfAll, List.foldl_append]
theorem min_le_max (a b : Int) : min a b ≤ max a b := by omega
def ints (l : List Int) : List Value := l.map (Value.int .i64)
theorem ints_snoc (l : List Int) (x : Int) : ints l ++ [.int .i64 x] = ints (l ++ [x]) := by simp [ints]

theorem least_row (n : Int) (v : Value) (k B : Nat) (ls : List Int) (w : World) (hk : k ≤ 20) (hl : ls.length = k) (h : w.ownsRow B 23 1 v k (ints ls)) :
    Calls Try.prog 15 #[.int .i64 n, v] w fun e w' => e = .returned (.int .i64 (max (leastOfAll n ls) 0)) ∧ Below w.heap.size w w' := by
  have hlt := h.lt
  rcases h.2 with ⟨rfl, rfl⟩ | ⟨g, cap, cur, rfl, hB, hh, hkc, hm, hs, ht⟩
  · have : ls = [] := List.eq_nil_of_length_eq_zero hl
    subst this
    exact least_none n none 0 w
  · subst hl
    refine least_any n g 0 cap ls w (by omega) (fun j hj => ?_) (hlt g rfl).2
    have := h.cellAt j (by omega)
    rw [Nat.zero_add, this]
    simp [ints, List.getD, List.getElem?_eq_getElem hj]

theorem info23 : (Try.prog.info? 23).map (fun i => (i.zero, i.size, i.bytes)) = some (some (.agg #[.int .i64 0]), 1, 8) := by kernel_rfl

set_option maxHeartbeats 1000000 in
set_option maxRecDepth 100000 in
theorem leastlaw_any (n : Int) (v : Value) (len : Nat) (Z : Nat → Int) (w : World) (hR : Rowy w v len 1 (fun i _ => .int .i64 (Z i))) (hZ : ∀ i, -9223372036854775808 ≤ Z i ∧ Z i ≤ 9223372036854775807) :
    Calls Try.prog 6 #[.int .i64 n, v] w fun e w' => e = .returned (.bool true) ∧ Below w.heap.size w w' := by
  obtain ⟨A, cap, rfl, hlc, hcm, hcell⟩ := hR
  unfold maxLen at hcm
  have HC := Lib.hid hcell
  have HZ := Lib.hid hZ
  clear hcell hZ
  obtain ⟨i0, hi, hz0, hz1, hz2⟩ := info_parts info23
  have hlen : len ≤ 9223372036854775807 := by omega
  go_enter Try.func6, Try.ntmps6
  go_wp2
  go_loopw [5, 6, 7] (fun ws want i wr => ∃ k : Nat, k ≤ len ∧ k ≤ 20 ∧ i = .int .i64 k ∧ want = .int .i64 (leastOfAll n (wls Z k)) ∧ wr.ownsRow w.heap.size 23 1 ws k (ints (wls Z k)) ∧ Below w.heap.size w wr) (fun _ _ i _ => 20 - (intOf i).toNat)
  case atStart => exact ⟨0, Nat.zero_le _, Nat.zero_le _, rfl, rfl, World.ownsRow_nil _ _ _ _, Below.refl _ _⟩
  case round =>
    obtain ⟨k, hk, hk2, rfl, rfl, hown, hB⟩ := hrel
    obtain ⟨ws, rfl⟩ : ∃ ws, ws = u5 := ⟨_, rfl⟩
    have hBs : w.heap.size ≤ wr.heap.size := hB.size
    have HW := Lib.hid (wls_succ Z k)
    have HL := Lib.hid (wls_len Z k)
    by_cases hlt : k < len ∧ k < 20
    · obtain ⟨hlt1, hlt2⟩ := hlt
      obtain ⟨b, off, rfl, hb, hcell⟩ := HC.out (by omega)
      have hc : wr.cell? ⟨b, off + k, none⟩ = some (.int .i64 (Z k)) := by
        rw [hB.cell (p := ⟨b, off + k, none⟩) hb]; simpa using hcell k 0 hlt1 (by omega)
      obtain ⟨hz3, hz4⟩ := HZ.out k
      have hw1 := wit_lo (Z k) 0 2147483647 (by omega)
      have hw2 := wit_hi (Z k) 0 2147483647 (by omega)
      clear hcell
      by_cases hm : k % 3 = 2
      · have hm1 : ((k : Int) % 3 == 2) = true := by simp; omega
        have HX := Lib.hid (show wl Z k = wit (Z k) 0 2147483647 + 0 - 2147483647 from if_pos hm)
        clear hm
        generalize Z k = z at *
        go_upto_region 9 with (first
                  | (go_at_call 17; refine (wit_any _ _ _ _ (by omega) (by omega) (by omega) (by omega) (by omega)).mono ?_; rintro e w1 ⟨rfl, rfl⟩; generalize wit z 0 2147483647 = x at *)
                  | (go_at_call 9; refine (of_yes _ _ (by omega) (by omega)).mono ?_; rintro e w1 ⟨rfl, rfl⟩)
                  | (go_at_call 12; refine (shift_yes _ _ _ _ (by omega) (by omega) (by omega) (by omega) (by omega) (by omega) (by omega) (by omega)).mono ?_; rintro e w1 ⟨rfl, rfl⟩))
        refine wp_forget (fun W => Below w.heap.size w W ∧ wr.heap.size ≤ W.heap.size ∧ wr.heap.size + 1 + 1 + 1 < W.heap.size ∧ W.ownsRow w.heap.size 23 1 ws k (ints (wls Z k)) ∧ W.cell? ⟨wr.heap.size + 1 + 1 + 1, 0, none⟩ = some (.int .i64 (x - 2147483647))) ⟨by go_grown, by go_size, by go_size, ((((((hown.alloc _).alloc _).alloc _).alloc _).alloc _).alloc _), by go_simp⟩ ?_
        rintro W ⟨hBW, hzW, hb8, hownW, hc8⟩
        have hne : ws.ownBlock ≠ some (wr.heap.size + 1 + 1 + 1) := by
          intro he
          have := (hown.lt _ he).2
          omega
        have HNE := Lib.hid hne
        clear hne hown hB
        generalize wr.heap.size + 1 + 1 + 1 = b8 at *
        have hBW2 := hBW.size
        go_wp2_with (first
          | (at_builtin
             refine wpList_append_own _ rfl (.tmp 34) (.tmp 36) 41 rfl w.heap.size 23 i0 _ 1 8 Try.underlying41 hi hz0 hz1 hz2 rfl (by decide) ws k _ rfl (hownW.alloc _) ⟨W.heap.size, 0, none⟩ 1 1 [.int .i64 (x - 2147483647)] rfl rfl ?c1 ?c2 ?c3 ?c4 ?c5 ?_
             (case c1 => intro j u hj; match j, hj with | 0, hj => (simp at hj; subst hj; simp [Addr.add]))
             (case c2 => simp [Value.oneCell'])
             (case c3 => unfold maxLen; omega)
             (case c4 => omega)
             (case c5 => simp; omega)
             intro v' w1 hown' hgrow _
             have hc8' : w1.cell? ⟨b8, 0, none⟩ = some (.int .i64 (x - 2147483647)) := (World.cell?_of_block (hgrow.block b8 (by simp; omega) (fun e => HNE.out e.symm))).trans (by go_simp)
             have hB1 : Below w.heap.size w w1 := (hBW.alloc hBW2 _).grown hgrow (by simp; omega) (fun g hg => (hownW.lt g hg).1)
             clear hgrow hc8 hBW)
          | (go_at_call 14; refine (left_any _ _).mono ?_; rintro e w2 ⟨rfl, rfl⟩))
        all_goals
          go_roundw
          case rel => exact ⟨k + 1, by omega, by omega, by go_num, by rw [HW.out, least_snoc, HX.out]; first | rfl | (congr 1; omega), by rw [HW.out, HX.out, ← ints_snoc]; first | exact hown'.alloc _ | (rw [Int.add_zero]; exact hown'.alloc _), hB1.alloc hB1.size _⟩
          case measure => simp [intOf]; omega
      · have hm1 : ((k : Int) % 3 == 2) = false := by simp; omega
        have HX := Lib.hid (show wl Z k = wit (Z k) 0 2147483647 from if_neg hm)
        clear hm
        generalize Z k = z at *
        go_upto_region 9 with (first
                  | (go_at_call 17; refine (wit_any _ _ _ _ (by omega) (by omega) (by omega) (by omega) (by omega)).mono ?_; rintro e w1 ⟨rfl, rfl⟩; generalize wit z 0 2147483647 = x at *)
                  | (go_at_call 9; refine (of_yes _ _ (by omega) (by omega)).mono ?_; rintro e w1 ⟨rfl, rfl⟩)
                  | (go_at_call 12; refine (shift_yes _ _ _ _ (by omega) (by omega) (by omega) (by omega) (by omega) (by omega) (by omega) (by omega)).mono ?_; rintro e w1 ⟨rfl, rfl⟩))
        refine wp_forget (fun W => Below w.heap.size w W ∧ wr.heap.size ≤ W.heap.size ∧ wr.heap.size + 1 + 1 + 1 < W.heap.size ∧ W.ownsRow w.heap.size 23 1 ws k (ints (wls Z k)) ∧ W.cell? ⟨wr.heap.size + 1 + 1 + 1, 0, none⟩ = some (.int .i64 (x))) ⟨by go_grown, by go_size, by go_size, ((((hown.alloc _).alloc _).alloc _).alloc _), by go_simp⟩ ?_
        rintro W ⟨hBW, hzW, hb8, hownW, hc8⟩
        have hne : ws.ownBlock ≠ some (wr.heap.size + 1 + 1 + 1) := by
          intro he
          have := (hown.lt _ he).2
          omega
        have HNE := Lib.hid hne
        clear hne hown hB
        generalize wr.heap.size + 1 + 1 + 1 = b8 at *
        have hBW2 := hBW.size
        go_wp2_with (first
          | (at_builtin
             refine wpList_append_own _ rfl (.tmp 34) (.tmp 36) 41 rfl w.heap.size 23 i0 _ 1 8 Try.underlying41 hi hz0 hz1 hz2 rfl (by decide) ws k _ rfl (hownW.alloc _) ⟨W.heap.size, 0, none⟩ 1 1 [.int .i64 (x)] rfl rfl ?c1 ?c2 ?c3 ?c4 ?c5 ?_
             (case c1 => intro j u hj; match j, hj with | 0, hj => (simp at hj; subst hj; simp [Addr.add]))
             (case c2 => simp [Value.oneCell'])
             (case c3 => unfold maxLen; omega)
             (case c4 => omega)
             (case c5 => simp; omega)
             intro v' w1 hown' hgrow _
             have hc8' : w1.cell? ⟨b8, 0, none⟩ = some (.int .i64 (x)) := (World.cell?_of_block (hgrow.block b8 (by simp; omega) (fun e => HNE.out e.symm))).trans (by go_simp)
             have hB1 : Below w.heap.size w w1 := (hBW.alloc hBW2 _).grown hgrow (by simp; omega) (fun g hg => (hownW.lt g hg).1)
             clear hgrow hc8 hBW)
          | (go_at_call 14; refine (left_any _ _).mono ?_; rintro e w2 ⟨rfl, rfl⟩))
        all_goals
          go_roundw
          case rel => exact ⟨k + 1, by omega, by omega, by go_num, by rw [HW.out, least_snoc, HX.out]; first | rfl | (congr 1; omega), by rw [HW.out, HX.out, ← ints_snoc]; first | exact hown'.alloc _ | (rw [Int.add_zero]; exact hown'.alloc _), hB1.alloc hB1.size _⟩
          case measure => simp [intOf]; omega
    · have HL2 := HL.out
      have HO := Lib.hid hown
      clear hown HL
      have hl1 := Lib.hid HL2
      clear HL2
      generalize hlw : wls Z k = lw at *
      clear hlw HW
      generalize hyy : leastOfAll n lw = y at *
      have HY := Lib.hid hyy
      clear hyy
      have hd : len ≤ k ∨ (k < len ∧ 20 ≤ k ∧ decide ((k : Int) < 20) = false) := by
        by_cases h : len ≤ k
        · exact .inl h
        · exact .inr ⟨by omega, by omega, by simp; omega⟩
      clear hlt
      by_cases hy : 0 < y
      all_goals
        rcases hd with h1 | ⟨h1, h2, h3⟩
        all_goals
          go_wp2_with fail
          refine (least_row _ _ _ _ lw _ hk2 hl1.out HO.out).mono ?_
          rintro e w1 ⟨he, hB1⟩
          rw [HY.out] at he
          first
            | rw [show max y 0 = y from by omega] at he
            | rw [show max y 0 = 0 from by omega] at he
          subst he
          go_wp2_with (go_at_call 3; refine (runs_any _).mono ?_; rintro e w2 ⟨rfl, hB2⟩)
          all_goals
            go_ret
            exact ⟨rfl, (hB.trans (hB1.mono hB.size)).trans (hB2.mono (Nat.le_trans hB.size hB1.size))⟩
end Go.Proofs.Ythkkdhjippnkfaa
