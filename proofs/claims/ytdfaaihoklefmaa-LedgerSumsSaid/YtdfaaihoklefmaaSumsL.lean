/- LedgerSums. -/
import Derived.Test.YtdfaaihoklefmaaTells
import Derived.Laws.OwnMore
namespace Go.Proofs.Ytdfaaihoklefmaa
open Go.ChangeShapes Go.WideShapes Go.ChangeAt Go.RowKit Go.Sort
set_option linter.unusedVariables false
set_option linter.unusedSimpArgs false

def bothT (T0 T1 : Nat → Talk) (n : Nat) : Nat → Talk := fun i => if i < n then T0 i else T1 (i - n)
def bothF (F0 F1 : Nat → Nat → ByteArray × ByteArray) (n : Nat) : Nat → Nat → ByteArray × ByteArray := fun i => if i < n then F0 i else F1 (i - n)
theorem tv_both (T0 T1 : Nat → Talk) (n : Nat) : bothV (TV T0) (TV T1) n = TV (bothT T0 T1 n) := by
  funext i j
  unfold bothV TV bothT
  split <;> rfl
theorem kd_both (T0 T1 : Nat → Talk) (F0 F1 : Nat → Nat → ByteArray × ByteArray) (n : Nat) :
    (fun i => kd (bothT T0 T1 n i) (bothF F0 F1 n i)) = fun i => if i < n then kd (T0 i) (F0 i) else kd (T1 (i - n)) (F1 (i - n)) := by
  funext i
  unfold bothT bothF
  split <;> rfl
/-- What the sums come to. -/
theorem sums_plain (K K' : Nat → Nat) (n m : Nat) (x0 x1 x2 x3 x4 x5 y0 y1 y2 y3 y4 y5 z0 z1 z2 z3 z4 z5 : Int) (hx : Tal K n x0 x1 x2 x3 x4 x5) (hy : Tal K' m y0 y1 y2 y3 y4 y5)
    (hz : Tal (fun i => if i < n then K i else K' (i - n)) (n + m) z0 z1 z2 z3 z4 z5) (hK : ∀ i, 1 ≤ K i ∧ K i ≤ 5) :
    (z0 = x0 + y0 ∧ z1 = x1 + y1 ∧ z2 = x2 + y2 ∧ z3 = x3 + y3 ∧ z4 = x4 + y4 ∧ z5 = x5 + y5) ∧ x0 = x2 + x3 + x4 ∧ x0 + x1 + x5 = n ∧ 0 ≤ x1 ∧ 0 ≤ x2 ∧ 0 ≤ x3 ∧ 0 ≤ x4 ∧ 0 ≤ x5 := by
  obtain ⟨a0, a1, a2, a3, a4, a5⟩ := hx
  obtain ⟨b0, b1, b2, b3, b4, b5⟩ := hy
  obtain ⟨c0, c1, c2, c3, c4, c5⟩ := hz
  have hall := cnt_all K hK n
  rw [cnt_both K K' 2 n m, cnt_both K K' 3 n m, cnt_both K K' 4 n m] at c0
  rw [cnt_both K K' 1 n m] at c1
  rw [cnt_both K K' 2 n m] at c2
  rw [cnt_both K K' 3 n m] at c3
  rw [cnt_both K K' 4 n m] at c4
  rw [cnt_both K K' 5 n m] at c5
  omega
theorem tal_bd {K : Nat → Nat} {n : Nat} {x0 x1 x2 x3 x4 x5 : Int} (h : Tal K n x0 x1 x2 x3 x4 x5) (hn : n ≤ 100) : (0 ≤ x0 ∧ x0 ≤ 100) ∧ (0 ≤ x1 ∧ x1 ≤ 100) ∧ (0 ≤ x2 ∧ x2 ≤ 100) ∧ (0 ≤ x3 ∧ x3 ≤ 100) ∧ (0 ≤ x4 ∧ x4 ≤ 100) ∧ (0 ≤ x5 ∧ x5 ≤ 100) := by
  obtain ⟨h0, h1, h2, h3, h4, h5⟩ := h
  have := cnt_le K n
  omega
theorem below_alloc_self (w : World) (o : Obj) : Below w.heap.size w (w.alloc o) := (Below.refl _ _).alloc (Nat.le_refl _) o

set_option maxHeartbeats 8000000 in
set_option maxRecDepth 100000 in
theorem sums_any (A0 A1 : Option Addr) (n0 n1 k0 k1 : Nat) (T0 T1 : Nat → Talk) (F0 F1 : Nat → Nat → ByteArray × ByteArray) (w : World) (hR0 : Rowy w (.slice A0 n0 k0) n0 9 (TV T0)) (hR1 : Rowy w (.slice A1 n1 k1) n1 9 (TV T1))
    (hT0 : ∀ i, i < n0 → Tok w (T0 i) (F0 i)) (hT1 : ∀ i, i < n1 → Tok w (T1 i) (F1 i)) :
    Calls Try.prog 5 #[.slice A0 n0 k0, .slice A1 n1 k1] w fun e w' => e = .returned (.bool true) ∧ Below w.heap.size w w' := by
  have HR0 := Lib.hid hR0
  have HR1 := Lib.hid hR1
  have HT0 := Lib.hid hT0
  have HT1 := Lib.hid hT1
  clear hR0 hR1 hT0 hT1
  obtain ⟨i0, hi, hz0, hz1, hz2⟩ := info_parts info29
  go_enter Try.func5, Try.ntmps5
  go_wp2_with fail
  refine (lighty_any A0 n0 k0 T0 F0 w HR0.out HT0.out).mono ?_
  rintro e w1 ⟨⟨b0, rfl, hb0⟩, hB1⟩
  cases b0
  · go_wp2_with (go_at_call 3; refine (runs_any _).mono ?_; rintro e w2 ⟨rfl, hB2⟩)
    go_ret
    exact ⟨rfl, hB1.trans (hB2.mono hB1.size)⟩
  have hn0 : n0 ≤ 40 := hb0 rfl
  clear hb0
  go_wp2_with fail
  refine (lighty_any A1 n1 k1 T1 F1 w1 (HR1.out.below hB1 (Nat.le_refl _)) (fun i h => (HT1.out i h).below hB1 (Nat.le_refl _))).mono ?_
  rintro e w2 ⟨⟨b1, rfl, hb1⟩, hB2⟩
  have hA2 : Below w.heap.size w w2 := hB1.trans (hB2.mono hB1.size)
  have hs2 := hA2.size
  cases b1
  · go_wp2_with (go_at_call 3; refine (runs_any _).mono ?_; rintro e w3 ⟨rfl, hB3⟩)
    go_ret
    exact ⟨rfl, hA2.trans (hB3.mono hs2)⟩
  have hn1 : n1 ≤ 40 := hb1 rfl
  clear hb1 hB1 hB2
  go_wp2_with fail
  refine (sum_any A0 n0 k0 T0 F0 w2 (by omega) (HR0.out.below hA2 (Nat.le_refl _)) (fun i h => (HT0.out i h).below hA2 (Nat.le_refl _))).mono ?_
  rintro e w3 ⟨⟨x0, x1, x2, x3, x4, x5, rfl, hX⟩, hB3⟩
  have HX := Lib.hid hX
  obtain ⟨p0, p1, p2, p3, p4, p5⟩ := tal_bd hX (by omega)
  have hA3 : Below w.heap.size w w3 := hA2.trans (hB3.mono hs2)
  have hs3 := hA3.size
  clear hX hB3
  go_wp2_with fail
  refine (sum_any A1 n1 k1 T1 F1 w3 (by omega) (HR1.out.below hA3 (Nat.le_refl _)) (fun i h => (HT1.out i h).below hA3 (Nat.le_refl _))).mono ?_
  rintro e w4 ⟨⟨y0, y1, y2, y3, y4, y5, rfl, hY⟩, hB4⟩
  have HY := Lib.hid hY
  obtain ⟨q0, q1, q2, q3, q4, q5⟩ := tal_bd hY (by omega)
  have hA4 : Below w.heap.size w w4 := hA3.trans (hB4.mono hs3)
  have hs4 := hA4.size
  clear hY hB4
  go_upto_region 4 with fail
  refine wp_forget (fun W => Below w.heap.size w W ∧ Hid (Blk W w4.heap.size 23 #[.int .i64 x0, .int .i64 x1, .int .i64 x2, .int .i64 x3, .int .i64 x4, .int .i64 x5]) ∧ Hid (Blk W (w4.heap.size + 1) 23 #[.int .i64 y0, .int .i64 y1, .int .i64 y2, .int .i64 y3, .int .i64 y4, .int .i64 y5])) ⟨by go_grown, Lib.hid ((Blk.new _ _ _).alloc _), Lib.hid (Blk.new_at (by simp only [World.size_alloc]))⟩ ?_
  rintro W ⟨hA, HBX, HBY⟩
  have hg : w.heap.size ≤ w4.heap.size := hs4
  generalize w4.heap.size = g at *
  clear hA4 hA3 hA2
  have hsW := hA.size
  have hlx := HBX.out.lt
  have hly := HBY.out.lt
  have HAS := Lib.hid (rowy_src (by omega) (HR0.out.below (hA.trans ((below_alloc_self W (.cells #[] 29)).mono hsW)) (Nat.le_refl _)))
  go_wp2_with (first
    | (at_builtin
       refine wpList_append_src rfl (.tmp 22) (.tmp 23) 30 rfl W.heap.size 29 i0 _ 9 88 Try.underlying30 hi hz0 hz1 hz2 rfl (by decide) (.slice (some ⟨W.heap.size, 0, none⟩) 0 0) 0 [] rfl (World.ownsRow_lit (base := W.heap.size) W #[] 0 (Nat.le_refl _) (by decide) rfl) A0 n0 k0 (rowsOf (TV T0) 9 n0) rfl HAS.out.1 (rows_len _ _ _) HAS.out.2 (rows_one (TV_one T0)) ?a4 ?a5 ?a6 ?_
       (case a4 => unfold maxLen; omega)
       (case a5 => omega)
       (case a6 => simp)
       intro va wa hown1 hg1
       simp only [Nat.zero_add, List.nil_append] at hown1
       have hBa : Below W.heap.size W wa := (below_alloc_self W _).grown hg1 (by simp) (by intro g hg; simp [Value.ownBlock] at hg; omega)
       have HRb := Lib.hid (rowy_src (by omega) (HR1.out.below (hA.trans (hBa.mono hsW)) (Nat.le_refl _)))
       have hBas := hBa.size
       clear hg1)
    | (at_builtin
       refine wpList_append_src rfl (.tmp 24) (.tmp 25) 30 rfl W.heap.size 29 i0 _ 9 88 Try.underlying30 hi hz0 hz1 hz2 rfl (by decide) va n0 _ rfl hown1 A1 n1 k1 (rowsOf (TV T1) 9 n1) rfl HRb.out.1 (rows_len _ _ _) HRb.out.2 (rows_one (TV_one T1)) ?a4 ?a5 hBas ?_
       (case a4 => unfold maxLen; omega)
       (case a5 => omega)
       intro vb wb hown2 hg2
       rw [rows_both _ _ _ _ _ (by omega), tv_both] at hown2
       have hBb : Below W.heap.size W wb := hBa.grown hg2 hBas (fun g hg => (hown1.lt g hg).1)
       have hR2 := rowy_own hown2
       obtain ⟨A2, k2, rfl, _⟩ := id hR2
       clear hg2 hown1 hown2))
  have hAb : Below w.heap.size w wb := hA.trans (hBb.mono hsW)
  have hsb := hAb.size
  refine (sum_any A2 (n0 + n1) k2 (bothT T0 T1 n0) (bothF F0 F1 n0) wb (by omega) hR2 (fun i h => ?_)).mono ?_
  · unfold bothT bothF
    split
    · rename_i h'; exact (HT0.out i h').below hAb (Nat.le_refl _)
    · exact (HT1.out (i - n0) (by omega)).below hAb (Nat.le_refl _)
  rintro e w5 ⟨⟨z0, z1, z2, z3, z4, z5, rfl, hZ⟩, hB5⟩
  rw [kd_both] at hZ
  obtain ⟨⟨rfl, rfl, rfl, rfl, rfl, rfl⟩, rfl, e2, g1, g2, g3, g4, g5⟩ := sums_plain _ _ _ _ _ _ _ _ _ _ _ _ _ _ _ _ _ _ _ _ _ _ HX.out HY.out hZ (fun i => kd_rng _ _)
  have hA5 : Below w.heap.size w w5 := hAb.trans (hB5.mono hsb)
  have HBX5 := (HBX.out.below hBb hlx).below hB5 (by have := hBb.size; omega)
  have HBY5 := (HBY.out.below hBb hly).below hB5 (by have := hBb.size; omega)
  clear hZ hR2 HX HY HAS HRb
  have u0 : w5.cell? ⟨g, 0, none⟩ = some (.int .i64 (x2 + x3 + x4)) := HBX5.cell 0
  have u1 : w5.cell? ⟨g, 1, none⟩ = some (.int .i64 x1) := HBX5.cell 1
  have u2 : w5.cell? ⟨g, 2, none⟩ = some (.int .i64 x2) := HBX5.cell 2
  have u3 : w5.cell? ⟨g, 3, none⟩ = some (.int .i64 x3) := HBX5.cell 3
  have u4 : w5.cell? ⟨g, 4, none⟩ = some (.int .i64 x4) := HBX5.cell 4
  have u5 : w5.cell? ⟨g, 5, none⟩ = some (.int .i64 x5) := HBX5.cell 5
  have v0 : w5.cell? ⟨g + 1, 0, none⟩ = some (.int .i64 y0) := HBY5.cell 0
  have v1 : w5.cell? ⟨g + 1, 1, none⟩ = some (.int .i64 y1) := HBY5.cell 1
  have v2 : w5.cell? ⟨g + 1, 2, none⟩ = some (.int .i64 y2) := HBY5.cell 2
  have v3 : w5.cell? ⟨g + 1, 3, none⟩ = some (.int .i64 y3) := HBY5.cell 3
  have v4 : w5.cell? ⟨g + 1, 4, none⟩ = some (.int .i64 y4) := HBY5.cell 4
  have v5 : w5.cell? ⟨g + 1, 5, none⟩ = some (.int .i64 y5) := HBY5.cell 5
  have hl5 := HBX5.lt
  have hl6 := HBY5.lt
  have hs5 := hA5.size
  clear HBX5 HBY5
  obtain ⟨p0, p0'⟩ := p0
  obtain ⟨p1, p1'⟩ := p1
  obtain ⟨p2, p2'⟩ := p2
  obtain ⟨p3, p3'⟩ := p3
  obtain ⟨p4, p4'⟩ := p4
  obtain ⟨p5, p5'⟩ := p5
  obtain ⟨q0, q0'⟩ := q0
  obtain ⟨q1, q1'⟩ := q1
  obtain ⟨q2, q2'⟩ := q2
  obtain ⟨q3, q3'⟩ := q3
  obtain ⟨q4, q4'⟩ := q4
  obtain ⟨q5, q5'⟩ := q5
  go_wp2_with (go_at_call 3; refine (runs_any _).mono ?_; rintro e w7 ⟨rfl, hB7⟩)
  go_ret
  exact ⟨rfl, Below.trans (by go_grown) (hB7.mono (by simp only [World.size_alloc]; omega))⟩
end Go.Proofs.Ytdfaaihoklefmaa
