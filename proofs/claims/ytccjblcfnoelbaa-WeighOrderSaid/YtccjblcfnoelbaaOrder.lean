/- WeighOrder. -/
import Derived.Test.YtccjblcfnoelbaaBest
import Derived.Deep.RegionHeld3
import Derived.Deep.DeepCutAuto
namespace Go.Proofs.Ytccjblcfnoelbaa
open Go.ChangeShapes Go.WideShapes Go.ChangeAt Go.RowKit
set_option linter.unusedVariables false
set_option linter.unusedSimpArgs false

theorem edge_ex (k : Int) (w : World) (h0 : 0 ≤ k) (h4 : k ≤ 4) : Calls Try.prog 13 #[.int .i64 k] w fun e w' => ∃ n, n < 18446744073709551616 ∧ e = .returned (.float .f64 n) ∧ Below w.heap.size w w' := by
  rcases (show k = 0 ∨ k = 1 ∨ k = 2 ∨ k = 3 ∨ k = 4 by omega) with rfl | rfl | rfl | rfl | rfl
  · exact (edge_nan w).mono fun e w' ⟨n, _, h1, h2, h3⟩ => ⟨n, h1, h2, h3⟩
  · exact (edge_inf w).mono fun e w' ⟨h1, h2⟩ => ⟨_, by decide, h1, by subst h2; exact Below.refl _ _⟩
  · exact (edge_low w).mono fun e w' ⟨h1, h2⟩ => ⟨_, by decide, h1, by subst h2; exact Below.refl _ _⟩
  · exact (edge_neg w).mono fun e w' ⟨h1, h2⟩ => ⟨_, by decide, h1, by subst h2; exact Below.refl _ _⟩
  · exact (edge_zero w).mono fun e w' ⟨h1, h2⟩ => ⟨_, by decide, h1, by subst h2; exact Below.refl _ _⟩
theorem run_store_float (P : Program) (w : World) (a : Addr) (m : Mode) (k : FloatKind) (b : Nat) : (store a (.float k b) m).run P w = stored P w a (.float k b) m := run_store P w a _ m rfl
attribute [local go_sem] run_store_float
set_option maxHeartbeats 4000000 in
set_option maxRecDepth 100000 in
theorem order_any (a b c : Nat) (e0 e1 e2 : Int) (w : World) (ha : a < 18446744073709551616) (hb : b < 18446744073709551616) (hc : c < 18446744073709551616) :
    Calls Try.prog 6 #[.float .f64 a, .float .f64 b, .float .f64 c, .agg #[.int .i64 e0, .int .i64 e1, .int .i64 e2]] w fun e w' => e = .returned (.bool true) ∧ Below w.heap.size w w' := by
  go_enter Try.func6, Try.ntmps6
  go_wp2_with fail
  go_loopw [10] (fun s10 wr => ∃ (i : Nat) (x y z : Nat), s10 = .int .i64 i ∧ i ≤ 3 ∧ x < 18446744073709551616 ∧ y < 18446744073709551616 ∧ z < 18446744073709551616 ∧ Hid (Blk wr w.heap.size 37 #[.int .i64 e0, .int .i64 e1, .int .i64 e2]) ∧ Hid (Blk wr (w.heap.size + 1) 22 #[.float .f64 x, .float .f64 y, .float .f64 z]) ∧ Below w.heap.size w wr) (fun s10 _ => 3 - (intOf s10).toNat)
  case atStart => exact ⟨0, a, b, c, rfl, by omega, ha, hb, hc, Lib.hid ((Blk.new _ _ _).alloc _), Lib.hid (Blk.new_at (by simp only [World.size_alloc])), by go_grown⟩
  case round =>
    obtain ⟨i, x, y, z, rfl, hi3, hx, hy, hz, HE, HL, hB⟩ := hrel
    have hwr := hB.size
    have hgl := HL.out.lt
    have hge := HE.out.lt
    by_cases hlt : i < 3
    · have hlti : (i : Int) < 3 := by omega
      rcases (show i = 0 ∨ i = 1 ∨ i = 2 by omega) with rfl | rfl | rfl
      · have c0 : wr.cell? ⟨w.heap.size, 0, none⟩ = some (.int .i64 e0) := HE.out.cell 0
        by_cases hq : 0 ≤ e0 ∧ e0 ≤ 4
        · obtain ⟨q1, q2⟩ := hq
          go_wp2_with (go_at_call 13; refine (edge_ex _ _ q1 q2).mono ?_; rintro e w1 ⟨n, hn, rfl, hB1⟩; have HL1 := Lib.hid (HL.out.below hB1 hgl); have HE1 := Lib.hid (HE.out.below hB1 hge); have cc : w1.cell? ⟨w.heap.size + 1, 0, none⟩ = some (.float .f64 x) := HL1.out.cell 0; have ff : w1.frozen? ⟨w.heap.size + 1, 0, none⟩ = false := HL1.out.frozen 0; have hA1 : Below w.heap.size w w1 := Below.trans hB (hB1.mono hwr))
          go_roundw
          case rel => exact ⟨1, n, y, z, by go_num, by omega, by omega, by omega, by omega, Lib.hid (HE1.out.far (by simp) _), Lib.hid (HL1.out.put 0 (.float .f64 n)), by go_grown⟩
          case measure => simp [intOf]
        · rcases (show e0 < 0 ∨ (0 ≤ e0 ∧ 4 < e0) by omega) with q1 | ⟨q1, q2⟩
          · have q1' : ¬ 0 ≤ e0 := by omega
            go_wp2_with fail
            go_roundw
            case rel => exact ⟨1, x, y, z, by go_num, by omega, hx, hy, hz, HE, HL, hB⟩
            case measure => simp [intOf]
          · have q2' : ¬ e0 ≤ 4 := by omega
            go_wp2_with fail
            go_roundw
            case rel => exact ⟨1, x, y, z, by go_num, by omega, hx, hy, hz, HE, HL, hB⟩
            case measure => simp [intOf]
      · have c0 : wr.cell? ⟨w.heap.size, 1, none⟩ = some (.int .i64 e1) := HE.out.cell 1
        by_cases hq : 0 ≤ e1 ∧ e1 ≤ 4
        · obtain ⟨q1, q2⟩ := hq
          go_wp2_with (go_at_call 13; refine (edge_ex _ _ q1 q2).mono ?_; rintro e w1 ⟨n, hn, rfl, hB1⟩; have HL1 := Lib.hid (HL.out.below hB1 hgl); have HE1 := Lib.hid (HE.out.below hB1 hge); have cc : w1.cell? ⟨w.heap.size + 1, 1, none⟩ = some (.float .f64 y) := HL1.out.cell 1; have ff : w1.frozen? ⟨w.heap.size + 1, 1, none⟩ = false := HL1.out.frozen 1; have hA1 : Below w.heap.size w w1 := Below.trans hB (hB1.mono hwr))
          go_roundw
          case rel => exact ⟨2, x, n, z, by go_num, by omega, by omega, by omega, by omega, Lib.hid (HE1.out.far (by simp) _), Lib.hid (HL1.out.put 1 (.float .f64 n)), by go_grown⟩
          case measure => simp [intOf]
        · rcases (show e1 < 0 ∨ (0 ≤ e1 ∧ 4 < e1) by omega) with q1 | ⟨q1, q2⟩
          · have q1' : ¬ 0 ≤ e1 := by omega
            go_wp2_with fail
            go_roundw
            case rel => exact ⟨2, x, y, z, by go_num, by omega, hx, hy, hz, HE, HL, hB⟩
            case measure => simp [intOf]
          · have q2' : ¬ e1 ≤ 4 := by omega
            go_wp2_with fail
            go_roundw
            case rel => exact ⟨2, x, y, z, by go_num, by omega, hx, hy, hz, HE, HL, hB⟩
            case measure => simp [intOf]
      · have c0 : wr.cell? ⟨w.heap.size, 2, none⟩ = some (.int .i64 e2) := HE.out.cell 2
        by_cases hq : 0 ≤ e2 ∧ e2 ≤ 4
        · obtain ⟨q1, q2⟩ := hq
          go_wp2_with (go_at_call 13; refine (edge_ex _ _ q1 q2).mono ?_; rintro e w1 ⟨n, hn, rfl, hB1⟩; have HL1 := Lib.hid (HL.out.below hB1 hgl); have HE1 := Lib.hid (HE.out.below hB1 hge); have cc : w1.cell? ⟨w.heap.size + 1, 2, none⟩ = some (.float .f64 z) := HL1.out.cell 2; have ff : w1.frozen? ⟨w.heap.size + 1, 2, none⟩ = false := HL1.out.frozen 2; have hA1 : Below w.heap.size w w1 := Below.trans hB (hB1.mono hwr))
          go_roundw
          case rel => exact ⟨3, x, y, n, by go_num, by omega, by omega, by omega, by omega, Lib.hid (HE1.out.far (by simp) _), Lib.hid (HL1.out.put 2 (.float .f64 n)), by go_grown⟩
          case measure => simp [intOf]
        · rcases (show e2 < 0 ∨ (0 ≤ e2 ∧ 4 < e2) by omega) with q1 | ⟨q1, q2⟩
          · have q1' : ¬ 0 ≤ e2 := by omega
            go_wp2_with fail
            go_roundw
            case rel => exact ⟨3, x, y, z, by go_num, by omega, hx, hy, hz, HE, HL, hB⟩
            case measure => simp [intOf]
          · have q2' : ¬ e2 ≤ 4 := by omega
            go_wp2_with fail
            go_roundw
            case rel => exact ⟨3, x, y, z, by go_num, by omega, hx, hy, hz, HE, HL, hB⟩
            case measure => simp [intOf]
    · obtain rfl : i = 3 := by omega
      have x0 : wr.cell? ⟨w.heap.size + 1, 0, none⟩ = some (.float .f64 x) := HL.out.cell 0
      have x1 : wr.cell? ⟨w.heap.size + 1, 1, none⟩ = some (.float .f64 y) := HL.out.cell 1
      have x2 : wr.cell? ⟨w.heap.size + 1, 2, none⟩ = some (.float .f64 z) := HL.out.cell 2
      obtain ⟨A, hA⟩ : ∃ A, cmpR x y = A := ⟨_, rfl⟩
      obtain ⟨B, hBB⟩ : ∃ B, cmpR y z = B := ⟨_, rfl⟩
      obtain ⟨C, hC⟩ : ∃ C, cmpR x z = C := ⟨_, rfl⟩
      obtain ⟨D, hD⟩ : ∃ D, cmpR y x = D := ⟨_, rfl⟩
      have hE : cmpR x x = 0 := (cmpR_nil x x).2 rfl
      have hDA : D = -A ∧ -1 ≤ A ∧ A ≤ 1 := by rw [← hD, ← hA]; unfold cmpR; rcases Int.lt_trichotomy (rank x) (rank y) with h | h | h <;> simp [h] <;> (repeat' split) <;> omega
      have hB1 : -1 ≤ B ∧ B ≤ 1 := by rw [← hBB]; unfold cmpR; split <;> (try split) <;> omega
      have hC1 : -1 ≤ C ∧ C ≤ 1 := by rw [← hC]; unfold cmpR; split <;> (try split) <;> omega
      have hpass : (A ≤ 0 ∧ B ≤ 0 → C ≤ 0) ∧ (A < 0 ∧ B ≤ 0 → C < 0) := by
        have p1 := cmpR_pos x y
        have p2 := cmpR_pos y z
        have p3 := cmpR_pos x z
        have z1 := cmpR_nil x y
        have z2 := cmpR_nil y z
        have z3 := cmpR_nil x z
        rw [hA] at p1 z1
        rw [hBB] at p2 z2
        rw [hC] at p3 z3
        generalize rank x = rx at *
        generalize rank y = ry at *
        generalize rank z = rz at *
        refine ⟨fun h => ?_, fun h => ?_⟩
        · have n1 : ¬ ry < rx := fun hh => by have := p1.2 hh; omega
          have n2 : ¬ rz < ry := fun hh => by have := p2.2 hh; omega
          have n3 : ¬ 0 < C := fun hh => by have := p3.1 hh; omega
          omega
        · have n1 : ¬ ry < rx := fun hh => by have := p1.2 hh; omega
          have n2 : ¬ rz < ry := fun hh => by have := p2.2 hh; omega
          have n3 : ¬ 0 < C := fun hh => by have := p3.1 hh; omega
          have n4 : rx ≠ ry := fun hh => by have := z1.2 hh; omega
          have n5 : C ≠ 0 := fun hh => by have := z3.1 hh; omega
          omega
      obtain ⟨hDA, a1, a2⟩ := hDA
      clear HE HL
      have hlti : ¬ (3 : Int) < 3 := by omega
      go_upto_region 7 with fail
      go_cut [11, 12, 13] (fun s11 s12 s13 wx => s11 = .int .i64 A ∧ s12 = .int .i64 B ∧ s13 = .int .i64 C ∧ (wx.cell? ⟨w.heap.size + 1, 0, none⟩ = some (.float .f64 x) ∧ wx.cell? ⟨w.heap.size + 1, 1, none⟩ = some (.float .f64 y) ∧ wx.cell? ⟨w.heap.size + 1, 2, none⟩ = some (.float .f64 z)) ∧ Below w.heap.size w wx)
      case first =>
        go_region_held3 (fun wx => wx.cell? ⟨w.heap.size + 1, 0, none⟩ = some (.float .f64 x) ∧ wx.cell? ⟨w.heap.size + 1, 1, none⟩ = some (.float .f64 y) ∧ wx.cell? ⟨w.heap.size + 1, 2, none⟩ = some (.float .f64 z)) (refine ⟨?_, ?_, ?_⟩ <;> go_simp) (first
          | (go_at_call 19; refine (compare_any _ _ _ (by assumption) (by assumption)).mono ?_; rintro e w1 ⟨rfl, rfl⟩; first | rw [hA] | rw [hBB] | rw [hC]))
        all_goals
          go_wp2_with fail
          go_meet
          exact ⟨rfl, rfl, rfl, ⟨by go_simp, by go_simp, by go_simp⟩, by go_grown⟩
      case rest =>
      obtain ⟨rfl, rfl, rfl, ⟨x0, x1, x2⟩, hB⟩ := hcut
      have hwr := hB.size
      go_upto_region 8 with fail
      go_cut [14] (fun s14 wx => s14 = .bool true ∧ Below w.heap.size w wx)
      case first =>
        clear hpass hB1 hC1 hBB hC
        have hwp1 : IntKind.i64.wrap 1 = 1 := by decide
        have hwp0 : IntKind.i64.wrap 0 = 0 := by decide
        have hwpm : IntKind.i64.wrap (-1) = -1 := by decide
        rcases (show (A = -1 ∧ D = 1) ∨ (A = 0 ∧ D = 0) ∨ (A = 1 ∧ D = -1) by omega) with ⟨rfl, rfl⟩ | ⟨rfl, rfl⟩ | ⟨rfl, rfl⟩ <;> clear hDA a1 a2 hA <;>
        · skip
          refine wp_region_held_drew (S := fun w' => w'.cell? ⟨w.heap.size + 1, 0, none⟩ = some (.float .f64 x) ∧ w'.cell? ⟨w.heap.size + 1, 1, none⟩ = some (.float .f64 y)) (by kernel_rfl) (by refine ⟨?_, ?_⟩ <;> go_simp) (fun hHeld => ?_)
          refine wpAnyH_take (i := 0) (oi := { dst := some 64, op := Go.Op.move (Go.Operand.tmp 9), type := 33, pos := "law.go:70", after := #[], guard := none }) (v := ?_) rfl (by kernel_rfl) (by kernel_rfl) (by kernel_rfl) (fun _ _ _ h => h) (Or.inl ⟨by rfl, ?_⟩) hHeld ?_
          rotate_left
          · intro w hSw; (try dsimp only at hSw); go_simp <;> with_reducible rfl
          try simp only [Act.put, List.setIfInBounds_toArray, List.set_cons_zero, List.set_cons_succ]
          refine wpAnyH_take (i := 1) (oi := { dst := some 65, op := Go.Op.indexAddr 33 (Go.Operand.tmp 64) (Go.Operand.const (Go.Value.int Go.IntKind.i64 1)), type := 0, pos := "law.go:70", after := #[{ on := 0, ground := Go.Ground.data }], guard := none }) (v := ?_) rfl (by kernel_rfl) (by kernel_rfl) (by kernel_rfl) (fun _ _ _ h => h) (Or.inl ⟨by rfl, ?_⟩) hHeld ?_
          rotate_left
          · intro w hSw; (try dsimp only at hSw); go_simp <;> with_reducible rfl
          try simp only [Act.put, List.setIfInBounds_toArray, List.set_cons_zero, List.set_cons_succ]
          refine wpAnyH_take (i := 2) (oi := { dst := some 66, op := Go.Op.load 22 (Go.Operand.tmp 65), type := 22, pos := "law.go:70", after := #[{ on := 1, ground := Go.Ground.data }], guard := none }) (v := ?_) rfl (by kernel_rfl) (by kernel_rfl) (by kernel_rfl) (fun _ _ _ h => h) (Or.inl ⟨by rfl, ?_⟩) hHeld ?_
          rotate_left
          · intro w hSw; (try dsimp only at hSw); go_simp <;> with_reducible rfl
          try simp only [Act.put, List.setIfInBounds_toArray, List.set_cons_zero, List.set_cons_succ]
          refine wpAnyH_take (i := 3) (oi := { dst := some 67, op := Go.Op.move (Go.Operand.tmp 9), type := 33, pos := "law.go:70", after := #[], guard := none }) (v := ?_) rfl (by kernel_rfl) (by kernel_rfl) (by kernel_rfl) (fun _ _ _ h => h) (Or.inl ⟨by rfl, ?_⟩) hHeld ?_
          rotate_left
          · intro w hSw; (try dsimp only at hSw); go_simp <;> with_reducible rfl
          try simp only [Act.put, List.setIfInBounds_toArray, List.set_cons_zero, List.set_cons_succ]
          refine wpAnyH_take (i := 4) (oi := { dst := some 68, op := Go.Op.indexAddr 33 (Go.Operand.tmp 67) (Go.Operand.const (Go.Value.int Go.IntKind.i64 0)), type := 0, pos := "law.go:70", after := #[{ on := 3, ground := Go.Ground.data }], guard := none }) (v := ?_) rfl (by kernel_rfl) (by kernel_rfl) (by kernel_rfl) (fun _ _ _ h => h) (Or.inl ⟨by rfl, ?_⟩) hHeld ?_
          rotate_left
          · intro w hSw; (try dsimp only at hSw); go_simp <;> with_reducible rfl
          try simp only [Act.put, List.setIfInBounds_toArray, List.set_cons_zero, List.set_cons_succ]
          refine wpAnyH_take (i := 5) (oi := { dst := some 69, op := Go.Op.load 22 (Go.Operand.tmp 68), type := 22, pos := "law.go:70", after := #[{ on := 4, ground := Go.Ground.data }], guard := none }) (v := ?_) rfl (by kernel_rfl) (by kernel_rfl) (by kernel_rfl) (fun _ _ _ h => h) (Or.inl ⟨by rfl, ?_⟩) hHeld ?_
          rotate_left
          · intro w hSw; (try dsimp only at hSw); go_simp <;> with_reducible rfl
          try simp only [Act.put, List.setIfInBounds_toArray, List.set_cons_zero, List.set_cons_succ]
          refine wpAnyH_take (i := 7) (oi := { dst := some 71, op := Go.Op.move (Go.Operand.tmp 11), type := 3, pos := "law.go:70", after := #[], guard := none }) (v := ?_) rfl (by kernel_rfl) (by kernel_rfl) (by kernel_rfl) (fun _ _ _ h => h) (Or.inl ⟨by rfl, ?_⟩) hHeld ?_
          rotate_left
          · intro w hSw; (try dsimp only at hSw); go_simp <;> with_reducible rfl
          try simp only [Act.put, List.setIfInBounds_toArray, List.set_cons_zero, List.set_cons_succ]
          refine wpAnyH_take (i := 8) (oi := { dst := some 72, op := Go.Op.unOp Go.UnOp.neg 3 (Go.Operand.tmp 71), type := 3, pos := "law.go:70", after := #[{ on := 7, ground := Go.Ground.data }], guard := none }) (v := ?_) rfl (by kernel_rfl) (by kernel_rfl) (by kernel_rfl) (fun _ _ _ h => h) (Or.inl ⟨by rfl, ?_⟩) hHeld ?_
          rotate_left
          · intro w hSw; (try dsimp only at hSw); go_simp <;> with_reducible rfl
          try simp only [Act.put, List.setIfInBounds_toArray, List.set_cons_zero, List.set_cons_succ]
          refine wpAnyH_ready (rs := [6]) (by kernel_rfl) (by simp) ?_
          refine AllReadyH.cons (o := { dst := some 70, op := Go.Op.call { callee := Go.Callee.value (Go.Operand.func 19), args := #[Go.Operand.tmp 66, Go.Operand.tmp 69], argTypes := #[22, 22] }, type := 3, pos := "law.go:70", after := #[{ on := 2, ground := Go.Ground.data }, { on := 5, ground := Go.Ground.data }], guard := none }) rfl (fun K hK => ?_) ?_
          · go_simp
            try rw [if_pos (by decide)]
            (go_at_call 19; refine (compare_any _ _ _ (by assumption) (by assumption)).mono ?_; rintro e w1 ⟨rfl, rfl⟩; rw [hD])
            try go_wp2_with fail
            refine hK.out _ _ (by refine ⟨?_, ?_⟩ <;> go_simp) (fun h6 => ?_)
            clear hK K
            try simp only [Act.put, List.setIfInBounds_toArray, List.set_cons_zero, List.set_cons_succ]
            refine wpAnyH_take (i := 9) (oi := { dst := some 73, op := Go.Op.binOp Go.BinOp.eql 3 (Go.Operand.tmp 70) (Go.Operand.tmp 72) 3, type := 4, pos := "law.go:70", after := #[{ on := 6, ground := Go.Ground.data }, { on := 8, ground := Go.Ground.data }], guard := none }) (v := ?_) rfl (by kernel_rfl) (by kernel_rfl) (by kernel_rfl) (fun _ _ _ h => h) (Or.inl ⟨by rfl, ?_⟩) h6 ?_
            rotate_left
            · intro w hSw; (try dsimp only at hSw); go_simp <;> with_reducible rfl
            try simp only [Act.put, List.setIfInBounds_toArray, List.set_cons_zero, List.set_cons_succ]
            refine wpAnyH_take (i := 10) (oi := { dst := some 74, op := Go.Op.move (Go.Operand.tmp 73), type := 4, pos := "law.go:70", after := #[{ on := 9, ground := Go.Ground.data }, { on := 6, ground := Go.Ground.chain }], guard := none }) (v := ?_) rfl (by kernel_rfl) (by kernel_rfl) (by kernel_rfl) (fun _ _ _ h => h) (Or.inl ⟨by rfl, ?_⟩) h6 ?_
            rotate_left
            · intro w hSw; (try dsimp only at hSw); go_simp <;> with_reducible rfl
            try simp only [Act.put, List.setIfInBounds_toArray, List.set_cons_zero, List.set_cons_succ]
            refine wpAnyH_take (i := 11) (oi := { dst := some 75, op := Go.Op.move (Go.Operand.tmp 9), type := 33, pos := "law.go:70", after := #[{ on := 10, ground := Go.Ground.guard }], guard := some (10, true) }) (v := ?_) rfl (by kernel_rfl) (by kernel_rfl) (by kernel_rfl) (fun _ _ _ h => h) (Or.inl ⟨by rfl, ?_⟩) h6 ?_
            rotate_left
            · intro w hSw; (try dsimp only at hSw); go_simp <;> with_reducible rfl
            try simp only [Act.put, List.setIfInBounds_toArray, List.set_cons_zero, List.set_cons_succ]
            refine wpAnyH_take (i := 12) (oi := { dst := some 76, op := Go.Op.indexAddr 33 (Go.Operand.tmp 75) (Go.Operand.const (Go.Value.int Go.IntKind.i64 0)), type := 0, pos := "law.go:70", after := #[{ on := 11, ground := Go.Ground.data }, { on := 10, ground := Go.Ground.guard }], guard := some (10, true) }) (v := ?_) rfl (by kernel_rfl) (by kernel_rfl) (by kernel_rfl) (fun _ _ _ h => h) (Or.inl ⟨by rfl, ?_⟩) h6 ?_
            rotate_left
            · intro w hSw; (try dsimp only at hSw); go_simp <;> with_reducible rfl
            try simp only [Act.put, List.setIfInBounds_toArray, List.set_cons_zero, List.set_cons_succ]
            refine wpAnyH_take (i := 13) (oi := { dst := some 77, op := Go.Op.load 22 (Go.Operand.tmp 76), type := 22, pos := "law.go:70", after := #[{ on := 12, ground := Go.Ground.data }, { on := 10, ground := Go.Ground.guard }], guard := some (10, true) }) (v := ?_) rfl (by kernel_rfl) (by kernel_rfl) (by kernel_rfl) (fun _ _ _ h => h) (Or.inl ⟨by rfl, ?_⟩) h6 ?_
            rotate_left
            · intro w hSw; (try dsimp only at hSw); go_simp <;> with_reducible rfl
            try simp only [Act.put, List.setIfInBounds_toArray, List.set_cons_zero, List.set_cons_succ]
            refine wpAnyH_take (i := 14) (oi := { dst := some 78, op := Go.Op.move (Go.Operand.tmp 9), type := 33, pos := "law.go:70", after := #[{ on := 10, ground := Go.Ground.guard }], guard := some (10, true) }) (v := ?_) rfl (by kernel_rfl) (by kernel_rfl) (by kernel_rfl) (fun _ _ _ h => h) (Or.inl ⟨by rfl, ?_⟩) h6 ?_
            rotate_left
            · intro w hSw; (try dsimp only at hSw); go_simp <;> with_reducible rfl
            try simp only [Act.put, List.setIfInBounds_toArray, List.set_cons_zero, List.set_cons_succ]
            refine wpAnyH_take (i := 15) (oi := { dst := some 79, op := Go.Op.indexAddr 33 (Go.Operand.tmp 78) (Go.Operand.const (Go.Value.int Go.IntKind.i64 0)), type := 0, pos := "law.go:70", after := #[{ on := 14, ground := Go.Ground.data }, { on := 10, ground := Go.Ground.guard }], guard := some (10, true) }) (v := ?_) rfl (by kernel_rfl) (by kernel_rfl) (by kernel_rfl) (fun _ _ _ h => h) (Or.inl ⟨by rfl, ?_⟩) h6 ?_
            rotate_left
            · intro w hSw; (try dsimp only at hSw); go_simp <;> with_reducible rfl
            try simp only [Act.put, List.setIfInBounds_toArray, List.set_cons_zero, List.set_cons_succ]
            refine wpAnyH_take (i := 16) (oi := { dst := some 80, op := Go.Op.load 22 (Go.Operand.tmp 79), type := 22, pos := "law.go:70", after := #[{ on := 15, ground := Go.Ground.data }, { on := 10, ground := Go.Ground.guard }], guard := some (10, true) }) (v := ?_) rfl (by kernel_rfl) (by kernel_rfl) (by kernel_rfl) (fun _ _ _ h => h) (Or.inl ⟨by rfl, ?_⟩) h6 ?_
            rotate_left
            · intro w hSw; (try dsimp only at hSw); go_simp <;> with_reducible rfl
            try simp only [Act.put, List.setIfInBounds_toArray, List.set_cons_zero, List.set_cons_succ]
            refine wpAnyH_ready (rs := [17]) (by kernel_rfl) (by simp) ?_
            refine AllReadyH.cons (o := { dst := some 81, op := Go.Op.call { callee := Go.Callee.value (Go.Operand.func 19), args := #[Go.Operand.tmp 77, Go.Operand.tmp 80], argTypes := #[22, 22] }, type := 3, pos := "law.go:70", after := #[{ on := 13, ground := Go.Ground.data }, { on := 16, ground := Go.Ground.data }, { on := 10, ground := Go.Ground.chain }, { on := 10, ground := Go.Ground.guard }], guard := some (10, true) }) rfl (fun K hK => ?_) ?_
            · go_simp
              try rw [if_pos (by decide)]
              (go_at_call 19; refine (compare_any _ _ _ (by assumption) (by assumption)).mono ?_; rintro e w1 ⟨rfl, rfl⟩; rw [hE])
              try go_wp2_with fail
              refine hK.out _ _ (by refine ⟨?_, ?_⟩ <;> go_simp) (fun h17 => ?_)
              clear hK K
              try simp only [Act.put, List.setIfInBounds_toArray, List.set_cons_zero, List.set_cons_succ]
              refine wpAnyH_take (i := 18) (oi := { dst := some 82, op := Go.Op.binOp Go.BinOp.eql 3 (Go.Operand.tmp 81) (Go.Operand.const (Go.Value.int Go.IntKind.i64 0)) 3, type := 4, pos := "law.go:70", after := #[{ on := 17, ground := Go.Ground.data }, { on := 10, ground := Go.Ground.guard }], guard := some (10, true) }) (v := ?_) rfl (by kernel_rfl) (by kernel_rfl) (by kernel_rfl) (fun _ _ _ h => h) (Or.inl ⟨by rfl, ?_⟩) h17 ?_
              rotate_left
              · intro w hSw; (try dsimp only at hSw); go_simp <;> with_reducible rfl
              try simp only [Act.put, List.setIfInBounds_toArray, List.set_cons_zero, List.set_cons_succ]
              refine wpAnyH_take (i := 19) (oi := { dst := some 83, op := Go.Op.pick (Go.Operand.tmp 74) (Go.Operand.tmp 82) (Go.Operand.const (Go.Value.bool false)), type := 4, pos := "law.go:70", after := #[{ on := 10, ground := Go.Ground.data }, { on := 18, ground := Go.Ground.data }], guard := none }) (v := ?_) rfl (by kernel_rfl) (by kernel_rfl) (by kernel_rfl) (fun _ _ _ h => h) (Or.inl ⟨by rfl, ?_⟩) h17 ?_
              rotate_left
              · intro w hSw; (try dsimp only at hSw); go_simp <;> with_reducible rfl
              try simp only [Act.put, List.setIfInBounds_toArray, List.set_cons_zero, List.set_cons_succ]
              refine wpAnyH_ready (rs := [20]) (by kernel_rfl) (by simp) ?_
              refine AllReadyH.cons (o := { dst := some 14, op := Go.Op.assign (Go.Operand.tmp 83), type := 4, pos := "law.go:70", after := #[{ on := 19, ground := Go.Ground.data }, { on := 17, ground := Go.Ground.chain }, { on := 0, ground := Go.Ground.phase }, { on := 1, ground := Go.Ground.phase }, { on := 2, ground := Go.Ground.phase }, { on := 3, ground := Go.Ground.phase }, { on := 4, ground := Go.Ground.phase }, { on := 5, ground := Go.Ground.phase }, { on := 6, ground := Go.Ground.phase }, { on := 7, ground := Go.Ground.phase }, { on := 8, ground := Go.Ground.phase }, { on := 9, ground := Go.Ground.phase }, { on := 10, ground := Go.Ground.phase }, { on := 11, ground := Go.Ground.phase }, { on := 12, ground := Go.Ground.phase }, { on := 13, ground := Go.Ground.phase }, { on := 14, ground := Go.Ground.phase }, { on := 15, ground := Go.Ground.phase }, { on := 16, ground := Go.Ground.phase }, { on := 17, ground := Go.Ground.phase }, { on := 18, ground := Go.Ground.phase }, { on := 19, ground := Go.Ground.phase }], guard := none }) rfl (fun K hK => ?_) ?_
              · go_simp
                refine hK.out _ _ (by refine ⟨?_, ?_⟩ <;> go_simp) (fun h20 => ?_)
                clear hK K
                try simp only [Act.put, List.setIfInBounds_toArray, List.set_cons_zero, List.set_cons_succ]
                refine wpAnyH_done (by kernel_rfl) ?_ _
                go_wp2_with fail
                go_meet
                exact ⟨rfl, by go_grown⟩
              exact AllReadyH.nil
            exact AllReadyH.nil
          exact AllReadyH.nil
      case rest =>
        obtain ⟨rfl, hBc⟩ := hcut
        have hcs := hBc.size
        rcases (show A = -1 ∨ A = 0 ∨ A = 1 by omega) with rfl | rfl | rfl <;> rcases (show B = -1 ∨ B = 0 ∨ B = 1 by omega) with rfl | rfl | rfl <;> rcases (show C = -1 ∨ C = 0 ∨ C = 1 by omega) with rfl | rfl | rfl <;> first
          | (exfalso; omega)
          | (go_wp2_with (go_at_call 3; refine (runs_any _).mono ?_; rintro e w2 ⟨rfl, hB2⟩)
             go_ret
             exact ⟨rfl, Below.trans hBc (hB2.mono hcs)⟩)
end Go.Proofs.Ytccjblcfnoelbaa
