/- SettingLast. -/
import Derived.Test.YtdlmocjkhkopgaaLastP
import Derived.Deep.DeepCutAuto
import Derived.Deep.AppendLies
namespace Go.Proofs.Ytdlmocjkhkopgaa
open Go.ChangeShapes Go.WideShapes Go.ChangeAt Go.RowKit
set_option linter.unusedVariables false
set_option linter.unusedSimpArgs false

set_option maxHeartbeats 4000000 in
set_option maxRecDepth 100000 in
theorem last_k3 (id : Int) (v1 v2 : Value) (n1 n2 : Nat) (Y : Nat → Int) (Z : Nat → Nat → Int) (w : World)
    (hid : wit id 0 2 = 1) (i1 : -9223372036854775808 ≤ id) (i2 : id ≤ 9223372036854775807)
    (hR1 : Rowy w v1 n1 1 (fun i _ => .int .i64 (Y i))) (hR2 : Rowy w v2 n2 2 (fun i j => .int .i64 (Z i j)))
    (hY : ∀ i, -9223372036854775808 ≤ Y i ∧ Y i ≤ 9223372036854775807) (hZ : ∀ i j, i < n2 → j < 2 → -9223372036854775808 ≤ Z i j ∧ Z i j ≤ 9223372036854775807) :
    Calls Try.prog 7 #[.int .i64 id, v1, v2] w fun e w' => e = .returned (.bool true) ∧ Below w.heap.size w w' := by
  obtain ⟨A1, cap1, rfl, hn1, hk1, hc1⟩ := hR1
  obtain ⟨A2, cap2, rfl, hn2, hk2, hc2⟩ := hR2
  have HC1 := Lib.hid hc1
  have HC2 := Lib.hid hc2
  have HY := Lib.hid hY
  have HZ := Lib.hid hZ
  clear hc1 hc2 hY hZ
  unfold maxLen at hk1 hk2
  obtain ⟨i0, hi, hz0, hz1, hz2⟩ := info_parts info29
  go_enter Try.func7, Try.ntmps7
  go_wp2_with (go_at_call 18; refine (wit_any _ _ _ _ (by decide) (by decide) (by decide) (by omega) (by omega)).mono ?_; rintro e w1 ⟨rfl, rfl⟩; rw [hid])
  go_loopw [8, 9, 10] (fun s8 s9 s10 wr => ∃ (i n : Nat) (Zl : Nat → Nat → Int) (want : Int), s10 = .int .i64 i ∧ s9 = .int .i64 want ∧ i ≤ n1 ∧ i ≤ 20 ∧ n ≤ 2 * i ∧ wr.ownsRow w.heap.size 29 2 s8 n (pairsOf Zl n) ∧ Hid (LInv 3 Zl n want i) ∧ Below w.heap.size w wr) (fun _ _ s10 _ => 20 - (intOf s10).toNat)
  case atStart => exact ⟨0, 0, fun _ _ => 0, -1, rfl, rfl, Nat.zero_le _, by omega, by omega, World.ownsRow_nil _ _ _ _, Lib.hid ⟨fun j hj => absurd hj (Nat.not_lt_zero _), fun _ => ⟨rfl, rfl⟩, fun h => absurd h (Nat.lt_irrefl _), fun _ _ h => absurd h (Nat.not_lt_zero _)⟩, by go_grown⟩
  case round =>
    obtain ⟨i, n, Zl, want, rfl, rfl, hi1, hi20, hn, hown, hI, hB⟩ := hrel
    have hwr := hB.size
    by_cases hlt : i < n1 ∧ i < 20
    · obtain ⟨hl1, hl2⟩ := hlt
      obtain ⟨b1, o1, rfl, g1, q1⟩ := HC1.out (by omega)
      have e1 : wr.cell? ⟨b1, o1 + i, none⟩ = some (.int .i64 (Y i)) := by rw [hB.cell (p := ⟨b1, _, none⟩) g1]; simpa using q1 i 0 hl1 (by omega)
      have hY1 := (HY.out i).1
      have hY2 := (HY.out i).2
      have w1 := wit_lo (Y i) 0 2147483647 (by decide)
      have w2 := wit_hi (Y i) 0 2147483647 (by decide)
      have hki : (i : Int) < (n1 : Int) := by omega
      have hki2 : (i : Int) < 20 := by omega
      have hk0 : 0 ≤ (i : Int) := by omega
      clear q1
      generalize Y i = y at *
      generalize hw : wit y 0 2147483647 = nw at *
      go_upto_region 8 with (go_at_call 18; refine (wit_any _ _ _ _ (by decide) (by decide) (by decide) (by omega) (by omega)).mono ?_; rintro e w1 ⟨rfl, rfl⟩; rw [hw])
      have hN := World.news_of_block (w := wr.alloc (.cells #[.int .i64 3, .int .i64 nw] 29)) (B := wr.heap.size) (heap_alloc_new wr _)
      have HN := Lib.hid hN
      have hown' := Lib.hid (hown.alloc (.cells #[.int .i64 3, .int .i64 nw] 29))
      clear hN hown
      go_upto_region 9 with (first
        | (at_builtin
           refine wpList_append_src rfl (.tmp 34) (.tmp 38) 30 rfl w.heap.size 29 i0 _ 2 16 Try.underlying30 hi hz0 hz1 hz2 rfl (by decide) _ n (pairsOf Zl n) rfl hown'.out (some ⟨wr.heap.size, 0, none⟩) 1 1 (pairsOf (Z1 3 nw) 1) rfl (by simp) rfl (fun ad had j u hu => by cases had; exact HN.out j u hu) (pairs_one _ _) (by unfold maxLen; omega) (by omega) (by go_size) ?_
           intro va wa hown1 hg1
           rw [pairs_both] at hown1
           have hBa : Below w.heap.size w wa := Below.grown (w := _) (by go_grown) hg1 (by go_size) (fun g hg => (hown'.out.lt g hg).1)
           clear hg1))
      have HI1 : Hid (LInv 3 (bothZ Zl (Z1 3 nw) n) (n + 1) nw (i + 1)) := Lib.hid (hI.out.own (by omega) nw (by omega) (by omega))
      have HO1 := Lib.hid hown1
      have hwa := hBa.size
      clear hown1 hown' HN hI
      by_cases c1 : n2 ≤ i
      · have hki3 : decide ((i : Int) < (n2 : Int)) = false := by simp; omega
        go_wp2_with fail
        go_roundw
        case rel => exact ⟨i + 1, n + 1, _, nw, by go_num, rfl, by omega, by omega, by omega, HO1.out, HI1, by go_grown⟩
        case measure => simp [intOf]; omega
      obtain ⟨b2, o2, rfl, g2, q2⟩ := HC2.out (by omega)
      have e2 : wa.cell? ⟨b2, o2 + i * 2, none⟩ = some (.int .i64 (Z i 0)) := by rw [hBa.cell (p := ⟨b2, _, none⟩) g2]; simpa using q2 i 0 (by omega) (by omega)
      have e3 : wa.cell? ⟨b2, o2 + i * 2 + 1, none⟩ = some (.int .i64 (Z i 1)) := by rw [hBa.cell (p := ⟨b2, _, none⟩) g2]; simpa [Nat.add_assoc] using q2 i 1 (by omega) (by omega)
      have hz0' := HZ.out i 0 (by omega) (by omega)
      have hz1' := HZ.out i 1 (by omega) (by omega)
      have hki3 : (i : Int) < (n2 : Int) := by omega
      have hg2 : b2 < wa.heap.size := by omega
      clear q2 e1
      generalize Z i 0 = za at *
      generalize Z i 1 = zb at *
      by_cases c2 : za = 3
      · subst c2
        go_wp2_with fail
        go_roundw
        case rel => exact ⟨i + 1, n + 1, _, nw, by go_num, rfl, by omega, by omega, by omega, HO1.out, HI1, by go_grown⟩
        case measure => simp [intOf]; omega
      have c2' : (za == 3) = false := by simpa using c2
      generalize hcv : cv za zb = cc at *
      by_cases c3 : cc = 0
      · subst c3
        go_upto_region 10 with (go_at_call 11; refine (value_any _ _ _).mono ?_; rintro e w1 ⟨rfl, rfl⟩; rw [hcv])
        have hN := World.news_of_block (w := (wa.alloc (.cells #[.int .i64 za, .int .i64 zb] 29)).alloc (.cells #[.int .i64 za, .int .i64 zb] 29)) (B := wa.heap.size + 1) (by have := heap_alloc_new (wa.alloc (.cells #[.int .i64 za, .int .i64 zb] 29)) (.cells #[.int .i64 za, .int .i64 zb] 29); simpa using this)
        have HN := Lib.hid hN
        have hown2 := Lib.hid ((HO1.out.alloc (.cells #[.int .i64 za, .int .i64 zb] 29)).alloc (.cells #[.int .i64 za, .int .i64 zb] 29))
        clear hN
        go_wp2_with (first
          | (at_builtin
             refine wpList_append_src rfl (.tmp 61) (.tmp 66) 30 rfl w.heap.size 29 i0 _ 2 16 Try.underlying30 hi hz0 hz1 hz2 rfl (by decide) va (n+1) (pairsOf (bothZ Zl (Z1 3 nw) n) (n+1)) rfl hown2.out (some ⟨wa.heap.size+1,0,none⟩) 1 1 (pairsOf (Z1 za zb) 1) rfl (by simp) rfl (fun ad had j u hu => by cases had; exact HN.out j u hu) (pairs_one _ _) (by unfold maxLen; omega) (by omega) (by go_size) ?_
             intro vb wb hown3 hg3
             rw [pairs_both] at hown3
             have hBb : Below w.heap.size w wb := Below.grown (w := _) (by go_grown) hg3 (by go_size) (fun g hg => (hown2.out.lt g hg).1)
             clear hg3))
        have HO2 := Lib.hid hown3
        clear hown3 hown2 HN HO1
        go_roundw
        case rel => exact ⟨i + 1, n + 1 + 1, _, nw, by go_num, rfl, by omega, by omega, by omega, HO2.out, Lib.hid (HI1.out.other (by omega) za zb c2 hcv hz0' hz1'), by go_grown⟩
        case measure => simp [intOf]; omega
      · have c3' : (cc == 0) = false := by simpa using c3
        go_wp2_with (go_at_call 11; refine (value_any _ _ _).mono ?_; rintro e w1 ⟨rfl, rfl⟩; rw [hcv])
        go_roundw
        case rel => exact ⟨i + 1, n + 1, _, nw, by go_num, rfl, by omega, by omega, by omega, HO1.out.alloc _, HI1, by go_grown⟩
        case measure => simp [intOf]; omega
    · have hcond : n1 ≤ i ∨ (i < n1 ∧ 20 ≤ i) := by omega
      have hown' := Lib.hid (hown.alloc (.cells #[.int .i64 4096, .int .i64 2147483647, .int .i64 65535, .int .i64 16384, .int .i64 2147483647] 23))
      clear hown
      obtain ⟨rx, hrx⟩ : ∃ rx, ap Zl firstS n = rx := ⟨_, rfl⟩
      rcases hcond with c1 | ⟨c1, c2⟩
      · have hk3 : decide ((i : Int) < (n1 : Int)) = false := by simp; omega
        go_upto_region 12 with (first
          | (go_at_call 10; refine (first_any _).mono ?_; rintro e w1 ⟨rfl, rfl⟩; unfold agg5)
          | (go_at_call 9; refine (apply_any firstS _ n Zl _ (rowy_own2 hown'.out) hI.out.rng).mono ?_; rintro e w1 ⟨r, c, hans, rfl, hB1⟩; obtain ⟨rfl, rfl⟩ := hans.one hI.out.ans; rw [hrx]; unfold agg5))
        have hBx : Below w.heap.size w w1 := Below.trans (by go_grown) (hB1.mono (by go_size))
        have hw1s := hBx.size
        clear hB1 hans hown'
        refine wp_forget (fun W => Blk W w1.heap.size 23 #[.int .i64 rx.t, .int .i64 rx.s, .int .i64 rx.w, .int .i64 rx.f, .int .i64 rx.l] ∧ Below w.heap.size w W) ⟨Blk.new _ _ _, by go_grown⟩ ?_
        rintro W ⟨hX, hBW⟩
        have hXl := hX.lt
        have hXl1 : w1.heap.size < W.heap.size + 1 := by omega
        have hWs := hBW.size
        clear hBx
        generalize w1.heap.size = bx at *
        obtain ⟨x0, x1, x2, x3, x4⟩ : W.cell? ⟨bx, 0, none⟩ = some (.int .i64 rx.t) ∧ W.cell? ⟨bx, 1, none⟩ = some (.int .i64 rx.s) ∧ W.cell? ⟨bx, 2, none⟩ = some (.int .i64 rx.w) ∧ W.cell? ⟨bx, 3, none⟩ = some (.int .i64 rx.f) ∧ W.cell? ⟨bx, 4, none⟩ = some (.int .i64 rx.l) := ⟨hX.cell 0, hX.cell 1, hX.cell 2, hX.cell 3, hX.cell 4⟩
        by_cases hi0 : i = 0
        · obtain ⟨rfl, rfl⟩ := hI.out.none hi0
          have hf : firstS = rx := hrx
          subst hf
          simp only [firstS] at x0 x1 x2 x3 x4
          go_upto_region 13 with fail
          go_region_held3 (fun w' => FC w' bx) (refine ⟨?_, ?_, ?_, ?_, ?_⟩ <;> go_simp) (first
            | (go_at_call 10; refine (first_any _).mono ?_; rintro e w2 ⟨rfl, rfl⟩; unfold agg5)
            | (go_at_call 3; refine (runs_any _).mono ?_; rintro e w2 ⟨rfl, hB2⟩; obtain ⟨d2, f2⟩ := bcell hB2; have s2 : bx < w2.heap.size := Nat.lt_of_lt_of_le (by go_simp) hB2.size))
          all_goals
            go_wp2_with fail
            go_ret
            refine ⟨rfl, ?_⟩
            refine Below.trans ?_ (hB2.mono ?_)
            · go_grown
            · simp only [World.size_alloc, World.size_drew]; omega
        · obtain ⟨hw0, hw1, hwf⟩ := hI.out.some (by omega)
          rw [hrx] at hwf
          simp [fld] at hwf
          have hw2 : decide (want < 0) = false := by simp; omega
          clear hX
          obtain ⟨xt, xs, xw, xf, xl⟩ := rx
          simp only at x0 x1 x2 x3 x4 hwf
          subst hwf
          go_upto_region 14 with fail
          go_cut [13] (fun s13 wx => s13 = .int .i64 xs ∧ Below w.heap.size w wx)
          case first =>
            refine wp_region_held_drew (S := fun w' => w'.cell? ⟨bx, 0, none⟩ = some (.int .i64 xt) ∧ w'.cell? ⟨bx, 1, none⟩ = some (.int .i64 xs) ∧ w'.cell? ⟨bx, 4, none⟩ = some (.int .i64 xl)) (by kernel_rfl) (by refine ⟨?_, ?_, ?_⟩ <;> go_simp) (fun hHeld => ?_)
            refine wpAnyH_take (i := 0) (oi := { dst := some 86, op := Go.Op.fieldAddr 23 (Go.Operand.tmp 11) 0, type := 0, pos := "law.go:138", after := #[], guard := none }) (v := ?_) rfl (by kernel_rfl) (by kernel_rfl) (by kernel_rfl) (fun _ _ _ h => h) (Or.inl ⟨by rfl, ?_⟩) hHeld ?_
            rotate_left
            · intro w hSw; (try dsimp only at hSw); go_simp <;> with_reducible rfl
            try simp only [Act.put, List.setIfInBounds_toArray, List.set_cons_zero, List.set_cons_succ]
            refine wpAnyH_take (i := 1) (oi := { dst := some 87, op := Go.Op.load 3 (Go.Operand.tmp 86), type := 3, pos := "law.go:138", after := #[{ on := 0, ground := Go.Ground.data }], guard := none }) (v := ?_) rfl (by kernel_rfl) (by kernel_rfl) (by kernel_rfl) (fun _ _ _ h => h) (Or.inl ⟨by rfl, ?_⟩) hHeld ?_
            rotate_left
            · intro w hSw; (try dsimp only at hSw); go_simp <;> with_reducible rfl
            try simp only [Act.put, List.setIfInBounds_toArray, List.set_cons_zero, List.set_cons_succ]
            refine wpAnyH_take (i := 2) (oi := { dst := some 88, op := Go.Op.fieldAddr 23 (Go.Operand.tmp 11) 1, type := 0, pos := "law.go:138", after := #[], guard := none }) (v := ?_) rfl (by kernel_rfl) (by kernel_rfl) (by kernel_rfl) (fun _ _ _ h => h) (Or.inl ⟨by rfl, ?_⟩) hHeld ?_
            rotate_left
            · intro w hSw; (try dsimp only at hSw); go_simp <;> with_reducible rfl
            try simp only [Act.put, List.setIfInBounds_toArray, List.set_cons_zero, List.set_cons_succ]
            refine wpAnyH_take (i := 3) (oi := { dst := some 89, op := Go.Op.load 3 (Go.Operand.tmp 88), type := 3, pos := "law.go:138", after := #[{ on := 2, ground := Go.Ground.data }], guard := none }) (v := ?_) rfl (by kernel_rfl) (by kernel_rfl) (by kernel_rfl) (fun _ _ _ h => h) (Or.inl ⟨by rfl, ?_⟩) hHeld ?_
            rotate_left
            · intro w hSw; (try dsimp only at hSw); go_simp <;> with_reducible rfl
            try simp only [Act.put, List.setIfInBounds_toArray, List.set_cons_zero, List.set_cons_succ]
            refine wpAnyH_take (i := 4) (oi := { dst := some 90, op := Go.Op.fieldAddr 23 (Go.Operand.tmp 11) 4, type := 0, pos := "law.go:138", after := #[], guard := none }) (v := ?_) rfl (by kernel_rfl) (by kernel_rfl) (by kernel_rfl) (fun _ _ _ h => h) (Or.inl ⟨by rfl, ?_⟩) hHeld ?_
            rotate_left
            · intro w hSw; (try dsimp only at hSw); go_simp <;> with_reducible rfl
            try simp only [Act.put, List.setIfInBounds_toArray, List.set_cons_zero, List.set_cons_succ]
            refine wpAnyH_take (i := 5) (oi := { dst := some 91, op := Go.Op.load 3 (Go.Operand.tmp 90), type := 3, pos := "law.go:138", after := #[{ on := 4, ground := Go.Ground.data }], guard := none }) (v := ?_) rfl (by kernel_rfl) (by kernel_rfl) (by kernel_rfl) (fun _ _ _ h => h) (Or.inl ⟨by rfl, ?_⟩) hHeld ?_
            rotate_left
            · intro w hSw; (try dsimp only at hSw); go_simp <;> with_reducible rfl
            try simp only [Act.put, List.setIfInBounds_toArray, List.set_cons_zero, List.set_cons_succ]
            refine wpAnyH_take (i := 7) (oi := { dst := some 93, op := Go.Op.move (Go.Operand.tmp 0), type := 3, pos := "law.go:138", after := #[], guard := none }) (v := ?_) rfl (by kernel_rfl) (by kernel_rfl) (by kernel_rfl) (fun _ _ _ h => h) (Or.inl ⟨by rfl, ?_⟩) hHeld ?_
            rotate_left
            · intro w hSw; (try dsimp only at hSw); go_simp <;> with_reducible rfl
            try simp only [Act.put, List.setIfInBounds_toArray, List.set_cons_zero, List.set_cons_succ]
            refine wpAnyH_ready (rs := [6, 8]) (by kernel_rfl) (by simp) ?_
            refine AllReadyH.cons (o := { dst := some 92, op := Go.Op.buildSlice 42 3 #[(0, Go.Operand.tmp 87), (1, Go.Operand.tmp 89), (2, Go.Operand.tmp 91)], type := 42, pos := "law.go:138", after := #[{ on := 1, ground := Go.Ground.data }, { on := 3, ground := Go.Ground.data }, { on := 5, ground := Go.Ground.data }], guard := none }) rfl (fun K hK => ?_) ?_
            · go_simp
              refine hK.out _ _ (by refine ⟨?_, ?_, ?_⟩ <;> go_simp) (fun h6 => ?_)
              clear hK K
              try simp only [Act.put, List.setIfInBounds_toArray, List.set_cons_zero, List.set_cons_succ]
              refine wpAnyH_ready (rs := [8]) (by kernel_rfl) (by simp) ?_
              refine AllReadyH.cons (o := { dst := some 94, op := Go.Op.call { callee := Go.Callee.value (Go.Operand.func 18), args := #[Go.Operand.tmp 93, Go.Operand.const (Go.Value.int Go.IntKind.i64 0), Go.Operand.const (Go.Value.int Go.IntKind.i64 2)], argTypes := #[3, 3, 3] }, type := 3, pos := "law.go:138", after := #[{ on := 7, ground := Go.Ground.data }], guard := none }) rfl (fun K hK => ?_) ?_
              · go_simp
                (go_at_call 18; refine (wit_any _ _ _ _ (by decide) (by decide) (by decide) (by omega) (by omega)).mono ?_; rintro e w2 ⟨rfl, rfl⟩; rw [hid])
                try go_wp2_with fail
                refine hK.out _ _ (by refine ⟨?_, ?_, ?_⟩ <;> go_simp) (fun h68 => ?_)
                clear hK K
                try simp only [Act.put, List.setIfInBounds_toArray, List.set_cons_zero, List.set_cons_succ]
                refine wpAnyH_take (i := 9) (oi := { dst := some 95, op := Go.Op.indexAddr 42 (Go.Operand.tmp 92) (Go.Operand.tmp 94), type := 0, pos := "law.go:138", after := #[{ on := 6, ground := Go.Ground.data }, { on := 8, ground := Go.Ground.data }], guard := none }) (v := ?_) rfl (by kernel_rfl) (by kernel_rfl) (by kernel_rfl) (fun _ _ _ h => h) (Or.inl ⟨by rfl, ?_⟩) h68 ?_
                rotate_left
                · intro w hSw; (try dsimp only at hSw); go_simp <;> with_reducible rfl
                try simp only [Act.put, List.setIfInBounds_toArray, List.set_cons_zero, List.set_cons_succ]
                refine wpAnyH_ready (rs := [10]) (by kernel_rfl) (by simp) ?_
                refine AllReadyH.cons (o := { dst := some 96, op := Go.Op.load 3 (Go.Operand.tmp 95), type := 3, pos := "law.go:138", after := #[{ on := 9, ground := Go.Ground.data }], guard := none }) rfl (fun K hK => ?_) ?_
                · go_simp
                  refine hK.out _ _ (by refine ⟨?_, ?_, ?_⟩ <;> go_simp) (fun h68x => ?_)
                  clear hK K
                  try simp only [Act.put, List.setIfInBounds_toArray, List.set_cons_zero, List.set_cons_succ]
                  refine wpAnyH_take (i := 11) (oi := { dst := some 13, op := Go.Op.assign (Go.Operand.tmp 96), type := 3, pos := "law.go:138", after := #[{ on := 10, ground := Go.Ground.data }, { on := 8, ground := Go.Ground.chain }, { on := 0, ground := Go.Ground.phase }, { on := 1, ground := Go.Ground.phase }, { on := 2, ground := Go.Ground.phase }, { on := 3, ground := Go.Ground.phase }, { on := 4, ground := Go.Ground.phase }, { on := 5, ground := Go.Ground.phase }, { on := 6, ground := Go.Ground.phase }, { on := 7, ground := Go.Ground.phase }, { on := 8, ground := Go.Ground.phase }, { on := 9, ground := Go.Ground.phase }, { on := 10, ground := Go.Ground.phase }], guard := none }) (v := ?_) rfl (by kernel_rfl) (by kernel_rfl) (by kernel_rfl) (fun _ _ _ h => h) (Or.inl ⟨by rfl, ?_⟩) h68x ?_
                  rotate_left
                  · intro w hSw; (try dsimp only at hSw); go_simp <;> with_reducible rfl
                  try simp only [Act.put, List.setIfInBounds_toArray, List.set_cons_zero, List.set_cons_succ]
                  refine wpAnyH_done (by kernel_rfl) ?_ _
                  go_wp2_with fail
                  go_meet
                  exact ⟨rfl, by go_grown⟩
                exact AllReadyH.nil
              exact AllReadyH.nil
            refine AllReadyH.cons (o := { dst := some 94, op := Go.Op.call { callee := Go.Callee.value (Go.Operand.func 18), args := #[Go.Operand.tmp 93, Go.Operand.const (Go.Value.int Go.IntKind.i64 0), Go.Operand.const (Go.Value.int Go.IntKind.i64 2)], argTypes := #[3, 3, 3] }, type := 3, pos := "law.go:138", after := #[{ on := 7, ground := Go.Ground.data }], guard := none }) rfl (fun K hK => ?_) ?_
            · go_simp
              (go_at_call 18; refine (wit_any _ _ _ _ (by decide) (by decide) (by decide) (by omega) (by omega)).mono ?_; rintro e w2 ⟨rfl, rfl⟩; rw [hid])
              try go_wp2_with fail
              refine hK.out _ _ (by refine ⟨?_, ?_, ?_⟩ <;> go_simp) (fun h8 => ?_)
              clear hK K
              try simp only [Act.put, List.setIfInBounds_toArray, List.set_cons_zero, List.set_cons_succ]
              refine wpAnyH_ready (rs := [6]) (by kernel_rfl) (by simp) ?_
              refine AllReadyH.cons (o := { dst := some 92, op := Go.Op.buildSlice 42 3 #[(0, Go.Operand.tmp 87), (1, Go.Operand.tmp 89), (2, Go.Operand.tmp 91)], type := 42, pos := "law.go:138", after := #[{ on := 1, ground := Go.Ground.data }, { on := 3, ground := Go.Ground.data }, { on := 5, ground := Go.Ground.data }], guard := none }) rfl (fun K hK => ?_) ?_
              · go_simp
                refine hK.out _ _ (by refine ⟨?_, ?_, ?_⟩ <;> go_simp) (fun h86 => ?_)
                clear hK K
                try simp only [Act.put, List.setIfInBounds_toArray, List.set_cons_zero, List.set_cons_succ]
                refine wpAnyH_take (i := 9) (oi := { dst := some 95, op := Go.Op.indexAddr 42 (Go.Operand.tmp 92) (Go.Operand.tmp 94), type := 0, pos := "law.go:138", after := #[{ on := 6, ground := Go.Ground.data }, { on := 8, ground := Go.Ground.data }], guard := none }) (v := ?_) rfl (by kernel_rfl) (by kernel_rfl) (by kernel_rfl) (fun _ _ _ h => h) (Or.inl ⟨by rfl, ?_⟩) h86 ?_
                rotate_left
                · intro w hSw; (try dsimp only at hSw); go_simp <;> with_reducible rfl
                try simp only [Act.put, List.setIfInBounds_toArray, List.set_cons_zero, List.set_cons_succ]
                refine wpAnyH_ready (rs := [10]) (by kernel_rfl) (by simp) ?_
                refine AllReadyH.cons (o := { dst := some 96, op := Go.Op.load 3 (Go.Operand.tmp 95), type := 3, pos := "law.go:138", after := #[{ on := 9, ground := Go.Ground.data }], guard := none }) rfl (fun K hK => ?_) ?_
                · go_simp
                  refine hK.out _ _ (by refine ⟨?_, ?_, ?_⟩ <;> go_simp) (fun h86x => ?_)
                  clear hK K
                  try simp only [Act.put, List.setIfInBounds_toArray, List.set_cons_zero, List.set_cons_succ]
                  refine wpAnyH_take (i := 11) (oi := { dst := some 13, op := Go.Op.assign (Go.Operand.tmp 96), type := 3, pos := "law.go:138", after := #[{ on := 10, ground := Go.Ground.data }, { on := 8, ground := Go.Ground.chain }, { on := 0, ground := Go.Ground.phase }, { on := 1, ground := Go.Ground.phase }, { on := 2, ground := Go.Ground.phase }, { on := 3, ground := Go.Ground.phase }, { on := 4, ground := Go.Ground.phase }, { on := 5, ground := Go.Ground.phase }, { on := 6, ground := Go.Ground.phase }, { on := 7, ground := Go.Ground.phase }, { on := 8, ground := Go.Ground.phase }, { on := 9, ground := Go.Ground.phase }, { on := 10, ground := Go.Ground.phase }], guard := none }) (v := ?_) rfl (by kernel_rfl) (by kernel_rfl) (by kernel_rfl) (fun _ _ _ h => h) (Or.inl ⟨by rfl, ?_⟩) h86x ?_
                  rotate_left
                  · intro w hSw; (try dsimp only at hSw); go_simp <;> with_reducible rfl
                  try simp only [Act.put, List.setIfInBounds_toArray, List.set_cons_zero, List.set_cons_succ]
                  refine wpAnyH_done (by kernel_rfl) ?_ _
                  go_wp2_with fail
                  go_meet
                  exact ⟨rfl, by go_grown⟩
                exact AllReadyH.nil
              exact AllReadyH.nil
            exact AllReadyH.nil
          case rest =>
            obtain ⟨rfl, hBc⟩ := hcut
            have hcs := hBc.size
            go_wp2_with (first
              | (go_at_call 3; refine (runs_any _).mono ?_; rintro e w2 ⟨rfl, hB2⟩))
            go_ret
            refine ⟨rfl, ?_⟩
            exact Below.trans hBc (hB2.mono hcs)
      · have hk3 : decide ((i : Int) < (n1 : Int)) = true := by simp; omega
        have hk4 : decide ((i : Int) < 20) = false := by simp; omega
        go_upto_region 12 with (first
          | (go_at_call 10; refine (first_any _).mono ?_; rintro e w1 ⟨rfl, rfl⟩; unfold agg5)
          | (go_at_call 9; refine (apply_any firstS _ n Zl _ (rowy_own2 hown'.out) hI.out.rng).mono ?_; rintro e w1 ⟨r, c, hans, rfl, hB1⟩; obtain ⟨rfl, rfl⟩ := hans.one hI.out.ans; rw [hrx]; unfold agg5))
        have hBx : Below w.heap.size w w1 := Below.trans (by go_grown) (hB1.mono (by go_size))
        have hw1s := hBx.size
        clear hB1 hans hown'
        refine wp_forget (fun W => Blk W w1.heap.size 23 #[.int .i64 rx.t, .int .i64 rx.s, .int .i64 rx.w, .int .i64 rx.f, .int .i64 rx.l] ∧ Below w.heap.size w W) ⟨Blk.new _ _ _, by go_grown⟩ ?_
        rintro W ⟨hX, hBW⟩
        have hXl := hX.lt
        have hXl1 : w1.heap.size < W.heap.size + 1 := by omega
        have hWs := hBW.size
        clear hBx
        generalize w1.heap.size = bx at *
        obtain ⟨x0, x1, x2, x3, x4⟩ : W.cell? ⟨bx, 0, none⟩ = some (.int .i64 rx.t) ∧ W.cell? ⟨bx, 1, none⟩ = some (.int .i64 rx.s) ∧ W.cell? ⟨bx, 2, none⟩ = some (.int .i64 rx.w) ∧ W.cell? ⟨bx, 3, none⟩ = some (.int .i64 rx.f) ∧ W.cell? ⟨bx, 4, none⟩ = some (.int .i64 rx.l) := ⟨hX.cell 0, hX.cell 1, hX.cell 2, hX.cell 3, hX.cell 4⟩
        by_cases hi0 : i = 0
        · obtain ⟨rfl, rfl⟩ := hI.out.none hi0
          have hf : firstS = rx := hrx
          subst hf
          simp only [firstS] at x0 x1 x2 x3 x4
          go_upto_region 13 with fail
          go_region_held3 (fun w' => FC w' bx) (refine ⟨?_, ?_, ?_, ?_, ?_⟩ <;> go_simp) (first
            | (go_at_call 10; refine (first_any _).mono ?_; rintro e w2 ⟨rfl, rfl⟩; unfold agg5)
            | (go_at_call 3; refine (runs_any _).mono ?_; rintro e w2 ⟨rfl, hB2⟩; obtain ⟨d2, f2⟩ := bcell hB2; have s2 : bx < w2.heap.size := Nat.lt_of_lt_of_le (by go_simp) hB2.size))
          all_goals
            go_wp2_with fail
            go_ret
            refine ⟨rfl, ?_⟩
            refine Below.trans ?_ (hB2.mono ?_)
            · go_grown
            · simp only [World.size_alloc, World.size_drew]; omega
        · obtain ⟨hw0, hw1, hwf⟩ := hI.out.some (by omega)
          rw [hrx] at hwf
          simp [fld] at hwf
          have hw2 : decide (want < 0) = false := by simp; omega
          clear hX
          obtain ⟨xt, xs, xw, xf, xl⟩ := rx
          simp only at x0 x1 x2 x3 x4 hwf
          subst hwf
          go_upto_region 14 with fail
          go_cut [13] (fun s13 wx => s13 = .int .i64 xs ∧ Below w.heap.size w wx)
          case first =>
            refine wp_region_held_drew (S := fun w' => w'.cell? ⟨bx, 0, none⟩ = some (.int .i64 xt) ∧ w'.cell? ⟨bx, 1, none⟩ = some (.int .i64 xs) ∧ w'.cell? ⟨bx, 4, none⟩ = some (.int .i64 xl)) (by kernel_rfl) (by refine ⟨?_, ?_, ?_⟩ <;> go_simp) (fun hHeld => ?_)
            refine wpAnyH_take (i := 0) (oi := { dst := some 86, op := Go.Op.fieldAddr 23 (Go.Operand.tmp 11) 0, type := 0, pos := "law.go:138", after := #[], guard := none }) (v := ?_) rfl (by kernel_rfl) (by kernel_rfl) (by kernel_rfl) (fun _ _ _ h => h) (Or.inl ⟨by rfl, ?_⟩) hHeld ?_
            rotate_left
            · intro w hSw; (try dsimp only at hSw); go_simp <;> with_reducible rfl
            try simp only [Act.put, List.setIfInBounds_toArray, List.set_cons_zero, List.set_cons_succ]
            refine wpAnyH_take (i := 1) (oi := { dst := some 87, op := Go.Op.load 3 (Go.Operand.tmp 86), type := 3, pos := "law.go:138", after := #[{ on := 0, ground := Go.Ground.data }], guard := none }) (v := ?_) rfl (by kernel_rfl) (by kernel_rfl) (by kernel_rfl) (fun _ _ _ h => h) (Or.inl ⟨by rfl, ?_⟩) hHeld ?_
            rotate_left
            · intro w hSw; (try dsimp only at hSw); go_simp <;> with_reducible rfl
            try simp only [Act.put, List.setIfInBounds_toArray, List.set_cons_zero, List.set_cons_succ]
            refine wpAnyH_take (i := 2) (oi := { dst := some 88, op := Go.Op.fieldAddr 23 (Go.Operand.tmp 11) 1, type := 0, pos := "law.go:138", after := #[], guard := none }) (v := ?_) rfl (by kernel_rfl) (by kernel_rfl) (by kernel_rfl) (fun _ _ _ h => h) (Or.inl ⟨by rfl, ?_⟩) hHeld ?_
            rotate_left
            · intro w hSw; (try dsimp only at hSw); go_simp <;> with_reducible rfl
            try simp only [Act.put, List.setIfInBounds_toArray, List.set_cons_zero, List.set_cons_succ]
            refine wpAnyH_take (i := 3) (oi := { dst := some 89, op := Go.Op.load 3 (Go.Operand.tmp 88), type := 3, pos := "law.go:138", after := #[{ on := 2, ground := Go.Ground.data }], guard := none }) (v := ?_) rfl (by kernel_rfl) (by kernel_rfl) (by kernel_rfl) (fun _ _ _ h => h) (Or.inl ⟨by rfl, ?_⟩) hHeld ?_
            rotate_left
            · intro w hSw; (try dsimp only at hSw); go_simp <;> with_reducible rfl
            try simp only [Act.put, List.setIfInBounds_toArray, List.set_cons_zero, List.set_cons_succ]
            refine wpAnyH_take (i := 4) (oi := { dst := some 90, op := Go.Op.fieldAddr 23 (Go.Operand.tmp 11) 4, type := 0, pos := "law.go:138", after := #[], guard := none }) (v := ?_) rfl (by kernel_rfl) (by kernel_rfl) (by kernel_rfl) (fun _ _ _ h => h) (Or.inl ⟨by rfl, ?_⟩) hHeld ?_
            rotate_left
            · intro w hSw; (try dsimp only at hSw); go_simp <;> with_reducible rfl
            try simp only [Act.put, List.setIfInBounds_toArray, List.set_cons_zero, List.set_cons_succ]
            refine wpAnyH_take (i := 5) (oi := { dst := some 91, op := Go.Op.load 3 (Go.Operand.tmp 90), type := 3, pos := "law.go:138", after := #[{ on := 4, ground := Go.Ground.data }], guard := none }) (v := ?_) rfl (by kernel_rfl) (by kernel_rfl) (by kernel_rfl) (fun _ _ _ h => h) (Or.inl ⟨by rfl, ?_⟩) hHeld ?_
            rotate_left
            · intro w hSw; (try dsimp only at hSw); go_simp <;> with_reducible rfl
            try simp only [Act.put, List.setIfInBounds_toArray, List.set_cons_zero, List.set_cons_succ]
            refine wpAnyH_take (i := 7) (oi := { dst := some 93, op := Go.Op.move (Go.Operand.tmp 0), type := 3, pos := "law.go:138", after := #[], guard := none }) (v := ?_) rfl (by kernel_rfl) (by kernel_rfl) (by kernel_rfl) (fun _ _ _ h => h) (Or.inl ⟨by rfl, ?_⟩) hHeld ?_
            rotate_left
            · intro w hSw; (try dsimp only at hSw); go_simp <;> with_reducible rfl
            try simp only [Act.put, List.setIfInBounds_toArray, List.set_cons_zero, List.set_cons_succ]
            refine wpAnyH_ready (rs := [6, 8]) (by kernel_rfl) (by simp) ?_
            refine AllReadyH.cons (o := { dst := some 92, op := Go.Op.buildSlice 42 3 #[(0, Go.Operand.tmp 87), (1, Go.Operand.tmp 89), (2, Go.Operand.tmp 91)], type := 42, pos := "law.go:138", after := #[{ on := 1, ground := Go.Ground.data }, { on := 3, ground := Go.Ground.data }, { on := 5, ground := Go.Ground.data }], guard := none }) rfl (fun K hK => ?_) ?_
            · go_simp
              refine hK.out _ _ (by refine ⟨?_, ?_, ?_⟩ <;> go_simp) (fun h6 => ?_)
              clear hK K
              try simp only [Act.put, List.setIfInBounds_toArray, List.set_cons_zero, List.set_cons_succ]
              refine wpAnyH_ready (rs := [8]) (by kernel_rfl) (by simp) ?_
              refine AllReadyH.cons (o := { dst := some 94, op := Go.Op.call { callee := Go.Callee.value (Go.Operand.func 18), args := #[Go.Operand.tmp 93, Go.Operand.const (Go.Value.int Go.IntKind.i64 0), Go.Operand.const (Go.Value.int Go.IntKind.i64 2)], argTypes := #[3, 3, 3] }, type := 3, pos := "law.go:138", after := #[{ on := 7, ground := Go.Ground.data }], guard := none }) rfl (fun K hK => ?_) ?_
              · go_simp
                (go_at_call 18; refine (wit_any _ _ _ _ (by decide) (by decide) (by decide) (by omega) (by omega)).mono ?_; rintro e w2 ⟨rfl, rfl⟩; rw [hid])
                try go_wp2_with fail
                refine hK.out _ _ (by refine ⟨?_, ?_, ?_⟩ <;> go_simp) (fun h68 => ?_)
                clear hK K
                try simp only [Act.put, List.setIfInBounds_toArray, List.set_cons_zero, List.set_cons_succ]
                refine wpAnyH_take (i := 9) (oi := { dst := some 95, op := Go.Op.indexAddr 42 (Go.Operand.tmp 92) (Go.Operand.tmp 94), type := 0, pos := "law.go:138", after := #[{ on := 6, ground := Go.Ground.data }, { on := 8, ground := Go.Ground.data }], guard := none }) (v := ?_) rfl (by kernel_rfl) (by kernel_rfl) (by kernel_rfl) (fun _ _ _ h => h) (Or.inl ⟨by rfl, ?_⟩) h68 ?_
                rotate_left
                · intro w hSw; (try dsimp only at hSw); go_simp <;> with_reducible rfl
                try simp only [Act.put, List.setIfInBounds_toArray, List.set_cons_zero, List.set_cons_succ]
                refine wpAnyH_ready (rs := [10]) (by kernel_rfl) (by simp) ?_
                refine AllReadyH.cons (o := { dst := some 96, op := Go.Op.load 3 (Go.Operand.tmp 95), type := 3, pos := "law.go:138", after := #[{ on := 9, ground := Go.Ground.data }], guard := none }) rfl (fun K hK => ?_) ?_
                · go_simp
                  refine hK.out _ _ (by refine ⟨?_, ?_, ?_⟩ <;> go_simp) (fun h68x => ?_)
                  clear hK K
                  try simp only [Act.put, List.setIfInBounds_toArray, List.set_cons_zero, List.set_cons_succ]
                  refine wpAnyH_take (i := 11) (oi := { dst := some 13, op := Go.Op.assign (Go.Operand.tmp 96), type := 3, pos := "law.go:138", after := #[{ on := 10, ground := Go.Ground.data }, { on := 8, ground := Go.Ground.chain }, { on := 0, ground := Go.Ground.phase }, { on := 1, ground := Go.Ground.phase }, { on := 2, ground := Go.Ground.phase }, { on := 3, ground := Go.Ground.phase }, { on := 4, ground := Go.Ground.phase }, { on := 5, ground := Go.Ground.phase }, { on := 6, ground := Go.Ground.phase }, { on := 7, ground := Go.Ground.phase }, { on := 8, ground := Go.Ground.phase }, { on := 9, ground := Go.Ground.phase }, { on := 10, ground := Go.Ground.phase }], guard := none }) (v := ?_) rfl (by kernel_rfl) (by kernel_rfl) (by kernel_rfl) (fun _ _ _ h => h) (Or.inl ⟨by rfl, ?_⟩) h68x ?_
                  rotate_left
                  · intro w hSw; (try dsimp only at hSw); go_simp <;> with_reducible rfl
                  try simp only [Act.put, List.setIfInBounds_toArray, List.set_cons_zero, List.set_cons_succ]
                  refine wpAnyH_done (by kernel_rfl) ?_ _
                  go_wp2_with fail
                  go_meet
                  exact ⟨rfl, by go_grown⟩
                exact AllReadyH.nil
              exact AllReadyH.nil
            refine AllReadyH.cons (o := { dst := some 94, op := Go.Op.call { callee := Go.Callee.value (Go.Operand.func 18), args := #[Go.Operand.tmp 93, Go.Operand.const (Go.Value.int Go.IntKind.i64 0), Go.Operand.const (Go.Value.int Go.IntKind.i64 2)], argTypes := #[3, 3, 3] }, type := 3, pos := "law.go:138", after := #[{ on := 7, ground := Go.Ground.data }], guard := none }) rfl (fun K hK => ?_) ?_
            · go_simp
              (go_at_call 18; refine (wit_any _ _ _ _ (by decide) (by decide) (by decide) (by omega) (by omega)).mono ?_; rintro e w2 ⟨rfl, rfl⟩; rw [hid])
              try go_wp2_with fail
              refine hK.out _ _ (by refine ⟨?_, ?_, ?_⟩ <;> go_simp) (fun h8 => ?_)
              clear hK K
              try simp only [Act.put, List.setIfInBounds_toArray, List.set_cons_zero, List.set_cons_succ]
              refine wpAnyH_ready (rs := [6]) (by kernel_rfl) (by simp) ?_
              refine AllReadyH.cons (o := { dst := some 92, op := Go.Op.buildSlice 42 3 #[(0, Go.Operand.tmp 87), (1, Go.Operand.tmp 89), (2, Go.Operand.tmp 91)], type := 42, pos := "law.go:138", after := #[{ on := 1, ground := Go.Ground.data }, { on := 3, ground := Go.Ground.data }, { on := 5, ground := Go.Ground.data }], guard := none }) rfl (fun K hK => ?_) ?_
              · go_simp
                refine hK.out _ _ (by refine ⟨?_, ?_, ?_⟩ <;> go_simp) (fun h86 => ?_)
                clear hK K
                try simp only [Act.put, List.setIfInBounds_toArray, List.set_cons_zero, List.set_cons_succ]
                refine wpAnyH_take (i := 9) (oi := { dst := some 95, op := Go.Op.indexAddr 42 (Go.Operand.tmp 92) (Go.Operand.tmp 94), type := 0, pos := "law.go:138", after := #[{ on := 6, ground := Go.Ground.data }, { on := 8, ground := Go.Ground.data }], guard := none }) (v := ?_) rfl (by kernel_rfl) (by kernel_rfl) (by kernel_rfl) (fun _ _ _ h => h) (Or.inl ⟨by rfl, ?_⟩) h86 ?_
                rotate_left
                · intro w hSw; (try dsimp only at hSw); go_simp <;> with_reducible rfl
                try simp only [Act.put, List.setIfInBounds_toArray, List.set_cons_zero, List.set_cons_succ]
                refine wpAnyH_ready (rs := [10]) (by kernel_rfl) (by simp) ?_
                refine AllReadyH.cons (o := { dst := some 96, op := Go.Op.load 3 (Go.Operand.tmp 95), type := 3, pos := "law.go:138", after := #[{ on := 9, ground := Go.Ground.data }], guard := none }) rfl (fun K hK => ?_) ?_
                · go_simp
                  refine hK.out _ _ (by refine ⟨?_, ?_, ?_⟩ <;> go_simp) (fun h86x => ?_)
                  clear hK K
                  try simp only [Act.put, List.setIfInBounds_toArray, List.set_cons_zero, List.set_cons_succ]
                  refine wpAnyH_take (i := 11) (oi := { dst := some 13, op := Go.Op.assign (Go.Operand.tmp 96), type := 3, pos := "law.go:138", after := #[{ on := 10, ground := Go.Ground.data }, { on := 8, ground := Go.Ground.chain }, { on := 0, ground := Go.Ground.phase }, { on := 1, ground := Go.Ground.phase }, { on := 2, ground := Go.Ground.phase }, { on := 3, ground := Go.Ground.phase }, { on := 4, ground := Go.Ground.phase }, { on := 5, ground := Go.Ground.phase }, { on := 6, ground := Go.Ground.phase }, { on := 7, ground := Go.Ground.phase }, { on := 8, ground := Go.Ground.phase }, { on := 9, ground := Go.Ground.phase }, { on := 10, ground := Go.Ground.phase }], guard := none }) (v := ?_) rfl (by kernel_rfl) (by kernel_rfl) (by kernel_rfl) (fun _ _ _ h => h) (Or.inl ⟨by rfl, ?_⟩) h86x ?_
                  rotate_left
                  · intro w hSw; (try dsimp only at hSw); go_simp <;> with_reducible rfl
                  try simp only [Act.put, List.setIfInBounds_toArray, List.set_cons_zero, List.set_cons_succ]
                  refine wpAnyH_done (by kernel_rfl) ?_ _
                  go_wp2_with fail
                  go_meet
                  exact ⟨rfl, by go_grown⟩
                exact AllReadyH.nil
              exact AllReadyH.nil
            exact AllReadyH.nil
          case rest =>
            obtain ⟨rfl, hBc⟩ := hcut
            have hcs := hBc.size
            go_wp2_with (first
              | (go_at_call 3; refine (runs_any _).mono ?_; rintro e w2 ⟨rfl, hB2⟩))
            go_ret
            refine ⟨rfl, ?_⟩
            exact Below.trans hBc (hB2.mono hcs)
end Go.Proofs.Ytdlmocjkhkopgaa
